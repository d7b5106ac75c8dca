/- Machine side of the law FnExactExtend: Go functions as Lean functions, and proofs that calls come to what these tell. Conditions: those in each theorem. -/
import Derived.Test.YtagncnjllpebjaaMFnExactExtend0
import Derived.Test.YtagncnjllpebjaaMFnExactExtendq0
import Derived.Test.YtagncnjllpebjaaMFnExactExtend2
import Derived.Test.YtagncnjllpebjaaMFnExactExtend6
import Derived.Test.YtagncnjllpebjaaMFnExactExtend7
namespace Go.Proofs.Ytagncnjllpebjaa.A
open Go.RowKit Go.Proofs.YtagncnjllpebjaaW.PrintWords Go.Proofs.YtagncnjllpebjaaW.PrintLast Go.Proofs.YtagncnjllpebjaaW.PrintMore Go.Proofs.Ytagncnjllpebjaa.Z
attribute [local go_sem] max2_int min2_int max_two min_two max_three min_three max_four min_four
set_option linter.unusedVariables false
set_option linter.unusedSimpArgs false
/-! ### impl_Extend: function 40 (by hand) -/
def impl_Extend.r (k : Nat) (n : Int) (l cut : List Int) (full s : Int) : Option Int := (impl_rankIn.f k n l (Go.bits .and .i64 s full)).bind fun q => if s = Go.bits .and .i64 s full then some q else (impl_closure.f k n l (Go.bits .and .i64 s full)).bind fun c => (impl_HasSet.f k cut c).bind fun b => if b = true then some q else some (wrap64 (q + 1))
theorem impl_Extend.r_mono (n : Int) (l cut : List Int) (full s : Int) (k : Nat) : LeO (impl_Extend.r k n l cut full s) (impl_Extend.r (k + 1) n l cut full s) := by
 unfold impl_Extend.r
 exact LeO.bind (impl_rankIn.mono _ _ _ _) (fun q => LeO.ite (LeO.refl _) (LeO.bind (impl_closure.mono _ _ _ _) (fun c => LeO.bind (impl_HasSet.mono _ _ _) (fun b => LeO.refl _))))
def impl_Extend.c (k : Nat) (n : Int) (l cut : List Int) (full r s : Int) : Option Bool := (impl_CountOf.f s).bind fun t => if t = r then (impl_Extend.r k n l cut full s).bind fun u => some (u == r) else some false
theorem impl_Extend.c_mono (n : Int) (l cut : List Int) (full r s : Int) (k : Nat) : LeO (impl_Extend.c k n l cut full r s) (impl_Extend.c (k + 1) n l cut full r s) := by
 unfold impl_Extend.c
 exact LeO.bind (LeO.refl _) (fun t => LeO.ite (LeO.bind (impl_Extend.r_mono n l cut full s k) (fun u => LeO.refl _)) (LeO.refl _))
def impl_Extend.f (k : Nat) (a0_0 : Int) (l0_1 : List Int) (l1 : List Int) : Option (Int × List Int × Bool) := if a0_0 = 8 then some (0, ([] : List Int), false) else (impl_IsModularCut.f k a0_0 l0_1 l1).bind fun t => if t = true then (impl_FullSet.f a0_0).bind fun full => (impl_FullSet.f (wrap64 (a0_0 + 1))).bind fun m => if 0 ≤ m ∧ m ≤ 1000 then (impl_Extend.r k a0_0 l0_1 l1 full m).bind fun r => (setsO (fun s => impl_Extend.c k a0_0 l0_1 l1 full r s) m).bind fun y => some (wrap64 (a0_0 + 1), y, true) else none else some (0, ([] : List Int), false)
theorem impl_Extend.mono : ∀ a0 a1 a2 k, LeO (impl_Extend.f k a0 a1 a2) (impl_Extend.f (k + 1) a0 a1 a2) := by
 intro a0 a1 a2 k
 unfold impl_Extend.f
 exact LeO.ite (LeO.refl _) (LeO.bind (impl_IsModularCut.mono _ _ _ _) (fun t => LeO.ite (LeO.bind (LeO.refl _) (fun full => LeO.bind (LeO.refl _) (fun m => LeO.ite (LeO.bind (impl_Extend.r_mono a0 a1 a2 full m k) (fun r => LeO.bind (LeO_setsO (fun s => impl_Extend.c_mono a0 a1 a2 full r s k) m) (fun y => LeO.refl _))) (LeO.none _)))) (LeO.refl _)))
set_option maxHeartbeats 4000000 in
set_option maxRecDepth 100000 in
theorem Extend1_walk (k : Nat) (n : Int) (A : Option Addr) (c : Nat) (l : List Int) (A' : Option Addr) (c' : Nat) (cut : List Int) (full s r : Int) (gf gm gc : Nat) (w : World)
  (hr : Kd.C (Kd.int .i64) w A l.length l) (hc : l.length ≤ c) (hr' : Kd.C (Kd.int .i64) w A' cut.length cut) (hc' : cut.length ≤ c')
  (hf : w.heap[gf]? = some (.cells #[(.int .i64 full)] 3 (0, 0))) (hm : w.heap[gm]? = some (.cells #[(.int .i64 n), (.slice A l.length c)] 26 (0, 0))) (hcu : w.heap[gc]? = some (.cells #[(.slice A' cut.length c')] 22 (0, 0))) (h : impl_Extend.r k n l cut full s = some r) :
  Calls Try.prog 95 #[.int .i64 s, .pointer (some ⟨gf, 0, none⟩), .pointer (some ⟨gm, 0, none⟩), .pointer (some ⟨gc, 0, none⟩)] w fun e w' => e = .returned (.int .i64 r) ∧ Below w.heap.size w w' := by
 unfold impl_Extend.r at h
 obtain ⟨q, hQ, h⟩ := Option.bind_eq_some_iff.1 h
 have hu := Try.underlying26
 have BF := aQ hf
 have BM := aQ hm
 have BC := aQ hcu
 have HQ := Lib.hid hQ
 have HR := Lib.hid hr
 have HC := Lib.hid hc
 have HR2 := Lib.hid hr'
 have HC2 := Lib.hid hc'
 have HB := aQ (Below.refl w.heap.size w)
 have zBF0 : w.cell? ⟨gf, 0, none⟩ = some (.int .i64 full) := (blk_cell BF.out 0).trans rfl
 have zBM0 : w.cell? ⟨gm, 0, none⟩ = some (.int .i64 n) := (blk_cell BM.out 0).trans rfl
 have zBM1 : w.cell? ⟨gm, 1, none⟩ = some (.slice A l.length c) := (blk_cell BM.out 1).trans rfl
 have zBC0 : w.cell? ⟨gc, 0, none⟩ = some (.slice A' cut.length c') := (blk_cell BC.out 0).trans rfl
 clear hr hc hr' hc' hQ hf hm hcu
 by_cases c3 : s = (Go.bits .and .i64 s full)
 ·rw [if_pos c3] at h
  simp only [Option.some.injEq] at h
  subst h
  have c4 : (s == (Go.bits .and .i64 s full)) = true := beq_iff_eq.2 c3
  have c5 : (s != (Go.bits .and .i64 s full)) = false := by rw [bne, c4]; rfl
  clear c3
  go_enter Try.func95, Try.ntmps95
  go_wp2_with (first | (go_at_call 96; (with_reducible refine (impl_rankIn.calls k n _ _ l _ q _ ?side1 ?side2 HQ.out).mono ?_); (case side1 => exact HR.out); (case side2 => exact HC.out); rintro e w1_ ⟨rfl, hb⟩; have n_BF := aQ (blk_below (g := gf) (o := .cells #[(.int .i64 full)] 3 (0, 0)) (pk BF.out) hb); have n_BM := aQ (blk_below (g := gm) (o := .cells #[(.int .i64 n), (.slice A l.length c)] 26 (0, 0)) (pk BM.out) hb); have n_BC := aQ (blk_below (g := gc) (o := .cells #[(.slice A' cut.length c')] 22 (0, 0)) (pk BC.out) hb); have n_HB := aQ (below_step (pB HB.out) hb); clear HB; clear BF; have BF := n_BF; clear n_BF; clear BM; have BM := n_BM; clear n_BM; clear BC; have BC := n_BC; clear n_BC; have HB := n_HB; clear n_HB; clear hb))
  have n_BF : Aside0 (w1_.drew.heap[gf]? = some (.cells #[(.int .i64 full)] 3 (0, 0))) := ⟨pk BF.out⟩
  have n_BM : Aside0 (w1_.drew.heap[gm]? = some (.cells #[(.int .i64 n), (.slice A l.length c)] 26 (0, 0))) := ⟨pk BM.out⟩
  have n_BC : Aside0 (w1_.drew.heap[gc]? = some (.cells #[(.slice A' cut.length c')] 22 (0, 0))) := ⟨pk BC.out⟩
  have n_HB : Aside0 (Below w.heap.size w w1_.drew) := ⟨(pB HB.out)⟩
  clear BF
  have BF := n_BF
  clear n_BF
  clear BM
  have BM := n_BM
  clear n_BM
  clear BC
  have BC := n_BC
  clear n_BC
  clear HB
  have HB := n_HB
  clear n_HB
  refine start_ (n := 11) (S := fun w' => w'.cell? ⟨gc, 0, none⟩ = some (.slice A' cut.length c') ∧ w'.cell? ⟨gm, 0, none⟩ = some (.int .i64 n) ∧ w'.cell? ⟨gm, 1, none⟩ = some (.slice A l.length c)) (ds := []) #[false, false, false, false, false, false, false, false, false, false, false] (by kernel_rfl) rfl rfl ⟨((blk_cell BC.out 0).trans rfl), ((blk_cell BM.out 0).trans rfl), ((blk_cell BM.out 1).trans rfl)⟩ (fun hHeld => ?_)
  generalize w1_.drew = wD_ at BF BM BC HB hHeld ⊢
  refine pure_ (i := 0) (N := some 14) (v := ?_) (a' := ?_) #[true, false, false, false, false, false, false, false, false, false, false] rfl rfl (by kernel_rfl) (fun _ _ _ h => h) (Or.inl ⟨by rfl, ?_⟩) ?_ ?_
  rotate_left
  ·intro w'
   go_simp
   with_reducible rfl
  rotate_left
  ·simp only [Act.put, List.setIfInBounds_toArray, List.set_cons_zero, List.set_cons_succ, i64_w, i32_w]
   rfl
  refine pure_ (i := 1) (N := some 15) (v := ?_) (a' := ?_) #[true, true, false, false, false, false, false, false, false, false, false] rfl rfl (by kernel_rfl) (fun _ _ _ h => h) (Or.inl ⟨by rfl, ?_⟩) ?_ ?_
  rotate_left
  ·intro w'
   go_simp
   with_reducible rfl
  rotate_left
  ·simp only [Act.put, List.setIfInBounds_toArray, List.set_cons_zero, List.set_cons_succ, i64_w, i32_w]
   rfl
  refine pure_ (i := 2) (N := some 16) (v := ?_) (a' := ?_) #[true, true, true, false, false, false, false, false, false, false, false] rfl rfl (by kernel_rfl) (fun _ _ _ h => h) (Or.inl ⟨by rfl, ?_⟩) ?_ ?_
  rotate_left
  ·intro w'
   go_simp
   with_reducible rfl
  rotate_left
  ·simp only [Act.put, List.setIfInBounds_toArray, List.set_cons_zero, List.set_cons_succ, i64_w, i32_w]
   rfl
  refine pure_ (i := 3) (N := some 17) (v := ?_) (a' := ?_) #[true, true, true, true, false, false, false, false, false, false, false] rfl rfl (by kernel_rfl) (fun _ _ _ h => h) (Or.inl ⟨by rfl, ?_⟩) ?_ ?_
  rotate_left
  ·intro w'
   go_simp
   with_reducible rfl
  rotate_left
  ·simp only [Act.put, List.setIfInBounds_toArray, List.set_cons_zero, List.set_cons_succ, i64_w, i32_w]
   rfl
  refine pure_ (i := 4) (N := some 18) (v := undef) (a' := ?_) #[true, true, true, true, true, false, false, false, false, false, false] rfl rfl (by kernel_rfl) (fun _ _ _ h => h) (Or.inr ⟨by rfl, rfl⟩) ?_ ?_
  rotate_left
  ·simp only [Act.put, List.setIfInBounds_toArray, List.set_cons_zero, List.set_cons_succ, i64_w, i32_w]
   rfl
  refine pure_ (i := 5) (N := some 19) (v := undef) (a' := ?_) #[true, true, true, true, true, true, false, false, false, false, false] rfl rfl (by kernel_rfl) (fun _ _ _ h => h) (Or.inr ⟨by rfl, rfl⟩) ?_ ?_
  rotate_left
  ·simp only [Act.put, List.setIfInBounds_toArray, List.set_cons_zero, List.set_cons_succ, i64_w, i32_w]
   rfl
  refine pure_ (i := 6) (N := some 20) (v := undef) (a' := ?_) #[true, true, true, true, true, true, true, false, false, false, false] rfl rfl (by kernel_rfl) (fun _ _ _ h => h) (Or.inr ⟨by rfl, rfl⟩) ?_ ?_
  rotate_left
  ·simp only [Act.put, List.setIfInBounds_toArray, List.set_cons_zero, List.set_cons_succ, i64_w, i32_w]
   rfl
  refine pure_ (i := 7) (N := some 21) (v := undef) (a' := ?_) #[true, true, true, true, true, true, true, true, false, false, false] rfl rfl (by kernel_rfl) (fun _ _ _ h => h) (Or.inr ⟨by rfl, rfl⟩) ?_ ?_
  rotate_left
  ·simp only [Act.put, List.setIfInBounds_toArray, List.set_cons_zero, List.set_cons_succ, i64_w, i32_w]
   rfl
  refine pure_ (i := 8) (N := some 22) (v := undef) (a' := ?_) #[true, true, true, true, true, true, true, true, true, false, false] rfl rfl (by kernel_rfl) (fun _ _ _ h => h) (Or.inr ⟨by rfl, rfl⟩) ?_ ?_
  rotate_left
  ·simp only [Act.put, List.setIfInBounds_toArray, List.set_cons_zero, List.set_cons_succ, i64_w, i32_w]
   rfl
  refine pure_ (i := 9) (N := some 23) (v := undef) (a' := ?_) #[true, true, true, true, true, true, true, true, true, true, false] rfl rfl (by kernel_rfl) (fun _ _ _ h => h) (Or.inr ⟨by rfl, rfl⟩) ?_ ?_
  rotate_left
  ·simp only [Act.put, List.setIfInBounds_toArray, List.set_cons_zero, List.set_cons_succ, i64_w, i32_w]
   rfl
  refine pure_ (i := 10) (N := some 24) (v := ?_) (a' := ?_) #[true, true, true, true, true, true, true, true, true, true, true] rfl rfl (by kernel_rfl) (fun _ _ _ h => h) (Or.inl ⟨by rfl, ?_⟩) ?_ ?_
  rotate_left
  ·intro w'
   go_simp
   with_reducible rfl
  rotate_left
  ·simp only [Act.put, List.setIfInBounds_toArray, List.set_cons_zero, List.set_cons_succ, i64_w, i32_w]
   rfl
  refine done_ (by kernel_rfl) ?_
  go_wp2
  go_ret
  exact ⟨rs_, (pB HB.out)⟩
 ·rw [if_neg c3] at h
  have c4 : (s == (Go.bits .and .i64 s full)) = false := by rw [Bool.eq_false_iff]; exact fun h_ => c3 (beq_iff_eq.1 h_)
  have c5 : (s != (Go.bits .and .i64 s full)) = true := by rw [bne, c4]; rfl
  clear c3
  obtain ⟨d, hd, h⟩ := Option.bind_eq_some_iff.1 h
  obtain ⟨b, hh, h⟩ := Option.bind_eq_some_iff.1 h
  have HD := Lib.hid hd
  have HH := Lib.hid hh
  clear hd hh
  cases b with
  | true =>
   rw [if_pos rfl] at h
   simp only [Option.some.injEq] at h
   subst h
   go_enter Try.func95, Try.ntmps95
   go_wp2_with (first | (go_at_call 96; (with_reducible refine (impl_rankIn.calls k n _ _ l _ q _ ?side1 ?side2 HQ.out).mono ?_); (case side1 => exact HR.out); (case side2 => exact HC.out); rintro e w1_ ⟨rfl, hb⟩; have n_BF := aQ (blk_below (g := gf) (o := .cells #[(.int .i64 full)] 3 (0, 0)) (pk BF.out) hb); have n_BM := aQ (blk_below (g := gm) (o := .cells #[(.int .i64 n), (.slice A l.length c)] 26 (0, 0)) (pk BM.out) hb); have n_BC := aQ (blk_below (g := gc) (o := .cells #[(.slice A' cut.length c')] 22 (0, 0)) (pk BC.out) hb); have n_HB := aQ (below_step (pB HB.out) hb); clear HB; clear BF; have BF := n_BF; clear n_BF; clear BM; have BM := n_BM; clear n_BM; clear BC; have BC := n_BC; clear n_BC; have HB := n_HB; clear n_HB; clear hb))
   have n_BF : Aside0 (w1_.drew.heap[gf]? = some (.cells #[(.int .i64 full)] 3 (0, 0))) := ⟨pk BF.out⟩
   have n_BM : Aside0 (w1_.drew.heap[gm]? = some (.cells #[(.int .i64 n), (.slice A l.length c)] 26 (0, 0))) := ⟨pk BM.out⟩
   have n_BC : Aside0 (w1_.drew.heap[gc]? = some (.cells #[(.slice A' cut.length c')] 22 (0, 0))) := ⟨pk BC.out⟩
   have n_HB : Aside0 (Below w.heap.size w w1_.drew) := ⟨(pB HB.out)⟩
   clear BF
   have BF := n_BF
   clear n_BF
   clear BM
   have BM := n_BM
   clear n_BM
   clear BC
   have BC := n_BC
   clear n_BC
   clear HB
   have HB := n_HB
   clear n_HB
   refine start_ (n := 11) (S := fun w' => w'.cell? ⟨gc, 0, none⟩ = some (.slice A' cut.length c') ∧ w'.cell? ⟨gm, 0, none⟩ = some (.int .i64 n) ∧ w'.cell? ⟨gm, 1, none⟩ = some (.slice A l.length c)) (ds := []) #[false, false, false, false, false, false, false, false, false, false, false] (by kernel_rfl) rfl rfl ⟨((blk_cell BC.out 0).trans rfl), ((blk_cell BM.out 0).trans rfl), ((blk_cell BM.out 1).trans rfl)⟩ (fun hHeld => ?_)
   generalize w1_.drew = wD_ at BF BM BC HB hHeld ⊢
   refine pure_ (i := 0) (N := some 14) (v := ?_) (a' := ?_) #[true, false, false, false, false, false, false, false, false, false, false] rfl rfl (by kernel_rfl) (fun _ _ _ h => h) (Or.inl ⟨by rfl, ?_⟩) ?_ ?_
   rotate_left
   ·intro w'
    go_simp
    with_reducible rfl
   rotate_left
   ·simp only [Act.put, List.setIfInBounds_toArray, List.set_cons_zero, List.set_cons_succ, i64_w, i32_w]
    rfl
   refine pure_ (i := 1) (N := some 15) (v := ?_) (a' := ?_) #[true, true, false, false, false, false, false, false, false, false, false] rfl rfl (by kernel_rfl) (fun _ _ _ h => h) (Or.inl ⟨by rfl, ?_⟩) ?_ ?_
   rotate_left
   ·intro w'
    go_simp
    with_reducible rfl
   rotate_left
   ·simp only [Act.put, List.setIfInBounds_toArray, List.set_cons_zero, List.set_cons_succ, i64_w, i32_w]
    rfl
   refine pure_ (i := 2) (N := some 16) (v := ?_) (a' := ?_) #[true, true, true, false, false, false, false, false, false, false, false] rfl rfl (by kernel_rfl) (fun _ _ _ h => h) (Or.inl ⟨by rfl, ?_⟩) ?_ ?_
   rotate_left
   ·intro w'
    go_simp
    with_reducible rfl
   rotate_left
   ·simp only [Act.put, List.setIfInBounds_toArray, List.set_cons_zero, List.set_cons_succ, i64_w, i32_w]
    rfl
   refine pure_ (i := 3) (N := some 17) (v := ?_) (a' := ?_) #[true, true, true, true, false, false, false, false, false, false, false] rfl rfl (by kernel_rfl) (fun _ _ _ h => h) (Or.inl ⟨by rfl, ?_⟩) ?_ ?_
   rotate_left
   ·intro w'
    go_simp
    with_reducible rfl
   rotate_left
   ·simp only [Act.put, List.setIfInBounds_toArray, List.set_cons_zero, List.set_cons_succ, i64_w, i32_w]
    rfl
   refine pure_ (i := 6) (N := some 20) (v := ?_) (a' := ?_) #[true, true, true, true, false, false, true, false, false, false, false] rfl rfl (by kernel_rfl) (fun _ _ _ h => h) (Or.inl ⟨by rfl, ?_⟩) ?_ ?_
   rotate_left
   ·intro w'
    go_simp
    with_reducible rfl
   rotate_left
   ·simp only [Act.put, List.setIfInBounds_toArray, List.set_cons_zero, List.set_cons_succ, i64_w, i32_w]
    rfl
   refine take_ (i := 4) (N := some 18) (v := ?_) (a' := ?_) #[true, true, true, true, true, false, true, false, false, false, false] rfl rfl (by kernel_rfl) (fun _ _ _ h => h) (Or.inl ⟨by rfl, ?_⟩) hHeld ?_ ?_
   rotate_left
   ·rintro w' ⟨s0, s1, s2⟩
    go_simp
    with_reducible rfl
   rotate_left
   ·simp only [Act.put, List.setIfInBounds_toArray, List.set_cons_zero, List.set_cons_succ, i64_w, i32_w]
    rfl
   refine take_ (i := 5) (N := some 19) (v := ?_) (a' := ?_) #[true, true, true, true, true, true, true, false, false, false, false] rfl rfl (by kernel_rfl) (fun _ _ _ h => h) (Or.inl ⟨by rfl, ?_⟩) hHeld ?_ ?_
   rotate_left
   ·rintro w' ⟨s0, s1, s2⟩
    go_simp
    with_reducible rfl
   rotate_left
   ·simp only [Act.put, List.setIfInBounds_toArray, List.set_cons_zero, List.set_cons_succ, i64_w, i32_w]
    rfl
   refine one_ (i := 7) (N := some 21) #[true, true, true, true, true, true, true, true, false, false, false] rfl rfl (by kernel_rfl) (by decide) (fun K hK => ?_)
   refine goes_ Try.func98 (by kernel_rfl) rfl #[.agg #[.int .i64 n, .slice A l.length c], .int .i64 (Go.bits .and .i64 s full)] (by rfl) rfl rfl (by (try simp only [List.map_toArray, List.map_cons, List.map_nil]); first | done | rfl) ?_
   with_reducible refine (impl_closure.calls k n _ _ l _ d _ ?side1 ?side2 HD.out).mono ?_
   (case side1 => exact (Kd.C_below HR.out HB.out))
   (case side2 => exact HC.out)
   rintro e w7_ ⟨rfl, hb⟩
   refine ⟨_, rfl, ?_⟩
   have n_BF := aQ (blk_below (g := gf) (o := .cells #[(.int .i64 full)] 3 (0, 0)) (pk BF.out) hb)
   have n_BM := aQ (blk_below (g := gm) (o := .cells #[(.int .i64 n), (.slice A l.length c)] 26 (0, 0)) (pk BM.out) hb)
   have n_BC := aQ (blk_below (g := gc) (o := .cells #[(.slice A' cut.length c')] 22 (0, 0)) (pk BC.out) hb)
   have n_HB := aQ (below_step (pB HB.out) hb)
   clear HB
   clear BF
   have BF := n_BF
   clear n_BF
   clear BM
   have BM := n_BM
   clear n_BM
   clear BC
   have BC := n_BC
   clear n_BC
   have HB := n_HB
   clear n_HB
   clear hb
   refine hK.out _ _ ⟨((blk_cell BC.out 0).trans rfl), ((blk_cell BM.out 0).trans rfl), ((blk_cell BM.out 1).trans rfl)⟩ (fun hHeld => ?_)
   clear hK K
   refine norm_ (a' := ?_) ?_ ?_
   rotate_left
   ·show Act.put _ (some 21) _ = _
    simp only [Act.put, List.setIfInBounds_toArray, List.set_cons_zero, List.set_cons_succ, i64_w, i32_w]
    rfl
   refine one_ (i := 8) (N := some 22) #[true, true, true, true, true, true, true, true, true, false, false] rfl rfl (by kernel_rfl) (by decide) (fun K hK => ?_)
   refine goes_ Try.func97 (by kernel_rfl) rfl #[.slice A' cut.length c', .int .i64 d] (by rfl) rfl rfl (by (try simp only [List.map_toArray, List.map_cons, List.map_nil]); first | done | rfl) ?_
   with_reducible refine (impl_HasSet.calls k _ _ cut d _ _ ?side1 ?side2 HH.out).mono ?_
   (case side1 => exact (Kd.C_below HR2.out HB.out))
   (case side2 => exact HC2.out)
   rintro e w' ⟨rfl, ⟨nd8, rfl⟩⟩
   refine ⟨_, rfl, ?_⟩
   have n_BF : Aside0 ((w7_.drewN nd8).heap[gf]? = some (.cells #[(.int .i64 full)] 3 (0, 0))) := ⟨pk BF.out⟩
   have n_BM : Aside0 ((w7_.drewN nd8).heap[gm]? = some (.cells #[(.int .i64 n), (.slice A l.length c)] 26 (0, 0))) := ⟨pk BM.out⟩
   have n_BC : Aside0 ((w7_.drewN nd8).heap[gc]? = some (.cells #[(.slice A' cut.length c')] 22 (0, 0))) := ⟨pk BC.out⟩
   have n_HB : Aside0 (Below w.heap.size w (w7_.drewN nd8)) := ⟨(pB HB.out)⟩
   clear BF
   have BF := n_BF
   clear n_BF
   clear BM
   have BM := n_BM
   clear n_BM
   clear BC
   have BC := n_BC
   clear n_BC
   clear HB
   have HB := n_HB
   clear n_HB
   refine hK.out _ _ ⟨((blk_cell BC.out 0).trans rfl), ((blk_cell BM.out 0).trans rfl), ((blk_cell BM.out 1).trans rfl)⟩ (fun hHeld => ?_)
   clear hK K
   refine norm_ (a' := ?_) ?_ ?_
   rotate_left
   ·show Act.put _ (some 22) _ = _
    simp only [Act.put, List.setIfInBounds_toArray, List.set_cons_zero, List.set_cons_succ, i64_w, i32_w]
    rfl
   refine pure_ (i := 9) (N := some 23) (v := ?_) (a' := ?_) #[true, true, true, true, true, true, true, true, true, true, false] rfl rfl (by kernel_rfl) (fun _ _ _ h => h) (Or.inl ⟨by rfl, ?_⟩) ?_ ?_
   rotate_left
   ·intro w'
    go_simp
    with_reducible rfl
   rotate_left
   ·simp only [Act.put, List.setIfInBounds_toArray, List.set_cons_zero, List.set_cons_succ, i64_w, i32_w]
    rfl
   refine pure_ (i := 10) (N := some 24) (v := ?_) (a' := ?_) #[true, true, true, true, true, true, true, true, true, true, true] rfl rfl (by kernel_rfl) (fun _ _ _ h => h) (Or.inl ⟨by rfl, ?_⟩) ?_ ?_
   rotate_left
   ·intro w'
    go_simp
    with_reducible rfl
   rotate_left
   ·simp only [Act.put, List.setIfInBounds_toArray, List.set_cons_zero, List.set_cons_succ, i64_w, i32_w]
    rfl
   refine done_ (by kernel_rfl) ?_
   go_wp2
   go_ret
   exact ⟨rs_, (pB HB.out)⟩
  | false =>
   rw [if_neg (by decide)] at h
   simp only [Option.some.injEq] at h
   subst h
   go_enter Try.func95, Try.ntmps95
   go_wp2_with (first | (go_at_call 96; (with_reducible refine (impl_rankIn.calls k n _ _ l _ q _ ?side1 ?side2 HQ.out).mono ?_); (case side1 => exact HR.out); (case side2 => exact HC.out); rintro e w1_ ⟨rfl, hb⟩; have n_BF := aQ (blk_below (g := gf) (o := .cells #[(.int .i64 full)] 3 (0, 0)) (pk BF.out) hb); have n_BM := aQ (blk_below (g := gm) (o := .cells #[(.int .i64 n), (.slice A l.length c)] 26 (0, 0)) (pk BM.out) hb); have n_BC := aQ (blk_below (g := gc) (o := .cells #[(.slice A' cut.length c')] 22 (0, 0)) (pk BC.out) hb); have n_HB := aQ (below_step (pB HB.out) hb); clear HB; clear BF; have BF := n_BF; clear n_BF; clear BM; have BM := n_BM; clear n_BM; clear BC; have BC := n_BC; clear n_BC; have HB := n_HB; clear n_HB; clear hb))
   have n_BF : Aside0 (w1_.drew.heap[gf]? = some (.cells #[(.int .i64 full)] 3 (0, 0))) := ⟨pk BF.out⟩
   have n_BM : Aside0 (w1_.drew.heap[gm]? = some (.cells #[(.int .i64 n), (.slice A l.length c)] 26 (0, 0))) := ⟨pk BM.out⟩
   have n_BC : Aside0 (w1_.drew.heap[gc]? = some (.cells #[(.slice A' cut.length c')] 22 (0, 0))) := ⟨pk BC.out⟩
   have n_HB : Aside0 (Below w.heap.size w w1_.drew) := ⟨(pB HB.out)⟩
   clear BF
   have BF := n_BF
   clear n_BF
   clear BM
   have BM := n_BM
   clear n_BM
   clear BC
   have BC := n_BC
   clear n_BC
   clear HB
   have HB := n_HB
   clear n_HB
   refine start_ (n := 11) (S := fun w' => w'.cell? ⟨gc, 0, none⟩ = some (.slice A' cut.length c') ∧ w'.cell? ⟨gm, 0, none⟩ = some (.int .i64 n) ∧ w'.cell? ⟨gm, 1, none⟩ = some (.slice A l.length c)) (ds := []) #[false, false, false, false, false, false, false, false, false, false, false] (by kernel_rfl) rfl rfl ⟨((blk_cell BC.out 0).trans rfl), ((blk_cell BM.out 0).trans rfl), ((blk_cell BM.out 1).trans rfl)⟩ (fun hHeld => ?_)
   generalize w1_.drew = wD_ at BF BM BC HB hHeld ⊢
   refine pure_ (i := 0) (N := some 14) (v := ?_) (a' := ?_) #[true, false, false, false, false, false, false, false, false, false, false] rfl rfl (by kernel_rfl) (fun _ _ _ h => h) (Or.inl ⟨by rfl, ?_⟩) ?_ ?_
   rotate_left
   ·intro w'
    go_simp
    with_reducible rfl
   rotate_left
   ·simp only [Act.put, List.setIfInBounds_toArray, List.set_cons_zero, List.set_cons_succ, i64_w, i32_w]
    rfl
   refine pure_ (i := 1) (N := some 15) (v := ?_) (a' := ?_) #[true, true, false, false, false, false, false, false, false, false, false] rfl rfl (by kernel_rfl) (fun _ _ _ h => h) (Or.inl ⟨by rfl, ?_⟩) ?_ ?_
   rotate_left
   ·intro w'
    go_simp
    with_reducible rfl
   rotate_left
   ·simp only [Act.put, List.setIfInBounds_toArray, List.set_cons_zero, List.set_cons_succ, i64_w, i32_w]
    rfl
   refine pure_ (i := 2) (N := some 16) (v := ?_) (a' := ?_) #[true, true, true, false, false, false, false, false, false, false, false] rfl rfl (by kernel_rfl) (fun _ _ _ h => h) (Or.inl ⟨by rfl, ?_⟩) ?_ ?_
   rotate_left
   ·intro w'
    go_simp
    with_reducible rfl
   rotate_left
   ·simp only [Act.put, List.setIfInBounds_toArray, List.set_cons_zero, List.set_cons_succ, i64_w, i32_w]
    rfl
   refine pure_ (i := 3) (N := some 17) (v := ?_) (a' := ?_) #[true, true, true, true, false, false, false, false, false, false, false] rfl rfl (by kernel_rfl) (fun _ _ _ h => h) (Or.inl ⟨by rfl, ?_⟩) ?_ ?_
   rotate_left
   ·intro w'
    go_simp
    with_reducible rfl
   rotate_left
   ·simp only [Act.put, List.setIfInBounds_toArray, List.set_cons_zero, List.set_cons_succ, i64_w, i32_w]
    rfl
   refine pure_ (i := 6) (N := some 20) (v := ?_) (a' := ?_) #[true, true, true, true, false, false, true, false, false, false, false] rfl rfl (by kernel_rfl) (fun _ _ _ h => h) (Or.inl ⟨by rfl, ?_⟩) ?_ ?_
   rotate_left
   ·intro w'
    go_simp
    with_reducible rfl
   rotate_left
   ·simp only [Act.put, List.setIfInBounds_toArray, List.set_cons_zero, List.set_cons_succ, i64_w, i32_w]
    rfl
   refine take_ (i := 4) (N := some 18) (v := ?_) (a' := ?_) #[true, true, true, true, true, false, true, false, false, false, false] rfl rfl (by kernel_rfl) (fun _ _ _ h => h) (Or.inl ⟨by rfl, ?_⟩) hHeld ?_ ?_
   rotate_left
   ·rintro w' ⟨s0, s1, s2⟩
    go_simp
    with_reducible rfl
   rotate_left
   ·simp only [Act.put, List.setIfInBounds_toArray, List.set_cons_zero, List.set_cons_succ, i64_w, i32_w]
    rfl
   refine take_ (i := 5) (N := some 19) (v := ?_) (a' := ?_) #[true, true, true, true, true, true, true, false, false, false, false] rfl rfl (by kernel_rfl) (fun _ _ _ h => h) (Or.inl ⟨by rfl, ?_⟩) hHeld ?_ ?_
   rotate_left
   ·rintro w' ⟨s0, s1, s2⟩
    go_simp
    with_reducible rfl
   rotate_left
   ·simp only [Act.put, List.setIfInBounds_toArray, List.set_cons_zero, List.set_cons_succ, i64_w, i32_w]
    rfl
   refine one_ (i := 7) (N := some 21) #[true, true, true, true, true, true, true, true, false, false, false] rfl rfl (by kernel_rfl) (by decide) (fun K hK => ?_)
   refine goes_ Try.func98 (by kernel_rfl) rfl #[.agg #[.int .i64 n, .slice A l.length c], .int .i64 (Go.bits .and .i64 s full)] (by rfl) rfl rfl (by (try simp only [List.map_toArray, List.map_cons, List.map_nil]); first | done | rfl) ?_
   with_reducible refine (impl_closure.calls k n _ _ l _ d _ ?side1 ?side2 HD.out).mono ?_
   (case side1 => exact (Kd.C_below HR.out HB.out))
   (case side2 => exact HC.out)
   rintro e w7_ ⟨rfl, hb⟩
   refine ⟨_, rfl, ?_⟩
   have n_BF := aQ (blk_below (g := gf) (o := .cells #[(.int .i64 full)] 3 (0, 0)) (pk BF.out) hb)
   have n_BM := aQ (blk_below (g := gm) (o := .cells #[(.int .i64 n), (.slice A l.length c)] 26 (0, 0)) (pk BM.out) hb)
   have n_BC := aQ (blk_below (g := gc) (o := .cells #[(.slice A' cut.length c')] 22 (0, 0)) (pk BC.out) hb)
   have n_HB := aQ (below_step (pB HB.out) hb)
   clear HB
   clear BF
   have BF := n_BF
   clear n_BF
   clear BM
   have BM := n_BM
   clear n_BM
   clear BC
   have BC := n_BC
   clear n_BC
   have HB := n_HB
   clear n_HB
   clear hb
   refine hK.out _ _ ⟨((blk_cell BC.out 0).trans rfl), ((blk_cell BM.out 0).trans rfl), ((blk_cell BM.out 1).trans rfl)⟩ (fun hHeld => ?_)
   clear hK K
   refine norm_ (a' := ?_) ?_ ?_
   rotate_left
   ·show Act.put _ (some 21) _ = _
    simp only [Act.put, List.setIfInBounds_toArray, List.set_cons_zero, List.set_cons_succ, i64_w, i32_w]
    rfl
   refine one_ (i := 8) (N := some 22) #[true, true, true, true, true, true, true, true, true, false, false] rfl rfl (by kernel_rfl) (by decide) (fun K hK => ?_)
   refine goes_ Try.func97 (by kernel_rfl) rfl #[.slice A' cut.length c', .int .i64 d] (by rfl) rfl rfl (by (try simp only [List.map_toArray, List.map_cons, List.map_nil]); first | done | rfl) ?_
   with_reducible refine (impl_HasSet.calls k _ _ cut d _ _ ?side1 ?side2 HH.out).mono ?_
   (case side1 => exact (Kd.C_below HR2.out HB.out))
   (case side2 => exact HC2.out)
   rintro e w' ⟨rfl, ⟨nd8, rfl⟩⟩
   refine ⟨_, rfl, ?_⟩
   have n_BF : Aside0 ((w7_.drewN nd8).heap[gf]? = some (.cells #[(.int .i64 full)] 3 (0, 0))) := ⟨pk BF.out⟩
   have n_BM : Aside0 ((w7_.drewN nd8).heap[gm]? = some (.cells #[(.int .i64 n), (.slice A l.length c)] 26 (0, 0))) := ⟨pk BM.out⟩
   have n_BC : Aside0 ((w7_.drewN nd8).heap[gc]? = some (.cells #[(.slice A' cut.length c')] 22 (0, 0))) := ⟨pk BC.out⟩
   have n_HB : Aside0 (Below w.heap.size w (w7_.drewN nd8)) := ⟨(pB HB.out)⟩
   clear BF
   have BF := n_BF
   clear n_BF
   clear BM
   have BM := n_BM
   clear n_BM
   clear BC
   have BC := n_BC
   clear n_BC
   clear HB
   have HB := n_HB
   clear n_HB
   refine hK.out _ _ ⟨((blk_cell BC.out 0).trans rfl), ((blk_cell BM.out 0).trans rfl), ((blk_cell BM.out 1).trans rfl)⟩ (fun hHeld => ?_)
   clear hK K
   refine norm_ (a' := ?_) ?_ ?_
   rotate_left
   ·show Act.put _ (some 22) _ = _
    simp only [Act.put, List.setIfInBounds_toArray, List.set_cons_zero, List.set_cons_succ, i64_w, i32_w]
    rfl
   refine pure_ (i := 9) (N := some 23) (v := ?_) (a' := ?_) #[true, true, true, true, true, true, true, true, true, true, false] rfl rfl (by kernel_rfl) (fun _ _ _ h => h) (Or.inl ⟨by rfl, ?_⟩) ?_ ?_
   rotate_left
   ·intro w'
    go_simp
    with_reducible rfl
   rotate_left
   ·simp only [Act.put, List.setIfInBounds_toArray, List.set_cons_zero, List.set_cons_succ, i64_w, i32_w]
    rfl
   refine pure_ (i := 10) (N := some 24) (v := ?_) (a' := ?_) #[true, true, true, true, true, true, true, true, true, true, true] rfl rfl (by kernel_rfl) (fun _ _ _ h => h) (Or.inl ⟨by rfl, ?_⟩) ?_ ?_
   rotate_left
   ·intro w'
    go_simp
    with_reducible rfl
   rotate_left
   ·simp only [Act.put, List.setIfInBounds_toArray, List.set_cons_zero, List.set_cons_succ, i64_w, i32_w]
    rfl
   refine done_ (by kernel_rfl) ?_
   go_wp2
   go_ret
   exact ⟨rs_, (pB HB.out)⟩
set_option maxHeartbeats 4000000 in
set_option maxRecDepth 100000 in
theorem Extend2_walk (k : Nat) (n : Int) (A : Option Addr) (c : Nat) (l : List Int) (A' : Option Addr) (c' : Nat) (cut : List Int) (full r s : Int) (b : Bool) (gf gm gc gq gk : Nat) (w : World)
  (hr : Kd.C (Kd.int .i64) w A l.length l) (hc : l.length ≤ c) (hr' : Kd.C (Kd.int .i64) w A' cut.length cut) (hc' : cut.length ≤ c')
  (hf : w.heap[gf]? = some (.cells #[(.int .i64 full)] 3 (0, 0))) (hm : w.heap[gm]? = some (.cells #[(.int .i64 n), (.slice A l.length c)] 26 (0, 0))) (hcu : w.heap[gc]? = some (.cells #[(.slice A' cut.length c')] 22 (0, 0))) (hq : w.heap[gq]? = some (.cells #[(.int .i64 r)] 3 (0, 0))) (hk : w.heap[gk]? = some (.cells #[(.func (.func 95) #[] #[.pointer (some ⟨gf, 0, none⟩), .pointer (some ⟨gm, 0, none⟩), .pointer (some ⟨gc, 0, none⟩)])] 61 (0, 0))) (h : impl_Extend.c k n l cut full r s = some b) :
  Calls Try.prog 99 #[.int .i64 s, .pointer (some ⟨gq, 0, none⟩), .pointer (some ⟨gk, 0, none⟩)] w fun e w' => e = .returned (.bool b) ∧ Below w.heap.size w w' := by
 unfold impl_Extend.c at h
 obtain ⟨t, hT, h⟩ := Option.bind_eq_some_iff.1 h
 have BF := aQ hf
 have BM := aQ hm
 have BC := aQ hcu
 have BQ := aQ hq
 have BK := aQ hk
 have HT := Lib.hid hT
 have HR := Lib.hid hr
 have HC := Lib.hid hc
 have HR2 := Lib.hid hr'
 have HC2 := Lib.hid hc'
 have HB := aQ (Below.refl w.heap.size w)
 clear hr hc hr' hc' hT hf hm hcu hq hk
 by_cases c3 : t = r
 ·rw [if_pos c3] at h
  obtain ⟨u, hU, h⟩ := Option.bind_eq_some_iff.1 h
  simp only [Option.some.injEq] at h
  subst h
  have HU := Lib.hid hU
  have c4 : (t == r) = true := beq_iff_eq.2 c3
  clear hU c3
  go_enter Try.func99, Try.ntmps99
  go_wp2
  have n_BF : Aside0 (w.drew.heap[gf]? = some (.cells #[(.int .i64 full)] 3 (0, 0))) := ⟨pk BF.out⟩
  have n_BM : Aside0 (w.drew.heap[gm]? = some (.cells #[(.int .i64 n), (.slice A l.length c)] 26 (0, 0))) := ⟨pk BM.out⟩
  have n_BC : Aside0 (w.drew.heap[gc]? = some (.cells #[(.slice A' cut.length c')] 22 (0, 0))) := ⟨pk BC.out⟩
  have n_BQ : Aside0 (w.drew.heap[gq]? = some (.cells #[(.int .i64 r)] 3 (0, 0))) := ⟨pk BQ.out⟩
  have n_BK : Aside0 (w.drew.heap[gk]? = some (.cells #[(.func (.func 95) #[] #[.pointer (some ⟨gf, 0, none⟩), .pointer (some ⟨gm, 0, none⟩), .pointer (some ⟨gc, 0, none⟩)])] 61 (0, 0))) := ⟨pk BK.out⟩
  have n_HB : Aside0 (Below w.heap.size w w.drew) := ⟨(pB HB.out)⟩
  clear BF
  have BF := n_BF
  clear n_BF
  clear BM
  have BM := n_BM
  clear n_BM
  clear BC
  have BC := n_BC
  clear n_BC
  clear BQ
  have BQ := n_BQ
  clear n_BQ
  clear BK
  have BK := n_BK
  clear n_BK
  clear HB
  have HB := n_HB
  clear n_HB
  refine start_ (n := 12) (S := fun w' => w'.cell? ⟨gq, 0, none⟩ = some (.int .i64 r) ∧ w'.cell? ⟨gk, 0, none⟩ = some (.func (.func 95) #[] #[.pointer (some ⟨gf, 0, none⟩), .pointer (some ⟨gm, 0, none⟩), .pointer (some ⟨gc, 0, none⟩)])) (ds := []) #[false, false, false, false, false, false, false, false, false, false, false, false] (by kernel_rfl) rfl rfl ⟨((blk_cell BQ.out 0).trans rfl), ((blk_cell BK.out 0).trans rfl)⟩ (fun hHeld => ?_)
  generalize w.drew = wD_ at BF BM BC BQ BK HB hHeld ⊢
  refine pure_ (i := 0) (N := some 5) (v := ?_) (a' := ?_) #[true, false, false, false, false, false, false, false, false, false, false, false] rfl rfl (by kernel_rfl) (fun _ _ _ h => h) (Or.inl ⟨by rfl, ?_⟩) ?_ ?_
  rotate_left
  ·intro w'
   go_simp
   with_reducible rfl
  rotate_left
  ·simp only [Act.put, List.setIfInBounds_toArray, List.set_cons_zero, List.set_cons_succ, i64_w, i32_w]
   rfl
  refine take_ (i := 2) (N := some 7) (v := ?_) (a' := ?_) #[true, false, true, false, false, false, false, false, false, false, false, false] rfl rfl (by kernel_rfl) (fun _ _ _ h => h) (Or.inl ⟨by rfl, ?_⟩) hHeld ?_ ?_
  rotate_left
  ·rintro w' ⟨s0, s1⟩
   go_simp
   with_reducible rfl
  rotate_left
  ·simp only [Act.put, List.setIfInBounds_toArray, List.set_cons_zero, List.set_cons_succ, i64_w, i32_w]
   rfl
  refine one_ (i := 1) (N := some 6) #[true, true, true, false, false, false, false, false, false, false, false, false] rfl rfl (by kernel_rfl) (by decide) (fun K hK => ?_)
  refine goes_ Try.func64 (by kernel_rfl) rfl #[.int .i64 s] (by rfl) rfl rfl (by (try simp only [List.map_toArray, List.map_cons, List.map_nil]); first | done | rfl) ?_
  with_reducible refine (impl_CountOf.calls s t _ HT.out).mono ?_
  rintro e w' ⟨rfl, ⟨nd1, rfl⟩⟩
  refine ⟨_, rfl, ?_⟩
  have n_BF : Aside0 ((wD_.drewN nd1).heap[gf]? = some (.cells #[(.int .i64 full)] 3 (0, 0))) := ⟨pk BF.out⟩
  have n_BM : Aside0 ((wD_.drewN nd1).heap[gm]? = some (.cells #[(.int .i64 n), (.slice A l.length c)] 26 (0, 0))) := ⟨pk BM.out⟩
  have n_BC : Aside0 ((wD_.drewN nd1).heap[gc]? = some (.cells #[(.slice A' cut.length c')] 22 (0, 0))) := ⟨pk BC.out⟩
  have n_BQ : Aside0 ((wD_.drewN nd1).heap[gq]? = some (.cells #[(.int .i64 r)] 3 (0, 0))) := ⟨pk BQ.out⟩
  have n_BK : Aside0 ((wD_.drewN nd1).heap[gk]? = some (.cells #[(.func (.func 95) #[] #[.pointer (some ⟨gf, 0, none⟩), .pointer (some ⟨gm, 0, none⟩), .pointer (some ⟨gc, 0, none⟩)])] 61 (0, 0))) := ⟨pk BK.out⟩
  have n_HB : Aside0 (Below w.heap.size w (wD_.drewN nd1)) := ⟨(pB HB.out)⟩
  clear BF
  have BF := n_BF
  clear n_BF
  clear BM
  have BM := n_BM
  clear n_BM
  clear BC
  have BC := n_BC
  clear n_BC
  clear BQ
  have BQ := n_BQ
  clear n_BQ
  clear BK
  have BK := n_BK
  clear n_BK
  clear HB
  have HB := n_HB
  clear n_HB
  refine hK.out _ _ ⟨((blk_cell BQ.out 0).trans rfl), ((blk_cell BK.out 0).trans rfl)⟩ (fun hHeld => ?_)
  clear hK K
  refine norm_ (a' := ?_) ?_ ?_
  rotate_left
  ·show Act.put _ (some 6) _ = _
   simp only [Act.put, List.setIfInBounds_toArray, List.set_cons_zero, List.set_cons_succ, i64_w, i32_w]
   rfl
  refine pure_ (i := 3) (N := some 8) (v := ?_) (a' := ?_) #[true, true, true, true, false, false, false, false, false, false, false, false] rfl rfl (by kernel_rfl) (fun _ _ _ h => h) (Or.inl ⟨by rfl, ?_⟩) ?_ ?_
  rotate_left
  ·intro w'
   go_simp
   with_reducible rfl
  rotate_left
  ·simp only [Act.put, List.setIfInBounds_toArray, List.set_cons_zero, List.set_cons_succ, i64_w, i32_w]
   rfl
  refine pure_ (i := 4) (N := some 9) (v := ?_) (a' := ?_) #[true, true, true, true, true, false, false, false, false, false, false, false] rfl rfl (by kernel_rfl) (fun _ _ _ h => h) (Or.inl ⟨by rfl, ?_⟩) ?_ ?_
  rotate_left
  ·intro w'
   go_simp
   with_reducible rfl
  rotate_left
  ·simp only [Act.put, List.setIfInBounds_toArray, List.set_cons_zero, List.set_cons_succ, i64_w, i32_w]
   rfl
  refine pure_ (i := 6) (N := some 11) (v := ?_) (a' := ?_) #[true, true, true, true, true, false, true, false, false, false, false, false] rfl rfl (by kernel_rfl) (fun _ _ _ h => h) (Or.inl ⟨by rfl, ?_⟩) ?_ ?_
  rotate_left
  ·intro w'
   go_simp
   with_reducible rfl
  rotate_left
  ·simp only [Act.put, List.setIfInBounds_toArray, List.set_cons_zero, List.set_cons_succ, i64_w, i32_w]
   rfl
  refine take_ (i := 5) (N := some 10) (v := ?_) (a' := ?_) #[true, true, true, true, true, true, true, false, false, false, false, false] rfl rfl (by kernel_rfl) (fun _ _ _ h => h) (Or.inl ⟨by rfl, ?_⟩) hHeld ?_ ?_
  rotate_left
  ·rintro w' ⟨s0, s1⟩
   go_simp
   with_reducible rfl
  rotate_left
  ·simp only [Act.put, List.setIfInBounds_toArray, List.set_cons_zero, List.set_cons_succ, i64_w, i32_w]
   rfl
  refine take_ (i := 8) (N := some 13) (v := ?_) (a' := ?_) #[true, true, true, true, true, true, true, false, true, false, false, false] rfl rfl (by kernel_rfl) (fun _ _ _ h => h) (Or.inl ⟨by rfl, ?_⟩) hHeld ?_ ?_
  rotate_left
  ·rintro w' ⟨s0, s1⟩
   go_simp
   with_reducible rfl
  rotate_left
  ·simp only [Act.put, List.setIfInBounds_toArray, List.set_cons_zero, List.set_cons_succ, i64_w, i32_w]
   rfl
  refine one_ (i := 7) (N := some 12) #[true, true, true, true, true, true, true, true, true, false, false, false] rfl rfl (by kernel_rfl) (by decide) (fun K hK => ?_)
  refine goesF_ Try.func95 (by kernel_rfl) rfl #[.int .i64 s] #[.pointer (some ⟨gf, 0, none⟩), .pointer (some ⟨gm, 0, none⟩), .pointer (some ⟨gc, 0, none⟩)] (by rfl) rfl rfl (by rfl) (by (try simp only [List.map_toArray, List.map_cons, List.map_nil]); first | done | rfl) ?_
  refine (calls_of_args (by simp) (Extend1_walk k n A c l A' c' cut full s u gf gm gc _ (Kd.C_below HR.out HB.out) HC.out (Kd.C_below HR2.out HB.out) HC2.out BF.out BM.out BC.out HU.out)).mono ?_
  rintro e w7_ ⟨rfl, hb⟩
  refine ⟨_, rfl, ?_⟩
  have n_BF := aQ (blk_below (g := gf) (o := .cells #[(.int .i64 full)] 3 (0, 0)) (pk BF.out) hb)
  have n_BM := aQ (blk_below (g := gm) (o := .cells #[(.int .i64 n), (.slice A l.length c)] 26 (0, 0)) (pk BM.out) hb)
  have n_BC := aQ (blk_below (g := gc) (o := .cells #[(.slice A' cut.length c')] 22 (0, 0)) (pk BC.out) hb)
  have n_BQ := aQ (blk_below (g := gq) (o := .cells #[(.int .i64 r)] 3 (0, 0)) (pk BQ.out) hb)
  have n_BK := aQ (blk_below (g := gk) (o := .cells #[(.func (.func 95) #[] #[.pointer (some ⟨gf, 0, none⟩), .pointer (some ⟨gm, 0, none⟩), .pointer (some ⟨gc, 0, none⟩)])] 61 (0, 0)) (pk BK.out) hb)
  have n_HB := aQ (below_step (pB HB.out) hb)
  clear HB
  clear BF
  have BF := n_BF
  clear n_BF
  clear BM
  have BM := n_BM
  clear n_BM
  clear BC
  have BC := n_BC
  clear n_BC
  clear BQ
  have BQ := n_BQ
  clear n_BQ
  clear BK
  have BK := n_BK
  clear n_BK
  have HB := n_HB
  clear n_HB
  clear hb
  refine hK.out _ _ ⟨((blk_cell BQ.out 0).trans rfl), ((blk_cell BK.out 0).trans rfl)⟩ (fun hHeld => ?_)
  clear hK K
  refine norm_ (a' := ?_) ?_ ?_
  rotate_left
  ·show Act.put _ (some 12) _ = _
   simp only [Act.put, List.setIfInBounds_toArray, List.set_cons_zero, List.set_cons_succ, i64_w, i32_w]
   rfl
  refine pure_ (i := 9) (N := some 14) (v := ?_) (a' := ?_) #[true, true, true, true, true, true, true, true, true, true, false, false] rfl rfl (by kernel_rfl) (fun _ _ _ h => h) (Or.inl ⟨by rfl, ?_⟩) ?_ ?_
  rotate_left
  ·intro w'
   go_simp
   with_reducible rfl
  rotate_left
  ·simp only [Act.put, List.setIfInBounds_toArray, List.set_cons_zero, List.set_cons_succ, i64_w, i32_w]
   rfl
  refine pure_ (i := 10) (N := some 15) (v := ?_) (a' := ?_) #[true, true, true, true, true, true, true, true, true, true, true, false] rfl rfl (by kernel_rfl) (fun _ _ _ h => h) (Or.inl ⟨by rfl, ?_⟩) ?_ ?_
  rotate_left
  ·intro w'
   go_simp
   with_reducible rfl
  rotate_left
  ·simp only [Act.put, List.setIfInBounds_toArray, List.set_cons_zero, List.set_cons_succ, i64_w, i32_w]
   rfl
  refine pure_ (i := 11) (N := some 4) (v := ?_) (a' := ?_) #[true, true, true, true, true, true, true, true, true, true, true, true] rfl rfl (by kernel_rfl) (fun _ _ _ h => h) (Or.inl ⟨by rfl, ?_⟩) ?_ ?_
  rotate_left
  ·intro w'
   go_simp
   with_reducible rfl
  rotate_left
  ·simp only [Act.put, List.setIfInBounds_toArray, List.set_cons_zero, List.set_cons_succ, i64_w, i32_w]
   rfl
  refine done_ (by kernel_rfl) ?_
  go_wp2
  go_ret
  exact ⟨rs_, (pB HB.out)⟩
 ·rw [if_neg c3] at h
  simp only [Option.some.injEq] at h
  subst h
  have c4 : (t == r) = false := by rw [Bool.eq_false_iff]; exact fun h_ => c3 (beq_iff_eq.1 h_)
  clear c3
  go_enter Try.func99, Try.ntmps99
  go_wp2
  have n_BF : Aside0 (w.drew.heap[gf]? = some (.cells #[(.int .i64 full)] 3 (0, 0))) := ⟨pk BF.out⟩
  have n_BM : Aside0 (w.drew.heap[gm]? = some (.cells #[(.int .i64 n), (.slice A l.length c)] 26 (0, 0))) := ⟨pk BM.out⟩
  have n_BC : Aside0 (w.drew.heap[gc]? = some (.cells #[(.slice A' cut.length c')] 22 (0, 0))) := ⟨pk BC.out⟩
  have n_BQ : Aside0 (w.drew.heap[gq]? = some (.cells #[(.int .i64 r)] 3 (0, 0))) := ⟨pk BQ.out⟩
  have n_BK : Aside0 (w.drew.heap[gk]? = some (.cells #[(.func (.func 95) #[] #[.pointer (some ⟨gf, 0, none⟩), .pointer (some ⟨gm, 0, none⟩), .pointer (some ⟨gc, 0, none⟩)])] 61 (0, 0))) := ⟨pk BK.out⟩
  have n_HB : Aside0 (Below w.heap.size w w.drew) := ⟨(pB HB.out)⟩
  clear BF
  have BF := n_BF
  clear n_BF
  clear BM
  have BM := n_BM
  clear n_BM
  clear BC
  have BC := n_BC
  clear n_BC
  clear BQ
  have BQ := n_BQ
  clear n_BQ
  clear BK
  have BK := n_BK
  clear n_BK
  clear HB
  have HB := n_HB
  clear n_HB
  refine start_ (n := 12) (S := fun w' => w'.cell? ⟨gq, 0, none⟩ = some (.int .i64 r) ∧ w'.cell? ⟨gk, 0, none⟩ = some (.func (.func 95) #[] #[.pointer (some ⟨gf, 0, none⟩), .pointer (some ⟨gm, 0, none⟩), .pointer (some ⟨gc, 0, none⟩)])) (ds := []) #[false, false, false, false, false, false, false, false, false, false, false, false] (by kernel_rfl) rfl rfl ⟨((blk_cell BQ.out 0).trans rfl), ((blk_cell BK.out 0).trans rfl)⟩ (fun hHeld => ?_)
  generalize w.drew = wD_ at BF BM BC BQ BK HB hHeld ⊢
  refine pure_ (i := 0) (N := some 5) (v := ?_) (a' := ?_) #[true, false, false, false, false, false, false, false, false, false, false, false] rfl rfl (by kernel_rfl) (fun _ _ _ h => h) (Or.inl ⟨by rfl, ?_⟩) ?_ ?_
  rotate_left
  ·intro w'
   go_simp
   with_reducible rfl
  rotate_left
  ·simp only [Act.put, List.setIfInBounds_toArray, List.set_cons_zero, List.set_cons_succ, i64_w, i32_w]
   rfl
  refine take_ (i := 2) (N := some 7) (v := ?_) (a' := ?_) #[true, false, true, false, false, false, false, false, false, false, false, false] rfl rfl (by kernel_rfl) (fun _ _ _ h => h) (Or.inl ⟨by rfl, ?_⟩) hHeld ?_ ?_
  rotate_left
  ·rintro w' ⟨s0, s1⟩
   go_simp
   with_reducible rfl
  rotate_left
  ·simp only [Act.put, List.setIfInBounds_toArray, List.set_cons_zero, List.set_cons_succ, i64_w, i32_w]
   rfl
  refine one_ (i := 1) (N := some 6) #[true, true, true, false, false, false, false, false, false, false, false, false] rfl rfl (by kernel_rfl) (by decide) (fun K hK => ?_)
  refine goes_ Try.func64 (by kernel_rfl) rfl #[.int .i64 s] (by rfl) rfl rfl (by (try simp only [List.map_toArray, List.map_cons, List.map_nil]); first | done | rfl) ?_
  with_reducible refine (impl_CountOf.calls s t _ HT.out).mono ?_
  rintro e w' ⟨rfl, ⟨nd1, rfl⟩⟩
  refine ⟨_, rfl, ?_⟩
  have n_BF : Aside0 ((wD_.drewN nd1).heap[gf]? = some (.cells #[(.int .i64 full)] 3 (0, 0))) := ⟨pk BF.out⟩
  have n_BM : Aside0 ((wD_.drewN nd1).heap[gm]? = some (.cells #[(.int .i64 n), (.slice A l.length c)] 26 (0, 0))) := ⟨pk BM.out⟩
  have n_BC : Aside0 ((wD_.drewN nd1).heap[gc]? = some (.cells #[(.slice A' cut.length c')] 22 (0, 0))) := ⟨pk BC.out⟩
  have n_BQ : Aside0 ((wD_.drewN nd1).heap[gq]? = some (.cells #[(.int .i64 r)] 3 (0, 0))) := ⟨pk BQ.out⟩
  have n_BK : Aside0 ((wD_.drewN nd1).heap[gk]? = some (.cells #[(.func (.func 95) #[] #[.pointer (some ⟨gf, 0, none⟩), .pointer (some ⟨gm, 0, none⟩), .pointer (some ⟨gc, 0, none⟩)])] 61 (0, 0))) := ⟨pk BK.out⟩
  have n_HB : Aside0 (Below w.heap.size w (wD_.drewN nd1)) := ⟨(pB HB.out)⟩
  clear BF
  have BF := n_BF
  clear n_BF
  clear BM
  have BM := n_BM
  clear n_BM
  clear BC
  have BC := n_BC
  clear n_BC
  clear BQ
  have BQ := n_BQ
  clear n_BQ
  clear BK
  have BK := n_BK
  clear n_BK
  clear HB
  have HB := n_HB
  clear n_HB
  refine hK.out _ _ ⟨((blk_cell BQ.out 0).trans rfl), ((blk_cell BK.out 0).trans rfl)⟩ (fun hHeld => ?_)
  clear hK K
  refine norm_ (a' := ?_) ?_ ?_
  rotate_left
  ·show Act.put _ (some 6) _ = _
   simp only [Act.put, List.setIfInBounds_toArray, List.set_cons_zero, List.set_cons_succ, i64_w, i32_w]
   rfl
  refine pure_ (i := 3) (N := some 8) (v := ?_) (a' := ?_) #[true, true, true, true, false, false, false, false, false, false, false, false] rfl rfl (by kernel_rfl) (fun _ _ _ h => h) (Or.inl ⟨by rfl, ?_⟩) ?_ ?_
  rotate_left
  ·intro w'
   go_simp
   with_reducible rfl
  rotate_left
  ·simp only [Act.put, List.setIfInBounds_toArray, List.set_cons_zero, List.set_cons_succ, i64_w, i32_w]
   rfl
  refine pure_ (i := 4) (N := some 9) (v := ?_) (a' := ?_) #[true, true, true, true, true, false, false, false, false, false, false, false] rfl rfl (by kernel_rfl) (fun _ _ _ h => h) (Or.inl ⟨by rfl, ?_⟩) ?_ ?_
  rotate_left
  ·intro w'
   go_simp
   with_reducible rfl
  rotate_left
  ·simp only [Act.put, List.setIfInBounds_toArray, List.set_cons_zero, List.set_cons_succ, i64_w, i32_w]
   rfl
  refine pure_ (i := 5) (N := some 10) (v := undef) (a' := ?_) #[true, true, true, true, true, true, false, false, false, false, false, false] rfl rfl (by kernel_rfl) (fun _ _ _ h => h) (Or.inr ⟨by rfl, rfl⟩) ?_ ?_
  rotate_left
  ·simp only [Act.put, List.setIfInBounds_toArray, List.set_cons_zero, List.set_cons_succ, i64_w, i32_w]
   rfl
  refine pure_ (i := 6) (N := some 11) (v := undef) (a' := ?_) #[true, true, true, true, true, true, true, false, false, false, false, false] rfl rfl (by kernel_rfl) (fun _ _ _ h => h) (Or.inr ⟨by rfl, rfl⟩) ?_ ?_
  rotate_left
  ·simp only [Act.put, List.setIfInBounds_toArray, List.set_cons_zero, List.set_cons_succ, i64_w, i32_w]
   rfl
  refine pure_ (i := 7) (N := some 12) (v := undef) (a' := ?_) #[true, true, true, true, true, true, true, true, false, false, false, false] rfl rfl (by kernel_rfl) (fun _ _ _ h => h) (Or.inr ⟨by rfl, rfl⟩) ?_ ?_
  rotate_left
  ·simp only [Act.put, List.setIfInBounds_toArray, List.set_cons_zero, List.set_cons_succ, i64_w, i32_w]
   rfl
  refine pure_ (i := 8) (N := some 13) (v := undef) (a' := ?_) #[true, true, true, true, true, true, true, true, true, false, false, false] rfl rfl (by kernel_rfl) (fun _ _ _ h => h) (Or.inr ⟨by rfl, rfl⟩) ?_ ?_
  rotate_left
  ·simp only [Act.put, List.setIfInBounds_toArray, List.set_cons_zero, List.set_cons_succ, i64_w, i32_w]
   rfl
  refine pure_ (i := 9) (N := some 14) (v := undef) (a' := ?_) #[true, true, true, true, true, true, true, true, true, true, false, false] rfl rfl (by kernel_rfl) (fun _ _ _ h => h) (Or.inr ⟨by rfl, rfl⟩) ?_ ?_
  rotate_left
  ·simp only [Act.put, List.setIfInBounds_toArray, List.set_cons_zero, List.set_cons_succ, i64_w, i32_w]
   rfl
  refine pure_ (i := 10) (N := some 15) (v := ?_) (a' := ?_) #[true, true, true, true, true, true, true, true, true, true, true, false] rfl rfl (by kernel_rfl) (fun _ _ _ h => h) (Or.inl ⟨by rfl, ?_⟩) ?_ ?_
  rotate_left
  ·intro w'
   go_simp
   with_reducible rfl
  rotate_left
  ·simp only [Act.put, List.setIfInBounds_toArray, List.set_cons_zero, List.set_cons_succ, i64_w, i32_w]
   rfl
  refine pure_ (i := 11) (N := some 4) (v := ?_) (a' := ?_) #[true, true, true, true, true, true, true, true, true, true, true, true] rfl rfl (by kernel_rfl) (fun _ _ _ h => h) (Or.inl ⟨by rfl, ?_⟩) ?_ ?_
  rotate_left
  ·intro w'
   go_simp
   with_reducible rfl
  rotate_left
  ·simp only [Act.put, List.setIfInBounds_toArray, List.set_cons_zero, List.set_cons_succ, i64_w, i32_w]
   rfl
  refine done_ (by kernel_rfl) ?_
  go_wp2
  go_ret
  exact ⟨rs_, (pB HB.out)⟩
set_option maxHeartbeats 4000000 in
set_option maxRecDepth 100000 in
theorem impl_Extend.calls (k : Nat) (a0_0 : Int) (A0_1 : Option Addr) (c0_1 : Nat) (l0_1 : List Int) (A1 : Option Addr) (c1 : Nat) (l1 : List Int) (r1 : Int) (r2 : List Int) (r3 : Bool) (w : World) (hr0_1 : Kd.C (Kd.int .i64) w A0_1 l0_1.length l0_1) (hc0_1 : l0_1.length ≤ c0_1) (hr1 : Kd.C (Kd.int .i64) w A1 l1.length l1) (hc1 : l1.length ≤ c1) (h : impl_Extend.f k a0_0 l0_1 l1 = some (r1, r2, r3)) :
  Calls Try.prog 40 #[.agg #[.int .i64 a0_0, .slice A0_1 l0_1.length c0_1], .slice A1 l1.length c1] w fun e w' => ∃ v1_ : Value, e = .returned (.tuple #[.agg #[.int .i64 r1, v1_], .bool r3]) ∧ Kd.R (Kd.int .i64) 3 w' w.heap.size (fun _ => True) v1_ r2 ∧ Below w.heap.size w w' := by
 have hu := Try.underlying26
 have HR := aQ hr0_1
 have HC := aQ hc0_1
 have HR2 := aQ hr1
 have HC2 := aQ hc1
 have HB := aQ (Below.refl w.heap.size w)
 clear hr0_1 hc0_1 hr1 hc1
 have EG := aQ (show ∀ args w, (callFunc 99 args).run Try.prog w = .ok (.enter 99 args) w from runs_of Try.func99 (by kernel_rfl) rfl)
 unfold impl_Extend.f at h
 by_cases c8 : a0_0 = 8
 ·rw [if_pos c8] at h
  simp only [Option.some.injEq, Prod.mk.injEq] at h
  obtain ⟨rfl, rfl, rfl⟩ := h
  have l8 : (a0_0 == 8) = true := beq_iff_eq.2 c8
  clear c8
  go_enter Try.func40, Try.ntmps40
  go_wp2_with (first | ((with_reducible refine gate_dst (N := 2) rfl ?_); refine box_event ?hg (N := 2) ?hd (cs := #[(.int .i64 a0_0), (.slice A0_1 l0_1.length c0_1)]) (t := 26) ?hr ?_; (case hd => rfl); (case hg => rfl); (case hr => first | (go_simp; done) | (go_simp; rfl)); intro gm hg wa_ hbox hb; have GBM := aQ ((by rw [hg]; exact below_size (pB HB.out)) : w.heap.size ≤ gm); replace HB := aQ (below_step (pB HB.out) hb); have BM := aQ hbox; clear hb hbox hg; have zBM0 : wa_.cell? ⟨gm, 0, none⟩ = some (.int .i64 a0_0) := (blk_cell BM.out 0).trans rfl; have zBM1 : wa_.cell? ⟨gm, 1, none⟩ = some (.slice A0_1 l0_1.length c0_1) := (blk_cell BM.out 1).trans rfl) | ((with_reducible refine gate_dst (N := 3) rfl ?_); refine box_event ?hg (N := 3) ?hd (cs := #[(.slice A1 l1.length c1)]) (t := 22) ?hr ?_; (case hd => rfl); (case hg => rfl); (case hr => first | (go_simp; done) | (go_simp; rfl)); intro gc hg wb_ hbox hb; have NBMBC := aQ ((by rw [hg]; exact Nat.ne_of_lt (blk_lt (g := gm) (o := .cells #[(.int .i64 a0_0), (.slice A0_1 l0_1.length c0_1)] 26 (0, 0)) (pk BM.out))) : gm ≠ gc); have GBC := aQ ((by rw [hg]; exact below_size (by repeat (first | (with_reducible first | exact HB.out | apply below_alloc | apply pw_below_drewN | apply below_drew1 | refine below_set ?_ GBM.out) | exact HB.out))) : w.heap.size ≤ gc); have n_BM := aQ (blk_below (g := gm) (o := .cells #[(.int .i64 a0_0), (.slice A0_1 l0_1.length c0_1)] 26 (0, 0)) (pk BM.out) hb); have n_HB := aQ (below_step (by repeat (first | (with_reducible first | exact HB.out | apply below_alloc | apply pw_below_drewN | apply below_drew1 | refine below_set ?_ GBM.out) | exact HB.out)) hb); clear HB; clear BM; have BM := n_BM; clear n_BM; have HB := n_HB; clear n_HB; have BC := aQ hbox; clear hb hbox hg; have zBM0 : wb_.cell? ⟨gm, 0, none⟩ = some (.int .i64 a0_0) := (blk_cell BM.out 0).trans rfl; have zBM1 : wb_.cell? ⟨gm, 1, none⟩ = some (.slice A0_1 l0_1.length c0_1) := (blk_cell BM.out 1).trans rfl; have zBC0 : wb_.cell? ⟨gc, 0, none⟩ = some (.slice A1 l1.length c1) := (blk_cell BC.out 0).trans rfl) | ((with_reducible refine gate_dst (N := 4) rfl ?_); refine box_event ?hg (N := 4) ?hd (cs := #[(.int .i64 0), (.slice none 0 0)]) (t := 26) ?hr ?_; (case hd => rfl); (case hg => rfl); (case hr => first | (go_simp; done) | (go_simp; rfl)); intro gr hg wc_ hbox hb; have NBMBR := aQ ((by rw [hg]; exact Nat.ne_of_lt (blk_lt (g := gm) (o := .cells #[(.int .i64 a0_0), (.slice A0_1 l0_1.length c0_1)] 26 (0, 0)) (pk BM.out))) : gm ≠ gr); have NBCBR := aQ ((by rw [hg]; exact Nat.ne_of_lt (blk_lt (g := gc) (o := .cells #[(.slice A1 l1.length c1)] 22 (0, 0)) (pk BC.out))) : gc ≠ gr); have GBR := aQ ((by rw [hg]; exact below_size (by repeat (first | (with_reducible first | exact HB.out | apply below_alloc | apply pw_below_drewN | apply below_drew1 | refine below_set ?_ GBM.out | refine below_set ?_ GBC.out) | exact HB.out))) : w.heap.size ≤ gr); have n_BM := aQ (blk_below (g := gm) (o := .cells #[(.int .i64 a0_0), (.slice A0_1 l0_1.length c0_1)] 26 (0, 0)) (pk BM.out) hb); have n_BC := aQ (blk_below (g := gc) (o := .cells #[(.slice A1 l1.length c1)] 22 (0, 0)) (pk BC.out) hb); have n_HB := aQ (below_step (by repeat (first | (with_reducible first | exact HB.out | apply below_alloc | apply pw_below_drewN | apply below_drew1 | refine below_set ?_ GBM.out | refine below_set ?_ GBC.out) | exact HB.out)) hb); clear HB; clear BM; have BM := n_BM; clear n_BM; clear BC; have BC := n_BC; clear n_BC; have HB := n_HB; clear n_HB; have BR := aQ hbox; clear hb hbox hg; have zBM0 : wc_.cell? ⟨gm, 0, none⟩ = some (.int .i64 a0_0) := (blk_cell BM.out 0).trans rfl; have zBM1 : wc_.cell? ⟨gm, 1, none⟩ = some (.slice A0_1 l0_1.length c0_1) := (blk_cell BM.out 1).trans rfl; have zBC0 : wc_.cell? ⟨gc, 0, none⟩ = some (.slice A1 l1.length c1) := (blk_cell BC.out 0).trans rfl; have zBR0 : wc_.cell? ⟨gr, 0, none⟩ = some (.int .i64 0) := (blk_cell BR.out 0).trans rfl; have zBR1 : wc_.cell? ⟨gr, 1, none⟩ = some (.slice none 0 0) := (blk_cell BR.out 1).trans rfl; have hf0BR := blk_frozen BR.out 0; have hf1BR := blk_frozen BR.out 1))
  refine bodyPost_ret (results_ct rfl _ _ gr 26 #[(.int .i64 0), (.slice none 0 0)] (0, 0) _ rfl (by (with_reducible repeat (first | refine blk_drewN ?_ _ | refine blk_drew ?_ | refine blk_alloc ?_ _)); refine blk_put (cs := #[(.int .i64 0), (.slice none 0 0)]) ?_ 1 _ rfl; (with_reducible repeat (first | refine blk_drewN ?_ _ | refine blk_drew ?_ | refine blk_alloc ?_ _)); refine blk_put (cs := #[(.int .i64 0), (.slice none 0 0)]) ?_ 0 _ rfl; (with_reducible repeat (first | refine blk_drewN ?_ _ | refine blk_drew ?_ | refine blk_alloc ?_ _)); exact BR.out) Try.underlying26 rfl (by kernel_rfl)) rfl ?_
  exact ⟨_, rs_, Kd.R_nil _ _ _ _ _, (by repeat (first | (with_reducible first | exact HB.out | apply below_alloc | apply pw_below_drewN | apply below_drew1 | refine below_set ?_ GBM.out | refine below_set ?_ GBC.out | refine below_set ?_ GBR.out) | exact HB.out))⟩
 ·rw [if_neg c8] at h
  have l8 : (a0_0 == 8) = false := by rw [Bool.eq_false_iff]; exact fun h_ => c8 (beq_iff_eq.1 h_)
  clear c8
  obtain ⟨t, hT, h⟩ := Option.bind_eq_some_iff.1 h
  have HT := aQ hT
  clear hT
  by_cases c3 : t = true
  ·subst c3
   rw [if_pos rfl] at h
   obtain ⟨full, hF0, h⟩ := Option.bind_eq_some_iff.1 h
   obtain ⟨m, hF, h⟩ := Option.bind_eq_some_iff.1 h
   by_cases hm : 0 ≤ m ∧ m ≤ 1000
   ·rw [if_pos hm] at h
    obtain ⟨r, hU, h⟩ := Option.bind_eq_some_iff.1 h
    obtain ⟨y, hS, h⟩ := Option.bind_eq_some_iff.1 h
    simp only [Option.some.injEq, Prod.mk.injEq] at h
    obtain ⟨rfl, rfl, rfl⟩ := h
    have HF0 := aQ hF0
    have HF := aQ hF
    have HM := aQ hm
    have HU := Lib.hid hU
    have HS := Lib.hid hS
    clear hF0 hF hm hU hS
    go_enter Try.func40, Try.ntmps40
    go_wp2_with (first | ((with_reducible refine gate_dst (N := 2) rfl ?_); refine box_event ?hg (N := 2) ?hd (cs := #[(.int .i64 a0_0), (.slice A0_1 l0_1.length c0_1)]) (t := 26) ?hr ?_; (case hd => rfl); (case hg => rfl); (case hr => first | (go_simp; done) | (go_simp; rfl)); intro gm hg wa_ hbox hb; have GBM := aQ ((by rw [hg]; exact below_size (pB HB.out)) : w.heap.size ≤ gm); replace HB := aQ (below_step (pB HB.out) hb); have BM := aQ hbox; clear hb hbox hg; have zBM0 : wa_.cell? ⟨gm, 0, none⟩ = some (.int .i64 a0_0) := (blk_cell BM.out 0).trans rfl; have zBM1 : wa_.cell? ⟨gm, 1, none⟩ = some (.slice A0_1 l0_1.length c0_1) := (blk_cell BM.out 1).trans rfl) | ((with_reducible refine gate_dst (N := 3) rfl ?_); refine box_event ?hg (N := 3) ?hd (cs := #[(.slice A1 l1.length c1)]) (t := 22) ?hr ?_; (case hd => rfl); (case hg => rfl); (case hr => first | (go_simp; done) | (go_simp; rfl)); intro gc hg wb_ hbox hb; have NBMBC := aQ ((by rw [hg]; exact Nat.ne_of_lt (blk_lt (g := gm) (o := .cells #[(.int .i64 a0_0), (.slice A0_1 l0_1.length c0_1)] 26 (0, 0)) (pk BM.out))) : gm ≠ gc); have GBC := aQ ((by rw [hg]; exact below_size (by repeat (first | (with_reducible first | exact HB.out | apply below_alloc | apply pw_below_drewN | apply below_drew1 | refine below_set ?_ GBM.out) | exact HB.out))) : w.heap.size ≤ gc); have n_BM := aQ (blk_below (g := gm) (o := .cells #[(.int .i64 a0_0), (.slice A0_1 l0_1.length c0_1)] 26 (0, 0)) (pk BM.out) hb); have n_HB := aQ (below_step (by repeat (first | (with_reducible first | exact HB.out | apply below_alloc | apply pw_below_drewN | apply below_drew1 | refine below_set ?_ GBM.out) | exact HB.out)) hb); clear HB; clear BM; have BM := n_BM; clear n_BM; have HB := n_HB; clear n_HB; have BC := aQ hbox; clear hb hbox hg; have zBM0 : wb_.cell? ⟨gm, 0, none⟩ = some (.int .i64 a0_0) := (blk_cell BM.out 0).trans rfl; have zBM1 : wb_.cell? ⟨gm, 1, none⟩ = some (.slice A0_1 l0_1.length c0_1) := (blk_cell BM.out 1).trans rfl; have zBC0 : wb_.cell? ⟨gc, 0, none⟩ = some (.slice A1 l1.length c1) := (blk_cell BC.out 0).trans rfl) | ((with_reducible refine gate_dst (N := 4) rfl ?_); refine box_event ?hg (N := 4) ?hd (cs := #[(.int .i64 0), (.slice none 0 0)]) (t := 26) ?hr ?_; (case hd => rfl); (case hg => rfl); (case hr => first | (go_simp; done) | (go_simp; rfl)); intro gr hg wc_ hbox hb; have NBMBR := aQ ((by rw [hg]; exact Nat.ne_of_lt (blk_lt (g := gm) (o := .cells #[(.int .i64 a0_0), (.slice A0_1 l0_1.length c0_1)] 26 (0, 0)) (pk BM.out))) : gm ≠ gr); have NBCBR := aQ ((by rw [hg]; exact Nat.ne_of_lt (blk_lt (g := gc) (o := .cells #[(.slice A1 l1.length c1)] 22 (0, 0)) (pk BC.out))) : gc ≠ gr); have GBR := aQ ((by rw [hg]; exact below_size (by repeat (first | (with_reducible first | exact HB.out | apply below_alloc | apply pw_below_drewN | apply below_drew1 | refine below_set ?_ GBM.out | refine below_set ?_ GBC.out) | exact HB.out))) : w.heap.size ≤ gr); have n_BM := aQ (blk_below (g := gm) (o := .cells #[(.int .i64 a0_0), (.slice A0_1 l0_1.length c0_1)] 26 (0, 0)) (pk BM.out) hb); have n_BC := aQ (blk_below (g := gc) (o := .cells #[(.slice A1 l1.length c1)] 22 (0, 0)) (pk BC.out) hb); have n_HB := aQ (below_step (by repeat (first | (with_reducible first | exact HB.out | apply below_alloc | apply pw_below_drewN | apply below_drew1 | refine below_set ?_ GBM.out | refine below_set ?_ GBC.out) | exact HB.out)) hb); clear HB; clear BM; have BM := n_BM; clear n_BM; clear BC; have BC := n_BC; clear n_BC; have HB := n_HB; clear n_HB; have BR := aQ hbox; clear hb hbox hg; have zBM0 : wc_.cell? ⟨gm, 0, none⟩ = some (.int .i64 a0_0) := (blk_cell BM.out 0).trans rfl; have zBM1 : wc_.cell? ⟨gm, 1, none⟩ = some (.slice A0_1 l0_1.length c0_1) := (blk_cell BM.out 1).trans rfl; have zBC0 : wc_.cell? ⟨gc, 0, none⟩ = some (.slice A1 l1.length c1) := (blk_cell BC.out 0).trans rfl; have zBR0 : wc_.cell? ⟨gr, 0, none⟩ = some (.int .i64 0) := (blk_cell BR.out 0).trans rfl; have zBR1 : wc_.cell? ⟨gr, 1, none⟩ = some (.slice none 0 0) := (blk_cell BR.out 1).trans rfl; have hf0BR := blk_frozen BR.out 0; have hf1BR := blk_frozen BR.out 1) | (go_at_call 93; (with_reducible refine (impl_IsModularCut.calls k a0_0 _ _ l0_1 _ _ l1 true _ ?side1 ?side2 ?side3 ?side4 HT.out).mono ?_); (case side1 => exact (Kd.C_below HR.out (by repeat (first | (with_reducible first | exact HB.out | apply below_alloc | apply pw_below_drewN | apply below_drew1 | refine below_set ?_ GBM.out | refine below_set ?_ GBC.out | refine below_set ?_ GBR.out) | exact HB.out)))); (case side2 => exact HC.out); (case side3 => exact (Kd.C_below HR2.out (by repeat (first | (with_reducible first | exact HB.out | apply below_alloc | apply pw_below_drewN | apply below_drew1 | refine below_set ?_ GBM.out | refine below_set ?_ GBC.out | refine below_set ?_ GBR.out) | exact HB.out)))); (case side4 => exact HC2.out); rintro e wd_ ⟨rfl, hb⟩; have n_BM := aQ (blk_below (g := gm) (o := .cells #[(.int .i64 a0_0), (.slice A0_1 l0_1.length c0_1)] 26 (0, 0)) (pk BM.out) hb); have n_BC := aQ (blk_below (g := gc) (o := .cells #[(.slice A1 l1.length c1)] 22 (0, 0)) (pk BC.out) hb); have n_BR := aQ (blk_below (g := gr) (o := .cells #[(.int .i64 0), (.slice none 0 0)] 26 (0, 0)) (pk BR.out) hb); have n_HB := aQ (below_step (by repeat (first | (with_reducible first | exact HB.out | apply below_alloc | apply pw_below_drewN | apply below_drew1 | refine below_set ?_ GBM.out | refine below_set ?_ GBC.out | refine below_set ?_ GBR.out) | exact HB.out)) hb); clear HB; clear BM; have BM := n_BM; clear n_BM; clear BC; have BC := n_BC; clear n_BC; clear BR; have BR := n_BR; clear n_BR; have HB := n_HB; clear n_HB; clear hb; have zBM0 : wd_.cell? ⟨gm, 0, none⟩ = some (.int .i64 a0_0) := (blk_cell BM.out 0).trans rfl; have zBM1 : wd_.cell? ⟨gm, 1, none⟩ = some (.slice A0_1 l0_1.length c0_1) := (blk_cell BM.out 1).trans rfl; have zBC0 : wd_.cell? ⟨gc, 0, none⟩ = some (.slice A1 l1.length c1) := (blk_cell BC.out 0).trans rfl; have zBR0 : wd_.cell? ⟨gr, 0, none⟩ = some (.int .i64 0) := (blk_cell BR.out 0).trans rfl; have zBR1 : wd_.cell? ⟨gr, 1, none⟩ = some (.slice none 0 0) := (blk_cell BR.out 1).trans rfl; have hf0BR := blk_frozen BR.out 0; have hf1BR := blk_frozen BR.out 1) | (go_at_call 94; (with_reducible refine (impl_FullSet.calls a0_0 full _ HF0.out).mono ?_); rintro e we_ ⟨rfl, ⟨nd, rfl⟩⟩; have zqBM0 : (wd_.drewN nd).cell? ⟨gm, 0, none⟩ = some (.int .i64 a0_0) := (blk_cell BM.out 0).trans rfl; have zqBM1 : (wd_.drewN nd).cell? ⟨gm, 1, none⟩ = some (.slice A0_1 l0_1.length c0_1) := (blk_cell BM.out 1).trans rfl; have zqBC0 : (wd_.drewN nd).cell? ⟨gc, 0, none⟩ = some (.slice A1 l1.length c1) := (blk_cell BC.out 0).trans rfl; have zqBR0 : (wd_.drewN nd).cell? ⟨gr, 0, none⟩ = some (.int .i64 0) := (blk_cell BR.out 0).trans rfl; have zqBR1 : (wd_.drewN nd).cell? ⟨gr, 1, none⟩ = some (.slice none 0 0) := (blk_cell BR.out 1).trans rfl) | ((with_reducible refine gate_dst (N := 6) rfl ?_); refine box_event ?hg (N := 6) ?hd (cs := #[(.int .i64 0)]) (t := 3) ?hr ?_; (case hd => rfl); (case hg => rfl); (case hr => first | (go_simp; done) | (go_simp; rfl)); intro gf hg wf_ hbox hb; have NBMBF := aQ ((by rw [hg]; exact Nat.ne_of_lt (blk_lt (g := gm) (o := .cells #[(.int .i64 a0_0), (.slice A0_1 l0_1.length c0_1)] 26 (0, 0)) (pk BM.out))) : gm ≠ gf); have NBCBF := aQ ((by rw [hg]; exact Nat.ne_of_lt (blk_lt (g := gc) (o := .cells #[(.slice A1 l1.length c1)] 22 (0, 0)) (pk BC.out))) : gc ≠ gf); have NBRBF := aQ ((by rw [hg]; exact Nat.ne_of_lt (blk_lt (g := gr) (o := .cells #[(.int .i64 0), (.slice none 0 0)] 26 (0, 0)) (pk BR.out))) : gr ≠ gf); have GBF := aQ ((by rw [hg]; exact below_size (by repeat (first | (with_reducible first | exact HB.out | apply below_alloc | apply pw_below_drewN | apply below_drew1 | refine below_set ?_ GBM.out | refine below_set ?_ GBC.out | refine below_set ?_ GBR.out) | exact HB.out))) : w.heap.size ≤ gf); have n_BM := aQ (blk_below (g := gm) (o := .cells #[(.int .i64 a0_0), (.slice A0_1 l0_1.length c0_1)] 26 (0, 0)) (pk BM.out) hb); have n_BC := aQ (blk_below (g := gc) (o := .cells #[(.slice A1 l1.length c1)] 22 (0, 0)) (pk BC.out) hb); have n_BR := aQ (blk_below (g := gr) (o := .cells #[(.int .i64 0), (.slice none 0 0)] 26 (0, 0)) (pk BR.out) hb); have n_HB := aQ (below_step (by repeat (first | (with_reducible first | exact HB.out | apply below_alloc | apply pw_below_drewN | apply below_drew1 | refine below_set ?_ GBM.out | refine below_set ?_ GBC.out | refine below_set ?_ GBR.out) | exact HB.out)) hb); clear HB; clear BM; have BM := n_BM; clear n_BM; clear BC; have BC := n_BC; clear n_BC; clear BR; have BR := n_BR; clear n_BR; have HB := n_HB; clear n_HB; have BF := aQ hbox; clear hb hbox hg; have zBM0 : wf_.cell? ⟨gm, 0, none⟩ = some (.int .i64 a0_0) := (blk_cell BM.out 0).trans rfl; have zBM1 : wf_.cell? ⟨gm, 1, none⟩ = some (.slice A0_1 l0_1.length c0_1) := (blk_cell BM.out 1).trans rfl; have zBC0 : wf_.cell? ⟨gc, 0, none⟩ = some (.slice A1 l1.length c1) := (blk_cell BC.out 0).trans rfl; have zBR0 : wf_.cell? ⟨gr, 0, none⟩ = some (.int .i64 0) := (blk_cell BR.out 0).trans rfl; have zBR1 : wf_.cell? ⟨gr, 1, none⟩ = some (.slice none 0 0) := (blk_cell BR.out 1).trans rfl; have zBF0 : wf_.cell? ⟨gf, 0, none⟩ = some (.int .i64 0) := (blk_cell BF.out 0).trans rfl; have hf0BF := blk_frozen BF.out 0) | ((with_reducible refine gate_store (t := 3) (p := 6) rfl ?_); refine store_event (t := 3) (p := 6) (v := ?vo6_) (w1 := (wf_.setCell ⟨gf, 0, none⟩ (.int .i64 full))) ?hg ?ho ?hn ?hr ?_; (case ho => rfl); (case hg => rfl); (case hn => rfl); (case hr => first | (go_simp; done) | (go_simp; rfl)); intro wg_ hw; have n_BF := aQ ((by rw [hw]; exact blk_put BF.out 0 _ rfl) : wg_.heap[gf]? = some (.cells #[(.int .i64 full)] 3 (0, 0))); have n_BM := aQ ((by rw [hw]; exact blk_far (p := ⟨gf, 0, none⟩) BM.out NBMBF.out _) : wg_.heap[gm]? = some (.cells #[(.int .i64 a0_0), (.slice A0_1 l0_1.length c0_1)] 26 (0, 0))); have n_BC := aQ ((by rw [hw]; exact blk_far (p := ⟨gf, 0, none⟩) BC.out NBCBF.out _) : wg_.heap[gc]? = some (.cells #[(.slice A1 l1.length c1)] 22 (0, 0))); have n_BR := aQ ((by rw [hw]; exact blk_far (p := ⟨gf, 0, none⟩) BR.out NBRBF.out _) : wg_.heap[gr]? = some (.cells #[(.int .i64 0), (.slice none 0 0)] 26 (0, 0))); have n_HB := aQ ((by rw [hw]; exact below_set HB.out GBF.out) : Below w.heap.size w wg_); clear HB hw; clear BM; have BM := n_BM; clear n_BM; clear BC; have BC := n_BC; clear n_BC; clear BR; have BR := n_BR; clear n_BR; clear BF; have BF := n_BF; clear n_BF; have HB := n_HB; clear n_HB) | ((with_reducible refine gate_dst (N := 7) rfl ?_); refine box_event ?hg (N := 7) ?hd (cs := #[.nilFunc]) (t := 61) ?hr ?_; (case hd => rfl); (case hg => rfl); (case hr => first | (go_simp; done) | (go_simp; rfl)); intro gk hg wh_ hbox hb; have NBMBK := aQ ((by rw [hg]; exact Nat.ne_of_lt (blk_lt (g := gm) (o := .cells #[(.int .i64 a0_0), (.slice A0_1 l0_1.length c0_1)] 26 (0, 0)) (pk BM.out))) : gm ≠ gk); have NBCBK := aQ ((by rw [hg]; exact Nat.ne_of_lt (blk_lt (g := gc) (o := .cells #[(.slice A1 l1.length c1)] 22 (0, 0)) (pk BC.out))) : gc ≠ gk); have NBRBK := aQ ((by rw [hg]; exact Nat.ne_of_lt (blk_lt (g := gr) (o := .cells #[(.int .i64 0), (.slice none 0 0)] 26 (0, 0)) (pk BR.out))) : gr ≠ gk); have NBFBK := aQ ((by rw [hg]; exact Nat.ne_of_lt (blk_lt (g := gf) (o := .cells #[(.int .i64 full)] 3 (0, 0)) (pk BF.out))) : gf ≠ gk); have GBK := aQ ((by rw [hg]; exact below_size (by repeat (first | (with_reducible first | exact HB.out | apply below_alloc | apply pw_below_drewN | apply below_drew1 | refine below_set ?_ GBM.out | refine below_set ?_ GBC.out | refine below_set ?_ GBR.out | refine below_set ?_ GBF.out) | exact HB.out))) : w.heap.size ≤ gk); have n_BM := aQ (blk_below (g := gm) (o := .cells #[(.int .i64 a0_0), (.slice A0_1 l0_1.length c0_1)] 26 (0, 0)) (pk BM.out) hb); have n_BC := aQ (blk_below (g := gc) (o := .cells #[(.slice A1 l1.length c1)] 22 (0, 0)) (pk BC.out) hb); have n_BR := aQ (blk_below (g := gr) (o := .cells #[(.int .i64 0), (.slice none 0 0)] 26 (0, 0)) (pk BR.out) hb); have n_BF := aQ (blk_below (g := gf) (o := .cells #[(.int .i64 full)] 3 (0, 0)) (pk BF.out) hb); have n_HB := aQ (below_step (by repeat (first | (with_reducible first | exact HB.out | apply below_alloc | apply pw_below_drewN | apply below_drew1 | refine below_set ?_ GBM.out | refine below_set ?_ GBC.out | refine below_set ?_ GBR.out | refine below_set ?_ GBF.out) | exact HB.out)) hb); clear HB; clear BM; have BM := n_BM; clear n_BM; clear BC; have BC := n_BC; clear n_BC; clear BR; have BR := n_BR; clear n_BR; clear BF; have BF := n_BF; clear n_BF; have HB := n_HB; clear n_HB; have BK := aQ hbox; clear hb hbox hg; have zBM0 : wh_.cell? ⟨gm, 0, none⟩ = some (.int .i64 a0_0) := (blk_cell BM.out 0).trans rfl; have zBM1 : wh_.cell? ⟨gm, 1, none⟩ = some (.slice A0_1 l0_1.length c0_1) := (blk_cell BM.out 1).trans rfl; have zBC0 : wh_.cell? ⟨gc, 0, none⟩ = some (.slice A1 l1.length c1) := (blk_cell BC.out 0).trans rfl; have zBR0 : wh_.cell? ⟨gr, 0, none⟩ = some (.int .i64 0) := (blk_cell BR.out 0).trans rfl; have zBR1 : wh_.cell? ⟨gr, 1, none⟩ = some (.slice none 0 0) := (blk_cell BR.out 1).trans rfl; have zBF0 : wh_.cell? ⟨gf, 0, none⟩ = some (.int .i64 full) := (blk_cell BF.out 0).trans rfl; have zBK0 : wh_.cell? ⟨gk, 0, none⟩ = some .nilFunc := (blk_cell BK.out 0).trans rfl; have hf0BK := blk_frozen BK.out 0) | ((with_reducible refine gate_store (t := 61) (p := 7) rfl ?_); refine store_event (t := 61) (p := 7) (v := ?vo7_) (w1 := (wh_.setCell ⟨gk, 0, none⟩ (.func (.func 95) #[] #[.pointer (some ⟨gf, 0, none⟩), .pointer (some ⟨gm, 0, none⟩), .pointer (some ⟨gc, 0, none⟩)]))) ?hg ?ho ?hn ?hr ?_; (case ho => rfl); (case hg => rfl); (case hn => rfl); (case hr => have hSF_ := runStoreFunc (P := Try.prog); first | (go_simp; done) | (go_simp; rfl)); intro wi_ hw; have n_BK := aQ ((by rw [hw]; exact blk_put BK.out 0 _ rfl) : wi_.heap[gk]? = some (.cells #[(.func (.func 95) #[] #[.pointer (some ⟨gf, 0, none⟩), .pointer (some ⟨gm, 0, none⟩), .pointer (some ⟨gc, 0, none⟩)])] 61 (0, 0))); have n_BM := aQ ((by rw [hw]; exact blk_far (p := ⟨gk, 0, none⟩) BM.out NBMBK.out _) : wi_.heap[gm]? = some (.cells #[(.int .i64 a0_0), (.slice A0_1 l0_1.length c0_1)] 26 (0, 0))); have n_BC := aQ ((by rw [hw]; exact blk_far (p := ⟨gk, 0, none⟩) BC.out NBCBK.out _) : wi_.heap[gc]? = some (.cells #[(.slice A1 l1.length c1)] 22 (0, 0))); have n_BR := aQ ((by rw [hw]; exact blk_far (p := ⟨gk, 0, none⟩) BR.out NBRBK.out _) : wi_.heap[gr]? = some (.cells #[(.int .i64 0), (.slice none 0 0)] 26 (0, 0))); have n_BF := aQ ((by rw [hw]; exact blk_far (p := ⟨gk, 0, none⟩) BF.out NBFBK.out _) : wi_.heap[gf]? = some (.cells #[(.int .i64 full)] 3 (0, 0))); have n_HB := aQ ((by rw [hw]; exact below_set HB.out GBK.out) : Below w.heap.size w wi_); clear HB hw; clear BM; have BM := n_BM; clear n_BM; clear BC; have BC := n_BC; clear n_BC; clear BR; have BR := n_BR; clear n_BR; clear BF; have BF := n_BF; clear n_BF; clear BK; have BK := n_BK; clear n_BK; have HB := n_HB; clear n_HB; have zsBM0 : wi_.cell? ⟨gm, 0, none⟩ = some (.int .i64 a0_0) := (blk_cell BM.out 0).trans rfl; have zsBM1 : wi_.cell? ⟨gm, 1, none⟩ = some (.slice A0_1 l0_1.length c0_1) := (blk_cell BM.out 1).trans rfl; have zsBC0 : wi_.cell? ⟨gc, 0, none⟩ = some (.slice A1 l1.length c1) := (blk_cell BC.out 0).trans rfl; have zsBR0 : wi_.cell? ⟨gr, 0, none⟩ = some (.int .i64 0) := (blk_cell BR.out 0).trans rfl; have zsBR1 : wi_.cell? ⟨gr, 1, none⟩ = some (.slice none 0 0) := (blk_cell BR.out 1).trans rfl; have zsBF0 : wi_.cell? ⟨gf, 0, none⟩ = some (.int .i64 full) := (blk_cell BF.out 0).trans rfl; have zsBK0 : wi_.cell? ⟨gk, 0, none⟩ = some (.func (.func 95) #[] #[.pointer (some ⟨gf, 0, none⟩), .pointer (some ⟨gm, 0, none⟩), .pointer (some ⟨gc, 0, none⟩)]) := (blk_cell BK.out 0).trans rfl))
    have n_BM : Aside0 (wi_.drew.heap[gm]? = some (.cells #[(.int .i64 a0_0), (.slice A0_1 l0_1.length c0_1)] 26 (0, 0))) := ⟨pk BM.out⟩
    have n_BC : Aside0 (wi_.drew.heap[gc]? = some (.cells #[(.slice A1 l1.length c1)] 22 (0, 0))) := ⟨pk BC.out⟩
    have n_BR : Aside0 (wi_.drew.heap[gr]? = some (.cells #[(.int .i64 0), (.slice none 0 0)] 26 (0, 0))) := ⟨pk BR.out⟩
    have n_BF : Aside0 (wi_.drew.heap[gf]? = some (.cells #[(.int .i64 full)] 3 (0, 0))) := ⟨pk BF.out⟩
    have n_BK : Aside0 (wi_.drew.heap[gk]? = some (.cells #[(.func (.func 95) #[] #[.pointer (some ⟨gf, 0, none⟩), .pointer (some ⟨gm, 0, none⟩), .pointer (some ⟨gc, 0, none⟩)])] 61 (0, 0))) := ⟨pk BK.out⟩
    have n_HB : Aside0 (Below w.heap.size w wi_.drew) := ⟨(by repeat (first | (with_reducible first | exact HB.out | apply below_alloc | apply pw_below_drewN | apply below_drew1 | refine below_set ?_ GBM.out | refine below_set ?_ GBC.out | refine below_set ?_ GBR.out | refine below_set ?_ GBF.out | refine below_set ?_ GBK.out) | exact HB.out))⟩
    clear BM
    have BM := n_BM
    clear n_BM
    clear BC
    have BC := n_BC
    clear n_BC
    clear BR
    have BR := n_BR
    clear n_BR
    clear BF
    have BF := n_BF
    clear n_BF
    clear BK
    have BK := n_BK
    clear n_BK
    clear HB
    have HB := n_HB
    clear n_HB
    refine start_ (n := 6) (S := fun w' => w'.cell? ⟨gk, 0, none⟩ = some (.func (.func 95) #[] #[.pointer (some ⟨gf, 0, none⟩), .pointer (some ⟨gm, 0, none⟩), .pointer (some ⟨gc, 0, none⟩)])) (ds := []) #[false, false, false, false, false, false] (by kernel_rfl) rfl rfl (((blk_cell BK.out 0).trans rfl)) (fun hHeld => ?_)
    generalize wi_.drew = wD_ at BM BC BR BF BK HB hHeld ⊢
    refine pure_ (i := 1) (N := some 28) (v := ?_) (a' := ?_) #[false, true, false, false, false, false] rfl rfl (by kernel_rfl) (fun _ _ _ h => h) (Or.inl ⟨by rfl, ?_⟩) ?_ ?_
    rotate_left
    ·intro w'
     go_simp
     with_reducible rfl
    rotate_left
    ·simp only [Act.put, List.setIfInBounds_toArray, List.set_cons_zero, List.set_cons_succ, i64_w, i32_w]
     rfl
    refine take_ (i := 0) (N := some 27) (v := ?_) (a' := ?_) #[true, true, false, false, false, false] rfl rfl (by kernel_rfl) (fun _ _ _ h => h) (Or.inl ⟨by rfl, ?_⟩) hHeld ?_ ?_
    rotate_left
    ·intro w' s0
     go_simp
     with_reducible rfl
    rotate_left
    ·simp only [Act.put, List.setIfInBounds_toArray, List.set_cons_zero, List.set_cons_succ, i64_w, i32_w]
     rfl
    refine join_ (σ := Nat) 1 #[true, true, true, true, true, false] (fun s_ => [(29, .int .i64 m), (30, .int .i64 r), (9, .pointer (some ⟨s_, 0, none⟩))]) (fun s_ w' => (w'.cell? ⟨gk, 0, none⟩ = some (.func (.func 95) #[] #[.pointer (some ⟨gf, 0, none⟩), .pointer (some ⟨gm, 0, none⟩), .pointer (some ⟨gc, 0, none⟩)])) ∧ w'.heap[gm]? = some (.cells #[(.int .i64 a0_0), (.slice A0_1 l0_1.length c0_1)] 26 (0, 0)) ∧ w'.heap[gc]? = some (.cells #[(.slice A1 l1.length c1)] 22 (0, 0)) ∧ w'.heap[gr]? = some (.cells #[(.int .i64 0), (.slice none 0 0)] 26 (0, 0)) ∧ w'.heap[gf]? = some (.cells #[(.int .i64 full)] 3 (0, 0)) ∧ w'.heap[gk]? = some (.cells #[(.func (.func 95) #[] #[.pointer (some ⟨gf, 0, none⟩), .pointer (some ⟨gm, 0, none⟩), .pointer (some ⟨gc, 0, none⟩)])] 61 (0, 0)) ∧ w'.heap[s_]? = some (.cells #[(.int .i64 0)] 3 (0, 0)) ∧ gm ≠ s_ ∧ gc ≠ s_ ∧ gr ≠ s_ ∧ gf ≠ s_ ∧ gk ≠ s_ ∧ w.heap.size ≤ s_ ∧ Below w.heap.size w w') ?_ ?_
    rotate_left
    ·intro hCont
     refine two_ (i := 2) (j := 4) (Ni := some 29) (Nj := some 9) #[true, true, true, false, false, false] #[true, true, false, false, true, false] rfl rfl rfl rfl (by kernel_rfl) (by decide) (by decide) (fun K hK => ?_) (fun K hK => ?_)
     ·skip
      refine goes_ Try.func94 (by kernel_rfl) rfl #[.int .i64 (wrap64 (a0_0 + 1))] (by rfl) rfl rfl (by (try simp only [List.map_toArray, List.map_cons, List.map_nil]); first | done | rfl) ?_
      with_reducible refine (impl_FullSet.calls _ m _ HF.out).mono ?_
      rintro e w2_ ⟨rfl, ⟨nd2, rfl⟩⟩
      refine ⟨_, rfl, ?_⟩
      have n_BM : Aside0 ((wD_.drewN nd2).heap[gm]? = some (.cells #[(.int .i64 a0_0), (.slice A0_1 l0_1.length c0_1)] 26 (0, 0))) := ⟨pk BM.out⟩
      have n_BC : Aside0 ((wD_.drewN nd2).heap[gc]? = some (.cells #[(.slice A1 l1.length c1)] 22 (0, 0))) := ⟨pk BC.out⟩
      have n_BR : Aside0 ((wD_.drewN nd2).heap[gr]? = some (.cells #[(.int .i64 0), (.slice none 0 0)] 26 (0, 0))) := ⟨pk BR.out⟩
      have n_BF : Aside0 ((wD_.drewN nd2).heap[gf]? = some (.cells #[(.int .i64 full)] 3 (0, 0))) := ⟨pk BF.out⟩
      have n_BK : Aside0 ((wD_.drewN nd2).heap[gk]? = some (.cells #[(.func (.func 95) #[] #[.pointer (some ⟨gf, 0, none⟩), .pointer (some ⟨gm, 0, none⟩), .pointer (some ⟨gc, 0, none⟩)])] 61 (0, 0))) := ⟨pk BK.out⟩
      have n_HB : Aside0 (Below w.heap.size w (wD_.drewN nd2)) := ⟨(by repeat (first | (with_reducible first | exact HB.out | apply below_alloc | apply pw_below_drewN | apply below_drew1 | refine below_set ?_ GBM.out | refine below_set ?_ GBC.out | refine below_set ?_ GBR.out | refine below_set ?_ GBF.out | refine below_set ?_ GBK.out) | exact HB.out))⟩
      clear BM
      have BM := n_BM
      clear n_BM
      clear BC
      have BC := n_BC
      clear n_BC
      clear BR
      have BR := n_BR
      clear n_BR
      clear BF
      have BF := n_BF
      clear n_BF
      clear BK
      have BK := n_BK
      clear n_BK
      clear HB
      have HB := n_HB
      clear n_HB
      refine hK.out _ _ (((blk_cell BK.out 0).trans rfl)) (fun hHeld => ?_)
      clear hK K
      refine norm_ (a' := ?_) ?_ ?_
      rotate_left
      ·show Act.put _ (some 29) _ = _
       simp only [Act.put, List.setIfInBounds_toArray, List.set_cons_zero, List.set_cons_succ, i64_w, i32_w]
       rfl
      refine two_ (i := 3) (j := 4) (Ni := some 30) (Nj := some 9) #[true, true, true, true, false, false] #[true, true, true, false, true, false] rfl rfl rfl rfl (by kernel_rfl) (by decide) (by decide) (fun K hK => ?_) (fun K hK => ?_)
      ·skip
       refine goesF_ Try.func95 (by kernel_rfl) rfl #[.int .i64 m] #[.pointer (some ⟨gf, 0, none⟩), .pointer (some ⟨gm, 0, none⟩), .pointer (some ⟨gc, 0, none⟩)] (by rfl) rfl rfl (by rfl) (by (try simp only [List.map_toArray, List.map_cons, List.map_nil]); first | done | rfl) ?_
       refine (calls_of_args (by simp) (Extend1_walk k a0_0 A0_1 c0_1 l0_1 A1 c1 l1 full m r gf gm gc _ (Kd.C_below HR.out (by repeat (first | (with_reducible first | exact HB.out | apply below_alloc | apply pw_below_drewN | apply below_drew1 | refine below_set ?_ GBM.out | refine below_set ?_ GBC.out | refine below_set ?_ GBR.out | refine below_set ?_ GBF.out | refine below_set ?_ GBK.out) | exact HB.out))) HC.out (Kd.C_below HR2.out (by repeat (first | (with_reducible first | exact HB.out | apply below_alloc | apply pw_below_drewN | apply below_drew1 | refine below_set ?_ GBM.out | refine below_set ?_ GBC.out | refine below_set ?_ GBR.out | refine below_set ?_ GBF.out | refine below_set ?_ GBK.out) | exact HB.out))) HC2.out (pk BF.out) (pk BM.out) (pk BC.out) HU.out)).mono ?_
       rintro e w3_ ⟨rfl, hb⟩
       refine ⟨_, rfl, ?_⟩
       have n_BM := aQ (blk_below (g := gm) (o := .cells #[(.int .i64 a0_0), (.slice A0_1 l0_1.length c0_1)] 26 (0, 0)) (pk BM.out) hb)
       have n_BC := aQ (blk_below (g := gc) (o := .cells #[(.slice A1 l1.length c1)] 22 (0, 0)) (pk BC.out) hb)
       have n_BR := aQ (blk_below (g := gr) (o := .cells #[(.int .i64 0), (.slice none 0 0)] 26 (0, 0)) (pk BR.out) hb)
       have n_BF := aQ (blk_below (g := gf) (o := .cells #[(.int .i64 full)] 3 (0, 0)) (pk BF.out) hb)
       have n_BK := aQ (blk_below (g := gk) (o := .cells #[(.func (.func 95) #[] #[.pointer (some ⟨gf, 0, none⟩), .pointer (some ⟨gm, 0, none⟩), .pointer (some ⟨gc, 0, none⟩)])] 61 (0, 0)) (pk BK.out) hb)
       have n_HB := aQ (below_step (by repeat (first | (with_reducible first | exact HB.out | apply below_alloc | apply pw_below_drewN | apply below_drew1 | refine below_set ?_ GBM.out | refine below_set ?_ GBC.out | refine below_set ?_ GBR.out | refine below_set ?_ GBF.out | refine below_set ?_ GBK.out) | exact HB.out)) hb)
       clear HB
       clear BM
       have BM := n_BM
       clear n_BM
       clear BC
       have BC := n_BC
       clear n_BC
       clear BR
       have BR := n_BR
       clear n_BR
       clear BF
       have BF := n_BF
       clear n_BF
       clear BK
       have BK := n_BK
       clear n_BK
       have HB := n_HB
       clear n_HB
       clear hb
       refine hK.out _ _ (((blk_cell BK.out 0).trans rfl)) (fun hHeld => ?_)
       clear hK K
       refine norm_ (a' := ?_) ?_ ?_
       rotate_left
       ·show Act.put _ (some 30) _ = _
        simp only [Act.put, List.setIfInBounds_toArray, List.set_cons_zero, List.set_cons_succ, i64_w, i32_w]
        rfl
       refine one_ (i := 4) (N := some 9) #[true, true, true, true, true, false] rfl rfl (by kernel_rfl) (by decide) (fun K hK => ?_)
       refine box_step ?hg (N := 9) ?hd (cs := #[(.int .i64 0)]) (t := 3) ?hr ?_; (case hd => rfl); (case hg => rfl); (case hr => first | (go_simp; done) | (go_simp; rfl))
       intro gq hg w8_ hbox hb
       have NBMBQ := aQ ((by rw [hg]; exact Nat.ne_of_lt (blk_lt (g := gm) (o := .cells #[(.int .i64 a0_0), (.slice A0_1 l0_1.length c0_1)] 26 (0, 0)) (pk BM.out))) : gm ≠ gq)
       have NBCBQ := aQ ((by rw [hg]; exact Nat.ne_of_lt (blk_lt (g := gc) (o := .cells #[(.slice A1 l1.length c1)] 22 (0, 0)) (pk BC.out))) : gc ≠ gq)
       have NBRBQ := aQ ((by rw [hg]; exact Nat.ne_of_lt (blk_lt (g := gr) (o := .cells #[(.int .i64 0), (.slice none 0 0)] 26 (0, 0)) (pk BR.out))) : gr ≠ gq)
       have NBFBQ := aQ ((by rw [hg]; exact Nat.ne_of_lt (blk_lt (g := gf) (o := .cells #[(.int .i64 full)] 3 (0, 0)) (pk BF.out))) : gf ≠ gq)
       have NBKBQ := aQ ((by rw [hg]; exact Nat.ne_of_lt (blk_lt (g := gk) (o := .cells #[(.func (.func 95) #[] #[.pointer (some ⟨gf, 0, none⟩), .pointer (some ⟨gm, 0, none⟩), .pointer (some ⟨gc, 0, none⟩)])] 61 (0, 0)) (pk BK.out))) : gk ≠ gq)
       have GBQ := aQ ((by rw [hg]; exact below_size (by repeat (first | (with_reducible first | exact HB.out | apply below_alloc | apply pw_below_drewN | apply below_drew1 | refine below_set ?_ GBM.out | refine below_set ?_ GBC.out | refine below_set ?_ GBR.out | refine below_set ?_ GBF.out | refine below_set ?_ GBK.out) | exact HB.out))) : w.heap.size ≤ gq)
       have n_BM := aQ (blk_below (g := gm) (o := .cells #[(.int .i64 a0_0), (.slice A0_1 l0_1.length c0_1)] 26 (0, 0)) (pk BM.out) hb)
       have n_BC := aQ (blk_below (g := gc) (o := .cells #[(.slice A1 l1.length c1)] 22 (0, 0)) (pk BC.out) hb)
       have n_BR := aQ (blk_below (g := gr) (o := .cells #[(.int .i64 0), (.slice none 0 0)] 26 (0, 0)) (pk BR.out) hb)
       have n_BF := aQ (blk_below (g := gf) (o := .cells #[(.int .i64 full)] 3 (0, 0)) (pk BF.out) hb)
       have n_BK := aQ (blk_below (g := gk) (o := .cells #[(.func (.func 95) #[] #[.pointer (some ⟨gf, 0, none⟩), .pointer (some ⟨gm, 0, none⟩), .pointer (some ⟨gc, 0, none⟩)])] 61 (0, 0)) (pk BK.out) hb)
       have n_HB := aQ (below_step (by repeat (first | (with_reducible first | exact HB.out | apply below_alloc | apply pw_below_drewN | apply below_drew1 | refine below_set ?_ GBM.out | refine below_set ?_ GBC.out | refine below_set ?_ GBR.out | refine below_set ?_ GBF.out | refine below_set ?_ GBK.out) | exact HB.out)) hb)
       clear HB
       clear BM
       have BM := n_BM
       clear n_BM
       clear BC
       have BC := n_BC
       clear n_BC
       clear BR
       have BR := n_BR
       clear n_BR
       clear BF
       have BF := n_BF
       clear n_BF
       clear BK
       have BK := n_BK
       clear n_BK
       have HB := n_HB
       clear n_HB
       have BQ := aQ hbox
       clear hb hbox hg
       refine hK.out _ _ (((blk_cell BK.out 0).trans rfl)) (fun hHeld => ?_)
       clear hK K
       refine norm_ (a' := ?_) ?_ ?_
       rotate_left
       ·show Act.put _ (some 9) _ = _
        simp only [Act.put, List.setIfInBounds_toArray, List.set_cons_zero, List.set_cons_succ, i64_w, i32_w]
        rfl
       exact norm_ (by simp only [putAll, Act.put, List.setIfInBounds_toArray, List.set_cons_zero, List.set_cons_succ]) (hCont gq _ ⟨hHeld, (pk BM.out), (pk BC.out), (pk BR.out), (pk BF.out), (pk BK.out), (pk BQ.out), NBMBQ.out, NBCBQ.out, NBRBQ.out, NBFBQ.out, NBKBQ.out, GBQ.out, (by repeat (first | (with_reducible first | exact HB.out | apply below_alloc | apply pw_below_drewN | apply below_drew1 | refine below_set ?_ GBM.out | refine below_set ?_ GBC.out | refine below_set ?_ GBR.out | refine below_set ?_ GBF.out | refine below_set ?_ GBK.out | refine below_set ?_ GBQ.out) | exact HB.out))⟩)
      ·skip
       refine box_step ?hg (N := 9) ?hd (cs := #[(.int .i64 0)]) (t := 3) ?hr ?_; (case hd => rfl); (case hg => rfl); (case hr => first | (go_simp; done) | (go_simp; rfl))
       intro gq hg w8_ hbox hb
       have NBMBQ := aQ ((by rw [hg]; exact Nat.ne_of_lt (blk_lt (g := gm) (o := .cells #[(.int .i64 a0_0), (.slice A0_1 l0_1.length c0_1)] 26 (0, 0)) (pk BM.out))) : gm ≠ gq)
       have NBCBQ := aQ ((by rw [hg]; exact Nat.ne_of_lt (blk_lt (g := gc) (o := .cells #[(.slice A1 l1.length c1)] 22 (0, 0)) (pk BC.out))) : gc ≠ gq)
       have NBRBQ := aQ ((by rw [hg]; exact Nat.ne_of_lt (blk_lt (g := gr) (o := .cells #[(.int .i64 0), (.slice none 0 0)] 26 (0, 0)) (pk BR.out))) : gr ≠ gq)
       have NBFBQ := aQ ((by rw [hg]; exact Nat.ne_of_lt (blk_lt (g := gf) (o := .cells #[(.int .i64 full)] 3 (0, 0)) (pk BF.out))) : gf ≠ gq)
       have NBKBQ := aQ ((by rw [hg]; exact Nat.ne_of_lt (blk_lt (g := gk) (o := .cells #[(.func (.func 95) #[] #[.pointer (some ⟨gf, 0, none⟩), .pointer (some ⟨gm, 0, none⟩), .pointer (some ⟨gc, 0, none⟩)])] 61 (0, 0)) (pk BK.out))) : gk ≠ gq)
       have GBQ := aQ ((by rw [hg]; exact below_size (by repeat (first | (with_reducible first | exact HB.out | apply below_alloc | apply pw_below_drewN | apply below_drew1 | refine below_set ?_ GBM.out | refine below_set ?_ GBC.out | refine below_set ?_ GBR.out | refine below_set ?_ GBF.out | refine below_set ?_ GBK.out) | exact HB.out))) : w.heap.size ≤ gq)
       have n_BM := aQ (blk_below (g := gm) (o := .cells #[(.int .i64 a0_0), (.slice A0_1 l0_1.length c0_1)] 26 (0, 0)) (pk BM.out) hb)
       have n_BC := aQ (blk_below (g := gc) (o := .cells #[(.slice A1 l1.length c1)] 22 (0, 0)) (pk BC.out) hb)
       have n_BR := aQ (blk_below (g := gr) (o := .cells #[(.int .i64 0), (.slice none 0 0)] 26 (0, 0)) (pk BR.out) hb)
       have n_BF := aQ (blk_below (g := gf) (o := .cells #[(.int .i64 full)] 3 (0, 0)) (pk BF.out) hb)
       have n_BK := aQ (blk_below (g := gk) (o := .cells #[(.func (.func 95) #[] #[.pointer (some ⟨gf, 0, none⟩), .pointer (some ⟨gm, 0, none⟩), .pointer (some ⟨gc, 0, none⟩)])] 61 (0, 0)) (pk BK.out) hb)
       have n_HB := aQ (below_step (by repeat (first | (with_reducible first | exact HB.out | apply below_alloc | apply pw_below_drewN | apply below_drew1 | refine below_set ?_ GBM.out | refine below_set ?_ GBC.out | refine below_set ?_ GBR.out | refine below_set ?_ GBF.out | refine below_set ?_ GBK.out) | exact HB.out)) hb)
       clear HB
       clear BM
       have BM := n_BM
       clear n_BM
       clear BC
       have BC := n_BC
       clear n_BC
       clear BR
       have BR := n_BR
       clear n_BR
       clear BF
       have BF := n_BF
       clear n_BF
       clear BK
       have BK := n_BK
       clear n_BK
       have HB := n_HB
       clear n_HB
       have BQ := aQ hbox
       clear hb hbox hg
       refine hK.out _ _ (((blk_cell BK.out 0).trans rfl)) (fun hHeld => ?_)
       clear hK K
       refine norm_ (a' := ?_) ?_ ?_
       rotate_left
       ·show Act.put _ (some 9) _ = _
        simp only [Act.put, List.setIfInBounds_toArray, List.set_cons_zero, List.set_cons_succ, i64_w, i32_w]
        rfl
       refine one_ (i := 3) (N := some 30) #[true, true, true, true, true, false] rfl rfl (by kernel_rfl) (by decide) (fun K hK => ?_)
       refine goesF_ Try.func95 (by kernel_rfl) rfl #[.int .i64 m] #[.pointer (some ⟨gf, 0, none⟩), .pointer (some ⟨gm, 0, none⟩), .pointer (some ⟨gc, 0, none⟩)] (by rfl) rfl rfl (by rfl) (by (try simp only [List.map_toArray, List.map_cons, List.map_nil]); first | done | rfl) ?_
       refine (calls_of_args (by simp) (Extend1_walk k a0_0 A0_1 c0_1 l0_1 A1 c1 l1 full m r gf gm gc _ (Kd.C_below HR.out (by repeat (first | (with_reducible first | exact HB.out | apply below_alloc | apply pw_below_drewN | apply below_drew1 | refine below_set ?_ GBM.out | refine below_set ?_ GBC.out | refine below_set ?_ GBR.out | refine below_set ?_ GBF.out | refine below_set ?_ GBK.out | refine below_set ?_ GBQ.out) | exact HB.out))) HC.out (Kd.C_below HR2.out (by repeat (first | (with_reducible first | exact HB.out | apply below_alloc | apply pw_below_drewN | apply below_drew1 | refine below_set ?_ GBM.out | refine below_set ?_ GBC.out | refine below_set ?_ GBR.out | refine below_set ?_ GBF.out | refine below_set ?_ GBK.out | refine below_set ?_ GBQ.out) | exact HB.out))) HC2.out (pk BF.out) (pk BM.out) (pk BC.out) HU.out)).mono ?_
       rintro e w3_ ⟨rfl, hb⟩
       refine ⟨_, rfl, ?_⟩
       have n_BM := aQ (blk_below (g := gm) (o := .cells #[(.int .i64 a0_0), (.slice A0_1 l0_1.length c0_1)] 26 (0, 0)) (pk BM.out) hb)
       have n_BC := aQ (blk_below (g := gc) (o := .cells #[(.slice A1 l1.length c1)] 22 (0, 0)) (pk BC.out) hb)
       have n_BR := aQ (blk_below (g := gr) (o := .cells #[(.int .i64 0), (.slice none 0 0)] 26 (0, 0)) (pk BR.out) hb)
       have n_BF := aQ (blk_below (g := gf) (o := .cells #[(.int .i64 full)] 3 (0, 0)) (pk BF.out) hb)
       have n_BK := aQ (blk_below (g := gk) (o := .cells #[(.func (.func 95) #[] #[.pointer (some ⟨gf, 0, none⟩), .pointer (some ⟨gm, 0, none⟩), .pointer (some ⟨gc, 0, none⟩)])] 61 (0, 0)) (pk BK.out) hb)
       have n_BQ := aQ (blk_below (g := gq) (o := .cells #[(.int .i64 0)] 3 (0, 0)) (pk BQ.out) hb)
       have n_HB := aQ (below_step (by repeat (first | (with_reducible first | exact HB.out | apply below_alloc | apply pw_below_drewN | apply below_drew1 | refine below_set ?_ GBM.out | refine below_set ?_ GBC.out | refine below_set ?_ GBR.out | refine below_set ?_ GBF.out | refine below_set ?_ GBK.out | refine below_set ?_ GBQ.out) | exact HB.out)) hb)
       clear HB
       clear BM
       have BM := n_BM
       clear n_BM
       clear BC
       have BC := n_BC
       clear n_BC
       clear BR
       have BR := n_BR
       clear n_BR
       clear BF
       have BF := n_BF
       clear n_BF
       clear BK
       have BK := n_BK
       clear n_BK
       clear BQ
       have BQ := n_BQ
       clear n_BQ
       have HB := n_HB
       clear n_HB
       clear hb
       refine hK.out _ _ (((blk_cell BK.out 0).trans rfl)) (fun hHeld => ?_)
       clear hK K
       refine norm_ (a' := ?_) ?_ ?_
       rotate_left
       ·show Act.put _ (some 30) _ = _
        simp only [Act.put, List.setIfInBounds_toArray, List.set_cons_zero, List.set_cons_succ, i64_w, i32_w]
        rfl
       exact norm_ (by simp only [putAll, Act.put, List.setIfInBounds_toArray, List.set_cons_zero, List.set_cons_succ]) (hCont gq _ ⟨hHeld, (pk BM.out), (pk BC.out), (pk BR.out), (pk BF.out), (pk BK.out), (pk BQ.out), NBMBQ.out, NBCBQ.out, NBRBQ.out, NBFBQ.out, NBKBQ.out, GBQ.out, (by repeat (first | (with_reducible first | exact HB.out | apply below_alloc | apply pw_below_drewN | apply below_drew1 | refine below_set ?_ GBM.out | refine below_set ?_ GBC.out | refine below_set ?_ GBR.out | refine below_set ?_ GBF.out | refine below_set ?_ GBK.out | refine below_set ?_ GBQ.out) | exact HB.out))⟩)
     ·skip
      refine box_step ?hg (N := 9) ?hd (cs := #[(.int .i64 0)]) (t := 3) ?hr ?_; (case hd => rfl); (case hg => rfl); (case hr => first | (go_simp; done) | (go_simp; rfl))
      intro gq hg w8_ hbox hb
      have NBMBQ := aQ ((by rw [hg]; exact Nat.ne_of_lt (blk_lt (g := gm) (o := .cells #[(.int .i64 a0_0), (.slice A0_1 l0_1.length c0_1)] 26 (0, 0)) (pk BM.out))) : gm ≠ gq)
      have NBCBQ := aQ ((by rw [hg]; exact Nat.ne_of_lt (blk_lt (g := gc) (o := .cells #[(.slice A1 l1.length c1)] 22 (0, 0)) (pk BC.out))) : gc ≠ gq)
      have NBRBQ := aQ ((by rw [hg]; exact Nat.ne_of_lt (blk_lt (g := gr) (o := .cells #[(.int .i64 0), (.slice none 0 0)] 26 (0, 0)) (pk BR.out))) : gr ≠ gq)
      have NBFBQ := aQ ((by rw [hg]; exact Nat.ne_of_lt (blk_lt (g := gf) (o := .cells #[(.int .i64 full)] 3 (0, 0)) (pk BF.out))) : gf ≠ gq)
      have NBKBQ := aQ ((by rw [hg]; exact Nat.ne_of_lt (blk_lt (g := gk) (o := .cells #[(.func (.func 95) #[] #[.pointer (some ⟨gf, 0, none⟩), .pointer (some ⟨gm, 0, none⟩), .pointer (some ⟨gc, 0, none⟩)])] 61 (0, 0)) (pk BK.out))) : gk ≠ gq)
      have GBQ := aQ ((by rw [hg]; exact below_size (by repeat (first | (with_reducible first | exact HB.out | apply below_alloc | apply pw_below_drewN | apply below_drew1 | refine below_set ?_ GBM.out | refine below_set ?_ GBC.out | refine below_set ?_ GBR.out | refine below_set ?_ GBF.out | refine below_set ?_ GBK.out) | exact HB.out))) : w.heap.size ≤ gq)
      have n_BM := aQ (blk_below (g := gm) (o := .cells #[(.int .i64 a0_0), (.slice A0_1 l0_1.length c0_1)] 26 (0, 0)) (pk BM.out) hb)
      have n_BC := aQ (blk_below (g := gc) (o := .cells #[(.slice A1 l1.length c1)] 22 (0, 0)) (pk BC.out) hb)
      have n_BR := aQ (blk_below (g := gr) (o := .cells #[(.int .i64 0), (.slice none 0 0)] 26 (0, 0)) (pk BR.out) hb)
      have n_BF := aQ (blk_below (g := gf) (o := .cells #[(.int .i64 full)] 3 (0, 0)) (pk BF.out) hb)
      have n_BK := aQ (blk_below (g := gk) (o := .cells #[(.func (.func 95) #[] #[.pointer (some ⟨gf, 0, none⟩), .pointer (some ⟨gm, 0, none⟩), .pointer (some ⟨gc, 0, none⟩)])] 61 (0, 0)) (pk BK.out) hb)
      have n_HB := aQ (below_step (by repeat (first | (with_reducible first | exact HB.out | apply below_alloc | apply pw_below_drewN | apply below_drew1 | refine below_set ?_ GBM.out | refine below_set ?_ GBC.out | refine below_set ?_ GBR.out | refine below_set ?_ GBF.out | refine below_set ?_ GBK.out) | exact HB.out)) hb)
      clear HB
      clear BM
      have BM := n_BM
      clear n_BM
      clear BC
      have BC := n_BC
      clear n_BC
      clear BR
      have BR := n_BR
      clear n_BR
      clear BF
      have BF := n_BF
      clear n_BF
      clear BK
      have BK := n_BK
      clear n_BK
      have HB := n_HB
      clear n_HB
      have BQ := aQ hbox
      clear hb hbox hg
      refine hK.out _ _ (((blk_cell BK.out 0).trans rfl)) (fun hHeld => ?_)
      clear hK K
      refine norm_ (a' := ?_) ?_ ?_
      rotate_left
      ·show Act.put _ (some 9) _ = _
       simp only [Act.put, List.setIfInBounds_toArray, List.set_cons_zero, List.set_cons_succ, i64_w, i32_w]
       rfl
      refine one_ (i := 2) (N := some 29) #[true, true, true, false, true, false] rfl rfl (by kernel_rfl) (by decide) (fun K hK => ?_)
      refine goes_ Try.func94 (by kernel_rfl) rfl #[.int .i64 (wrap64 (a0_0 + 1))] (by rfl) rfl rfl (by (try simp only [List.map_toArray, List.map_cons, List.map_nil]); first | done | rfl) ?_
      with_reducible refine (impl_FullSet.calls _ m _ HF.out).mono ?_
      rintro e w2_ ⟨rfl, ⟨nd2, rfl⟩⟩
      refine ⟨_, rfl, ?_⟩
      have n_BM : Aside0 ((w8_.drewN nd2).heap[gm]? = some (.cells #[(.int .i64 a0_0), (.slice A0_1 l0_1.length c0_1)] 26 (0, 0))) := ⟨pk BM.out⟩
      have n_BC : Aside0 ((w8_.drewN nd2).heap[gc]? = some (.cells #[(.slice A1 l1.length c1)] 22 (0, 0))) := ⟨pk BC.out⟩
      have n_BR : Aside0 ((w8_.drewN nd2).heap[gr]? = some (.cells #[(.int .i64 0), (.slice none 0 0)] 26 (0, 0))) := ⟨pk BR.out⟩
      have n_BF : Aside0 ((w8_.drewN nd2).heap[gf]? = some (.cells #[(.int .i64 full)] 3 (0, 0))) := ⟨pk BF.out⟩
      have n_BK : Aside0 ((w8_.drewN nd2).heap[gk]? = some (.cells #[(.func (.func 95) #[] #[.pointer (some ⟨gf, 0, none⟩), .pointer (some ⟨gm, 0, none⟩), .pointer (some ⟨gc, 0, none⟩)])] 61 (0, 0))) := ⟨pk BK.out⟩
      have n_BQ : Aside0 ((w8_.drewN nd2).heap[gq]? = some (.cells #[(.int .i64 0)] 3 (0, 0))) := ⟨pk BQ.out⟩
      have n_HB : Aside0 (Below w.heap.size w (w8_.drewN nd2)) := ⟨(by repeat (first | (with_reducible first | exact HB.out | apply below_alloc | apply pw_below_drewN | apply below_drew1 | refine below_set ?_ GBM.out | refine below_set ?_ GBC.out | refine below_set ?_ GBR.out | refine below_set ?_ GBF.out | refine below_set ?_ GBK.out | refine below_set ?_ GBQ.out) | exact HB.out))⟩
      clear BM
      have BM := n_BM
      clear n_BM
      clear BC
      have BC := n_BC
      clear n_BC
      clear BR
      have BR := n_BR
      clear n_BR
      clear BF
      have BF := n_BF
      clear n_BF
      clear BK
      have BK := n_BK
      clear n_BK
      clear BQ
      have BQ := n_BQ
      clear n_BQ
      clear HB
      have HB := n_HB
      clear n_HB
      refine hK.out _ _ (((blk_cell BK.out 0).trans rfl)) (fun hHeld => ?_)
      clear hK K
      refine norm_ (a' := ?_) ?_ ?_
      rotate_left
      ·show Act.put _ (some 29) _ = _
       simp only [Act.put, List.setIfInBounds_toArray, List.set_cons_zero, List.set_cons_succ, i64_w, i32_w]
       rfl
      refine one_ (i := 3) (N := some 30) #[true, true, true, true, true, false] rfl rfl (by kernel_rfl) (by decide) (fun K hK => ?_)
      refine goesF_ Try.func95 (by kernel_rfl) rfl #[.int .i64 m] #[.pointer (some ⟨gf, 0, none⟩), .pointer (some ⟨gm, 0, none⟩), .pointer (some ⟨gc, 0, none⟩)] (by rfl) rfl rfl (by rfl) (by (try simp only [List.map_toArray, List.map_cons, List.map_nil]); first | done | rfl) ?_
      refine (calls_of_args (by simp) (Extend1_walk k a0_0 A0_1 c0_1 l0_1 A1 c1 l1 full m r gf gm gc _ (Kd.C_below HR.out (by repeat (first | (with_reducible first | exact HB.out | apply below_alloc | apply pw_below_drewN | apply below_drew1 | refine below_set ?_ GBM.out | refine below_set ?_ GBC.out | refine below_set ?_ GBR.out | refine below_set ?_ GBF.out | refine below_set ?_ GBK.out | refine below_set ?_ GBQ.out) | exact HB.out))) HC.out (Kd.C_below HR2.out (by repeat (first | (with_reducible first | exact HB.out | apply below_alloc | apply pw_below_drewN | apply below_drew1 | refine below_set ?_ GBM.out | refine below_set ?_ GBC.out | refine below_set ?_ GBR.out | refine below_set ?_ GBF.out | refine below_set ?_ GBK.out | refine below_set ?_ GBQ.out) | exact HB.out))) HC2.out (pk BF.out) (pk BM.out) (pk BC.out) HU.out)).mono ?_
      rintro e w3_ ⟨rfl, hb⟩
      refine ⟨_, rfl, ?_⟩
      have n_BM := aQ (blk_below (g := gm) (o := .cells #[(.int .i64 a0_0), (.slice A0_1 l0_1.length c0_1)] 26 (0, 0)) (pk BM.out) hb)
      have n_BC := aQ (blk_below (g := gc) (o := .cells #[(.slice A1 l1.length c1)] 22 (0, 0)) (pk BC.out) hb)
      have n_BR := aQ (blk_below (g := gr) (o := .cells #[(.int .i64 0), (.slice none 0 0)] 26 (0, 0)) (pk BR.out) hb)
      have n_BF := aQ (blk_below (g := gf) (o := .cells #[(.int .i64 full)] 3 (0, 0)) (pk BF.out) hb)
      have n_BK := aQ (blk_below (g := gk) (o := .cells #[(.func (.func 95) #[] #[.pointer (some ⟨gf, 0, none⟩), .pointer (some ⟨gm, 0, none⟩), .pointer (some ⟨gc, 0, none⟩)])] 61 (0, 0)) (pk BK.out) hb)
      have n_BQ := aQ (blk_below (g := gq) (o := .cells #[(.int .i64 0)] 3 (0, 0)) (pk BQ.out) hb)
      have n_HB := aQ (below_step (by repeat (first | (with_reducible first | exact HB.out | apply below_alloc | apply pw_below_drewN | apply below_drew1 | refine below_set ?_ GBM.out | refine below_set ?_ GBC.out | refine below_set ?_ GBR.out | refine below_set ?_ GBF.out | refine below_set ?_ GBK.out | refine below_set ?_ GBQ.out) | exact HB.out)) hb)
      clear HB
      clear BM
      have BM := n_BM
      clear n_BM
      clear BC
      have BC := n_BC
      clear n_BC
      clear BR
      have BR := n_BR
      clear n_BR
      clear BF
      have BF := n_BF
      clear n_BF
      clear BK
      have BK := n_BK
      clear n_BK
      clear BQ
      have BQ := n_BQ
      clear n_BQ
      have HB := n_HB
      clear n_HB
      clear hb
      refine hK.out _ _ (((blk_cell BK.out 0).trans rfl)) (fun hHeld => ?_)
      clear hK K
      refine norm_ (a' := ?_) ?_ ?_
      rotate_left
      ·show Act.put _ (some 30) _ = _
       simp only [Act.put, List.setIfInBounds_toArray, List.set_cons_zero, List.set_cons_succ, i64_w, i32_w]
       rfl
      exact norm_ (by simp only [putAll, Act.put, List.setIfInBounds_toArray, List.set_cons_zero, List.set_cons_succ]) (hCont gq _ ⟨hHeld, (pk BM.out), (pk BC.out), (pk BR.out), (pk BF.out), (pk BK.out), (pk BQ.out), NBMBQ.out, NBCBQ.out, NBRBQ.out, NBFBQ.out, NBKBQ.out, GBQ.out, (by repeat (first | (with_reducible first | exact HB.out | apply below_alloc | apply pw_below_drewN | apply below_drew1 | refine below_set ?_ GBM.out | refine below_set ?_ GBC.out | refine below_set ?_ GBR.out | refine below_set ?_ GBF.out | refine below_set ?_ GBK.out | refine below_set ?_ GBQ.out) | exact HB.out))⟩)
    rintro gq wF_ ⟨hS_, hBM_, hBC_, hBR_, hBF_, hBK_, hQ_, hNBM_, hNBC_, hNBR_, hNBF_, hNBK_, hG_, hB_⟩
    clear BM BC BR BF BK HB hHeld
    have BM := aQ hBM_
    have BC := aQ hBC_
    have BR := aQ hBR_
    have BF := aQ hBF_
    have BK := aQ hBK_
    have BQ := aQ hQ_
    have NBMBQ := aQ hNBM_
    have NBCBQ := aQ hNBC_
    have NBRBQ := aQ hNBR_
    have NBFBQ := aQ hNBF_
    have NBKBQ := aQ hNBK_
    have GBQ := aQ hG_
    have HB := aQ hB_
    have hHeld : wF_.cell? ⟨gk, 0, none⟩ = some (.func (.func 95) #[] #[.pointer (some ⟨gf, 0, none⟩), .pointer (some ⟨gm, 0, none⟩), .pointer (some ⟨gc, 0, none⟩)]) := hS_
    clear hS_ hBM_ hBC_ hBR_ hBF_ hBK_ hQ_ hNBM_ hNBC_ hNBR_ hNBF_ hNBK_ hG_ hB_
    try dsimp only at BQ NBMBQ NBCBQ NBRBQ NBFBQ NBKBQ GBQ
    refine norm_ (a' := ?_) ?_ ?_
    rotate_left
    ·simp only [putAll, Act.put, List.setIfInBounds_toArray, List.set_cons_zero, List.set_cons_succ]
     rfl
    refine one_ (i := 5) (N := none) #[true, true, true, true, true, true] rfl rfl (by kernel_rfl) (by decide) (fun K hK => ?_)
    have hs5_0 : wF_.cell? ⟨gq, 0, none⟩ = some (.int .i64 0) := (blk_cell BQ.out 0).trans rfl
    have hfs5_0 := blk_frozen BQ.out 0
    have hns5_BK := NBKBQ.out
    have hms5_BK := Ne.symm NBKBQ.out
    refine skip_ (w1 := ?_) (by rfl) rfl ?_ ?_
    rotate_left
    ·go_simp
     rfl
    refine hK.out _ _ (((cell_far (p := ⟨gq, _, none⟩) NBKBQ.out _).trans hHeld)) (fun hHeld => ?_)
    clear hK K
    refine done_ (by kernel_rfl) ?_
    have n_BQ := aQ (blk_put (cs' := #[(.int .i64 r)]) BQ.out 0 (.int .i64 r) rfl)
    have n_BM := aQ (blk_far (p := ⟨gq, 0, none⟩) BM.out NBMBQ.out (.int .i64 r))
    have n_BC := aQ (blk_far (p := ⟨gq, 0, none⟩) BC.out NBCBQ.out (.int .i64 r))
    have n_BR := aQ (blk_far (p := ⟨gq, 0, none⟩) BR.out NBRBQ.out (.int .i64 r))
    have n_BF := aQ (blk_far (p := ⟨gq, 0, none⟩) BF.out NBFBQ.out (.int .i64 r))
    have n_BK := aQ (blk_far (p := ⟨gq, 0, none⟩) BK.out NBKBQ.out (.int .i64 r))
    have n_HB := aQ (below_set (j := 0) (v := (.int .i64 r)) HB.out GBQ.out)
    try clear hHeld
    clear BM
    have BM := n_BM
    clear n_BM
    clear BC
    have BC := n_BC
    clear n_BC
    clear BR
    have BR := n_BR
    clear n_BR
    clear BF
    have BF := n_BF
    clear n_BF
    clear BK
    have BK := n_BK
    clear n_BK
    clear BQ
    have BQ := n_BQ
    clear n_BQ
    clear HB
    have HB := n_HB
    clear n_HB
    generalize (wF_.setCell ⟨gq, 0, none⟩ (.int .i64 r)) = wG_ at BM BC BR BF BK BQ HB ⊢
    go_wp2_with (first | (go_at_call 62; (with_reducible refine (setsOf_walk (fun s => impl_Extend.c k a0_0 l0_1 l1 full r s) 99 _ EG.out (wrap64 (a0_0 + 1)) m y _ HF.out HM.out.1 HM.out.2 HS.out (fun W x b hb hg => calls_of_args (by simp) (Extend2_walk k a0_0 A0_1 c0_1 l0_1 A1 c1 l1 full r x b gf gm gc gq gk W (Kd.C_below (Kd.C_below HR.out (by repeat (first | (with_reducible first | exact HB.out | apply below_alloc | apply pw_below_drewN | apply below_drew1 | refine below_set ?_ GBM.out | refine below_set ?_ GBC.out | refine below_set ?_ GBR.out | refine below_set ?_ GBF.out | refine below_set ?_ GBK.out | refine below_set ?_ GBQ.out) | exact HB.out))) hb) HC.out (Kd.C_below (Kd.C_below HR2.out (by repeat (first | (with_reducible first | exact HB.out | apply below_alloc | apply pw_below_drewN | apply below_drew1 | refine below_set ?_ GBM.out | refine below_set ?_ GBC.out | refine below_set ?_ GBR.out | refine below_set ?_ GBF.out | refine below_set ?_ GBK.out | refine below_set ?_ GBQ.out) | exact HB.out))) hb) HC2.out (blk_below (g := gf) (o := .cells #[(.int .i64 full)] 3 (0, 0)) (pk BF.out) hb) (blk_below (g := gm) (o := .cells #[(.int .i64 a0_0), (.slice A0_1 l0_1.length c0_1)] 26 (0, 0)) (pk BM.out) hb) (blk_below (g := gc) (o := .cells #[(.slice A1 l1.length c1)] 22 (0, 0)) (pk BC.out) hb) (blk_below (g := gq) (o := .cells #[(.int .i64 r)] 3 (0, 0)) (pk BQ.out) hb) (blk_below (g := gk) (o := .cells #[(.func (.func 95) #[] #[.pointer (some ⟨gf, 0, none⟩), .pointer (some ⟨gm, 0, none⟩), .pointer (some ⟨gc, 0, none⟩)])] 61 (0, 0)) (pk BK.out) hb) hg))).mono ?_); rintro e wH_ ⟨v_, rfl, ho_, hb⟩; have m_HO := aQ (Kd.R_lower ho_ (below_size (by repeat (first | (with_reducible first | exact HB.out | apply below_alloc | apply pw_below_drewN | apply below_drew1 | refine below_set ?_ GBM.out | refine below_set ?_ GBC.out | refine below_set ?_ GBR.out | refine below_set ?_ GBF.out | refine below_set ?_ GBK.out | refine below_set ?_ GBQ.out) | exact HB.out)))); have n_BM := aQ (blk_below (g := gm) (o := .cells #[(.int .i64 a0_0), (.slice A0_1 l0_1.length c0_1)] 26 (0, 0)) (pk BM.out) hb); have n_BC := aQ (blk_below (g := gc) (o := .cells #[(.slice A1 l1.length c1)] 22 (0, 0)) (pk BC.out) hb); have n_BR := aQ (blk_below (g := gr) (o := .cells #[(.int .i64 0), (.slice none 0 0)] 26 (0, 0)) (pk BR.out) hb); have n_BF := aQ (blk_below (g := gf) (o := .cells #[(.int .i64 full)] 3 (0, 0)) (pk BF.out) hb); have n_BK := aQ (blk_below (g := gk) (o := .cells #[(.func (.func 95) #[] #[.pointer (some ⟨gf, 0, none⟩), .pointer (some ⟨gm, 0, none⟩), .pointer (some ⟨gc, 0, none⟩)])] 61 (0, 0)) (pk BK.out) hb); have n_BQ := aQ (blk_below (g := gq) (o := .cells #[(.int .i64 r)] 3 (0, 0)) (pk BQ.out) hb); have n_HB := aQ (below_step (by repeat (first | (with_reducible first | exact HB.out | apply below_alloc | apply pw_below_drewN | apply below_drew1 | refine below_set ?_ GBM.out | refine below_set ?_ GBC.out | refine below_set ?_ GBR.out | refine below_set ?_ GBF.out | refine below_set ?_ GBK.out | refine below_set ?_ GBQ.out) | exact HB.out)) hb); clear HB; clear BM; have BM := n_BM; clear n_BM; clear BC; have BC := n_BC; clear n_BC; clear BR; have BR := n_BR; clear n_BR; clear BF; have BF := n_BF; clear n_BF; clear BK; have BK := n_BK; clear n_BK; clear BQ; have BQ := n_BQ; clear n_BQ; have HB := n_HB; clear n_HB; have HO := m_HO; clear m_HO ho_; obtain ⟨AHO, cHO, eHO⟩ := Kd.R_slice HO.out; subst eHO; clear hb; have zeBR0 : wH_.cell? ⟨gr, 0, none⟩ = some (.int .i64 0) := (blk_cell BR.out 0).trans rfl; have zeBR1 : wH_.cell? ⟨gr, 1, none⟩ = some (.slice none 0 0) := (blk_cell BR.out 1).trans rfl; have hf0BR := blk_frozen BR.out 0; have hf1BR := blk_frozen BR.out 1))
    refine bodyPost_ret (results_ct rfl _ _ gr 26 #[(.int .i64 (wrap64 (a0_0 + 1))), (.slice AHO y.length cHO)] (0, 0) _ rfl (by (with_reducible repeat (first | refine blk_drewN ?_ _ | refine blk_drew ?_ | refine blk_alloc ?_ _)); refine blk_put (cs := #[(.int .i64 (wrap64 (a0_0 + 1))), (.slice none 0 0)]) ?_ 1 _ rfl; (with_reducible repeat (first | refine blk_drewN ?_ _ | refine blk_drew ?_ | refine blk_alloc ?_ _)); refine blk_put (cs := #[(.int .i64 0), (.slice none 0 0)]) ?_ 0 _ rfl; (with_reducible repeat (first | refine blk_drewN ?_ _ | refine blk_drew ?_ | refine blk_alloc ?_ _)); exact BR.out) Try.underlying26 rfl (by kernel_rfl)) rfl ?_
    exact ⟨_, rs_, by (with_reducible repeat (first | apply Kd.R_alloc | apply Kd.R_drewN | apply Kd.R_drew)); exact Kd.R_mono (Kd.R_far (p := ⟨gr, 1, none⟩) (Kd.R_far (p := ⟨gr, 0, none⟩) (Kd.R_types HO.out BR.out (by decide)) (fun _ hk => hk.2) _) (fun _ hk => hk.2) _) (fun _ hk => trivial), (by repeat (first | (with_reducible first | exact HB.out | apply below_alloc | apply pw_below_drewN | apply below_drew1 | refine below_set ?_ GBM.out | refine below_set ?_ GBC.out | refine below_set ?_ GBR.out | refine below_set ?_ GBF.out | refine below_set ?_ GBK.out | refine below_set ?_ GBQ.out) | exact HB.out))⟩
   ·rw [if_neg hm] at h; cases h
  ·have c4 := Bool.eq_false_iff.mpr c3
   subst c4
   clear c3
   rw [if_neg (by decide)] at h
   simp only [Option.some.injEq, Prod.mk.injEq] at h
   obtain ⟨rfl, rfl, rfl⟩ := h
   go_enter Try.func40, Try.ntmps40
   go_wp2_with (first | ((with_reducible refine gate_dst (N := 2) rfl ?_); refine box_event ?hg (N := 2) ?hd (cs := #[(.int .i64 a0_0), (.slice A0_1 l0_1.length c0_1)]) (t := 26) ?hr ?_; (case hd => rfl); (case hg => rfl); (case hr => first | (go_simp; done) | (go_simp; rfl)); intro gm hg wa_ hbox hb; have GBM := aQ ((by rw [hg]; exact below_size (pB HB.out)) : w.heap.size ≤ gm); replace HB := aQ (below_step (pB HB.out) hb); have BM := aQ hbox; clear hb hbox hg; have zBM0 : wa_.cell? ⟨gm, 0, none⟩ = some (.int .i64 a0_0) := (blk_cell BM.out 0).trans rfl; have zBM1 : wa_.cell? ⟨gm, 1, none⟩ = some (.slice A0_1 l0_1.length c0_1) := (blk_cell BM.out 1).trans rfl) | ((with_reducible refine gate_dst (N := 3) rfl ?_); refine box_event ?hg (N := 3) ?hd (cs := #[(.slice A1 l1.length c1)]) (t := 22) ?hr ?_; (case hd => rfl); (case hg => rfl); (case hr => first | (go_simp; done) | (go_simp; rfl)); intro gc hg wb_ hbox hb; have NBMBC := aQ ((by rw [hg]; exact Nat.ne_of_lt (blk_lt (g := gm) (o := .cells #[(.int .i64 a0_0), (.slice A0_1 l0_1.length c0_1)] 26 (0, 0)) (pk BM.out))) : gm ≠ gc); have GBC := aQ ((by rw [hg]; exact below_size (by repeat (first | (with_reducible first | exact HB.out | apply below_alloc | apply pw_below_drewN | apply below_drew1 | refine below_set ?_ GBM.out) | exact HB.out))) : w.heap.size ≤ gc); have n_BM := aQ (blk_below (g := gm) (o := .cells #[(.int .i64 a0_0), (.slice A0_1 l0_1.length c0_1)] 26 (0, 0)) (pk BM.out) hb); have n_HB := aQ (below_step (by repeat (first | (with_reducible first | exact HB.out | apply below_alloc | apply pw_below_drewN | apply below_drew1 | refine below_set ?_ GBM.out) | exact HB.out)) hb); clear HB; clear BM; have BM := n_BM; clear n_BM; have HB := n_HB; clear n_HB; have BC := aQ hbox; clear hb hbox hg; have zBM0 : wb_.cell? ⟨gm, 0, none⟩ = some (.int .i64 a0_0) := (blk_cell BM.out 0).trans rfl; have zBM1 : wb_.cell? ⟨gm, 1, none⟩ = some (.slice A0_1 l0_1.length c0_1) := (blk_cell BM.out 1).trans rfl; have zBC0 : wb_.cell? ⟨gc, 0, none⟩ = some (.slice A1 l1.length c1) := (blk_cell BC.out 0).trans rfl) | ((with_reducible refine gate_dst (N := 4) rfl ?_); refine box_event ?hg (N := 4) ?hd (cs := #[(.int .i64 0), (.slice none 0 0)]) (t := 26) ?hr ?_; (case hd => rfl); (case hg => rfl); (case hr => first | (go_simp; done) | (go_simp; rfl)); intro gr hg wc_ hbox hb; have NBMBR := aQ ((by rw [hg]; exact Nat.ne_of_lt (blk_lt (g := gm) (o := .cells #[(.int .i64 a0_0), (.slice A0_1 l0_1.length c0_1)] 26 (0, 0)) (pk BM.out))) : gm ≠ gr); have NBCBR := aQ ((by rw [hg]; exact Nat.ne_of_lt (blk_lt (g := gc) (o := .cells #[(.slice A1 l1.length c1)] 22 (0, 0)) (pk BC.out))) : gc ≠ gr); have GBR := aQ ((by rw [hg]; exact below_size (by repeat (first | (with_reducible first | exact HB.out | apply below_alloc | apply pw_below_drewN | apply below_drew1 | refine below_set ?_ GBM.out | refine below_set ?_ GBC.out) | exact HB.out))) : w.heap.size ≤ gr); have n_BM := aQ (blk_below (g := gm) (o := .cells #[(.int .i64 a0_0), (.slice A0_1 l0_1.length c0_1)] 26 (0, 0)) (pk BM.out) hb); have n_BC := aQ (blk_below (g := gc) (o := .cells #[(.slice A1 l1.length c1)] 22 (0, 0)) (pk BC.out) hb); have n_HB := aQ (below_step (by repeat (first | (with_reducible first | exact HB.out | apply below_alloc | apply pw_below_drewN | apply below_drew1 | refine below_set ?_ GBM.out | refine below_set ?_ GBC.out) | exact HB.out)) hb); clear HB; clear BM; have BM := n_BM; clear n_BM; clear BC; have BC := n_BC; clear n_BC; have HB := n_HB; clear n_HB; have BR := aQ hbox; clear hb hbox hg; have zBM0 : wc_.cell? ⟨gm, 0, none⟩ = some (.int .i64 a0_0) := (blk_cell BM.out 0).trans rfl; have zBM1 : wc_.cell? ⟨gm, 1, none⟩ = some (.slice A0_1 l0_1.length c0_1) := (blk_cell BM.out 1).trans rfl; have zBC0 : wc_.cell? ⟨gc, 0, none⟩ = some (.slice A1 l1.length c1) := (blk_cell BC.out 0).trans rfl; have zBR0 : wc_.cell? ⟨gr, 0, none⟩ = some (.int .i64 0) := (blk_cell BR.out 0).trans rfl; have zBR1 : wc_.cell? ⟨gr, 1, none⟩ = some (.slice none 0 0) := (blk_cell BR.out 1).trans rfl; have hf0BR := blk_frozen BR.out 0; have hf1BR := blk_frozen BR.out 1) | (go_at_call 93; (with_reducible refine (impl_IsModularCut.calls k a0_0 _ _ l0_1 _ _ l1 false _ ?side1 ?side2 ?side3 ?side4 HT.out).mono ?_); (case side1 => exact (Kd.C_below HR.out (by repeat (first | (with_reducible first | exact HB.out | apply below_alloc | apply pw_below_drewN | apply below_drew1 | refine below_set ?_ GBM.out | refine below_set ?_ GBC.out | refine below_set ?_ GBR.out) | exact HB.out)))); (case side2 => exact HC.out); (case side3 => exact (Kd.C_below HR2.out (by repeat (first | (with_reducible first | exact HB.out | apply below_alloc | apply pw_below_drewN | apply below_drew1 | refine below_set ?_ GBM.out | refine below_set ?_ GBC.out | refine below_set ?_ GBR.out) | exact HB.out)))); (case side4 => exact HC2.out); rintro e wd_ ⟨rfl, hb⟩; have n_BM := aQ (blk_below (g := gm) (o := .cells #[(.int .i64 a0_0), (.slice A0_1 l0_1.length c0_1)] 26 (0, 0)) (pk BM.out) hb); have n_BC := aQ (blk_below (g := gc) (o := .cells #[(.slice A1 l1.length c1)] 22 (0, 0)) (pk BC.out) hb); have n_BR := aQ (blk_below (g := gr) (o := .cells #[(.int .i64 0), (.slice none 0 0)] 26 (0, 0)) (pk BR.out) hb); have n_HB := aQ (below_step (by repeat (first | (with_reducible first | exact HB.out | apply below_alloc | apply pw_below_drewN | apply below_drew1 | refine below_set ?_ GBM.out | refine below_set ?_ GBC.out | refine below_set ?_ GBR.out) | exact HB.out)) hb); clear HB; clear BM; have BM := n_BM; clear n_BM; clear BC; have BC := n_BC; clear n_BC; clear BR; have BR := n_BR; clear n_BR; have HB := n_HB; clear n_HB; clear hb; have zBM0 : wd_.cell? ⟨gm, 0, none⟩ = some (.int .i64 a0_0) := (blk_cell BM.out 0).trans rfl; have zBM1 : wd_.cell? ⟨gm, 1, none⟩ = some (.slice A0_1 l0_1.length c0_1) := (blk_cell BM.out 1).trans rfl; have zBC0 : wd_.cell? ⟨gc, 0, none⟩ = some (.slice A1 l1.length c1) := (blk_cell BC.out 0).trans rfl; have zBR0 : wd_.cell? ⟨gr, 0, none⟩ = some (.int .i64 0) := (blk_cell BR.out 0).trans rfl; have zBR1 : wd_.cell? ⟨gr, 1, none⟩ = some (.slice none 0 0) := (blk_cell BR.out 1).trans rfl; have hf0BR := blk_frozen BR.out 0; have hf1BR := blk_frozen BR.out 1))
   refine bodyPost_ret (results_ct rfl _ _ gr 26 #[(.int .i64 0), (.slice none 0 0)] (0, 0) _ rfl (by (with_reducible repeat (first | refine blk_drewN ?_ _ | refine blk_drew ?_ | refine blk_alloc ?_ _)); refine blk_put (cs := #[(.int .i64 0), (.slice none 0 0)]) ?_ 1 _ rfl; (with_reducible repeat (first | refine blk_drewN ?_ _ | refine blk_drew ?_ | refine blk_alloc ?_ _)); refine blk_put (cs := #[(.int .i64 0), (.slice none 0 0)]) ?_ 0 _ rfl; (with_reducible repeat (first | refine blk_drewN ?_ _ | refine blk_drew ?_ | refine blk_alloc ?_ _)); exact BR.out) Try.underlying26 rfl (by kernel_rfl)) rfl ?_
   exact ⟨_, rs_, Kd.R_nil _ _ _ _ _, (by repeat (first | (with_reducible first | exact HB.out | apply below_alloc | apply pw_below_drewN | apply below_drew1 | refine below_set ?_ GBM.out | refine below_set ?_ GBC.out | refine below_set ?_ GBR.out) | exact HB.out))⟩
end Go.Proofs.Ytagncnjllpebjaa.A
