/- Machine side of the law FnTransversals: Go functions as Lean functions, and proofs that calls come to what these tell. Conditions: those in each theorem. -/
import Derived.Test.YtimkekeaeojpkaaMFnTransversals0
import Derived.Test.YtimkekeaeojpkaaMFnTransversalsq0
import Derived.Test.YtimkekeaeojpkaaMFnTransversals1
import Derived.Test.YtimkekeaeojpkaaMFnTransversals2
namespace Go.Proofs.Ytimkekeaeojpkaa.A
open Go.RowKit Go.Proofs.YtimkekeaeojpkaaW.PrintWords Go.Proofs.YtimkekeaeojpkaaW.PrintLast Go.Proofs.YtimkekeaeojpkaaW.PrintMore
attribute [local go_sem] max2_int min2_int max_two min_two max_three min_three max_four min_four
set_option linter.unusedVariables false
set_option linter.unusedSimpArgs false
/-! ### impl_AssignmentOf: function 44 -/
def impl_AssignmentOf.j0 : Nat → List Int → Int → Bool → Option (List Int × Bool)
 | 0, _, _, _ => none
 | k + 1, x1, x2, x17 => if x17 = true then (some (([] : List Int), false)) else ((impl_ElementsOf.f k x2).bind fun t45003 => ((impl_assign.f k x1 t45003 ([] : List Int)).bind fun bt45006 => (some (bt45006.1, bt45006.2))))
def impl_AssignmentOf.f (k : Nat) (a0 : Int) (l1 : List Int) (a2 : Int) : Option (List Int × Bool) := (impl_AreLists.f k a0 l1).bind fun t45001 => (if t45001 = true then ((impl_IsSet.f a0 a2).bind fun t45002 => (impl_AssignmentOf.j0 k l1 a2 (!t45002))) else (impl_AssignmentOf.j0 k l1 a2 true))
theorem impl_AssignmentOf.mono_l : ∀ k, (∀ y0 y1 y2, LeO (impl_AssignmentOf.j0 k y0 y1 y2) (impl_AssignmentOf.j0 (k + 1) y0 y1 y2))
 | 0 => fun _ _ _ r h => by simp [impl_AssignmentOf.j0] at h
 | k + 1 => by
  have ih0 := impl_AssignmentOf.mono_l k
  ·intro y0 y1 y2
   unfold impl_AssignmentOf.j0
   repeat' first
   | (with_reducible exact ih0 _ _ _)
   | (with_reducible exact impl_AreLists.mono _ _ _)
   | (with_reducible exact impl_ElementsOf.mono _ _)
   | (with_reducible exact impl_assign.mono _ _ _ _)
   | (with_reducible exact LeO.refl _)
   | (with_reducible exact LeO.none _)
   | (with_reducible refine LeO.ite ?_ ?_)
   | (with_reducible refine LeO.bind ?_ (fun _ => ?_))
   | exact ih0 _ _ _
   | exact impl_AreLists.mono _ _ _
   | exact impl_ElementsOf.mono _ _
   | exact impl_assign.mono _ _ _ _
   | exact LeO.none _
   | refine LeO.ite ?_ ?_
   | refine LeO.bind ?_ (fun _ => ?_)
theorem impl_AssignmentOf.mono : ∀ a0 a1 a2 k, LeO (impl_AssignmentOf.f k a0 a1 a2) (impl_AssignmentOf.f (k + 1) a0 a1 a2) := by
 intro a0 a1 a2 k
 have ih0 := impl_AssignmentOf.mono_l k
 unfold impl_AssignmentOf.f
 repeat' first
   | (with_reducible exact ih0 _ _ _)
   | (with_reducible exact impl_AreLists.mono _ _ _)
   | (with_reducible exact impl_ElementsOf.mono _ _)
   | (with_reducible exact impl_assign.mono _ _ _ _)
   | (with_reducible exact LeO.refl _)
   | (with_reducible exact LeO.none _)
   | (with_reducible refine LeO.ite ?_ ?_)
   | (with_reducible refine LeO.bind ?_ (fun _ => ?_))
   | exact ih0 _ _ _
   | exact impl_AreLists.mono _ _ _
   | exact impl_ElementsOf.mono _ _
   | exact impl_assign.mono _ _ _ _
   | exact LeO.none _
   | refine LeO.ite ?_ ?_
   | refine LeO.bind ?_ (fun _ => ?_)
set_option maxHeartbeats 8000000 in
set_option maxRecDepth 100000 in
theorem impl_AssignmentOf.calls (k : Nat) (a0 : Int) (A1 : Option Addr) (c1 : Nat) (l1 : List Int) (a2 : Int) (r1 : List Int) (r2 : Bool) (w : World) (hr1 : Kd.C (Kd.int .i64) w A1 l1.length l1) (hc1 : l1.length ≤ c1) (h : impl_AssignmentOf.f k a0 l1 a2 = some (r1, r2)) :
  Calls Try.prog 44 #[.int .i64 a0, .slice A1 l1.length c1, .int .i64 a2] w fun e w' => ∃ v0_ : Value, e = .returned (.tuple #[v0_, .bool r2]) ∧ Kd.R (Kd.int .i64) 3 w' w.heap.size (fun _ => True) v0_ r1 ∧ Below w.heap.size w w' := by
 have HR1 := aQ hr1
 have HC1 := aQ hc1
 clear hr1 hc1
 have HB := aQ (Below.refl w.heap.size w)
 have H : ((impl_AreLists.f k a0 l1).bind fun t45001 => (if t45001 = true then ((impl_IsSet.f a0 a2).bind fun t45002 => (impl_AssignmentOf.j0 k l1 a2 (!t45002))) else (impl_AssignmentOf.j0 k l1 a2 true))) = some (r1, r2) := h
 clear h
 have HC4 := aQ H
 clear H
 go_enter Try.func44, Try.ntmps44
 go_upto_region 1 with (fail)
 go_cut [17] (fun v17 wc => ∃ (kq : Nat) (x17_3 : Bool), v17 = .bool x17_3 ∧ Aside0 (impl_AssignmentOf.j0 kq l1 a2 x17_3 = some (r1, r2)) ∧ Aside0 (kq ≤ k) ∧ Aside0 (Below w.heap.size w wc))
 case first =>
  have H := HC4.out
  clear HC4
  replace H := Option.bind_eq_some_iff.mp H
  obtain ⟨t45001, A50, H⟩ := H
  replace H : (if t45001 = true then ((impl_IsSet.f a0 a2).bind fun t45002 => (impl_AssignmentOf.j0 k l1 a2 (!t45002))) else (impl_AssignmentOf.j0 k l1 a2 true)) = some (r1, r2) := H
  have A5 := aQ A50
  clear A50
  by_cases c6 : t45001 = true
  ·subst c6
   have H1 : ((impl_IsSet.f a0 a2).bind fun t45002 => (impl_AssignmentOf.j0 k l1 a2 (!t45002))) = some (r1, r2) := by rw [if_pos rfl] at H; exact H
   clear H
   have H := H1
   clear H1
   replace H := Option.bind_eq_some_iff.mp H
   obtain ⟨t45002, A70, H⟩ := H
   replace H : (impl_AssignmentOf.j0 k l1 a2 (!t45002)) = some (r1, r2) := H
   have A7 := aQ A70
   clear A70
   have H' := aQ H
   clear H
   go_wp2_with (first | ((with_reducible refine gate_callee (f := 50) rfl ?_); refine goesL_ (some 10) rfl rfl Try.func50 (by kernel_rfl) rfl #[.int .i64 a0, .slice A1 l1.length c1] rfl lm ?_; (with_reducible refine (impl_AreLists.calls k a0 _ _ l1 true _ ?side1 ?side2 A5.out).mono ?_); (case side1 => exact pC (Kd.C_below HR1.out HB.out)); (case side2 => exact HC1.out); rintro e w' ⟨rfl, ⟨nd, rfl⟩⟩; refine ⟨_, rfl, ?_⟩) | (go_at_call 86; (with_reducible refine (impl_IsSet.calls a0 a2 t45002 _ A7.out).mono ?_); rintro e w' ⟨rfl, ⟨nd, rfl⟩⟩))
   go_meet
   case rel => exact ⟨_, (!t45002), rs_, H', ⟨by first | omega | exact Nat.le_refl _⟩, ⟨pB HB.out⟩⟩
  ·replace c6 := Bool.eq_false_iff.mpr c6
   subst c6
   have H1 : (impl_AssignmentOf.j0 k l1 a2 true) = some (r1, r2) := by rw [if_neg (show ¬ (false = true) by decide)] at H; exact H
   clear H
   have H := H1
   clear H1
   have H' := aQ H
   clear H
   go_wp2_with (first | ((with_reducible refine gate_callee (f := 50) rfl ?_); refine goesL_ (some 10) rfl rfl Try.func50 (by kernel_rfl) rfl #[.int .i64 a0, .slice A1 l1.length c1] rfl lm ?_; (with_reducible refine (impl_AreLists.calls k a0 _ _ l1 false _ ?side1 ?side2 A5.out).mono ?_); (case side1 => exact pC (Kd.C_below HR1.out HB.out)); (case side2 => exact HC1.out); rintro e w' ⟨rfl, ⟨nd, rfl⟩⟩; refine ⟨_, rfl, ?_⟩))
   go_meet
   case rel => exact ⟨_, (true), rs_, H', ⟨by first | omega | exact Nat.le_refl _⟩, ⟨pB HB.out⟩⟩
 case rest =>
  clear HC4
  try clear c1
  try clear p2
  try clear c4
  try clear c5
  try clear c6
  obtain ⟨kq, x17_3, rfl, HA, HJ3, HB⟩ := hcut
  cases kq with
  | zero => exact absurd HA.out (by simp [impl_AssignmentOf.j0])
  | succ kj3 =>
   have H := HA.out
   clear HA
   simp only [impl_AssignmentOf.j0] at H
   by_cases c8 : x17_3 = true
   ·subst c8
    have H1 : (some (([] : List Int), false)) = some (r1, r2) := by rw [if_pos rfl] at H; exact H
    clear H
    have H := H1
    clear H1
    simp only [Option.some.injEq, Prod.mk.injEq] at H
    obtain ⟨rfl, rfl⟩ := H
    go_wp2
    go_ret2
    exact ⟨_, by first | rfl | (simp [errW_none, errW_some] <;> rfl) | (simp [*, errW_none, errW_some] <;> rfl), by first | exact Kd.R_nil _ _ _ _ _ | exact Kd.N_nil _ _ _ _ _ | exact Kd.V_nil _ _ _ _ _ | exact Kd.Q_nil _ _ _ _ _ | exact Kd.S_nil _ _ _ _ _, pB HB.out⟩
   ·replace c8 := Bool.eq_false_iff.mpr c8
    subst c8
    have H1 : ((impl_ElementsOf.f kj3 a2).bind fun t45003 => ((impl_assign.f kj3 l1 t45003 ([] : List Int)).bind fun bt45006 => (some (bt45006.1, bt45006.2)))) = some (r1, r2) := by rw [if_neg (show ¬ (false = true) by decide)] at H; exact H
    clear H
    have H := H1
    clear H1
    replace H := Option.bind_eq_some_iff.mp H
    obtain ⟨t45003, A90, H⟩ := H
    replace H : ((impl_assign.f kj3 l1 t45003 ([] : List Int)).bind fun bt45006 => (some (bt45006.1, bt45006.2))) = some (r1, r2) := H
    have A9 := aQ A90
    clear A90
    replace H := Option.bind_eq_some_iff.mp H
    obtain ⟨⟨t45006, t45009⟩, A100, H⟩ := H
    replace H : (some (t45006, t45009)) = some (r1, r2) := H
    have A10 := aQ A100
    clear A100
    simp only [Option.some.injEq, Prod.mk.injEq] at H
    obtain ⟨rfl, rfl⟩ := H
    go_wp2_with (first | ((with_reducible refine gate_callee (f := 104) rfl ?_); refine goesL_ (some 20) rfl rfl Try.func104 (by kernel_rfl) rfl #[.int .i64 a2] rfl lm ?_; (with_reducible refine (impl_ElementsOf.calls kj3 a2 t45003 _ A9.out).mono ?_); rintro e w11 ⟨v45004, rfl, ho0, hb⟩; refine ⟨_, rfl, ?_⟩; have HO45005 := aQ (Kd.R_lower ho0 (below_size (pB HB.out))); replace HB := aQ (below_step (pB HB.out) hb); (try clear hb); (try clear ho0); obtain ⟨Ao12, co12, eo12⟩ := Kd.R_slice HO45005.out; subst eo12) | ((with_reducible refine gate_callee (f := 103) rfl ?_); refine goesL_ (some 21) rfl rfl Try.func103 (by kernel_rfl) rfl #[.slice A1 l1.length c1, .slice Ao12 t45003.length co12, .slice none 0 0] rfl lm ?_; (refine (impl_assign.calls kj3 _ _ l1 _ _ t45003 (fun k_ => some k_ = (.slice none 0 0 : Value).ownBlock) (.slice none 0 0) ([] : List Int) t45006 t45009 w _ ?side1 ?side2 ?side3 ?side4 ?side5 ?side6 A10.out).mono ?_); (case side1 => repeat (first | (with_reducible first | exact HB.out | apply below_alloc | apply pw_below_drewN | apply below_drew1) | exact HB.out)); (case side2 => exact Kd.C_kept_came (Kd.heap_int .i64) HR1.out (pB HB.out) (fun k_ hs_ => (fun e_ => by simp [Value.ownBlock] at e_) hs_)); (case side3 => exact HC1.out); (case side4 => exact Kd.C_kept_own (HO45005.out) (fun k_ hk_ hs_ => (fun e_ => by simp [Value.ownBlock] at e_) hs_)); (case side5 => exact (Kd.R_reads' HO45005.out).2.1); (case side6 => exact Kd.R_nil _ _ _ _ _); rintro e w13 ⟨v45007, rfl, ho0, hb, hkp⟩; refine ⟨_, rfl, ?_⟩; have HO45008 := aQ (Kd.R_mono (ok' := fun k_ => some k_ ≠ (.slice Ao12 t45003.length co12 : Value).ownBlock) ho0 (fun k_ hk_ => Or.elim hk_ (fun hs_ => absurd hs_ (by simp [Value.ownBlock])) (fun hn_ => (Kd.fresh' (Kd.R_lt (pR HO45005.out)) k_ hn_)))); replace HO45005 := aQ (Kd.R_mono (ok' := fun k_ => some k_ ≠ (v45007 : Value).ownBlock) (Kd.R_keptB (HO45005.out) hkp (fun k_ hk_ hs_ => (fun e_ => by simp [Value.ownBlock] at e_) hs_)) (fun k_ hk_ => fun e_ => Or.elim (ho0.1 k_ e_.symm) (fun hs_ => hk_.2.1 hs_) (fun hn_ => Nat.not_le.2 hk_.2.2 hn_))); replace HB := aQ (hb); (try clear hb); (try clear hkp); (try clear ho0)))
    go_ret2
    exact ⟨_, by first | rfl | (simp [errW_none, errW_some] <;> rfl) | (simp [*, errW_none, errW_some] <;> rfl), by (with_reducible repeat (first | apply Kd.R_alloc | apply Kd.R_drewN | apply Kd.R_drew)); exact Kd.R_mono HO45008.out (fun _ hk => trivial), pB HB.out⟩
end Go.Proofs.Ytimkekeaeojpkaa.A
namespace Go.Proofs.Ytimkekeaeojpkaa.A
open Go.RowKit Go.Proofs.YtimkekeaeojpkaaW.PrintWords Go.Proofs.YtimkekeaeojpkaaW.PrintLast Go.Proofs.YtimkekeaeojpkaaW.PrintMore Go.Proofs.Ytimkekeaeojpkaa.Z
attribute [local go_sem] max2_int min2_int max_two min_two max_three min_three max_four min_four
set_option linter.unusedVariables false
set_option linter.unusedSimpArgs false
/-! ### impl_FromSets: function 42 (by hand) -/
def impl_FromSets.c (k : Nat) (n : Int) (l : List Int) (s : Int) : Option Bool := (impl_AssignmentOf.f k n l s).bind fun b => some b.2
theorem impl_FromSets.c_mono (n : Int) (l : List Int) (s : Int) (k : Nat) : LeO (impl_FromSets.c k n l s) (impl_FromSets.c (k + 1) n l s) := by
 unfold impl_FromSets.c
 exact LeO.bind (impl_AssignmentOf.mono _ _ _ _) (fun t => LeO.refl _)
def impl_FromSets.f (k : Nat) (a0 : Int) (l1 : List Int) : Option (Int × List Int) := (impl_AreLists.f k a0 l1).bind fun t => if t = true then (impl_FullSet.f a0).bind fun m => if 0 ≤ m ∧ m ≤ 1000 then (setsO (fun s => impl_FromSets.c k a0 l1 s) m).bind fun y => (impl_fromIndependent.f k a0 y).bind fun b => some (b.1, b.2.1) else none else some (0, ([] : List Int))
theorem impl_FromSets.mono : ∀ a0 a1 k, LeO (impl_FromSets.f k a0 a1) (impl_FromSets.f (k + 1) a0 a1) := by
 intro a0 a1 k
 unfold impl_FromSets.f
 exact LeO.bind (impl_AreLists.mono _ _ _) (fun t => LeO.ite (LeO.bind (LeO.refl _) (fun m => LeO.ite (LeO.bind (LeO_setsO (fun s => impl_FromSets.c_mono a0 a1 s k) m) (fun y => LeO.bind (impl_fromIndependent.mono _ _ _) (fun b => LeO.refl _))) (LeO.none _))) (LeO.refl _))
set_option maxHeartbeats 4000000 in
set_option maxRecDepth 100000 in
theorem FromSets1_walk (k : Nat) (n : Int) (A : Option Addr) (c : Nat) (l : List Int) (s : Int) (b : Bool) (gn gs : Nat) (w : World)
  (hr : Kd.C (Kd.int .i64) w A l.length l) (hc : l.length ≤ c)
  (hn : w.heap[gn]? = some (.cells #[.int .i64 n] 3 (0, 0))) (hs : w.heap[gs]? = some (.cells #[.slice A l.length c] 22 (0, 0))) (h : impl_FromSets.c k n l s = some b) :
  Calls Try.prog 102 #[.int .i64 s, .pointer (some ⟨gn, 0, none⟩), .pointer (some ⟨gs, 0, none⟩)] w fun e w' => e = .returned (.bool b) ∧ Below w.heap.size w w' := by
 unfold impl_FromSets.c at h
 obtain ⟨⟨t1, t2⟩, hT, h⟩ := Option.bind_eq_some_iff.1 h
 simp only [Option.some.injEq] at h
 subst h
 have hcn : w.cell? ⟨gn, 0, none⟩ = some (.int .i64 n) := (blk_cell hn 0).trans rfl
 have hcs : w.cell? ⟨gs, 0, none⟩ = some (.slice A l.length c) := (blk_cell hs 0).trans rfl
 have HT := Lib.hid hT
 have HR := Lib.hid hr
 have HC := Lib.hid hc
 clear hn hs hr hc hT
 go_enter Try.func102, Try.ntmps102
 go_wp2_with (first | (go_at_call 44; (with_reducible refine (impl_AssignmentOf.calls k n _ _ l s t1 t2 _ ?side1 ?side2 HT.out).mono ?_); (case side1 => exact HR.out); (case side2 => exact HC.out); rintro e w1_ ⟨v_, rfl, ho_, hb⟩; have HB := aQ hb; clear hb ho_))
 go_ret
 exact ⟨rs_, HB.out⟩
set_option maxHeartbeats 4000000 in
set_option maxRecDepth 100000 in
theorem impl_FromSets.calls (k : Nat) (a0 : Int) (A1 : Option Addr) (c1 : Nat) (l1 : List Int) (r1 : Int) (r2 : List Int) (w : World) (hr1 : Kd.C (Kd.int .i64) w A1 l1.length l1) (hc1 : l1.length ≤ c1) (h : impl_FromSets.f k a0 l1 = some (r1, r2)) :
  Calls Try.prog 42 #[.int .i64 a0, .slice A1 l1.length c1] w fun e w' => ∃ v1_ : Value, e = .returned (.agg #[.int .i64 r1, v1_]) ∧ Kd.R (Kd.int .i64) 3 w' w.heap.size (fun _ => True) v1_ r2 ∧ Below w.heap.size w w' := by
 have hu2 := Try.underlying28
 have HR := aQ hr1
 have HC := aQ hc1
 have HB := aQ (Below.refl w.heap.size w)
 clear hr1 hc1
 have EG := aQ (show ∀ args w, (callFunc 102 args).run Try.prog w = .ok (.enter 102 args) w from runs_of Try.func102 (by kernel_rfl) rfl)
 unfold impl_FromSets.f at h
 obtain ⟨t, hT, h⟩ := Option.bind_eq_some_iff.1 h
 have HT := aQ hT
 clear hT
 by_cases c3 : t = true
 ·subst c3
  rw [if_pos rfl] at h
  obtain ⟨m, hF, h⟩ := Option.bind_eq_some_iff.1 h
  by_cases hm : 0 ≤ m ∧ m ≤ 1000
  ·rw [if_pos hm] at h
   obtain ⟨y, hS, h⟩ := Option.bind_eq_some_iff.1 h
   obtain ⟨⟨b1, b2, b3⟩, hI, h⟩ := Option.bind_eq_some_iff.1 h
   simp only [Option.some.injEq, Prod.mk.injEq] at h
   obtain ⟨rfl, rfl⟩ := h
   have HF := aQ hF
   have HM := aQ hm
   have HS := Lib.hid hS
   have HI := Lib.hid hI
   clear hF hm hS hI
   go_enter Try.func42, Try.ntmps42
   go_wp2_with (first | ((with_reducible refine gate_dst (N := 2) rfl ?_); refine box_event ?hg (N := 2) ?hd (cs := #[(.int .i64 a0)]) (t := 3) ?hr ?_; (case hd => rfl); (case hg => rfl); (case hr => first | (go_simp; done) | (go_simp; rfl)); intro gn hg w1_ hbox hb; have GBN := aQ ((by rw [hg]; exact below_size (pB HB.out)) : w.heap.size ≤ gn); replace HB := aQ (below_step (pB HB.out) hb); have BN := aQ hbox; clear hb hbox hg; have zBN0 : w1_.cell? ⟨gn, 0, none⟩ = some (.int .i64 a0) := (blk_cell BN.out 0).trans rfl) | ((with_reducible refine gate_dst (N := 3) rfl ?_); refine box_event ?hg (N := 3) ?hd (cs := #[(.slice A1 l1.length c1)]) (t := 22) ?hr ?_; (case hd => rfl); (case hg => rfl); (case hr => first | (go_simp; done) | (go_simp; rfl)); intro gs hg w1_ hbox hb; have NBNBS := aQ ((by rw [hg]; exact Nat.ne_of_lt (blk_lt (g := gn) (o := .cells #[(.int .i64 a0)] 3 (0, 0)) (pk BN.out))) : gn ≠ gs); have GBS := aQ ((by rw [hg]; exact below_size (by repeat (first | (with_reducible first | exact HB.out | apply below_alloc | apply pw_below_drewN | apply below_drew1 | refine below_set ?_ GBN.out) | exact HB.out))) : w.heap.size ≤ gs); have n_BN := aQ (blk_below (g := gn) (o := .cells #[(.int .i64 a0)] 3 (0, 0)) (pk BN.out) hb); have n_HB := aQ (below_step (by repeat (first | (with_reducible first | exact HB.out | apply below_alloc | apply pw_below_drewN | apply below_drew1 | refine below_set ?_ GBN.out) | exact HB.out)) hb); clear HB; clear BN; have BN := n_BN; clear n_BN; have HB := n_HB; clear n_HB; have BS := aQ hbox; clear hb hbox hg; have zBN0 : w1_.cell? ⟨gn, 0, none⟩ = some (.int .i64 a0) := (blk_cell BN.out 0).trans rfl; have zBS0 : w1_.cell? ⟨gs, 0, none⟩ = some (.slice A1 l1.length c1) := (blk_cell BS.out 0).trans rfl) | ((with_reducible refine gate_dst (N := 4) rfl ?_); refine box_event ?hg (N := 4) ?hd (cs := #[(.int .i64 0), (.slice none 0 0)]) (t := 28) ?hr ?_; (case hd => rfl); (case hg => rfl); (case hr => first | (go_simp; done) | (go_simp; rfl)); intro gr hg w1_ hbox hb; have NBNBR := aQ ((by rw [hg]; exact Nat.ne_of_lt (blk_lt (g := gn) (o := .cells #[(.int .i64 a0)] 3 (0, 0)) (pk BN.out))) : gn ≠ gr); have NBSBR := aQ ((by rw [hg]; exact Nat.ne_of_lt (blk_lt (g := gs) (o := .cells #[(.slice A1 l1.length c1)] 22 (0, 0)) (pk BS.out))) : gs ≠ gr); have GBR := aQ ((by rw [hg]; exact below_size (by repeat (first | (with_reducible first | exact HB.out | apply below_alloc | apply pw_below_drewN | apply below_drew1 | refine below_set ?_ GBN.out | refine below_set ?_ GBS.out) | exact HB.out))) : w.heap.size ≤ gr); have n_BN := aQ (blk_below (g := gn) (o := .cells #[(.int .i64 a0)] 3 (0, 0)) (pk BN.out) hb); have n_BS := aQ (blk_below (g := gs) (o := .cells #[(.slice A1 l1.length c1)] 22 (0, 0)) (pk BS.out) hb); have n_HB := aQ (below_step (by repeat (first | (with_reducible first | exact HB.out | apply below_alloc | apply pw_below_drewN | apply below_drew1 | refine below_set ?_ GBN.out | refine below_set ?_ GBS.out) | exact HB.out)) hb); clear HB; clear BN; have BN := n_BN; clear n_BN; clear BS; have BS := n_BS; clear n_BS; have HB := n_HB; clear n_HB; have BR := aQ hbox; clear hb hbox hg; have zBN0 : w1_.cell? ⟨gn, 0, none⟩ = some (.int .i64 a0) := (blk_cell BN.out 0).trans rfl; have zBS0 : w1_.cell? ⟨gs, 0, none⟩ = some (.slice A1 l1.length c1) := (blk_cell BS.out 0).trans rfl; have zBR0 : w1_.cell? ⟨gr, 0, none⟩ = some (.int .i64 0) := (blk_cell BR.out 0).trans rfl; have zBR1 : w1_.cell? ⟨gr, 1, none⟩ = some (.slice none 0 0) := (blk_cell BR.out 1).trans rfl) | (go_at_call 50; (with_reducible refine (impl_AreLists.calls k a0 _ _ l1 true _ ?side1 ?side2 HT.out).mono ?_); (case side1 => repeat (first | exact (Kd.C_below HR.out (by repeat (first | (with_reducible first | exact HB.out | apply below_alloc | apply pw_below_drewN | apply below_drew1 | refine below_set ?_ GBN.out | refine below_set ?_ GBS.out | refine below_set ?_ GBR.out) | exact HB.out))) | exact HR.out)); (case side2 => exact HC.out); rintro e w2_ ⟨rfl, ⟨nd, rfl⟩⟩))
   have n_BN : Aside0 ((w1_.drewN nd).drew.heap[gn]? = some (.cells #[(.int .i64 a0)] 3 (0, 0))) := ⟨pk BN.out⟩
   have n_BS : Aside0 ((w1_.drewN nd).drew.heap[gs]? = some (.cells #[(.slice A1 l1.length c1)] 22 (0, 0))) := ⟨pk BS.out⟩
   have n_BR : Aside0 ((w1_.drewN nd).drew.heap[gr]? = some (.cells #[(.int .i64 0), (.slice none 0 0)] 28 (0, 0))) := ⟨pk BR.out⟩
   have n_HB : Aside0 (Below w.heap.size w (w1_.drewN nd).drew) := ⟨(by repeat (first | (with_reducible first | exact HB.out | apply below_alloc | apply pw_below_drewN | apply below_drew1 | refine below_set ?_ GBN.out | refine below_set ?_ GBS.out | refine below_set ?_ GBR.out) | exact HB.out))⟩
   clear BN
   have BN := n_BN
   clear n_BN
   clear BS
   have BS := n_BS
   clear n_BS
   clear BR
   have BR := n_BR
   clear n_BR
   clear HB
   have HB := n_HB
   clear n_HB
   refine start_ (n := 11) (S := fun w' => w'.cell? ⟨gn, 0, none⟩ = some (.int .i64 a0)) (ds := []) #[false, false, false, false, false, false, false, false, false, false, false] (by kernel_rfl) rfl rfl (((blk_cell BN.out 0).trans rfl)) (fun hHeld => ?_)
   generalize (w1_.drewN nd).drew = wD_ at BN BS BR HB hHeld ⊢
   refine pure_ (i := 2) (N := some 15) (v := ?_) (a' := ?_) #[false, false, true, false, false, false, false, false, false, false, false] rfl rfl (by kernel_rfl) (fun _ _ _ h => h) (Or.inl ⟨by rfl, ?_⟩) ?_ ?_
   rotate_left
   ·intro w'
    go_simp
    with_reducible rfl
   rotate_left
   ·simp only [Act.put, List.setIfInBounds_toArray, List.set_cons_zero, List.set_cons_succ, i64_w, i32_w]
    rfl
   refine take_ (i := 0) (N := some 13) (v := ?_) (a' := ?_) #[true, false, true, false, false, false, false, false, false, false, false] rfl rfl (by kernel_rfl) (fun _ _ _ h => h) (Or.inl ⟨by rfl, ?_⟩) hHeld ?_ ?_
   rotate_left
   ·intro w' s0
    go_simp
    with_reducible rfl
   rotate_left
   ·simp only [Act.put, List.setIfInBounds_toArray, List.set_cons_zero, List.set_cons_succ, i64_w, i32_w]
    rfl
   refine take_ (i := 1) (N := some 14) (v := ?_) (a' := ?_) #[true, true, true, false, false, false, false, false, false, false, false] rfl rfl (by kernel_rfl) (fun _ _ _ h => h) (Or.inl ⟨by rfl, ?_⟩) hHeld ?_ ?_
   rotate_left
   ·intro w' s0
    go_simp
    with_reducible rfl
   rotate_left
   ·simp only [Act.put, List.setIfInBounds_toArray, List.set_cons_zero, List.set_cons_succ, i64_w, i32_w]
    rfl
   refine join_ (σ := Value × Value × Nat) 2 #[true, true, true, true, true, true, true, true, true, false, false] (fun s_ => [(16, s_.1), (17, .tuple #[.agg #[.int .i64 b1, s_.2.1], .bool b3]), (12, .tuple #[.agg #[.int .i64 b1, s_.2.1], .bool b3]), (18, .agg #[.int .i64 b1, s_.2.1]), (19, .bool b3), (5, .pointer (some ⟨s_.2.2, 0, none⟩))]) (fun s_ w' => (w'.cell? ⟨gn, 0, none⟩ = some (.int .i64 a0)) ∧ Kd.R (Kd.int .i64) 3 w' w.heap.size (fun _ => True) s_.2.1 b2 ∧ w'.heap[gr]? = some (.cells #[(.int .i64 0), (.slice none 0 0)] 28 (0, 0)) ∧ w'.heap[s_.2.2]? = some (.cells #[(.int .i64 0), (.slice none 0 0)] 28 (0, 0)) ∧ gr ≠ s_.2.2 ∧ gn ≠ s_.2.2 ∧ w.heap.size ≤ s_.2.2 ∧ Below w.heap.size w w' ∧ w'.heap[gn]? = some (.cells #[(.int .i64 a0)] 3 (0, 0))) ?_ ?_
   rotate_left
   ·intro hCont
    refine two_ (i := 3) (j := 8) (Ni := some 16) (Nj := some 5) #[true, true, true, true, false, false, false, false, false, false, false] #[true, true, true, false, false, false, false, false, true, false, false] rfl rfl rfl rfl (by kernel_rfl) (by decide) (by decide) (fun K hK => ?_) (fun K hK => ?_)
    ·skip
     refine goes_ Try.func101 (by kernel_rfl) rfl #[.int .i64 a0, .func (.func 102) #[] #[.pointer (some ⟨gn, 0, none⟩), .pointer (some ⟨gs, 0, none⟩)]] (by rfl) rfl rfl (by (try simp only [List.map_toArray, List.map_cons, List.map_nil]); first | done | rfl) ?_
     with_reducible refine (setsOf_walk (fun s => impl_FromSets.c k a0 l1 s) 102 _ EG.out a0 m y _ HF.out HM.out.1 HM.out.2 HS.out (fun W x b hb hg => calls_of_args (by simp) (FromSets1_walk k a0 A1 c1 l1 x b gn gs W (Kd.C_below (Kd.C_below HR.out (by repeat (first | (with_reducible first | exact HB.out | apply below_alloc | apply pw_below_drewN | apply below_drew1 | refine below_set ?_ GBN.out | refine below_set ?_ GBS.out | refine below_set ?_ GBR.out) | exact HB.out))) hb) HC.out (blk_below (g := gn) (o := .cells #[(.int .i64 a0)] 3 (0, 0)) (pk BN.out) hb) (blk_below (g := gs) (o := .cells #[(.slice A1 l1.length c1)] 22 (0, 0)) (pk BS.out) hb) hg))).mono ?_
     rintro e w3_ ⟨v_, rfl, ho_, hb⟩
     refine ⟨_, rfl, ?_⟩
     have m_HO := aQ (Kd.R_lower ho_ (below_size (by repeat (first | (with_reducible first | exact HB.out | apply below_alloc | apply pw_below_drewN | apply below_drew1 | refine below_set ?_ GBN.out | refine below_set ?_ GBS.out | refine below_set ?_ GBR.out) | exact HB.out))))
     have n_BN := aQ (blk_below (g := gn) (o := .cells #[(.int .i64 a0)] 3 (0, 0)) (pk BN.out) hb)
     have n_BS := aQ (blk_below (g := gs) (o := .cells #[(.slice A1 l1.length c1)] 22 (0, 0)) (pk BS.out) hb)
     have n_BR := aQ (blk_below (g := gr) (o := .cells #[(.int .i64 0), (.slice none 0 0)] 28 (0, 0)) (pk BR.out) hb)
     have n_HB := aQ (below_step (by repeat (first | (with_reducible first | exact HB.out | apply below_alloc | apply pw_below_drewN | apply below_drew1 | refine below_set ?_ GBN.out | refine below_set ?_ GBS.out | refine below_set ?_ GBR.out) | exact HB.out)) hb)
     clear HB
     clear BN
     have BN := n_BN
     clear n_BN
     clear BS
     have BS := n_BS
     clear n_BS
     clear BR
     have BR := n_BR
     clear n_BR
     have HB := n_HB
     clear n_HB
     have HO := m_HO
     clear m_HO ho_
     obtain ⟨AHO, cHO, eHO⟩ := Kd.R_slice HO.out
     subst eHO
     clear hb
     refine hK.out _ _ (((blk_cell BN.out 0).trans rfl)) (fun hHeld => ?_)
     clear hK K
     refine norm_ (a' := ?_) ?_ ?_
     rotate_left
     ·show Act.put _ (some 16) _ = _
      simp only [Act.put, List.setIfInBounds_toArray, List.set_cons_zero, List.set_cons_succ, i64_w, i32_w]
      rfl
     refine two_ (i := 4) (j := 8) (Ni := some 17) (Nj := some 5) #[true, true, true, true, true, false, false, false, false, false, false] #[true, true, true, true, false, false, false, false, true, false, false] rfl rfl rfl rfl (by kernel_rfl) (by decide) (by decide) (fun K hK => ?_) (fun K hK => ?_)
     ·skip
      refine goes_ Try.func100 (by kernel_rfl) rfl #[.int .i64 a0, .slice AHO y.length cHO] (by rfl) rfl rfl (by (try simp only [List.map_toArray, List.map_cons, List.map_nil]); first | done | rfl) ?_
      with_reducible refine (impl_fromIndependent.calls k a0 _ _ y b1 b2 b3 _ ?side1 ?side2 HI.out).mono ?_
      (case side1 => repeat (first | exact (Kd.R_reads' HO.out).2.2 | (with_reducible refine Kd.C_alloc ?_ _) | (with_reducible refine Kd.C_drewN ?_ _) | (with_reducible refine Kd.C_drew ?_)))
      (case side2 => exact (Kd.R_reads' HO.out).2.1)
      rintro e w4_ ⟨v_, rfl, ho_, hb⟩
      refine ⟨_, rfl, ?_⟩
      have m_HP := aQ (Kd.R_lower ho_ (below_size (by repeat (first | (with_reducible first | exact HB.out | apply below_alloc | apply pw_below_drewN | apply below_drew1 | refine below_set ?_ GBN.out | refine below_set ?_ GBS.out | refine below_set ?_ GBR.out) | exact HB.out))))
      have n_BN := aQ (blk_below (g := gn) (o := .cells #[(.int .i64 a0)] 3 (0, 0)) (pk BN.out) hb)
      have n_BS := aQ (blk_below (g := gs) (o := .cells #[(.slice A1 l1.length c1)] 22 (0, 0)) (pk BS.out) hb)
      have n_BR := aQ (blk_below (g := gr) (o := .cells #[(.int .i64 0), (.slice none 0 0)] 28 (0, 0)) (pk BR.out) hb)
      have n_HO := aQ (Kd.R_below (pR HO.out) hb)
      have n_HB := aQ (below_step (by repeat (first | (with_reducible first | exact HB.out | apply below_alloc | apply pw_below_drewN | apply below_drew1 | refine below_set ?_ GBN.out | refine below_set ?_ GBS.out | refine below_set ?_ GBR.out) | exact HB.out)) hb)
      clear HB
      clear BN
      have BN := n_BN
      clear n_BN
      clear BS
      have BS := n_BS
      clear n_BS
      clear BR
      have BR := n_BR
      clear n_BR
      clear HO
      have HO := n_HO
      clear n_HO
      have HB := n_HB
      clear n_HB
      have HP := m_HP
      clear m_HP ho_
      obtain ⟨AHP, cHP, eHP⟩ := Kd.R_slice HP.out
      subst eHP
      clear hb
      refine hK.out _ _ (((blk_cell BN.out 0).trans rfl)) (fun hHeld => ?_)
      clear hK K
      refine norm_ (a' := ?_) ?_ ?_
      rotate_left
      ·show Act.put _ (some 17) _ = _
       simp only [Act.put, List.setIfInBounds_toArray, List.set_cons_zero, List.set_cons_succ, i64_w, i32_w]
       rfl
      refine pure_ (i := 5) (N := some 12) (v := ?_) (a' := ?_) #[true, true, true, true, true, true, false, false, false, false, false] rfl rfl (by kernel_rfl) (fun _ _ _ h => h) (Or.inl ⟨by rfl, ?_⟩) ?_ ?_
      rotate_left
      ·intro w'
       go_simp
       with_reducible rfl
      rotate_left
      ·simp only [Act.put, List.setIfInBounds_toArray, List.set_cons_zero, List.set_cons_succ, i64_w, i32_w]
       rfl
      refine pure_ (i := 6) (N := some 18) (v := ?_) (a' := ?_) #[true, true, true, true, true, true, true, false, false, false, false] rfl rfl (by kernel_rfl) (fun _ _ _ h => h) (Or.inl ⟨by rfl, ?_⟩) ?_ ?_
      rotate_left
      ·intro w'
       go_simp
       with_reducible rfl
      rotate_left
      ·simp only [Act.put, List.setIfInBounds_toArray, List.set_cons_zero, List.set_cons_succ, i64_w, i32_w]
       rfl
      refine pure_ (i := 7) (N := some 19) (v := ?_) (a' := ?_) #[true, true, true, true, true, true, true, true, false, false, false] rfl rfl (by kernel_rfl) (fun _ _ _ h => h) (Or.inl ⟨by rfl, ?_⟩) ?_ ?_
      rotate_left
      ·intro w'
       go_simp
       with_reducible rfl
      rotate_left
      ·simp only [Act.put, List.setIfInBounds_toArray, List.set_cons_zero, List.set_cons_succ, i64_w, i32_w]
       rfl
      refine one_ (i := 8) (N := some 5) #[true, true, true, true, true, true, true, true, true, false, false] rfl rfl (by kernel_rfl) (by decide) (fun K hK => ?_)
      refine box_step ?hg (N := 5) ?hd (cs := #[(.int .i64 0), (.slice none 0 0)]) (t := 28) ?hr ?_; (case hd => rfl); (case hg => rfl); (case hr => first | (go_simp; done) | (go_simp; rfl))
      intro gm hg w8_ hbox hb
      have NBNBM := aQ ((by rw [hg]; exact Nat.ne_of_lt (blk_lt (g := gn) (o := .cells #[(.int .i64 a0)] 3 (0, 0)) (pk BN.out))) : gn ≠ gm)
      have NBSBM := aQ ((by rw [hg]; exact Nat.ne_of_lt (blk_lt (g := gs) (o := .cells #[(.slice A1 l1.length c1)] 22 (0, 0)) (pk BS.out))) : gs ≠ gm)
      have NBRBM := aQ ((by rw [hg]; exact Nat.ne_of_lt (blk_lt (g := gr) (o := .cells #[(.int .i64 0), (.slice none 0 0)] 28 (0, 0)) (pk BR.out))) : gr ≠ gm)
      have GBM := aQ ((by rw [hg]; exact below_size (by repeat (first | (with_reducible first | exact HB.out | apply below_alloc | apply pw_below_drewN | apply below_drew1 | refine below_set ?_ GBN.out | refine below_set ?_ GBS.out | refine below_set ?_ GBR.out) | exact HB.out))) : w.heap.size ≤ gm)
      have n_BN := aQ (blk_below (g := gn) (o := .cells #[(.int .i64 a0)] 3 (0, 0)) (pk BN.out) hb)
      have n_BS := aQ (blk_below (g := gs) (o := .cells #[(.slice A1 l1.length c1)] 22 (0, 0)) (pk BS.out) hb)
      have n_BR := aQ (blk_below (g := gr) (o := .cells #[(.int .i64 0), (.slice none 0 0)] 28 (0, 0)) (pk BR.out) hb)
      have n_HO := aQ (Kd.R_below (pR HO.out) hb)
      have n_HP := aQ (Kd.R_below (pR HP.out) hb)
      have n_HB := aQ (below_step (by repeat (first | (with_reducible first | exact HB.out | apply below_alloc | apply pw_below_drewN | apply below_drew1 | refine below_set ?_ GBN.out | refine below_set ?_ GBS.out | refine below_set ?_ GBR.out) | exact HB.out)) hb)
      clear HB
      clear BN
      have BN := n_BN
      clear n_BN
      clear BS
      have BS := n_BS
      clear n_BS
      clear BR
      have BR := n_BR
      clear n_BR
      clear HO
      have HO := n_HO
      clear n_HO
      clear HP
      have HP := n_HP
      clear n_HP
      have HB := n_HB
      clear n_HB
      have BM := aQ hbox
      clear hb hbox hg
      refine hK.out _ _ (((blk_cell BN.out 0).trans rfl)) (fun hHeld => ?_)
      clear hK K
      refine norm_ (a' := ?_) ?_ ?_
      rotate_left
      ·show Act.put _ (some 5) _ = _
       simp only [Act.put, List.setIfInBounds_toArray, List.set_cons_zero, List.set_cons_succ, i64_w, i32_w]
       rfl
      exact norm_ (by simp only [putAll, Act.put, List.setIfInBounds_toArray, List.set_cons_zero, List.set_cons_succ]) (hCont (.slice AHO y.length cHO, .slice AHP b2.length cHP, gm) _ ⟨hHeld, (pR HP.out), (pk BR.out), (pk BM.out), NBRBM.out, NBNBM.out, GBM.out, (by repeat (first | (with_reducible first | exact HB.out | apply below_alloc | apply pw_below_drewN | apply below_drew1 | refine below_set ?_ GBN.out | refine below_set ?_ GBS.out | refine below_set ?_ GBR.out | refine below_set ?_ GBM.out) | exact HB.out)), (pk BN.out)⟩)
     ·skip
      refine box_step ?hg (N := 5) ?hd (cs := #[(.int .i64 0), (.slice none 0 0)]) (t := 28) ?hr ?_; (case hd => rfl); (case hg => rfl); (case hr => first | (go_simp; done) | (go_simp; rfl))
      intro gm hg w8_ hbox hb
      have NBNBM := aQ ((by rw [hg]; exact Nat.ne_of_lt (blk_lt (g := gn) (o := .cells #[(.int .i64 a0)] 3 (0, 0)) (pk BN.out))) : gn ≠ gm)
      have NBSBM := aQ ((by rw [hg]; exact Nat.ne_of_lt (blk_lt (g := gs) (o := .cells #[(.slice A1 l1.length c1)] 22 (0, 0)) (pk BS.out))) : gs ≠ gm)
      have NBRBM := aQ ((by rw [hg]; exact Nat.ne_of_lt (blk_lt (g := gr) (o := .cells #[(.int .i64 0), (.slice none 0 0)] 28 (0, 0)) (pk BR.out))) : gr ≠ gm)
      have GBM := aQ ((by rw [hg]; exact below_size (by repeat (first | (with_reducible first | exact HB.out | apply below_alloc | apply pw_below_drewN | apply below_drew1 | refine below_set ?_ GBN.out | refine below_set ?_ GBS.out | refine below_set ?_ GBR.out) | exact HB.out))) : w.heap.size ≤ gm)
      have n_BN := aQ (blk_below (g := gn) (o := .cells #[(.int .i64 a0)] 3 (0, 0)) (pk BN.out) hb)
      have n_BS := aQ (blk_below (g := gs) (o := .cells #[(.slice A1 l1.length c1)] 22 (0, 0)) (pk BS.out) hb)
      have n_BR := aQ (blk_below (g := gr) (o := .cells #[(.int .i64 0), (.slice none 0 0)] 28 (0, 0)) (pk BR.out) hb)
      have n_HO := aQ (Kd.R_below (pR HO.out) hb)
      have n_HB := aQ (below_step (by repeat (first | (with_reducible first | exact HB.out | apply below_alloc | apply pw_below_drewN | apply below_drew1 | refine below_set ?_ GBN.out | refine below_set ?_ GBS.out | refine below_set ?_ GBR.out) | exact HB.out)) hb)
      clear HB
      clear BN
      have BN := n_BN
      clear n_BN
      clear BS
      have BS := n_BS
      clear n_BS
      clear BR
      have BR := n_BR
      clear n_BR
      clear HO
      have HO := n_HO
      clear n_HO
      have HB := n_HB
      clear n_HB
      have BM := aQ hbox
      clear hb hbox hg
      refine hK.out _ _ (((blk_cell BN.out 0).trans rfl)) (fun hHeld => ?_)
      clear hK K
      refine norm_ (a' := ?_) ?_ ?_
      rotate_left
      ·show Act.put _ (some 5) _ = _
       simp only [Act.put, List.setIfInBounds_toArray, List.set_cons_zero, List.set_cons_succ, i64_w, i32_w]
       rfl
      refine one_ (i := 4) (N := some 17) #[true, true, true, true, true, false, false, false, true, false, false] rfl rfl (by kernel_rfl) (by decide) (fun K hK => ?_)
      refine goes_ Try.func100 (by kernel_rfl) rfl #[.int .i64 a0, .slice AHO y.length cHO] (by rfl) rfl rfl (by (try simp only [List.map_toArray, List.map_cons, List.map_nil]); first | done | rfl) ?_
      with_reducible refine (impl_fromIndependent.calls k a0 _ _ y b1 b2 b3 _ ?side1 ?side2 HI.out).mono ?_
      (case side1 => repeat (first | exact (Kd.R_reads' HO.out).2.2 | (with_reducible refine Kd.C_alloc ?_ _) | (with_reducible refine Kd.C_drewN ?_ _) | (with_reducible refine Kd.C_drew ?_)))
      (case side2 => exact (Kd.R_reads' HO.out).2.1)
      rintro e w4_ ⟨v_, rfl, ho_, hb⟩
      refine ⟨_, rfl, ?_⟩
      have m_HP := aQ (Kd.R_lower ho_ (below_size (by repeat (first | (with_reducible first | exact HB.out | apply below_alloc | apply pw_below_drewN | apply below_drew1 | refine below_set ?_ GBN.out | refine below_set ?_ GBS.out | refine below_set ?_ GBR.out | refine below_set ?_ GBM.out) | exact HB.out))))
      have n_BN := aQ (blk_below (g := gn) (o := .cells #[(.int .i64 a0)] 3 (0, 0)) (pk BN.out) hb)
      have n_BS := aQ (blk_below (g := gs) (o := .cells #[(.slice A1 l1.length c1)] 22 (0, 0)) (pk BS.out) hb)
      have n_BR := aQ (blk_below (g := gr) (o := .cells #[(.int .i64 0), (.slice none 0 0)] 28 (0, 0)) (pk BR.out) hb)
      have n_BM := aQ (blk_below (g := gm) (o := .cells #[(.int .i64 0), (.slice none 0 0)] 28 (0, 0)) (pk BM.out) hb)
      have n_HO := aQ (Kd.R_below (pR HO.out) hb)
      have n_HB := aQ (below_step (by repeat (first | (with_reducible first | exact HB.out | apply below_alloc | apply pw_below_drewN | apply below_drew1 | refine below_set ?_ GBN.out | refine below_set ?_ GBS.out | refine below_set ?_ GBR.out | refine below_set ?_ GBM.out) | exact HB.out)) hb)
      clear HB
      clear BN
      have BN := n_BN
      clear n_BN
      clear BS
      have BS := n_BS
      clear n_BS
      clear BR
      have BR := n_BR
      clear n_BR
      clear BM
      have BM := n_BM
      clear n_BM
      clear HO
      have HO := n_HO
      clear n_HO
      have HB := n_HB
      clear n_HB
      have HP := m_HP
      clear m_HP ho_
      obtain ⟨AHP, cHP, eHP⟩ := Kd.R_slice HP.out
      subst eHP
      clear hb
      refine hK.out _ _ (((blk_cell BN.out 0).trans rfl)) (fun hHeld => ?_)
      clear hK K
      refine norm_ (a' := ?_) ?_ ?_
      rotate_left
      ·show Act.put _ (some 17) _ = _
       simp only [Act.put, List.setIfInBounds_toArray, List.set_cons_zero, List.set_cons_succ, i64_w, i32_w]
       rfl
      refine pure_ (i := 5) (N := some 12) (v := ?_) (a' := ?_) #[true, true, true, true, true, true, false, false, true, false, false] rfl rfl (by kernel_rfl) (fun _ _ _ h => h) (Or.inl ⟨by rfl, ?_⟩) ?_ ?_
      rotate_left
      ·intro w'
       go_simp
       with_reducible rfl
      rotate_left
      ·simp only [Act.put, List.setIfInBounds_toArray, List.set_cons_zero, List.set_cons_succ, i64_w, i32_w]
       rfl
      refine pure_ (i := 6) (N := some 18) (v := ?_) (a' := ?_) #[true, true, true, true, true, true, true, false, true, false, false] rfl rfl (by kernel_rfl) (fun _ _ _ h => h) (Or.inl ⟨by rfl, ?_⟩) ?_ ?_
      rotate_left
      ·intro w'
       go_simp
       with_reducible rfl
      rotate_left
      ·simp only [Act.put, List.setIfInBounds_toArray, List.set_cons_zero, List.set_cons_succ, i64_w, i32_w]
       rfl
      refine pure_ (i := 7) (N := some 19) (v := ?_) (a' := ?_) #[true, true, true, true, true, true, true, true, true, false, false] rfl rfl (by kernel_rfl) (fun _ _ _ h => h) (Or.inl ⟨by rfl, ?_⟩) ?_ ?_
      rotate_left
      ·intro w'
       go_simp
       with_reducible rfl
      rotate_left
      ·simp only [Act.put, List.setIfInBounds_toArray, List.set_cons_zero, List.set_cons_succ, i64_w, i32_w]
       rfl
      exact norm_ (by simp only [putAll, Act.put, List.setIfInBounds_toArray, List.set_cons_zero, List.set_cons_succ]) (hCont (.slice AHO y.length cHO, .slice AHP b2.length cHP, gm) _ ⟨hHeld, (pR HP.out), (pk BR.out), (pk BM.out), NBRBM.out, NBNBM.out, GBM.out, (by repeat (first | (with_reducible first | exact HB.out | apply below_alloc | apply pw_below_drewN | apply below_drew1 | refine below_set ?_ GBN.out | refine below_set ?_ GBS.out | refine below_set ?_ GBR.out | refine below_set ?_ GBM.out) | exact HB.out)), (pk BN.out)⟩)
    ·skip
     refine box_step ?hg (N := 5) ?hd (cs := #[(.int .i64 0), (.slice none 0 0)]) (t := 28) ?hr ?_; (case hd => rfl); (case hg => rfl); (case hr => first | (go_simp; done) | (go_simp; rfl))
     intro gm hg w8_ hbox hb
     have NBNBM := aQ ((by rw [hg]; exact Nat.ne_of_lt (blk_lt (g := gn) (o := .cells #[(.int .i64 a0)] 3 (0, 0)) (pk BN.out))) : gn ≠ gm)
     have NBSBM := aQ ((by rw [hg]; exact Nat.ne_of_lt (blk_lt (g := gs) (o := .cells #[(.slice A1 l1.length c1)] 22 (0, 0)) (pk BS.out))) : gs ≠ gm)
     have NBRBM := aQ ((by rw [hg]; exact Nat.ne_of_lt (blk_lt (g := gr) (o := .cells #[(.int .i64 0), (.slice none 0 0)] 28 (0, 0)) (pk BR.out))) : gr ≠ gm)
     have GBM := aQ ((by rw [hg]; exact below_size (by repeat (first | (with_reducible first | exact HB.out | apply below_alloc | apply pw_below_drewN | apply below_drew1 | refine below_set ?_ GBN.out | refine below_set ?_ GBS.out | refine below_set ?_ GBR.out) | exact HB.out))) : w.heap.size ≤ gm)
     have n_BN := aQ (blk_below (g := gn) (o := .cells #[(.int .i64 a0)] 3 (0, 0)) (pk BN.out) hb)
     have n_BS := aQ (blk_below (g := gs) (o := .cells #[(.slice A1 l1.length c1)] 22 (0, 0)) (pk BS.out) hb)
     have n_BR := aQ (blk_below (g := gr) (o := .cells #[(.int .i64 0), (.slice none 0 0)] 28 (0, 0)) (pk BR.out) hb)
     have n_HB := aQ (below_step (by repeat (first | (with_reducible first | exact HB.out | apply below_alloc | apply pw_below_drewN | apply below_drew1 | refine below_set ?_ GBN.out | refine below_set ?_ GBS.out | refine below_set ?_ GBR.out) | exact HB.out)) hb)
     clear HB
     clear BN
     have BN := n_BN
     clear n_BN
     clear BS
     have BS := n_BS
     clear n_BS
     clear BR
     have BR := n_BR
     clear n_BR
     have HB := n_HB
     clear n_HB
     have BM := aQ hbox
     clear hb hbox hg
     refine hK.out _ _ (((blk_cell BN.out 0).trans rfl)) (fun hHeld => ?_)
     clear hK K
     refine norm_ (a' := ?_) ?_ ?_
     rotate_left
     ·show Act.put _ (some 5) _ = _
      simp only [Act.put, List.setIfInBounds_toArray, List.set_cons_zero, List.set_cons_succ, i64_w, i32_w]
      rfl
     refine one_ (i := 3) (N := some 16) #[true, true, true, true, false, false, false, false, true, false, false] rfl rfl (by kernel_rfl) (by decide) (fun K hK => ?_)
     refine goes_ Try.func101 (by kernel_rfl) rfl #[.int .i64 a0, .func (.func 102) #[] #[.pointer (some ⟨gn, 0, none⟩), .pointer (some ⟨gs, 0, none⟩)]] (by rfl) rfl rfl (by (try simp only [List.map_toArray, List.map_cons, List.map_nil]); first | done | rfl) ?_
     with_reducible refine (setsOf_walk (fun s => impl_FromSets.c k a0 l1 s) 102 _ EG.out a0 m y _ HF.out HM.out.1 HM.out.2 HS.out (fun W x b hb hg => calls_of_args (by simp) (FromSets1_walk k a0 A1 c1 l1 x b gn gs W (Kd.C_below (Kd.C_below HR.out (by repeat (first | (with_reducible first | exact HB.out | apply below_alloc | apply pw_below_drewN | apply below_drew1 | refine below_set ?_ GBN.out | refine below_set ?_ GBS.out | refine below_set ?_ GBR.out | refine below_set ?_ GBM.out) | exact HB.out))) hb) HC.out (blk_below (g := gn) (o := .cells #[(.int .i64 a0)] 3 (0, 0)) (pk BN.out) hb) (blk_below (g := gs) (o := .cells #[(.slice A1 l1.length c1)] 22 (0, 0)) (pk BS.out) hb) hg))).mono ?_
     rintro e w3_ ⟨v_, rfl, ho_, hb⟩
     refine ⟨_, rfl, ?_⟩
     have m_HO := aQ (Kd.R_lower ho_ (below_size (by repeat (first | (with_reducible first | exact HB.out | apply below_alloc | apply pw_below_drewN | apply below_drew1 | refine below_set ?_ GBN.out | refine below_set ?_ GBS.out | refine below_set ?_ GBR.out | refine below_set ?_ GBM.out) | exact HB.out))))
     have n_BN := aQ (blk_below (g := gn) (o := .cells #[(.int .i64 a0)] 3 (0, 0)) (pk BN.out) hb)
     have n_BS := aQ (blk_below (g := gs) (o := .cells #[(.slice A1 l1.length c1)] 22 (0, 0)) (pk BS.out) hb)
     have n_BR := aQ (blk_below (g := gr) (o := .cells #[(.int .i64 0), (.slice none 0 0)] 28 (0, 0)) (pk BR.out) hb)
     have n_BM := aQ (blk_below (g := gm) (o := .cells #[(.int .i64 0), (.slice none 0 0)] 28 (0, 0)) (pk BM.out) hb)
     have n_HB := aQ (below_step (by repeat (first | (with_reducible first | exact HB.out | apply below_alloc | apply pw_below_drewN | apply below_drew1 | refine below_set ?_ GBN.out | refine below_set ?_ GBS.out | refine below_set ?_ GBR.out | refine below_set ?_ GBM.out) | exact HB.out)) hb)
     clear HB
     clear BN
     have BN := n_BN
     clear n_BN
     clear BS
     have BS := n_BS
     clear n_BS
     clear BR
     have BR := n_BR
     clear n_BR
     clear BM
     have BM := n_BM
     clear n_BM
     have HB := n_HB
     clear n_HB
     have HO := m_HO
     clear m_HO ho_
     obtain ⟨AHO, cHO, eHO⟩ := Kd.R_slice HO.out
     subst eHO
     clear hb
     refine hK.out _ _ (((blk_cell BN.out 0).trans rfl)) (fun hHeld => ?_)
     clear hK K
     refine norm_ (a' := ?_) ?_ ?_
     rotate_left
     ·show Act.put _ (some 16) _ = _
      simp only [Act.put, List.setIfInBounds_toArray, List.set_cons_zero, List.set_cons_succ, i64_w, i32_w]
      rfl
     refine one_ (i := 4) (N := some 17) #[true, true, true, true, true, false, false, false, true, false, false] rfl rfl (by kernel_rfl) (by decide) (fun K hK => ?_)
     refine goes_ Try.func100 (by kernel_rfl) rfl #[.int .i64 a0, .slice AHO y.length cHO] (by rfl) rfl rfl (by (try simp only [List.map_toArray, List.map_cons, List.map_nil]); first | done | rfl) ?_
     with_reducible refine (impl_fromIndependent.calls k a0 _ _ y b1 b2 b3 _ ?side1 ?side2 HI.out).mono ?_
     (case side1 => repeat (first | exact (Kd.R_reads' HO.out).2.2 | (with_reducible refine Kd.C_alloc ?_ _) | (with_reducible refine Kd.C_drewN ?_ _) | (with_reducible refine Kd.C_drew ?_)))
     (case side2 => exact (Kd.R_reads' HO.out).2.1)
     rintro e w4_ ⟨v_, rfl, ho_, hb⟩
     refine ⟨_, rfl, ?_⟩
     have m_HP := aQ (Kd.R_lower ho_ (below_size (by repeat (first | (with_reducible first | exact HB.out | apply below_alloc | apply pw_below_drewN | apply below_drew1 | refine below_set ?_ GBN.out | refine below_set ?_ GBS.out | refine below_set ?_ GBR.out | refine below_set ?_ GBM.out) | exact HB.out))))
     have n_BN := aQ (blk_below (g := gn) (o := .cells #[(.int .i64 a0)] 3 (0, 0)) (pk BN.out) hb)
     have n_BS := aQ (blk_below (g := gs) (o := .cells #[(.slice A1 l1.length c1)] 22 (0, 0)) (pk BS.out) hb)
     have n_BR := aQ (blk_below (g := gr) (o := .cells #[(.int .i64 0), (.slice none 0 0)] 28 (0, 0)) (pk BR.out) hb)
     have n_BM := aQ (blk_below (g := gm) (o := .cells #[(.int .i64 0), (.slice none 0 0)] 28 (0, 0)) (pk BM.out) hb)
     have n_HO := aQ (Kd.R_below (pR HO.out) hb)
     have n_HB := aQ (below_step (by repeat (first | (with_reducible first | exact HB.out | apply below_alloc | apply pw_below_drewN | apply below_drew1 | refine below_set ?_ GBN.out | refine below_set ?_ GBS.out | refine below_set ?_ GBR.out | refine below_set ?_ GBM.out) | exact HB.out)) hb)
     clear HB
     clear BN
     have BN := n_BN
     clear n_BN
     clear BS
     have BS := n_BS
     clear n_BS
     clear BR
     have BR := n_BR
     clear n_BR
     clear BM
     have BM := n_BM
     clear n_BM
     clear HO
     have HO := n_HO
     clear n_HO
     have HB := n_HB
     clear n_HB
     have HP := m_HP
     clear m_HP ho_
     obtain ⟨AHP, cHP, eHP⟩ := Kd.R_slice HP.out
     subst eHP
     clear hb
     refine hK.out _ _ (((blk_cell BN.out 0).trans rfl)) (fun hHeld => ?_)
     clear hK K
     refine norm_ (a' := ?_) ?_ ?_
     rotate_left
     ·show Act.put _ (some 17) _ = _
      simp only [Act.put, List.setIfInBounds_toArray, List.set_cons_zero, List.set_cons_succ, i64_w, i32_w]
      rfl
     refine pure_ (i := 5) (N := some 12) (v := ?_) (a' := ?_) #[true, true, true, true, true, true, false, false, true, false, false] rfl rfl (by kernel_rfl) (fun _ _ _ h => h) (Or.inl ⟨by rfl, ?_⟩) ?_ ?_
     rotate_left
     ·intro w'
      go_simp
      with_reducible rfl
     rotate_left
     ·simp only [Act.put, List.setIfInBounds_toArray, List.set_cons_zero, List.set_cons_succ, i64_w, i32_w]
      rfl
     refine pure_ (i := 6) (N := some 18) (v := ?_) (a' := ?_) #[true, true, true, true, true, true, true, false, true, false, false] rfl rfl (by kernel_rfl) (fun _ _ _ h => h) (Or.inl ⟨by rfl, ?_⟩) ?_ ?_
     rotate_left
     ·intro w'
      go_simp
      with_reducible rfl
     rotate_left
     ·simp only [Act.put, List.setIfInBounds_toArray, List.set_cons_zero, List.set_cons_succ, i64_w, i32_w]
      rfl
     refine pure_ (i := 7) (N := some 19) (v := ?_) (a' := ?_) #[true, true, true, true, true, true, true, true, true, false, false] rfl rfl (by kernel_rfl) (fun _ _ _ h => h) (Or.inl ⟨by rfl, ?_⟩) ?_ ?_
     rotate_left
     ·intro w'
      go_simp
      with_reducible rfl
     rotate_left
     ·simp only [Act.put, List.setIfInBounds_toArray, List.set_cons_zero, List.set_cons_succ, i64_w, i32_w]
      rfl
     exact norm_ (by simp only [putAll, Act.put, List.setIfInBounds_toArray, List.set_cons_zero, List.set_cons_succ]) (hCont (.slice AHO y.length cHO, .slice AHP b2.length cHP, gm) _ ⟨hHeld, (pR HP.out), (pk BR.out), (pk BM.out), NBRBM.out, NBNBM.out, GBM.out, (by repeat (first | (with_reducible first | exact HB.out | apply below_alloc | apply pw_below_drewN | apply below_drew1 | refine below_set ?_ GBN.out | refine below_set ?_ GBS.out | refine below_set ?_ GBR.out | refine below_set ?_ GBM.out) | exact HB.out)), (pk BN.out)⟩)
   rintro ⟨v16_, vP_, gm⟩ wF_ ⟨hS_, h0_, h1_, h2_, h3_, h4_, h5_, h6_, h7_⟩
   clear BR BN BS HB hHeld
   have HP := aQ h0_
   have BR := aQ h1_
   have BM := aQ h2_
   have NBRBM := aQ h3_
   have NBNBM := aQ h4_
   have GBM := aQ h5_
   have HB := aQ h6_
   have BN := aQ h7_
   have hHeld : wF_.cell? ⟨gn, 0, none⟩ = some (.int .i64 a0) := hS_
   clear hS_ h0_ h1_ h2_ h3_ h4_ h5_ h6_ h7_
   dsimp only at HP BM NBRBM NBNBM GBM
   obtain ⟨AHP, cHP, eHP⟩ := Kd.R_slice HP.out
   subst eHP
   refine norm_ (a' := ?_) ?_ ?_
   rotate_left
   ·simp only [putAll, Act.put, List.setIfInBounds_toArray, List.set_cons_zero, List.set_cons_succ]
    rfl
   refine one_ (i := 9) (N := none) #[true, true, true, true, true, true, true, true, true, true, false] rfl rfl (by kernel_rfl) (by decide) (fun K hK => ?_)
   have hs9_0 : wF_.cell? ⟨gm, 0, none⟩ = some (.int .i64 0) := (blk_cell BM.out 0).trans rfl
   have hfs9_0 := blk_frozen BM.out 0
   have hs9_1 : wF_.cell? ⟨gm, 1, none⟩ = some (.slice none 0 0) := (blk_cell BM.out 1).trans rfl
   have hfs9_1 := blk_frozen BM.out 1
   have hns9_BN := NBNBM.out
   have hms9_BN := Ne.symm NBNBM.out
   have hns9_BR := NBRBM.out
   have hms9_BR := Ne.symm NBRBM.out
   refine skip_ (w1 := ?_) (by rfl) rfl ?_ ?_
   rotate_left
   ·go_simp
    rfl
   refine hK.out _ _ (((cell_far (p := ⟨gm, _, none⟩) NBNBM.out _).trans ((cell_far (p := ⟨gm, _, none⟩) NBNBM.out _).trans hHeld))) (fun hHeld => ?_)
   clear hK K
   refine pure_ (i := 10) (N := some 6) (v := ?_) (a' := ?_) #[true, true, true, true, true, true, true, true, true, true, true] rfl rfl (by kernel_rfl) (fun _ _ _ h => h) (Or.inl ⟨by rfl, ?_⟩) ?_ ?_
   rotate_left
   ·intro w'
    go_simp
    with_reducible rfl
   rotate_left
   ·simp only [Act.put, List.setIfInBounds_toArray, List.set_cons_zero, List.set_cons_succ, i64_w, i32_w]
    rfl
   refine done_ (by kernel_rfl) ?_
   have zeBR0 : wF_.cell? ⟨gr, 0, none⟩ = some (.int .i64 0) := (blk_cell BR.out 0).trans rfl
   have zeBR1 : wF_.cell? ⟨gr, 1, none⟩ = some (.slice none 0 0) := (blk_cell BR.out 1).trans rfl
   have zeBM0 : wF_.cell? ⟨gm, 0, none⟩ = some (.int .i64 0) := (blk_cell BM.out 0).trans rfl
   have zeBM1 : wF_.cell? ⟨gm, 1, none⟩ = some (.slice none 0 0) := (blk_cell BM.out 1).trans rfl
   have hf0BR := blk_frozen BR.out 0
   have hf1BR := blk_frozen BR.out 1
   have hf0BM := blk_frozen BM.out 0
   have hf1BM := blk_frozen BM.out 1
   have hne1 := NBRBM.out
   have hne2 := Ne.symm NBRBM.out
   go_wp2
   refine bodyPost_ret (results_cell_row rfl _ _ gr 28 #[(.int .i64 b1), (.slice AHP b2.length cHP)] (0, 0) _ rfl (by (with_reducible repeat (first | refine blk_drewN ?_ _ | refine blk_drew ?_ | refine blk_alloc ?_ _)); refine blk_put (cs := #[(.int .i64 b1), .slice none 0 0]) ?_ 1 _ rfl; (with_reducible repeat (first | refine blk_drewN ?_ _ | refine blk_drew ?_ | refine blk_alloc ?_ _)); refine blk_put (cs := #[(.int .i64 0), (.slice none 0 0)]) ?_ 0 _ rfl; (with_reducible repeat (first | refine blk_drewN ?_ _ | refine blk_drew ?_ | refine blk_alloc ?_ _)); refine blk_far (p := ⟨gm, 1, none⟩) ?_ NBRBM.out _; (with_reducible repeat (first | refine blk_drewN ?_ _ | refine blk_drew ?_ | refine blk_alloc ?_ _)); refine blk_far (p := ⟨gm, 0, none⟩) ?_ NBRBM.out _; (with_reducible repeat (first | refine blk_drewN ?_ _ | refine blk_drew ?_ | refine blk_alloc ?_ _)); exact BR.out) Try.underlying28 rfl (by kernel_rfl)) rfl ?_
   exact ⟨_, rs_, by (with_reducible repeat (first | apply Kd.R_alloc | apply Kd.R_drewN | apply Kd.R_drew)); exact Kd.R_mono (Kd.R_far (p := ⟨gr, 1, none⟩) (Kd.R_far (p := ⟨gr, 0, none⟩) (Kd.R_far (p := ⟨gm, 1, none⟩) (Kd.R_far (p := ⟨gm, 0, none⟩) (Kd.R_types (Kd.R_types HP.out BR.out (by decide)) BM.out (by decide)) (fun _ hk => hk.2) _) (fun _ hk => hk.2) _) (fun _ hk => hk.1.2) _) (fun _ hk => hk.1.2) _) (fun _ hk => trivial), (by repeat (first | (with_reducible first | exact HB.out | apply below_alloc | apply pw_below_drewN | apply below_drew1 | refine below_set ?_ GBR.out | refine below_set ?_ GBM.out) | exact HB.out))⟩
  ·rw [if_neg hm] at h; cases h
 ·have c4 := Bool.eq_false_iff.mpr c3
  subst c4
  clear c3
  rw [if_neg (by decide)] at h
  simp only [Option.some.injEq, Prod.mk.injEq] at h
  obtain ⟨rfl, rfl⟩ := h
  go_enter Try.func42, Try.ntmps42
  go_wp2_with (first | ((with_reducible refine gate_dst (N := 2) rfl ?_); refine box_event ?hg (N := 2) ?hd (cs := #[(.int .i64 a0)]) (t := 3) ?hr ?_; (case hd => rfl); (case hg => rfl); (case hr => first | (go_simp; done) | (go_simp; rfl)); intro gn hg w1_ hbox hb; have GBN := aQ ((by rw [hg]; exact below_size (pB HB.out)) : w.heap.size ≤ gn); replace HB := aQ (below_step (pB HB.out) hb); have BN := aQ hbox; clear hb hbox hg; have zBN0 : w1_.cell? ⟨gn, 0, none⟩ = some (.int .i64 a0) := (blk_cell BN.out 0).trans rfl) | ((with_reducible refine gate_dst (N := 3) rfl ?_); refine box_event ?hg (N := 3) ?hd (cs := #[(.slice A1 l1.length c1)]) (t := 22) ?hr ?_; (case hd => rfl); (case hg => rfl); (case hr => first | (go_simp; done) | (go_simp; rfl)); intro gs hg w1_ hbox hb; have NBNBS := aQ ((by rw [hg]; exact Nat.ne_of_lt (blk_lt (g := gn) (o := .cells #[(.int .i64 a0)] 3 (0, 0)) (pk BN.out))) : gn ≠ gs); have GBS := aQ ((by rw [hg]; exact below_size (by repeat (first | (with_reducible first | exact HB.out | apply below_alloc | apply pw_below_drewN | apply below_drew1 | refine below_set ?_ GBN.out) | exact HB.out))) : w.heap.size ≤ gs); have n_BN := aQ (blk_below (g := gn) (o := .cells #[(.int .i64 a0)] 3 (0, 0)) (pk BN.out) hb); have n_HB := aQ (below_step (by repeat (first | (with_reducible first | exact HB.out | apply below_alloc | apply pw_below_drewN | apply below_drew1 | refine below_set ?_ GBN.out) | exact HB.out)) hb); clear HB; clear BN; have BN := n_BN; clear n_BN; have HB := n_HB; clear n_HB; have BS := aQ hbox; clear hb hbox hg; have zBN0 : w1_.cell? ⟨gn, 0, none⟩ = some (.int .i64 a0) := (blk_cell BN.out 0).trans rfl; have zBS0 : w1_.cell? ⟨gs, 0, none⟩ = some (.slice A1 l1.length c1) := (blk_cell BS.out 0).trans rfl) | ((with_reducible refine gate_dst (N := 4) rfl ?_); refine box_event ?hg (N := 4) ?hd (cs := #[(.int .i64 0), (.slice none 0 0)]) (t := 28) ?hr ?_; (case hd => rfl); (case hg => rfl); (case hr => first | (go_simp; done) | (go_simp; rfl)); intro gr hg w1_ hbox hb; have NBNBR := aQ ((by rw [hg]; exact Nat.ne_of_lt (blk_lt (g := gn) (o := .cells #[(.int .i64 a0)] 3 (0, 0)) (pk BN.out))) : gn ≠ gr); have NBSBR := aQ ((by rw [hg]; exact Nat.ne_of_lt (blk_lt (g := gs) (o := .cells #[(.slice A1 l1.length c1)] 22 (0, 0)) (pk BS.out))) : gs ≠ gr); have GBR := aQ ((by rw [hg]; exact below_size (by repeat (first | (with_reducible first | exact HB.out | apply below_alloc | apply pw_below_drewN | apply below_drew1 | refine below_set ?_ GBN.out | refine below_set ?_ GBS.out) | exact HB.out))) : w.heap.size ≤ gr); have n_BN := aQ (blk_below (g := gn) (o := .cells #[(.int .i64 a0)] 3 (0, 0)) (pk BN.out) hb); have n_BS := aQ (blk_below (g := gs) (o := .cells #[(.slice A1 l1.length c1)] 22 (0, 0)) (pk BS.out) hb); have n_HB := aQ (below_step (by repeat (first | (with_reducible first | exact HB.out | apply below_alloc | apply pw_below_drewN | apply below_drew1 | refine below_set ?_ GBN.out | refine below_set ?_ GBS.out) | exact HB.out)) hb); clear HB; clear BN; have BN := n_BN; clear n_BN; clear BS; have BS := n_BS; clear n_BS; have HB := n_HB; clear n_HB; have BR := aQ hbox; clear hb hbox hg; have zBN0 : w1_.cell? ⟨gn, 0, none⟩ = some (.int .i64 a0) := (blk_cell BN.out 0).trans rfl; have zBS0 : w1_.cell? ⟨gs, 0, none⟩ = some (.slice A1 l1.length c1) := (blk_cell BS.out 0).trans rfl; have zBR0 : w1_.cell? ⟨gr, 0, none⟩ = some (.int .i64 0) := (blk_cell BR.out 0).trans rfl; have hf0BR := blk_frozen BR.out 0; have hf1BR := blk_frozen BR.out 1; have zBR1 : w1_.cell? ⟨gr, 1, none⟩ = some (.slice none 0 0) := (blk_cell BR.out 1).trans rfl) | (go_at_call 50; (with_reducible refine (impl_AreLists.calls k a0 _ _ l1 false _ ?side1 ?side2 HT.out).mono ?_); (case side1 => repeat (first | exact (Kd.C_below HR.out (by repeat (first | (with_reducible first | exact HB.out | apply below_alloc | apply pw_below_drewN | apply below_drew1 | refine below_set ?_ GBN.out | refine below_set ?_ GBS.out | refine below_set ?_ GBR.out) | exact HB.out))) | exact HR.out)); (case side2 => exact HC.out); rintro e w2_ ⟨rfl, ⟨nd, rfl⟩⟩))
  refine bodyPost_ret (results_cell_row rfl _ _ gr 28 #[(.int .i64 0), (.slice none 0 0)] (0, 0) _ rfl (by (with_reducible repeat (first | refine blk_drewN ?_ _ | refine blk_drew ?_ | refine blk_alloc ?_ _)); refine blk_put (cs := #[(.int .i64 0), (.slice none 0 0)]) ?_ 1 _ rfl; (with_reducible repeat (first | refine blk_drewN ?_ _ | refine blk_drew ?_ | refine blk_alloc ?_ _)); refine blk_put (cs := #[(.int .i64 0), (.slice none 0 0)]) ?_ 0 _ rfl; (with_reducible repeat (first | refine blk_drewN ?_ _ | refine blk_drew ?_ | refine blk_alloc ?_ _)); exact BR.out) Try.underlying28 rfl (by kernel_rfl)) rfl ?_
  exact ⟨_, rs_, Kd.R_nil _ _ _ _ _, (by repeat (first | (with_reducible first | exact HB.out | apply below_alloc | apply pw_below_drewN | apply below_drew1 | refine below_set ?_ GBN.out | refine below_set ?_ GBS.out | refine below_set ?_ GBR.out) | exact HB.out))⟩
end Go.Proofs.Ytimkekeaeojpkaa.A
namespace Go.Proofs.Ytimkekeaeojpkaa.A
open Go.RowKit Go.Proofs.YtimkekeaeojpkaaW.PrintWords Go.Proofs.YtimkekeaeojpkaaW.PrintLast Go.Proofs.YtimkekeaeojpkaaW.PrintMore
attribute [local go_sem] max2_int min2_int max_two min_two max_three min_three max_four min_four
set_option linter.unusedVariables false
set_option linter.unusedSimpArgs false
/-! ### spec_DrawAssignmentOf: function 43 -/
def spec_DrawAssignmentOf.f (k : Nat) (l0 : List Int) : Option (Int × List Int × Int) := (spec_DrawAreLists.f k l0).bind fun bt44001 => ((spec_l1New.f k l0).bind fun bt44005 => ((spec_l1Below.f bt44005.1 bt44005.2.1 bt44005.2.2 64).bind fun bt44009 => (some (bt44001.1, bt44001.2, bt44009.1))))
theorem spec_DrawAssignmentOf.mono : ∀ a0 k, LeO (spec_DrawAssignmentOf.f k a0) (spec_DrawAssignmentOf.f (k + 1) a0) := by
 intro a0 k
 unfold spec_DrawAssignmentOf.f
 repeat' first
   | (with_reducible exact spec_DrawAreLists.mono _ _)
   | (with_reducible exact spec_l1New.mono _ _)
   | (with_reducible exact LeO.refl _)
   | (with_reducible exact LeO.none _)
   | (with_reducible refine LeO.ite ?_ ?_)
   | (with_reducible refine LeO.bind ?_ (fun _ => ?_))
   | exact spec_DrawAreLists.mono _ _
   | exact spec_l1New.mono _ _
   | exact LeO.none _
   | refine LeO.ite ?_ ?_
   | refine LeO.bind ?_ (fun _ => ?_)
set_option maxHeartbeats 8000000 in
set_option maxRecDepth 100000 in
theorem spec_DrawAssignmentOf.calls (k : Nat) (A0 : Option Addr) (c0 : Nat) (l0 : List Int) (r1 : Int) (r2 : List Int) (r3 : Int) (w : World) (hr0 : Kd.C (Kd.int .u8) w A0 l0.length l0) (hc0 : l0.length ≤ c0) (h : spec_DrawAssignmentOf.f k l0 = some (r1, r2, r3)) :
  Calls Try.prog 43 #[.slice A0 l0.length c0] w fun e w' => ∃ v1_ : Value, e = .returned (.tuple #[.int .i64 r1, v1_, .int .i64 r3]) ∧ Kd.R (Kd.int .i64) 3 w' w.heap.size (fun _ => True) v1_ r2 ∧ Below w.heap.size w w' := by
 have HR0 := aQ hr0
 have HC0 := aQ hc0
 clear hr0 hc0
 have HB := aQ (Below.refl w.heap.size w)
 have H : ((spec_DrawAreLists.f k l0).bind fun bt44001 => ((spec_l1New.f k l0).bind fun bt44005 => ((spec_l1Below.f bt44005.1 bt44005.2.1 bt44005.2.2 64).bind fun bt44009 => (some (bt44001.1, bt44001.2, bt44009.1))))) = some (r1, r2, r3) := h
 clear h
 replace H := Option.bind_eq_some_iff.mp H
 obtain ⟨⟨t44001, t44002⟩, A20, H⟩ := H
 replace H : ((spec_l1New.f k l0).bind fun bt44005 => ((spec_l1Below.f bt44005.1 bt44005.2.1 bt44005.2.2 64).bind fun bt44009 => (some (t44001, t44002, bt44009.1)))) = some (r1, r2, r3) := H
 have A2 := aQ A20
 clear A20
 replace H := Option.bind_eq_some_iff.mp H
 obtain ⟨⟨t44005, t44006, t44007⟩, A30, H⟩ := H
 replace H : ((spec_l1Below.f t44005 t44006 t44007 64).bind fun bt44009 => (some (t44001, t44002, bt44009.1))) = some (r1, r2, r3) := H
 have A3 := aQ A30
 clear A30
 replace H := Option.bind_eq_some_iff.mp H
 obtain ⟨⟨t44009, t44010, t44011⟩, A40, H⟩ := H
 replace H : (some (t44001, t44002, t44009)) = some (r1, r2, r3) := H
 have A4 := aQ A40
 clear A40
 simp only [Option.some.injEq, Prod.mk.injEq] at H
 obtain ⟨rfl, rfl, rfl⟩ := H
 go_enter Try.func43, Try.ntmps43
 go_wp2_with (first | ((with_reducible refine gate_callee (f := 99) rfl ?_); refine goesL_ (some 10) rfl rfl Try.func99 (by kernel_rfl) rfl #[.slice A0 l0.length c0] rfl lm ?_; (with_reducible refine (spec_DrawAreLists.calls k _ _ l0 t44001 t44002 _ ?side1 ?side2 A2.out).mono ?_); (case side1 => exact pC HR0.out); (case side2 => exact HC0.out); rintro e w5 ⟨v44003, rfl, ho0, hb⟩; refine ⟨_, rfl, ?_⟩; have HO44004 := aQ (Kd.R_lower ho0 (below_size (pB HB.out))); replace HB := aQ (below_step (pB HB.out) hb); (try clear hb); (try clear ho0)) | ((with_reducible refine gate_callee (f := 77) rfl ?_); refine goesL_ (some 14) rfl rfl Try.func77 (by kernel_rfl) rfl #[.slice A0 l0.length c0] rfl lm ?_; (with_reducible refine (spec_l1New.calls k _ _ l0 t44005 t44006 t44007 w _ ?side1 ?side2 ?side3 A3.out).mono ?_); (case side1 => repeat (first | (with_reducible first | exact HB.out | apply below_alloc | apply pw_below_drewN | apply below_drew1) | exact HB.out)); (case side2 => exact HR0.out); (case side3 => exact HC0.out); rintro e w6 ⟨g44008, rfl, hi, hb, hb2⟩; refine ⟨_, rfl, ?_⟩; replace HO44004 := aQ (Kd.R_below (pR HO44004.out) hb2); replace HB := aQ (hb); have HI44008 := aQ (hi); (try clear hb); (try clear hb2); (try clear hi)) | ((with_reducible refine gate_callee (f := 91) rfl ?_); refine goesL_ (some 18) rfl rfl Try.func91 (by kernel_rfl) rfl #[.pointer (some ⟨g44008, 0, none⟩), .int .i64 64] rfl lm ?_; (with_reducible refine (spec_l1Below.calls g44008 t44005 t44006 t44007 64 t44009 t44010 t44011 w _ ?side1 ?side2 A4.out).mono ?_); (case side1 => repeat (first | (with_reducible first | exact HI44008.out | apply IsS106.alloc | apply IsS106.drewN | apply IsS106.drew | apply IsS106.set_1 | apply IsS106.set_2) | exact HI44008.out)); (case side2 => repeat (first | (with_reducible first | exact HB.out | apply below_alloc | apply pw_below_drewN | apply below_drew1 | refine below_set ?_ (IsS106.ge HI44008.out)) | exact HB.out)); rintro e w7 ⟨rfl, hi, hb, hk⟩; refine ⟨_, rfl, ?_⟩; replace HO44004 := aQ (Kd.R_mono (Kd.R_keep (IsS106.apart (show IsS106 w _ g44008 t44005 t44006 t44007 from by repeat (first | (with_reducible first | exact HI44008.out | apply IsS106.alloc | apply IsS106.drewN | apply IsS106.drew | apply IsS106.set_1 | apply IsS106.set_2) | exact HI44008.out)) (pR HO44004.out) (by decide)) hk (fun _ h => h.2)) (fun _ h => h.1)); replace HB := aQ (hb); replace HI44008 := aQ (hi); (try clear hb); (try clear hk); (try clear hi)))
 go_ret3
 exact ⟨_, by first | rfl | (simp [errW_none, errW_some] <;> rfl) | (simp [*, errW_none, errW_some] <;> rfl), by (with_reducible repeat (first | apply Kd.R_alloc | apply Kd.R_drewN | apply Kd.R_drew)); exact HO44004.out, by repeat (first | (with_reducible first | exact HB.out | apply below_alloc | apply pw_below_drewN | apply below_drew1 | refine below_set ?_ (IsS106.ge HI44008.out)) | exact HB.out)⟩
/-! ### spec_l1In: function 98 -/
def spec_l1In.f (a0 : Int) (a1 : Int) (a2 : Int) : Option (Bool) := if a0 ≥ a1 then (some (decide (a0 ≤ a2))) else (some false)
set_option maxHeartbeats 8000000 in
set_option maxRecDepth 100000 in
theorem spec_l1In.calls (a0 : Int) (a1 : Int) (a2 : Int) (r : Bool) (w : World) (h : spec_l1In.f a0 a1 a2 = some r) :
  Calls Try.prog 98 #[.int .i64 a0, .int .i64 a1, .int .i64 a2] w fun e w' => e = .returned (.bool r) ∧ Drawn0 w w' := by
 have H : (if a0 ≥ a1 then (some (decide (a0 ≤ a2))) else (some false)) = some r := h
 clear h
 by_cases c4 : a0 ≥ a1
 ·rw [if_pos c4] at H
  have c4b0 : decide (a1 ≤ a0) = true := decide_eq_true c4
  clear c4
  obtain rfl := Option.some.inj H
  go_enter Try.func98, Try.ntmps98
  go_wp2
  go_ret
  exact ⟨rs_, rd_⟩
 ·rw [if_neg c4] at H
  have c4b0 : decide (a1 ≤ a0) = false := decide_eq_false c4
  clear c4
  obtain rfl := Option.some.inj H
  go_enter Try.func98, Try.ntmps98
  go_wp2
  go_ret
  exact ⟨rs_, rd_⟩
/-! ### spec_IsSet: function 55 -/
def spec_IsSet.f (a0 : Int) (a1 : Int) : Option (Bool) := (spec_l1In.f a0 0 8).bind fun t56001 => (if t56001 = true then (if 0 ≤ (IntKind.u64.wrap (a0)) then ((spec_l1In.f a1 0 (wrap64 ((shl .i64 1 (IntKind.u64.wrap (a0))) - 1))).bind fun t56002 => (some t56002)) else (none)) else (some false))
set_option maxHeartbeats 8000000 in
set_option maxRecDepth 100000 in
theorem spec_IsSet.calls (a0 : Int) (a1 : Int) (r : Bool) (w : World) (h : spec_IsSet.f a0 a1 = some r) :
  Calls Try.prog 55 #[.int .i64 a0, .int .i64 a1] w fun e w' => e = .returned (.bool r) ∧ Drawn0 w w' := by
 have H : ((spec_l1In.f a0 0 8).bind fun t56001 => (if t56001 = true then (if 0 ≤ (IntKind.u64.wrap (a0)) then ((spec_l1In.f a1 0 (wrap64 ((shl .i64 1 (IntKind.u64.wrap (a0))) - 1))).bind fun t56002 => (some t56002)) else (none)) else (some false))) = some r := h
 clear h
 replace H := Option.bind_eq_some_iff.mp H
 obtain ⟨t56001, A30, H⟩ := H
 replace H : (if t56001 = true then (if 0 ≤ (IntKind.u64.wrap (a0)) then ((spec_l1In.f a1 0 (wrap64 ((shl .i64 1 (IntKind.u64.wrap (a0))) - 1))).bind fun t56002 => (some t56002)) else (none)) else (some false)) = some r := H
 have A3 := aQ A30
 clear A30
 by_cases c4 : t56001 = true
 ·subst c4
  have H1 : (if 0 ≤ (IntKind.u64.wrap (a0)) then ((spec_l1In.f a1 0 (wrap64 ((shl .i64 1 (IntKind.u64.wrap (a0))) - 1))).bind fun t56002 => (some t56002)) else (none)) = some r := by rw [if_pos rfl] at H; exact H
  clear H
  have H := H1
  clear H1
  obtain ⟨ji5, hji5⟩ : ∃ j_ : Int, (IntKind.u64.wrap (a0)) = j_ := ⟨_, rfl⟩
  replace H : (if 0 ≤ (ji5) then ((spec_l1In.f a1 0 (wrap64 ((shl .i64 1 (ji5)) - 1))).bind fun t56002 => (some t56002)) else (none)) = some r := by first | (rw [hji5] at H; exact H) | (simp only [hji5] at H ⊢; exact H)
  (try rw [hji5] at A3)
  by_cases c6 : 0 ≤ (ji5)
  ·rw [if_pos c6] at H
   have c6b0 := eq_true c6
   have c6b1 : decide (0 ≤ (ji5)) = true := decide_eq_true c6
   clear c6
   obtain ⟨ji7, hji7⟩ : ∃ j_ : Int, (shl .i64 1 (ji5)) = j_ := ⟨_, rfl⟩
   replace H : ((spec_l1In.f a1 0 (wrap64 ((ji7) - 1))).bind fun t56002 => (some t56002)) = some r := by first | (rw [hji7] at H; exact H) | (simp only [hji7] at H ⊢; exact H)
   (try rw [hji7] at A3)
   have hji7_ : (IntKind.i64.wrap (1 * 2 ^ min (ji5).toNat 64)) = ji7 := hji7
   have hji7z : (ji5) ≤ 64 → (IntKind.i64.wrap (1 * 2 ^ (ji5).toNat)) = ji7 := shl_small hji7
   have hji7u : (IntKind.i64.wrap (2 ^ min (ji5).toNat 64)) = ji7 := by have h_ := hji7_; rw [Int.one_mul] at h_; exact h_
   have hji7v : (ji5) ≤ 64 → (IntKind.i64.wrap (2 ^ (ji5).toNat)) = ji7 := fun hle_ => by have h_ := hji7z hle_; rw [Int.one_mul] at h_; exact h_
   have hji7y : (wrap64 (1 * 2 ^ min (ji5).toNat 64)) = ji7 := (i64_w _).symm.trans hji7_
   have hji7x : (ji5) ≤ 64 → (wrap64 (1 * 2 ^ (ji5).toNat)) = ji7 := fun h_ => (i64_w _).symm.trans (hji7z h_)
   replace H := Option.bind_eq_some_iff.mp H
   obtain ⟨t56002, A80, H⟩ := H
   replace H : (some t56002) = some r := H
   have A8 := aQ A80
   clear A80
   obtain rfl := Option.some.inj H
   go_enter Try.func55, Try.ntmps55
   go_wp2_with (first | ((with_reducible refine gate_callee (f := 98) rfl ?_); refine goesL_ (some 6) rfl rfl Try.func98 (by kernel_rfl) rfl #[.int .i64 a0, .int .i64 0, .int .i64 8] rfl lm ?_; (with_reducible refine (spec_l1In.calls a0 0 8 true _ A3.out).mono ?_); rintro e w' ⟨rfl, ⟨nd, rfl⟩⟩; refine ⟨_, rfl, ?_⟩) | (go_at_call 98; (with_reducible refine (spec_l1In.calls a1 0 (wrap64 ((ji7) - 1)) t56002 _ A8.out).mono ?_); rintro e w' ⟨rfl, ⟨nd, rfl⟩⟩))
   go_ret
   exact ⟨by first | rfl | (simp; done) | (simp only [← hji5, ← hji7] <;> (first | rfl | simp)) | (simp [*]; done), rd_⟩
  ·rw [if_neg c6] at H
   exact absurd H (by simp)
 ·replace c4 := Bool.eq_false_iff.mpr c4
  subst c4
  have H1 : (some false) = some r := by rw [if_neg (show ¬ (false = true) by decide)] at H; exact H
  clear H
  have H := H1
  clear H1
  obtain rfl := Option.some.inj H
  go_enter Try.func55, Try.ntmps55
  go_wp2_with (first | ((with_reducible refine gate_callee (f := 98) rfl ?_); refine goesL_ (some 6) rfl rfl Try.func98 (by kernel_rfl) rfl #[.int .i64 a0, .int .i64 0, .int .i64 8] rfl lm ?_; (with_reducible refine (spec_l1In.calls a0 0 8 false _ A3.out).mono ?_); rintro e w' ⟨rfl, ⟨nd, rfl⟩⟩; refine ⟨_, rfl, ?_⟩))
  go_ret
  exact ⟨rs_, rd_⟩
/-! ### spec_l3Sets: function 110 -/
def spec_l3Sets.l0 : Nat → Int → List Int → Int → Option (Bool)
 | 0, _, _, _ => none
 | k + 1, x0, x1, x5 => if x5 < (x1.length : Int) then (if 0 ≤ x5 then ((spec_IsSet.f x0 (rd x1 x5)).bind fun t111002 => (if t111002 = true then (spec_l3Sets.l0 k x0 x1 (wrap64 (x5 + 1))) else (some false))) else (none)) else (some true)
def spec_l3Sets.f (k : Nat) (a0 : Int) (l1 : List Int) : Option (Bool) := spec_l3Sets.l0 k a0 l1 0
theorem spec_l3Sets.mono_l : ∀ k, (∀ y0 y1 y2, LeO (spec_l3Sets.l0 k y0 y1 y2) (spec_l3Sets.l0 (k + 1) y0 y1 y2))
 | 0 => fun _ _ _ r h => by simp [spec_l3Sets.l0] at h
 | k + 1 => by
  have ih0 := spec_l3Sets.mono_l k
  ·intro y0 y1 y2
   unfold spec_l3Sets.l0
   repeat' first
   | (with_reducible exact ih0 _ _ _)
   | (with_reducible exact LeO.refl _)
   | (with_reducible exact LeO.none _)
   | (with_reducible refine LeO.ite ?_ ?_)
   | (with_reducible refine LeO.bind ?_ (fun _ => ?_))
   | exact ih0 _ _ _
   | exact LeO.none _
   | refine LeO.ite ?_ ?_
   | refine LeO.bind ?_ (fun _ => ?_)
theorem spec_l3Sets.mono : ∀ a0 a1 k, LeO (spec_l3Sets.f k a0 a1) (spec_l3Sets.f (k + 1) a0 a1) := by
 intro a0 a1 k
 have ih0 := spec_l3Sets.mono_l k
 unfold spec_l3Sets.f
 repeat' first
   | (with_reducible exact ih0 _ _ _)
   | (with_reducible exact LeO.refl _)
   | (with_reducible exact LeO.none _)
   | (with_reducible refine LeO.ite ?_ ?_)
   | (with_reducible refine LeO.bind ?_ (fun _ => ?_))
   | exact ih0 _ _ _
   | exact LeO.none _
   | refine LeO.ite ?_ ?_
   | refine LeO.bind ?_ (fun _ => ?_)
set_option maxHeartbeats 8000000 in
set_option maxRecDepth 100000 in
theorem spec_l3Sets.calls (k : Nat) (a0 : Int) (A1 : Option Addr) (c1 : Nat) (l1 : List Int) (r : Bool) (w : World) (hr1 : Kd.C (Kd.int .i64) w A1 l1.length l1) (hc1 : l1.length ≤ c1) (h : spec_l3Sets.f k a0 l1 = some r) :
  Calls Try.prog 110 #[.int .i64 a0, .slice A1 l1.length c1] w fun e w' => e = .returned (.bool r) ∧ Drawn0 w w' := by
 have HR1 := aQ hr1
 have HC1 := aQ hc1
 clear hr1 hc1
 have H : (spec_l3Sets.l0 k a0 l1 0) = some r := h
 clear h
 have H' := aQ H
 clear H
 go_enter Try.func110, Try.ntmps110
 go_wp2
 go_loopg [5] k (fun kq v5 w' => ∃ (x5_1 : Int), v5 = .int .i64 x5_1 ∧ Aside0 (spec_l3Sets.l0 kq a0 l1 x5_1 = some r) ∧ Aside0 (kq ≤ k) ∧ Drawn0 w w')
 case atStart => exact ⟨(0), rs_, H', ⟨Nat.le_refl _⟩, rd_⟩
 case round =>
  clear H'
  try clear c1
  try clear p2
  obtain ⟨x5_1, rfl, HA, HK1, ⟨m1, rfl⟩⟩ := hrel
  cases gk with
  | zero => exact absurd HA.out (by simp [spec_l3Sets.l0])
  | succ k1 =>
   have H := HA.out
   clear HA
   simp only [spec_l3Sets.l0] at H
   by_cases c3 : x5_1 < (l1.length : Int)
   ·rw [if_pos c3] at H
    have c3b0 : decide (x5_1 < (l1.length : Int)) = true := decide_eq_true c3
    clear c3
    by_cases c4 : 0 ≤ x5_1
    ·rw [if_pos c4] at H
     have c4b0 : decide (0 ≤ x5_1) = true := decide_eq_true c4
     clear c4
     replace H := Option.bind_eq_some_iff.mp H
     obtain ⟨t111002, A50, H⟩ := H
     replace H : (if t111002 = true then (spec_l3Sets.l0 k1 a0 l1 (wrap64 (x5_1 + 1))) else (some false)) = some r := H
     have A5 := aQ A50
     clear A50
     by_cases c6 : t111002 = true
     ·subst c6
      have H1 : (spec_l3Sets.l0 k1 a0 l1 (wrap64 (x5_1 + 1))) = some r := by rw [if_pos rfl] at H; exact H
      clear H
      have H := H1
      clear H1
      have H' := aQ H
      clear H
      have p111001 : 0 ≤ (x5_1 : Int) := of_decide_eq_true as_
      have q111001 : x5_1 < (l1.length : Int) := of_decide_eq_true as_
      obtain ⟨ad111001, e111001, hx111001_0⟩ := Kd.at_int HR1.out x5_1 p111001 q111001
      cases e111001
      replace p111001 := eq_true p111001
      replace q111001 := eq_true q111001
      go_wp2_with (first | ((with_reducible refine gate_callee (f := 55) rfl ?_); refine goesL_ (some 17) rfl rfl Try.func55 (by kernel_rfl) rfl #[.int .i64 a0, .int .i64 (rd l1 x5_1)] rfl lm ?_; (with_reducible refine (spec_IsSet.calls a0 (rd l1 x5_1) true _ A5.out).mono ?_); rintro e w' ⟨rfl, ⟨nd, rfl⟩⟩; refine ⟨_, rfl, ?_⟩))
      go_roundg k1
      case measure => have := HK1.out; omega
      case rel => exact ⟨(wrap64 (x5_1 + 1)), rs_, H', ⟨by have := HK1.out; omega⟩, rd_⟩
     ·replace c6 := Bool.eq_false_iff.mpr c6
      subst c6
      have H1 : (some false) = some r := by rw [if_neg (show ¬ (false = true) by decide)] at H; exact H
      clear H
      have H := H1
      clear H1
      obtain rfl := Option.some.inj H
      have p111001 : 0 ≤ (x5_1 : Int) := of_decide_eq_true as_
      have q111001 : x5_1 < (l1.length : Int) := of_decide_eq_true as_
      obtain ⟨ad111001, e111001, hx111001_0⟩ := Kd.at_int HR1.out x5_1 p111001 q111001
      cases e111001
      replace p111001 := eq_true p111001
      replace q111001 := eq_true q111001
      go_wp2_with (first | ((with_reducible refine gate_callee (f := 55) rfl ?_); refine goesL_ (some 17) rfl rfl Try.func55 (by kernel_rfl) rfl #[.int .i64 a0, .int .i64 (rd l1 x5_1)] rfl lm ?_; (with_reducible refine (spec_IsSet.calls a0 (rd l1 x5_1) false _ A5.out).mono ?_); rintro e w' ⟨rfl, ⟨nd, rfl⟩⟩; refine ⟨_, rfl, ?_⟩))
      go_ret
      exact ⟨rs_, rd_⟩
    ·rw [if_neg c4] at H
     exact absurd H (by simp)
   ·rw [if_neg c3] at H
    have c3b0 : decide (x5_1 < (l1.length : Int)) = false := decide_eq_false c3
    clear c3
    obtain rfl := Option.some.inj H
    go_wp2
    go_ret
    exact ⟨rs_, rd_⟩
/-! ### spec_AreLists: function 51 -/
def spec_AreLists.f (k : Nat) (a0 : Int) (l1 : List Int) : Option (Bool) := (spec_l1In.f a0 0 8).bind fun t52001 => (if t52001 = true then (if (l1.length : Int) ≤ 6 then ((spec_l3Sets.f k a0 l1).bind fun t52002 => (some t52002)) else (some false)) else (some false))
theorem spec_AreLists.mono : ∀ a0 a1 k, LeO (spec_AreLists.f k a0 a1) (spec_AreLists.f (k + 1) a0 a1) := by
 intro a0 a1 k
 unfold spec_AreLists.f
 repeat' first
   | (with_reducible exact spec_l3Sets.mono _ _ _)
   | (with_reducible exact LeO.refl _)
   | (with_reducible exact LeO.none _)
   | (with_reducible refine LeO.ite ?_ ?_)
   | (with_reducible refine LeO.bind ?_ (fun _ => ?_))
   | exact spec_l3Sets.mono _ _ _
   | exact LeO.none _
   | refine LeO.ite ?_ ?_
   | refine LeO.bind ?_ (fun _ => ?_)
set_option maxHeartbeats 8000000 in
set_option maxRecDepth 100000 in
theorem spec_AreLists.calls (k : Nat) (a0 : Int) (A1 : Option Addr) (c1 : Nat) (l1 : List Int) (r : Bool) (w : World) (hr1 : Kd.C (Kd.int .i64) w A1 l1.length l1) (hc1 : l1.length ≤ c1) (h : spec_AreLists.f k a0 l1 = some r) :
  Calls Try.prog 51 #[.int .i64 a0, .slice A1 l1.length c1] w fun e w' => e = .returned (.bool r) ∧ Drawn0 w w' := by
 have HR1 := aQ hr1
 have HC1 := aQ hc1
 clear hr1 hc1
 have H : ((spec_l1In.f a0 0 8).bind fun t52001 => (if t52001 = true then (if (l1.length : Int) ≤ 6 then ((spec_l3Sets.f k a0 l1).bind fun t52002 => (some t52002)) else (some false)) else (some false))) = some r := h
 clear h
 replace H := Option.bind_eq_some_iff.mp H
 obtain ⟨t52001, A30, H⟩ := H
 replace H : (if t52001 = true then (if (l1.length : Int) ≤ 6 then ((spec_l3Sets.f k a0 l1).bind fun t52002 => (some t52002)) else (some false)) else (some false)) = some r := H
 have A3 := aQ A30
 clear A30
 by_cases c4 : t52001 = true
 ·subst c4
  have H1 : (if (l1.length : Int) ≤ 6 then ((spec_l3Sets.f k a0 l1).bind fun t52002 => (some t52002)) else (some false)) = some r := by rw [if_pos rfl] at H; exact H
  clear H
  have H := H1
  clear H1
  by_cases c5 : (l1.length : Int) ≤ 6
  ·rw [if_pos c5] at H
   have c5b0 : decide ((l1.length : Int) ≤ 6) = true := decide_eq_true c5
   have c5b1 : decide (l1.length ≤ 6) = true := decide_eq_true (by omega)
   clear c5
   replace H := Option.bind_eq_some_iff.mp H
   obtain ⟨t52002, A60, H⟩ := H
   replace H : (some t52002) = some r := H
   have A6 := aQ A60
   clear A60
   obtain rfl := Option.some.inj H
   go_enter Try.func51, Try.ntmps51
   go_wp2_with (first | ((with_reducible refine gate_callee (f := 98) rfl ?_); refine goesL_ (some 6) rfl rfl Try.func98 (by kernel_rfl) rfl #[.int .i64 a0, .int .i64 0, .int .i64 8] rfl lm ?_; (with_reducible refine (spec_l1In.calls a0 0 8 true _ A3.out).mono ?_); rintro e w' ⟨rfl, ⟨nd, rfl⟩⟩; refine ⟨_, rfl, ?_⟩) | (go_at_call 110; (with_reducible refine (spec_l3Sets.calls k a0 _ _ l1 t52002 _ ?side1 ?side2 A6.out).mono ?_); (case side1 => exact pC HR1.out); (case side2 => exact HC1.out); rintro e w' ⟨rfl, ⟨nd, rfl⟩⟩))
   go_ret
   exact ⟨rs_, rd_⟩
  ·rw [if_neg c5] at H
   have c5b0 : decide ((l1.length : Int) ≤ 6) = false := decide_eq_false c5
   have c5b1 : decide (l1.length ≤ 6) = false := decide_eq_false (by omega)
   clear c5
   obtain rfl := Option.some.inj H
   go_enter Try.func51, Try.ntmps51
   go_wp2_with (first | ((with_reducible refine gate_callee (f := 98) rfl ?_); refine goesL_ (some 6) rfl rfl Try.func98 (by kernel_rfl) rfl #[.int .i64 a0, .int .i64 0, .int .i64 8] rfl lm ?_; (with_reducible refine (spec_l1In.calls a0 0 8 true _ A3.out).mono ?_); rintro e w' ⟨rfl, ⟨nd, rfl⟩⟩; refine ⟨_, rfl, ?_⟩))
   go_ret
   exact ⟨rs_, rd_⟩
 ·replace c4 := Bool.eq_false_iff.mpr c4
  subst c4
  have H1 : (some false) = some r := by rw [if_neg (show ¬ (false = true) by decide)] at H; exact H
  clear H
  have H := H1
  clear H1
  obtain rfl := Option.some.inj H
  go_enter Try.func51, Try.ntmps51
  go_wp2_with (first | ((with_reducible refine gate_callee (f := 98) rfl ?_); refine goesL_ (some 6) rfl rfl Try.func98 (by kernel_rfl) rfl #[.int .i64 a0, .int .i64 0, .int .i64 8] rfl lm ?_; (with_reducible refine (spec_l1In.calls a0 0 8 false _ A3.out).mono ?_); rintro e w' ⟨rfl, ⟨nd, rfl⟩⟩; refine ⟨_, rfl, ?_⟩))
  go_ret
  exact ⟨rs_, rd_⟩
/-! ### spec_l2Has: function 69 -/
def spec_l2Has.f (a0 : Int) (a1 : Int) : Option (Bool) := if 0 ≤ (IntKind.u64.wrap (a1)) then (some ((Go.bits .and .i64 (shr .i64 a0 (IntKind.u64.wrap (a1))) 1) == 1)) else (none)
set_option maxHeartbeats 8000000 in
set_option maxRecDepth 100000 in
theorem spec_l2Has.calls (a0 : Int) (a1 : Int) (r : Bool) (w : World) (h : spec_l2Has.f a0 a1 = some r) :
  Calls Try.prog 69 #[.int .i64 a0, .int .i64 a1] w fun e w' => e = .returned (.bool r) ∧ Drawn0 w w' := by
 have H : (if 0 ≤ (IntKind.u64.wrap (a1)) then (some ((Go.bits .and .i64 (shr .i64 a0 (IntKind.u64.wrap (a1))) 1) == 1)) else (none)) = some r := h
 clear h
 obtain ⟨ji3, hji3⟩ : ∃ j_ : Int, (IntKind.u64.wrap (a1)) = j_ := ⟨_, rfl⟩
 replace H : (if 0 ≤ (ji3) then (some ((Go.bits .and .i64 (shr .i64 a0 (ji3)) 1) == 1)) else (none)) = some r := by first | (rw [hji3] at H; exact H) | (simp only [hji3] at H ⊢; exact H)
 by_cases c4 : 0 ≤ (ji3)
 ·rw [if_pos c4] at H
  have c4b0 := eq_true c4
  have c4b1 : decide (0 ≤ (ji3)) = true := decide_eq_true c4
  clear c4
  obtain ⟨ji5, hji5⟩ : ∃ j_ : Int, (shr .i64 a0 (ji3)) = j_ := ⟨_, rfl⟩
  replace H : (some ((Go.bits .and .i64 (ji5) 1) == 1)) = some r := by first | (rw [hji5] at H; exact H) | (simp only [hji5] at H ⊢; exact H)
  have hji5_ : (a0 / 2 ^ min (ji3).toNat 64) = ji5 := hji5
  have hji5z : (ji3) ≤ 64 → (a0 / 2 ^ (ji3).toNat) = ji5 := shr_small hji5
  obtain rfl := Option.some.inj H
  go_enter Try.func69, Try.ntmps69
  go_wp2
  go_ret
  exact ⟨by first | rfl | (simp; done) | (simp only [← hji3, ← hji5] <;> (first | rfl | simp)) | (simp [*]; done), rd_⟩
 ·rw [if_neg c4] at H
  exact absurd H (by simp)
/-! ### spec_HasElement: function 54 -/
def spec_HasElement.f (a0 : Int) (a1 : Int) : Option (Bool) := (spec_IsSet.f 8 a0).bind fun t55001 => (if t55001 = true then ((spec_l1In.f a1 0 7).bind fun t55002 => (if t55002 = true then ((spec_l2Has.f a0 a1).bind fun t55003 => (some t55003)) else (some false))) else (some false))
set_option maxHeartbeats 8000000 in
set_option maxRecDepth 100000 in
theorem spec_HasElement.calls (a0 : Int) (a1 : Int) (r : Bool) (w : World) (h : spec_HasElement.f a0 a1 = some r) :
  Calls Try.prog 54 #[.int .i64 a0, .int .i64 a1] w fun e w' => e = .returned (.bool r) ∧ Drawn0 w w' := by
 have H : ((spec_IsSet.f 8 a0).bind fun t55001 => (if t55001 = true then ((spec_l1In.f a1 0 7).bind fun t55002 => (if t55002 = true then ((spec_l2Has.f a0 a1).bind fun t55003 => (some t55003)) else (some false))) else (some false))) = some r := h
 clear h
 replace H := Option.bind_eq_some_iff.mp H
 obtain ⟨t55001, A30, H⟩ := H
 replace H : (if t55001 = true then ((spec_l1In.f a1 0 7).bind fun t55002 => (if t55002 = true then ((spec_l2Has.f a0 a1).bind fun t55003 => (some t55003)) else (some false))) else (some false)) = some r := H
 have A3 := aQ A30
 clear A30
 by_cases c4 : t55001 = true
 ·subst c4
  have H1 : ((spec_l1In.f a1 0 7).bind fun t55002 => (if t55002 = true then ((spec_l2Has.f a0 a1).bind fun t55003 => (some t55003)) else (some false))) = some r := by rw [if_pos rfl] at H; exact H
  clear H
  have H := H1
  clear H1
  replace H := Option.bind_eq_some_iff.mp H
  obtain ⟨t55002, A50, H⟩ := H
  replace H : (if t55002 = true then ((spec_l2Has.f a0 a1).bind fun t55003 => (some t55003)) else (some false)) = some r := H
  have A5 := aQ A50
  clear A50
  by_cases c6 : t55002 = true
  ·subst c6
   have H1 : ((spec_l2Has.f a0 a1).bind fun t55003 => (some t55003)) = some r := by rw [if_pos rfl] at H; exact H
   clear H
   have H := H1
   clear H1
   replace H := Option.bind_eq_some_iff.mp H
   obtain ⟨t55003, A70, H⟩ := H
   replace H : (some t55003) = some r := H
   have A7 := aQ A70
   clear A70
   obtain rfl := Option.some.inj H
   go_enter Try.func54, Try.ntmps54
   go_wp2_with (first | ((with_reducible refine gate_callee (f := 55) rfl ?_); refine goesL_ (some 6) rfl rfl Try.func55 (by kernel_rfl) rfl #[.int .i64 8, .int .i64 a0] rfl lm ?_; (with_reducible refine (spec_IsSet.calls 8 a0 true _ A3.out).mono ?_); rintro e w' ⟨rfl, ⟨nd, rfl⟩⟩; refine ⟨_, rfl, ?_⟩) | (go_at_call 98; (with_reducible refine (spec_l1In.calls a1 0 7 true _ A5.out).mono ?_); rintro e w' ⟨rfl, ⟨nd, rfl⟩⟩) | (go_at_call 69; (with_reducible refine (spec_l2Has.calls a0 a1 t55003 _ A7.out).mono ?_); rintro e w' ⟨rfl, ⟨nd, rfl⟩⟩))
   go_ret
   exact ⟨rs_, rd_⟩
  ·replace c6 := Bool.eq_false_iff.mpr c6
   subst c6
   have H1 : (some false) = some r := by rw [if_neg (show ¬ (false = true) by decide)] at H; exact H
   clear H
   have H := H1
   clear H1
   obtain rfl := Option.some.inj H
   go_enter Try.func54, Try.ntmps54
   go_wp2_with (first | ((with_reducible refine gate_callee (f := 55) rfl ?_); refine goesL_ (some 6) rfl rfl Try.func55 (by kernel_rfl) rfl #[.int .i64 8, .int .i64 a0] rfl lm ?_; (with_reducible refine (spec_IsSet.calls 8 a0 true _ A3.out).mono ?_); rintro e w' ⟨rfl, ⟨nd, rfl⟩⟩; refine ⟨_, rfl, ?_⟩) | (go_at_call 98; (with_reducible refine (spec_l1In.calls a1 0 7 false _ A5.out).mono ?_); rintro e w' ⟨rfl, ⟨nd, rfl⟩⟩))
   go_ret
   exact ⟨rs_, rd_⟩
 ·replace c4 := Bool.eq_false_iff.mpr c4
  subst c4
  have H1 : (some false) = some r := by rw [if_neg (show ¬ (false = true) by decide)] at H; exact H
  clear H
  have H := H1
  clear H1
  obtain rfl := Option.some.inj H
  go_enter Try.func54, Try.ntmps54
  go_wp2_with (first | ((with_reducible refine gate_callee (f := 55) rfl ?_); refine goesL_ (some 6) rfl rfl Try.func55 (by kernel_rfl) rfl #[.int .i64 8, .int .i64 a0] rfl lm ?_; (with_reducible refine (spec_IsSet.calls 8 a0 false _ A3.out).mono ?_); rintro e w' ⟨rfl, ⟨nd, rfl⟩⟩; refine ⟨_, rfl, ?_⟩))
  go_ret
  exact ⟨rs_, rd_⟩
/-! ### spec_ElementsOf: function 53 -/
def spec_ElementsOf.l0 : Nat → Int → List Int → Int → Option (List Int)
 | 0, _, _, _ => none
 | k + 1, x0, x3, x4 => if x4 < 8 then ((spec_HasElement.f x0 x4).bind fun t54004 => (if t54004 = true then (if x3.length < 17592186044416 then (spec_ElementsOf.l0 k x0 (x3 ++ [x4]) (wrap64 (x4 + 1))) else (none)) else (spec_ElementsOf.l0 k x0 x3 (wrap64 (x4 + 1))))) else (some x3)
def spec_ElementsOf.f (k : Nat) (a0 : Int) : Option (List Int) := spec_ElementsOf.l0 k a0 (([] : List Int)) 0
theorem spec_ElementsOf.mono_l : ∀ k, (∀ y0 y1 y2, LeO (spec_ElementsOf.l0 k y0 y1 y2) (spec_ElementsOf.l0 (k + 1) y0 y1 y2))
 | 0 => fun _ _ _ r h => by simp [spec_ElementsOf.l0] at h
 | k + 1 => by
  have ih0 := spec_ElementsOf.mono_l k
  ·intro y0 y1 y2
   unfold spec_ElementsOf.l0
   repeat' first
   | (with_reducible exact ih0 _ _ _)
   | (with_reducible exact LeO.refl _)
   | (with_reducible exact LeO.none _)
   | (with_reducible refine LeO.ite ?_ ?_)
   | (with_reducible refine LeO.bind ?_ (fun _ => ?_))
   | exact ih0 _ _ _
   | exact LeO.none _
   | refine LeO.ite ?_ ?_
   | refine LeO.bind ?_ (fun _ => ?_)
theorem spec_ElementsOf.mono : ∀ a0 k, LeO (spec_ElementsOf.f k a0) (spec_ElementsOf.f (k + 1) a0) := by
 intro a0 k
 have ih0 := spec_ElementsOf.mono_l k
 unfold spec_ElementsOf.f
 repeat' first
   | (with_reducible exact ih0 _ _ _)
   | (with_reducible exact LeO.refl _)
   | (with_reducible exact LeO.none _)
   | (with_reducible refine LeO.ite ?_ ?_)
   | (with_reducible refine LeO.bind ?_ (fun _ => ?_))
   | exact ih0 _ _ _
   | exact LeO.none _
   | refine LeO.ite ?_ ?_
   | refine LeO.bind ?_ (fun _ => ?_)
set_option maxHeartbeats 8000000 in
set_option maxRecDepth 100000 in
theorem spec_ElementsOf.calls (k : Nat) (a0 : Int) (r : List Int) (w : World) (h : spec_ElementsOf.f k a0 = some r) :
  Calls Try.prog 53 #[.int .i64 a0] w fun e w' => ∃ v0_ : Value, e = .returned (v0_) ∧ Kd.R (Kd.int .i64) 3 w' w.heap.size (fun _ => True) v0_ r ∧ Below w.heap.size w w' := by
 have HB := aQ (Below.refl w.heap.size w)
 have H : (spec_ElementsOf.l0 k a0 (([] : List Int)) 0) = some r := h
 clear h
 obtain ⟨y54001, hy54001⟩ : ∃ y_ : List Int, y_ = (([] : List Int)) := ⟨_, rfl⟩
 replace H : (spec_ElementsOf.l0 k a0 y54001 0) = some r := by first | (rw [hy54001]; with_reducible exact H) | (have H2_ := (Option.bind_some _ _).symm.trans H; rw [hy54001]; with_reducible exact H2_) | (have H2_ := (Option.bind_some _ _).symm.trans H; with_reducible exact H2_) | with_reducible exact H | (rw [hy54001]; exact H) | exact H
 have Ny54001 := aQ hy54001
 clear hy54001
 have H' := aQ H
 clear H
 go_enter Try.func53, Try.ntmps53
 go_wp2_with (first | ((with_reducible refine gate_dst (N := 5) rfl ?_); refine Kd.R_lit (Kd.int .i64) _ 3 ?hg (N := 5) ?hd (xs := ([] : List Int)) (inner := []) (ok := fun _ => True) (okp := fun _ => True) ?hr ?hp (fun _ hk => hk) trivial (Below.refl _ _) (Nat.le_refl _) (by simp) ?_; (case hd => rfl); (case hg => rfl); (case hr => first | (go_simp; done) | (go_simp; rfl)); (case hp => exact (Reps.none _ _)); intro v54002 w2 ho3 hb hg_ hnew_; clear hg_ hnew_; (first | rw [← Ny54001.out] at ho3 | (simp only [Int.reduceToNat] at ho3; rw [← Ny54001.out] at ho3)); have HO54003 := aQ (Kd.R_lower ho3 (below_size (pB HB.out))); replace HB := aQ (below_step (pB HB.out) hb); clear hb ho3))
 go_loopg [3, 4] k (fun kq v3 v4 w' => ∃ (x3_1 : List Int) (x4_1 : Int), v4 = .int .i64 x4_1 ∧ Aside0 (spec_ElementsOf.l0 kq a0 x3_1 x4_1 = some r) ∧ Aside0 (kq ≤ k) ∧ Aside0 (Kd.R (Kd.int .i64) 3 w' w.heap.size (fun _ => True) v3 x3_1) ∧ Aside0 (Below w.heap.size w w'))
 case atStart => exact ⟨(y54001), (0), rs_, H', ⟨Nat.le_refl _⟩, ⟨pR HO54003.out⟩, ⟨pB HB.out⟩⟩
 case round =>
  clear H'
  try clear p2
  obtain ⟨x3_1, x4_1, rfl, HA, HK1, HO_3, HB⟩ := hrel
  cases gk with
  | zero => exact absurd HA.out (by simp [spec_ElementsOf.l0])
  | succ k1 =>
   have H := HA.out
   clear HA
   simp only [spec_ElementsOf.l0] at H
   by_cases c4 : x4_1 < 8
   ·rw [if_pos c4] at H
    have c4b0 : decide (x4_1 < 8) = true := decide_eq_true c4
    clear c4
    replace H := Option.bind_eq_some_iff.mp H
    obtain ⟨t54004, A50, H⟩ := H
    replace H : (if t54004 = true then (if x3_1.length < 17592186044416 then (spec_ElementsOf.l0 k1 a0 (x3_1 ++ [x4_1]) (wrap64 (x4_1 + 1))) else (none)) else (spec_ElementsOf.l0 k1 a0 x3_1 (wrap64 (x4_1 + 1)))) = some r := H
    have A5 := aQ A50
    clear A50
    by_cases c6 : t54004 = true
    ·subst c6
     have H1 : (if x3_1.length < 17592186044416 then (spec_ElementsOf.l0 k1 a0 (x3_1 ++ [x4_1]) (wrap64 (x4_1 + 1))) else (none)) = some r := by rw [if_pos rfl] at H; exact H
     clear H
     have H := H1
     clear H1
     by_cases c7 : x3_1.length < 17592186044416
     ·rw [if_pos c7] at H
      have LMc7 := aQ c7
      clear c7
      obtain ⟨y54005, hy54005⟩ : ∃ y_ : List Int, y_ = (x3_1 ++ [x4_1]) := ⟨_, rfl⟩
      replace H : (spec_ElementsOf.l0 k1 a0 y54005 (wrap64 (x4_1 + 1))) = some r := by first | (rw [hy54005]; with_reducible exact H) | (have H2_ := (Option.bind_some _ _).symm.trans H; rw [hy54005]; with_reducible exact H2_) | (have H2_ := (Option.bind_some _ _).symm.trans H; with_reducible exact H2_) | with_reducible exact H | (rw [hy54005]; exact H) | exact H
      have Ny54005 := aQ hy54005
      clear hy54005
      have H' := aQ H
      clear H
      go_wp2_with (first | ((with_reducible refine gate_callee (f := 54) rfl ?_); refine goesL_ (some 12) rfl rfl Try.func54 (by kernel_rfl) rfl #[.int .i64 a0, .int .i64 x4_1] rfl lm ?_; (with_reducible refine (spec_HasElement.calls a0 x4_1 true _ A5.out).mono ?_); rintro e w' ⟨rfl, ⟨nd, rfl⟩⟩; refine ⟨_, rfl, ?_⟩) | ((with_reducible refine gate_builtin (b := .append) (xs := #[.tmp 13, .tmp 15]) rfl ?_); at_builtin; refine Kd.R_append (Kd.int .i64) (w0 := w) w.heap.size rfl (.tmp 13) (.tmp 15) 22 3 (.int .i64 0) 8 rfl Try.underlying22 info3 rfl (by decide) (by omega) u3 x3_1 x4_1 [.int .i64 x4_1] (fun _ => True) (fun _ => False) rfl rfl ?aP (fun _ hk => hk.elim) ?aF ?aO ?aB ?aS ?aL ?_; (case aP => exact rfl); (case aB => exact (pB HB.out)); (case aF => exact (fun _ _ => trivial)); (case aO => exact (pR HO_3.out)); (case aS => exact (below_size (pB HB.out))); (case aL => have := LMc7.out; omega); intro v54006 w8 ho hb hg hat; rw [← Ny54005.out] at ho; replace HB := aQ (hb); have HO54007 := aQ (ho); clear HO_3; clear ho hb hg hat))
      go_roundg k1
      case measure => have := HK1.out; omega
      case rel => exact ⟨(y54005), (wrap64 (x4_1 + 1)), rs_, H', ⟨by have := HK1.out; omega⟩, ⟨pR HO54007.out⟩, ⟨pB HB.out⟩⟩
     ·rw [if_neg c7] at H
      exact absurd H (by simp)
    ·replace c6 := Bool.eq_false_iff.mpr c6
     subst c6
     have H1 : (spec_ElementsOf.l0 k1 a0 x3_1 (wrap64 (x4_1 + 1))) = some r := by rw [if_neg (show ¬ (false = true) by decide)] at H; exact H
     clear H
     have H := H1
     clear H1
     have H' := aQ H
     clear H
     go_wp2_with (first | ((with_reducible refine gate_callee (f := 54) rfl ?_); refine goesL_ (some 12) rfl rfl Try.func54 (by kernel_rfl) rfl #[.int .i64 a0, .int .i64 x4_1] rfl lm ?_; (with_reducible refine (spec_HasElement.calls a0 x4_1 false _ A5.out).mono ?_); rintro e w' ⟨rfl, ⟨nd, rfl⟩⟩; refine ⟨_, rfl, ?_⟩))
     go_roundg k1
     case measure => have := HK1.out; omega
     case rel => exact ⟨(x3_1), (wrap64 (x4_1 + 1)), rs_, H', ⟨by have := HK1.out; omega⟩, ⟨pR HO_3.out⟩, ⟨pB HB.out⟩⟩
   ·rw [if_neg c4] at H
    have c4b0 : decide (x4_1 < 8) = false := decide_eq_false c4
    clear c4
    obtain rfl := Option.some.inj H
    go_wp2
    go_ret
    exact ⟨_, by first | rfl | (simp [errW_none, errW_some] <;> rfl) | (simp [*, errW_none, errW_some] <;> rfl), by (with_reducible repeat (first | apply Kd.R_alloc | apply Kd.R_drewN | apply Kd.R_drew)); exact HO_3.out, pB HB.out⟩
/-! ### spec_HasSet: function 115 -/
def spec_HasSet.l0 : Nat → List Int → Int → Int → Option (Bool)
 | 0, _, _, _ => none
 | k + 1, x0, x1, x5 => if x5 < (x0.length : Int) then (if 0 ≤ x5 then (if (rd x0 x5) = x1 then (some true) else (spec_HasSet.l0 k x0 x1 (wrap64 (x5 + 1)))) else (none)) else (some false)
def spec_HasSet.f (k : Nat) (l0 : List Int) (a1 : Int) : Option (Bool) := spec_HasSet.l0 k l0 a1 0
theorem spec_HasSet.mono_l : ∀ k, (∀ y0 y1 y2, LeO (spec_HasSet.l0 k y0 y1 y2) (spec_HasSet.l0 (k + 1) y0 y1 y2))
 | 0 => fun _ _ _ r h => by simp [spec_HasSet.l0] at h
 | k + 1 => by
  have ih0 := spec_HasSet.mono_l k
  ·intro y0 y1 y2
   unfold spec_HasSet.l0
   repeat' first
   | (with_reducible exact ih0 _ _ _)
   | (with_reducible exact LeO.refl _)
   | (with_reducible exact LeO.none _)
   | (with_reducible refine LeO.ite ?_ ?_)
   | (with_reducible refine LeO.bind ?_ (fun _ => ?_))
   | exact ih0 _ _ _
   | exact LeO.none _
   | refine LeO.ite ?_ ?_
   | refine LeO.bind ?_ (fun _ => ?_)
theorem spec_HasSet.mono : ∀ a0 a1 k, LeO (spec_HasSet.f k a0 a1) (spec_HasSet.f (k + 1) a0 a1) := by
 intro a0 a1 k
 have ih0 := spec_HasSet.mono_l k
 unfold spec_HasSet.f
 repeat' first
   | (with_reducible exact ih0 _ _ _)
   | (with_reducible exact LeO.refl _)
   | (with_reducible exact LeO.none _)
   | (with_reducible refine LeO.ite ?_ ?_)
   | (with_reducible refine LeO.bind ?_ (fun _ => ?_))
   | exact ih0 _ _ _
   | exact LeO.none _
   | refine LeO.ite ?_ ?_
   | refine LeO.bind ?_ (fun _ => ?_)
set_option maxHeartbeats 8000000 in
set_option maxRecDepth 100000 in
theorem spec_HasSet.calls (k : Nat) (A0 : Option Addr) (c0 : Nat) (l0 : List Int) (a1 : Int) (r : Bool) (w : World) (hr0 : Kd.C (Kd.int .i64) w A0 l0.length l0) (hc0 : l0.length ≤ c0) (h : spec_HasSet.f k l0 a1 = some r) :
  Calls Try.prog 115 #[.slice A0 l0.length c0, .int .i64 a1] w fun e w' => e = .returned (.bool r) ∧ Drawn0 w w' := by
 have HR0 := aQ hr0
 have HC0 := aQ hc0
 clear hr0 hc0
 have H : (spec_HasSet.l0 k l0 a1 0) = some r := h
 clear h
 have H' := aQ H
 clear H
 go_enter Try.func115, Try.ntmps115
 go_wp2
 go_loopg [5] k (fun kq v5 w' => ∃ (x5_1 : Int), v5 = .int .i64 x5_1 ∧ Aside0 (spec_HasSet.l0 kq l0 a1 x5_1 = some r) ∧ Aside0 (kq ≤ k) ∧ Drawn0 w w')
 case atStart => exact ⟨(0), rs_, H', ⟨Nat.le_refl _⟩, rd_⟩
 case round =>
  clear H'
  try clear c1
  try clear p2
  obtain ⟨x5_1, rfl, HA, HK1, ⟨m1, rfl⟩⟩ := hrel
  cases gk with
  | zero => exact absurd HA.out (by simp [spec_HasSet.l0])
  | succ k1 =>
   have H := HA.out
   clear HA
   simp only [spec_HasSet.l0] at H
   by_cases c3 : x5_1 < (l0.length : Int)
   ·rw [if_pos c3] at H
    have c3b0 : decide (x5_1 < (l0.length : Int)) = true := decide_eq_true c3
    clear c3
    by_cases c4 : 0 ≤ x5_1
    ·rw [if_pos c4] at H
     have c4b0 : decide (0 ≤ x5_1) = true := decide_eq_true c4
     clear c4
     by_cases c5 : (rd l0 x5_1) = a1
     ·rw [if_pos c5] at H
      have c5b0 : ((rd l0 x5_1) == a1) = true := beq_iff_eq.mpr c5
      have c5b1 : ((rd l0 x5_1) != a1) = false := bne_eq_false_iff_eq.mpr c5
      clear c5
      obtain rfl := Option.some.inj H
      have p116001 : 0 ≤ (x5_1 : Int) := of_decide_eq_true as_
      have q116001 : x5_1 < (l0.length : Int) := of_decide_eq_true as_
      obtain ⟨ad116001, e116001, hx116001_0⟩ := Kd.at_int HR0.out x5_1 p116001 q116001
      cases e116001
      replace p116001 := eq_true p116001
      replace q116001 := eq_true q116001
      go_wp2
      go_ret
      exact ⟨rs_, rd_⟩
     ·rw [if_neg c5] at H
      have c5b0 : ((rd l0 x5_1) == a1) = false := beq_eq_false_iff_ne.mpr c5
      have c5b1 : ((rd l0 x5_1) != a1) = true := bne_iff_ne.mpr c5
      have H' := aQ H
      clear H
      have p116001 : 0 ≤ (x5_1 : Int) := of_decide_eq_true as_
      have q116001 : x5_1 < (l0.length : Int) := of_decide_eq_true as_
      obtain ⟨ad116001, e116001, hx116001_0⟩ := Kd.at_int HR0.out x5_1 p116001 q116001
      cases e116001
      replace p116001 := eq_true p116001
      replace q116001 := eq_true q116001
      go_wp2
      go_roundg k1
      case measure => have := HK1.out; omega
      case rel => exact ⟨(wrap64 (x5_1 + 1)), rs_, H', ⟨by have := HK1.out; omega⟩, rd_⟩
    ·rw [if_neg c4] at H
     exact absurd H (by simp)
   ·rw [if_neg c3] at H
    have c3b0 : decide (x5_1 < (l0.length : Int)) = false := decide_eq_false c3
    clear c3
    obtain rfl := Option.some.inj H
    go_wp2
    go_ret
    exact ⟨rs_, rd_⟩
end Go.Proofs.Ytimkekeaeojpkaa.A
