/- Machine side of the law FnTransversals: Go functions as Lean functions, and proofs that calls come to what these tell. Conditions: those in each theorem. -/
import Derived.Test.YtimkekeaeojpkaaMFnTransversals0
import Derived.Test.YtimkekeaeojpkaaMFnTransversalsq0
import Derived.Test.YtimkekeaeojpkaaMFnTransversals1
namespace Go.Proofs.Ytimkekeaeojpkaa.A
open Go.RowKit Go.Proofs.YtimkekeaeojpkaaW.PrintWords Go.Proofs.YtimkekeaeojpkaaW.PrintLast Go.Proofs.YtimkekeaeojpkaaW.PrintMore Go.Proofs.Ytimkekeaeojpkaa.Z
attribute [local go_sem] max2_int min2_int max_two min_two max_three min_three max_four min_four
set_option linter.unusedVariables false
set_option linter.unusedSimpArgs false
/-! ### impl_FirstFailure: function 116 (by hand) -/
/-- May f stand for e in the base a? -/
def impl_FirstFailure.c (k : Nat) (l : List Int) (a e f : Int) : Option Bool := if 0 ≤ e ∧ e < 8 then (if 0 ≤ f ∧ f < 8 then impl_HasSet.f k l (Go.bits .or .i64 (Go.bits .andNot .i64 a (IntKind.i64.wrap (2 ^ e.toNat))) (IntKind.i64.wrap (2 ^ f.toNat))) else none) else none
theorem impl_FirstFailure.c_mono (l : List Int) (a e f : Int) (k : Nat) : LeO (impl_FirstFailure.c k l a e f) (impl_FirstFailure.c (k + 1) l a e f) := by
 unfold impl_FirstFailure.c
 exact LeO.ite (LeO.ite (impl_HasSet.mono _ _ _) (LeO.none _)) (LeO.none _)
set_option maxHeartbeats 2000000 in
set_option maxRecDepth 100000 in
theorem FirstFailure1_walk (k : Nat) (n : Int) (A : Option Addr) (c : Nat) (l : List Int) (a e f : Int) (b : Bool) (gm ga ge : Nat) (w : World)
  (hr : Kd.C (Kd.int .i64) w A l.length l) (hc : l.length ≤ c)
  (hm : w.heap[gm]? = some (.cells #[.int .i64 n, .slice A l.length c] 28 (0, 0))) (ha : w.heap[ga]? = some (.cells #[.int .i64 a] 3 (0, 0))) (he : w.heap[ge]? = some (.cells #[.int .i64 e] 3 (0, 0)))
  (h : impl_FirstFailure.c k l a e f = some b) :
  Calls Try.prog 147 #[.int .i64 f, .pointer (some ⟨gm, 0, none⟩), .pointer (some ⟨ga, 0, none⟩), .pointer (some ⟨ge, 0, none⟩)] w fun e w' => e = .returned (.bool b) ∧ Below w.heap.size w w' := by
 unfold impl_FirstFailure.c at h
 by_cases h1 : 0 ≤ e ∧ e < 8
 ·rw [if_pos h1] at h
  by_cases h2 : 0 ≤ f ∧ f < 8
  ·rw [if_pos h2] at h
   have hu := Try.underlying28
   have hcm : w.cell? ⟨gm, 1, none⟩ = some (.slice A l.length c) := (blk_cell hm 1).trans rfl
   have hca : w.cell? ⟨ga, 0, none⟩ = some (.int .i64 a) := (blk_cell ha 0).trans rfl
   have hce : w.cell? ⟨ge, 0, none⟩ = some (.int .i64 e) := (blk_cell he 0).trans rfl
   obtain ⟨he0, he8⟩ := h1
   obtain ⟨hf0, hf8⟩ := h2
   have H := Lib.hid h
   have HR := Lib.hid hr
   have HCC := Lib.hid hc
   clear hm ha he h hr hc
   go_enter Try.func147, Try.ntmps147
   go_wp2
   go_quiet (first | (go_at_call 125; (with_reducible refine (impl_HasSet.calls k _ _ l _ b _ ?side1 ?side2 H.out).mono ?_); (case side1 => exact pC HR.out); (case side2 => exact HCC.out); rintro e w' ⟨rfl, ⟨nd, rfl⟩⟩; (try first | exact ⟨rfl, _, World.drewN_drewN _ _ _⟩ | exact ⟨rfl, _, Eq.trans (World.drewN_drewN _ _ _) (congrArg (World.drewN _) (Nat.add_assoc _ _ _))⟩)))
   go_wp2
   go_ret
   exact ⟨rfl, by repeat (first | exact Below.refl _ _ | apply pw_below_drewN | apply below_drew1)⟩
  ·rw [if_neg h2] at h; cases h
 ·rw [if_neg h1] at h; cases h
def impl_FirstFailure.l2 (k : Nat) (l : List Int) (a b : Int) : List Int → Option (Option Int)
 | [] => some none
 | e :: es => (impl_ElementsOf.f k (Go.bits .andNot .i64 b a)).bind fun fs => (anyO (fun f => impl_FirstFailure.c k l a e f) fs).bind fun t => if t = true then impl_FirstFailure.l2 k l a b es else some (some e)
def impl_FirstFailure.l1 (k : Nat) (l : List Int) (a : Int) : List Int → Option (Option (Int × Int))
 | [] => some none
 | b :: bs => (impl_ElementsOf.f k (Go.bits .andNot .i64 a b)).bind fun es => (impl_FirstFailure.l2 k l a b es).bind fun t => match t with
  | none => impl_FirstFailure.l1 k l a bs
  | some e => some (some (b, e))
def impl_FirstFailure.l0 (k : Nat) (l : List Int) : List Int → Option (Option (Int × Int × Int))
 | [] => some none
 | a :: la => (impl_FirstFailure.l1 k l a l).bind fun t => match t with
  | none => impl_FirstFailure.l0 k l la
  | some (b, e) => some (some (a, b, e))
def impl_FirstFailure.f (k : Nat) (a0_0 : Int) (l0_1 : List Int) : Option (Int × Int × Int × Bool) := (impl_IsFamily.f k a0_0 l0_1).bind fun t => if t = true then ((impl_FirstFailure.l0 k l0_1 l0_1).bind fun u => match u with
  | none => some (0, 0, 0, false)
  | some (a, b, e) => some (a, b, e, true)) else some (0, 0, 0, false)
theorem impl_FirstFailure.mono2 (k : Nat) (l : List Int) (a b : Int) : ∀ es, LeO (impl_FirstFailure.l2 k l a b es) (impl_FirstFailure.l2 (k + 1) l a b es) := by
 intro es
 induction es with
 | nil => exact LeO.refl _
 | cons e es ih =>
  unfold impl_FirstFailure.l2
  exact LeO.bind (impl_ElementsOf.mono _ _) (fun fs => LeO.bind (LeO_anyO (fun f => impl_FirstFailure.c_mono l a e f k) fs) (fun t => LeO.ite ih (LeO.refl _)))
theorem impl_FirstFailure.mono1 (k : Nat) (l : List Int) (a : Int) : ∀ bs, LeO (impl_FirstFailure.l1 k l a bs) (impl_FirstFailure.l1 (k + 1) l a bs) := by
 intro bs
 induction bs with
 | nil => exact LeO.refl _
 | cons b bs ih =>
  unfold impl_FirstFailure.l1
  exact LeO.bind (impl_ElementsOf.mono _ _) (fun es => LeO.bind (impl_FirstFailure.mono2 k l a b es) (fun t => by cases t; exact ih; exact LeO.refl _))
theorem impl_FirstFailure.mono0 (k : Nat) (l : List Int) : ∀ la, LeO (impl_FirstFailure.l0 k l la) (impl_FirstFailure.l0 (k + 1) l la) := by
 intro la
 induction la with
 | nil => exact LeO.refl _
 | cons a la ih =>
  unfold impl_FirstFailure.l0
  exact LeO.bind (impl_FirstFailure.mono1 k l a l) (fun t => by cases t; exact ih; exact LeO.refl _)
theorem impl_FirstFailure.mono : ∀ a0 a1 k, LeO (impl_FirstFailure.f k a0 a1) (impl_FirstFailure.f (k + 1) a0 a1) := by
 intro a0 a1 k
 unfold impl_FirstFailure.f
 exact LeO.bind (impl_IsFamily.mono _ _ _) (fun t => LeO.ite (LeO.bind (impl_FirstFailure.mono0 k a1 a1) (fun u => LeO.refl _)) (LeO.refl _))
set_option maxHeartbeats 8000000 in
set_option maxRecDepth 100000 in
theorem impl_FirstFailure.calls (k : Nat) (a0_0 : Int) (A0_1 : Option Addr) (c0_1 : Nat) (l0_1 : List Int) (r1 : Int) (r2 : Int) (r3 : Int) (r4 : Bool) (w : World) (hr0_1 : Kd.C (Kd.int .i64) w A0_1 l0_1.length l0_1) (hc0_1 : l0_1.length ≤ c0_1) (h : impl_FirstFailure.f k a0_0 l0_1 = some (r1, r2, r3, r4)) :
  Calls Try.prog 116 #[.agg #[.int .i64 a0_0, .slice A0_1 l0_1.length c0_1]] w fun e w' => e = .returned (.tuple #[.agg #[.int .i64 r1, .int .i64 r2, .int .i64 r3], .bool r4]) ∧ Below w.heap.size w w' := by
 have hu39 := Try.underlying28
 have hu59 := Try.underlying94
 have hlen : l0_1.length ≤ 9223372036854775807 := hr0_1.2.1
 have HR := aQ hr0_1
 have HC := aQ hc0_1
 have HB := aQ (Below.refl w.heap.size w)
 clear hr0_1 hc0_1
 unfold impl_FirstFailure.f at h
 obtain ⟨t, A2, H⟩ := Option.bind_eq_some_iff.mp h
 clear h
 have HF := aQ A2
 clear A2
 have eg : ∀ args w, (callFunc 147 args).run Try.prog w = .ok (.enter 147 args) w := runs_of Try.func147 (by kernel_rfl) rfl
 have EG := aQ eg
 clear eg
 by_cases c3 : t = true
 ·subst c3
  rw [if_pos rfl] at H
  obtain ⟨u, A3, H⟩ := Option.bind_eq_some_iff.mp H
  have HL := Lib.hid A3
  have HU := Lib.hid H
  clear A3 H
  go_enter Try.func116, Try.ntmps116
  go_wp2_with (first | ((with_reducible refine gate_dst (N := 1) rfl ?_); refine box_event ?hg (N := 1) ?hd (cs := #[.int .i64 a0_0, .slice A0_1 l0_1.length c0_1]) (t := 28) ?hr ?_; (case hd => rfl); (case hg => rfl); (case hr => first | (go_simp; done) | (go_simp; rfl)); intro gm hg w1_ hbox hb; have n_HB := aQ (below_step (pB HB.out) hb); have n_GBM := aQ ((by rw [hg]; exact below_size (pB HB.out)) : w.heap.size ≤ gm); clear HB; have HB := n_HB; have GBM := n_GBM; have BM := aQ hbox; clear n_HB n_GBM; clear hb hbox hg; have zBM0 : w1_.cell? ⟨gm, 0, none⟩ = some (.int .i64 a0_0) := (blk_cell BM.out 0).trans rfl; have zBM1 : w1_.cell? ⟨gm, 1, none⟩ = some (.slice A0_1 l0_1.length c0_1) := (blk_cell BM.out 1).trans rfl) | ((with_reducible refine gate_dst (N := 2) rfl ?_); refine box_event ?hg (N := 2) ?hd (cs := #[.int .i64 0, .int .i64 0, .int .i64 0]) (t := 94) ?hr ?_; (case hd => rfl); (case hg => rfl); (case hr => first | (go_simp; done) | (go_simp; rfl)); intro gf hg w1_ hbox hb; have n_BM := aQ (blk_below (g := gm) (o := .cells #[.int .i64 a0_0, .slice A0_1 l0_1.length c0_1] 28 (0, 0)) (pk BM.out) hb); have n_NBMBF := aQ ((by rw [hg]; exact Nat.ne_of_lt (blk_lt (g := gm) (o := .cells #[.int .i64 a0_0, .slice A0_1 l0_1.length c0_1] 28 (0, 0)) (pk BM.out))) : gm ≠ gf); have n_HB := aQ (below_step (pB HB.out) hb); have n_GBF := aQ ((by rw [hg]; exact below_size (pB HB.out)) : w.heap.size ≤ gf); clear BM; clear HB; have HB := n_HB; have GBF := n_GBF; have BF := aQ hbox; have BM := n_BM; have NBMBF := n_NBMBF; clear n_HB n_GBF n_BM n_NBMBF; clear hb hbox hg; have zBM0 : w1_.cell? ⟨gm, 0, none⟩ = some (.int .i64 a0_0) := (blk_cell BM.out 0).trans rfl; have zBM1 : w1_.cell? ⟨gm, 1, none⟩ = some (.slice A0_1 l0_1.length c0_1) := (blk_cell BM.out 1).trans rfl) | (go_at_call 117; (with_reducible refine (impl_IsFamily.calls k a0_0 _ _ l0_1 true _ ?side1 ?side2 HF.out).mono ?_); (case side1 => exact pC (Kd.C_below HR.out HB.out)); (case side2 => exact HC.out); rintro e w' ⟨rfl, ⟨nd, rfl⟩⟩))
  go_loopg [21] l0_1.length (fun gg s21 wr => ∃ x : Int, s21 = .int .i64 x ∧ Aside0 (0 ≤ x ∧ x ≤ (l0_1.length : Int)) ∧ Aside0 (l0_1.length - x.toNat ≤ gg) ∧ Aside0 (wr.heap[gm]? = some (.cells #[.int .i64 a0_0, .slice A0_1 l0_1.length c0_1] 28 (0, 0))) ∧ Aside0 (wr.heap[gf]? = some (.cells #[.int .i64 0, .int .i64 0, .int .i64 0] 94 (0, 0))) ∧ Aside0 (Below w.heap.size w wr) ∧ Aside0 (impl_FirstFailure.l0 k l0_1 (l0_1.drop x.toNat) = some u))
  case atStart => exact ⟨0, rfl, ⟨by omega⟩, ⟨by omega⟩, ⟨pk BM.out⟩, ⟨pk BF.out⟩, ⟨(pB HB.out)⟩, ⟨HL.out⟩⟩
  case round =>
   clear HL
   try clear zBM0
   try clear zBM1
   obtain ⟨x, rfl, HX, HG, BM, BF, HB, HI⟩ := hrel
   by_cases hlt : x < (l0_1.length : Int)
   ·have p1 : 0 ≤ x := HX.out.1
    have l1 : decide (x < (l0_1.length : Int)) = true := decide_eq_true hlt
    obtain ⟨ad, ea, hx⟩ := Kd.at_int HR.out x p1 hlt
    cases ea
    replace hx := (HB.out.cell (World.block_lt_of_cell? w _ hx)).trans hx
    have hI := HI.out
    rw [int_drop l0_1 x p1 hlt] at hI
    simp only [impl_FirstFailure.l0] at hI
    obtain ⟨t1, hJ, hI⟩ := Option.bind_eq_some_iff.1 hI
    have HJ0 := Lib.hid hJ
    have HI1 := Lib.hid hI
    have E1 := Lib.hid (wrap64_of (n := x + 1) (by omega) (by omega))
    have Q1 := aQ hlt
    replace p1 := eq_true p1
    replace hlt := eq_true hlt
    clear HI hI hJ
    have zBM : wr.cell? ⟨gm, 1, none⟩ = some (.slice (some ad) l0_1.length c0_1) := (blk_cell BM.out 1).trans rfl
    go_wp2_with (first | ((with_reducible refine gate_dst (N := 5) rfl ?_); refine box_event ?hg (N := 5) ?hd (cs := #[.int .i64 0]) (t := 3) ?hr ?_; (case hd => rfl); (case hg => rfl); (case hr => first | (go_simp; done) | (go_simp; rfl)); intro ga hg w1_ hbox hb; have n_BM := aQ (blk_below (g := gm) (o := .cells #[.int .i64 a0_0, .slice (some ad) l0_1.length c0_1] 28 (0, 0)) (pk BM.out) hb); have n_BF := aQ (blk_below (g := gf) (o := .cells #[.int .i64 0, .int .i64 0, .int .i64 0] 94 (0, 0)) (pk BF.out) hb); have n_NBMBA := aQ ((by rw [hg]; exact Nat.ne_of_lt (blk_lt (g := gm) (o := .cells #[.int .i64 a0_0, .slice (some ad) l0_1.length c0_1] 28 (0, 0)) (pk BM.out))) : gm ≠ ga); have n_NBFBA := aQ ((by rw [hg]; exact Nat.ne_of_lt (blk_lt (g := gf) (o := .cells #[.int .i64 0, .int .i64 0, .int .i64 0] 94 (0, 0)) (pk BF.out))) : gf ≠ ga); have n_HB := aQ (below_step (pB HB.out) hb); have n_GBA := aQ ((by rw [hg]; exact below_size (pB HB.out)) : w.heap.size ≤ ga); clear BM; clear BF; clear HB; have HB := n_HB; have GBA := n_GBA; have BA := aQ hbox; have BM := n_BM; have NBMBA := n_NBMBA; have BF := n_BF; have NBFBA := n_NBFBA; clear n_HB n_GBA n_BM n_NBMBA n_BF n_NBFBA; clear hb hbox hg; have zBM2 : w1_.cell? ⟨gm, 1, none⟩ = some (.slice (some ad) l0_1.length c0_1) := (blk_cell BM.out 1).trans rfl; have zBA2 : w1_.cell? ⟨ga, 0, none⟩ = some (.int .i64 0) := (blk_cell BA.out 0).trans rfl; have fBA := blk_frozen BA.out 0; have nBMA := NBMBA.out; have nBFA := NBFBA.out; have nBMA2 := Ne.symm nBMA; have nBFA2 := Ne.symm nBFA))
    go_loopg [28] l0_1.length (fun gg s28 wr => ∃ y : Int, s28 = .int .i64 y ∧ Aside0 (0 ≤ y ∧ y ≤ (l0_1.length : Int)) ∧ Aside0 (l0_1.length - y.toNat ≤ gg) ∧ Aside0 (wr.heap[gm]? = some (.cells #[.int .i64 a0_0, .slice (some ad) l0_1.length c0_1] 28 (0, 0))) ∧ Aside0 (wr.heap[gf]? = some (.cells #[.int .i64 0, .int .i64 0, .int .i64 0] 94 (0, 0))) ∧ Aside0 (wr.heap[ga]? = some (.cells #[.int .i64 (rd l0_1 x)] 3 (0, 0))) ∧ Aside0 (Below w.heap.size w wr) ∧ Aside0 (impl_FirstFailure.l1 k l0_1 (rd l0_1 x) (l0_1.drop y.toNat) = some t1))
    case atStart => exact ⟨0, rfl, ⟨by omega⟩, ⟨by omega⟩, ⟨by (with_reducible repeat (first | refine blk_drewN ?_ _ | refine blk_drew ?_ | refine blk_alloc ?_ _)); refine blk_far ?_ nBMA _; (with_reducible repeat (first | refine blk_drewN ?_ _ | refine blk_drew ?_ | refine blk_alloc ?_ _)); exact BM.out⟩, ⟨by (with_reducible repeat (first | refine blk_drewN ?_ _ | refine blk_drew ?_ | refine blk_alloc ?_ _)); refine blk_far ?_ nBFA _; (with_reducible repeat (first | refine blk_drewN ?_ _ | refine blk_drew ?_ | refine blk_alloc ?_ _)); exact BF.out⟩, ⟨by (with_reducible repeat (first | refine blk_drewN ?_ _ | refine blk_drew ?_ | refine blk_alloc ?_ _)); refine blk_put (cs := #[.int .i64 0]) ?_ 0 _ rfl; (with_reducible repeat (first | refine blk_drewN ?_ _ | refine blk_drew ?_ | refine blk_alloc ?_ _)); exact BA.out⟩, ⟨(by repeat (first | (with_reducible first | exact HB.out | apply below_alloc | apply pw_below_drewN | apply below_drew1 | refine below_set ?_ GBA.out) | exact HB.out))⟩, ⟨HJ0.out⟩⟩
    case round =>
     clear HJ0
     try clear zBM
     try clear zBM2
     try clear zBA2
     try clear fBA
     try clear hx
     obtain ⟨y, rfl, HY, HG2, BM, BF, BA, HB, HJ⟩ := hrel
     by_cases hlt2 : y < (l0_1.length : Int)
     ·have p2 : 0 ≤ y := HY.out.1
      have l2 : decide (y < (l0_1.length : Int)) = true := decide_eq_true hlt2
      obtain ⟨ad2, ea2, hy⟩ := Kd.at_int HR.out y p2 hlt2
      obtain rfl : ad = ad2 := by injection ea2
      replace hy := (HB.out.cell (World.block_lt_of_cell? w _ hy)).trans hy
      have hJ := HJ.out
      rw [int_drop l0_1 y p2 hlt2] at hJ
      simp only [impl_FirstFailure.l1] at hJ
      obtain ⟨es, hE, hJ⟩ := Option.bind_eq_some_iff.1 hJ
      obtain ⟨t2, hK, hJ⟩ := Option.bind_eq_some_iff.1 hJ
      have HE := Lib.hid hE
      have HK0 := Lib.hid hK
      have HJ1 := Lib.hid hJ
      have E2 := Lib.hid (wrap64_of (n := y + 1) (by omega) (by omega))
      have Q2 := aQ hlt2
      replace p2 := eq_true p2
      replace hlt2 := eq_true hlt2
      clear HJ hE hK hJ ea2
      have zBM : wr.cell? ⟨gm, 1, none⟩ = some (.slice (some ad) l0_1.length c0_1) := (blk_cell BM.out 1).trans rfl
      have zBA : wr.cell? ⟨ga, 0, none⟩ = some (.int .i64 (rd l0_1 x)) := (blk_cell BA.out 0).trans rfl
      go_wp2_with (first | (go_at_call 104; (with_reducible refine (impl_ElementsOf.calls k _ es _ HE.out).mono ?_); rintro e w1_ ⟨v_, rfl, ho_, hb⟩; have n_BM := aQ (blk_below (g := gm) (o := .cells #[.int .i64 a0_0, .slice (some ad) l0_1.length c0_1] 28 (0, 0)) (pk BM.out) hb); have n_BF := aQ (blk_below (g := gf) (o := .cells #[.int .i64 0, .int .i64 0, .int .i64 0] 94 (0, 0)) (pk BF.out) hb); have n_BA := aQ (blk_below (g := ga) (o := .cells #[.int .i64 (rd l0_1 x)] 3 (0, 0)) (pk BA.out) hb); have n_HO := aQ (Kd.R_lower ho_ (below_size (pB HB.out))); have n_HB := aQ (below_step (pB HB.out) hb); clear HB; clear BM; have BM := n_BM; clear BF; have BF := n_BF; clear BA; have BA := n_BA; have HB := n_HB; have HO := n_HO; clear n_HB n_HO n_BM n_BF n_BA hb ho_; obtain ⟨AHO, cHO, eHO⟩ := Kd.R_slice HO.out; subst eHO))
      have hes : es.length ≤ 9223372036854775807 := (Kd.R_reads HO.out).elim fun _ h => h.elim fun _ h => h.2.2.2.1
      go_loopg [37] es.length (fun gg s37 wr => ∃ z : Int, s37 = .int .i64 z ∧ Aside0 (0 ≤ z ∧ z ≤ (es.length : Int)) ∧ Aside0 (es.length - z.toNat ≤ gg) ∧ Aside0 (wr.heap[gm]? = some (.cells #[.int .i64 a0_0, .slice (some ad) l0_1.length c0_1] 28 (0, 0))) ∧ Aside0 (wr.heap[gf]? = some (.cells #[.int .i64 0, .int .i64 0, .int .i64 0] 94 (0, 0))) ∧ Aside0 (wr.heap[ga]? = some (.cells #[.int .i64 (rd l0_1 x)] 3 (0, 0))) ∧ Aside0 (Below w.heap.size w wr) ∧ Aside0 (Kd.R (Kd.int .i64) 3 wr w.heap.size (fun _ => True) (.slice AHO es.length cHO) es) ∧ Aside0 (impl_FirstFailure.l2 k l0_1 (rd l0_1 x) (rd l0_1 y) (es.drop z.toNat) = some t2))
      case atStart => exact ⟨0, rfl, ⟨by omega⟩, ⟨by omega⟩, ⟨pk BM.out⟩, ⟨pk BF.out⟩, ⟨pk BA.out⟩, ⟨(pB HB.out)⟩, ⟨pR HO.out⟩, ⟨HK0.out⟩⟩
      case round =>
       clear HK0 HO
       try clear zBM
       try clear zBA
       try clear hy
       obtain ⟨z, rfl, HZ, HG3, BM, BF, BA, HB, HO, HK⟩ := hrel
       by_cases hlt3 : z < (es.length : Int)
       ·have p3 : 0 ≤ z := HZ.out.1
        have l3 : decide (z < (es.length : Int)) = true := decide_eq_true hlt3
        obtain ⟨ad3, ea3, hz⟩ := Kd.at_int ((Kd.R_reads' HO.out).2.2) z p3 hlt3
        cases ea3
        have hK := HK.out
        rw [int_drop es z p3 hlt3] at hK
        simp only [impl_FirstFailure.l2] at hK
        obtain ⟨fs, hE, hK⟩ := Option.bind_eq_some_iff.1 hK
        obtain ⟨tb, hA, hK⟩ := Option.bind_eq_some_iff.1 hK
        have HE2 := Lib.hid hE
        have HA := Lib.hid hA
        have HK1 := Lib.hid hK
        have E3 := Lib.hid (wrap64_of (n := z + 1) (by omega) (by omega))
        have Q3 := aQ hlt3
        replace p3 := eq_true p3
        replace hlt3 := eq_true hlt3
        clear HK hE hA hK
        have zBM : wr.cell? ⟨gm, 1, none⟩ = some (.slice (some ad) l0_1.length c0_1) := (blk_cell BM.out 1).trans rfl
        have zBA : wr.cell? ⟨ga, 0, none⟩ = some (.int .i64 (rd l0_1 x)) := (blk_cell BA.out 0).trans rfl
        go_wp2_with (first | ((with_reducible refine gate_dst (N := 9) rfl ?_); refine box_event ?hg (N := 9) ?hd (cs := #[.int .i64 0]) (t := 3) ?hr ?_; (case hd => rfl); (case hg => rfl); (case hr => first | (go_simp; done) | (go_simp; rfl)); intro ge hg w1_ hbox hb; have n_BM := aQ (blk_below (g := gm) (o := .cells #[.int .i64 a0_0, .slice (some ad) l0_1.length c0_1] 28 (0, 0)) (pk BM.out) hb); have n_BF := aQ (blk_below (g := gf) (o := .cells #[.int .i64 0, .int .i64 0, .int .i64 0] 94 (0, 0)) (pk BF.out) hb); have n_BA := aQ (blk_below (g := ga) (o := .cells #[.int .i64 (rd l0_1 x)] 3 (0, 0)) (pk BA.out) hb); have n_NBMBE := aQ ((by rw [hg]; exact Nat.ne_of_lt (blk_lt (g := gm) (o := .cells #[.int .i64 a0_0, .slice (some ad) l0_1.length c0_1] 28 (0, 0)) (pk BM.out))) : gm ≠ ge); have n_NBFBE := aQ ((by rw [hg]; exact Nat.ne_of_lt (blk_lt (g := gf) (o := .cells #[.int .i64 0, .int .i64 0, .int .i64 0] 94 (0, 0)) (pk BF.out))) : gf ≠ ge); have n_NBABE := aQ ((by rw [hg]; exact Nat.ne_of_lt (blk_lt (g := ga) (o := .cells #[.int .i64 (rd l0_1 x)] 3 (0, 0)) (pk BA.out))) : ga ≠ ge); have n_HB := aQ (below_step (pB HB.out) hb); have n_GBE := aQ ((by rw [hg]; exact below_size (pB HB.out)) : w.heap.size ≤ ge); replace HO := aQ (Kd.R_below (Kd.R_elderB (pR HO.out) ge (by rw [hg]; exact Nat.le_refl _)) hb); clear BM BF BA; clear HB; have HB := n_HB; have GBE := n_GBE; have BE := aQ hbox; have BM := n_BM; have NBMBE := n_NBMBE; have BF := n_BF; have NBFBE := n_NBFBE; have BA := n_BA; have NBABE := n_NBABE; clear n_HB n_GBE n_BM n_NBMBE n_BF n_NBFBE n_BA n_NBABE; clear hb hbox hg; have zBA3 : w1_.cell? ⟨ga, 0, none⟩ = some (.int .i64 (rd l0_1 x)) := (blk_cell BA.out 0).trans rfl; have zBE3 : w1_.cell? ⟨ge, 0, none⟩ = some (.int .i64 0) := (blk_cell BE.out 0).trans rfl; have fBE := blk_frozen BE.out 0; have nBME := NBMBE.out; have nBFE := NBFBE.out; have nBAE := NBABE.out; have nBME2 := Ne.symm nBME; have nBFE2 := Ne.symm nBFE; have nBAE2 := Ne.symm nBAE) | (go_at_call 104; (with_reducible refine (impl_ElementsOf.calls k _ fs _ HE2.out).mono ?_); rintro e w1_ ⟨v_, rfl, ho_, hb⟩; have n_BM := aQ (blk_below (g := gm) (o := .cells #[.int .i64 a0_0, .slice (some ad) l0_1.length c0_1] 28 (0, 0)) (by (with_reducible repeat (first | refine blk_drewN ?_ _ | refine blk_drew ?_ | refine blk_alloc ?_ _)); refine blk_far ?_ nBME _; (with_reducible repeat (first | refine blk_drewN ?_ _ | refine blk_drew ?_ | refine blk_alloc ?_ _)); exact BM.out) hb); have n_BF := aQ (blk_below (g := gf) (o := .cells #[.int .i64 0, .int .i64 0, .int .i64 0] 94 (0, 0)) (by (with_reducible repeat (first | refine blk_drewN ?_ _ | refine blk_drew ?_ | refine blk_alloc ?_ _)); refine blk_far ?_ nBFE _; (with_reducible repeat (first | refine blk_drewN ?_ _ | refine blk_drew ?_ | refine blk_alloc ?_ _)); exact BF.out) hb); have n_BA := aQ (blk_below (g := ga) (o := .cells #[.int .i64 (rd l0_1 x)] 3 (0, 0)) (by (with_reducible repeat (first | refine blk_drewN ?_ _ | refine blk_drew ?_ | refine blk_alloc ?_ _)); refine blk_far ?_ nBAE _; (with_reducible repeat (first | refine blk_drewN ?_ _ | refine blk_drew ?_ | refine blk_alloc ?_ _)); exact BA.out) hb); have n_BE := aQ (blk_below (g := ge) (o := .cells #[.int .i64 (rd es z)] 3 (0, 0)) (by (with_reducible repeat (first | refine blk_drewN ?_ _ | refine blk_drew ?_ | refine blk_alloc ?_ _)); refine blk_put (cs := #[.int .i64 0]) ?_ 0 _ rfl; (with_reducible repeat (first | refine blk_drewN ?_ _ | refine blk_drew ?_ | refine blk_alloc ?_ _)); exact BE.out) hb); have n_HO := aQ (Kd.R_below (Kd.R_mono (Kd.R_far (p := ⟨ge, 0, none⟩) (pR HO.out) (fun k_ (hk : True ∧ k_ ≠ ge) => hk.2) (.int .i64 (rd es z))) (fun _ _ => trivial)) hb); have n_HP := aQ (Kd.R_lower ho_ (below_size (by repeat (first | (with_reducible first | exact HB.out | apply below_alloc | apply pw_below_drewN | apply below_drew1 | refine below_set ?_ GBE.out) | exact HB.out)))); have n_HB := aQ (below_step (by repeat (first | (with_reducible first | exact HB.out | apply below_alloc | apply pw_below_drewN | apply below_drew1 | refine below_set ?_ GBE.out) | exact HB.out)) hb); clear HB; clear BM; have BM := n_BM; clear BF; have BF := n_BF; clear BA; have BA := n_BA; clear BE; have BE := n_BE; clear HO; have HO := n_HO; have HB := n_HB; have HP := n_HP; clear n_HB n_HP n_HO n_BM n_BF n_BA n_BE hb ho_; obtain ⟨AHP, cHP, eHP⟩ := Kd.R_slice HP.out; subst eHP))
        (with_reducible refine (ContainsFunc_walk (fun f => impl_FirstFailure.c k l0_1 (rd l0_1 x) (rd es z) f) 147 _ EG.out _ _ fs tb _ (Kd.R_reads' HP.out).2.2 HA.out (fun W f b hb hg => calls_of_args (by simp) (FirstFailure1_walk k a0_0 (some ad) c0_1 l0_1 (rd l0_1 x) (rd es z) f b gm ga ge W (Kd.C_below (Kd.C_below HR.out HB.out) hb) HC.out (blk_below BM.out hb) (blk_below BA.out hb) (blk_below BE.out hb) hg))).mono ?_)
        rintro e w9_ ⟨rfl, hb⟩
        have n_BM := aQ (blk_below BM.out hb)
        have n_BF := aQ (blk_below BF.out hb)
        have n_BA := aQ (blk_below BA.out hb)
        have n_BE := aQ (blk_below BE.out hb)
        have n_HO := aQ (Kd.R_below HO.out hb)
        have n_HB := aQ (below_step HB.out hb)
        clear BM BF BA BE HO HB HP hb
        have BM := n_BM
        clear n_BM
        have BF := n_BF
        clear n_BF
        have BA := n_BA
        clear n_BA
        have BE := n_BE
        clear n_BE
        have HO := n_HO
        clear n_HO
        have HB := n_HB
        clear n_HB
        have hk1 := HK1.out
        clear HK1 HA HE2
        cases tb with
        | true =>
         rw [if_pos rfl] at hk1
         have HK2 := Lib.hid hk1
         clear hk1
         go_wp2
         go_roundg (es.length - (z + 1).toNat)
         case measure => have := HG3.out; have := HZ.out; have := Q3.out; omega
         case rel => exact ⟨z + 1, by rw [E3.out], ⟨by have := HZ.out; have := Q3.out; omega⟩, ⟨Nat.le_refl _⟩, ⟨pk BM.out⟩, ⟨pk BF.out⟩, ⟨pk BA.out⟩, ⟨(pB HB.out)⟩, ⟨pR HO.out⟩, ⟨HK2.out⟩⟩
        | false =>
         rw [if_neg (by decide)] at hk1
         simp only [Option.some.injEq] at hk1
         subst hk1
         have hj := HJ1.out
         simp only [Option.some.injEq] at hj
         subst hj
         have hi := HI1.out
         simp only [Option.some.injEq] at hi
         subst hi
         have hu := HU.out
         simp only [Option.some.injEq, Prod.mk.injEq] at hu
         obtain ⟨rfl, rfl, rfl, rfl⟩ := hu
         clear HJ1 HI1 HU
         have zBA4 : w9_.cell? ⟨ga, 0, none⟩ = some (.int .i64 (rd l0_1 x)) := (blk_cell BA.out 0).trans rfl
         have zBE4 : w9_.cell? ⟨ge, 0, none⟩ = some (.int .i64 (rd es z)) := (blk_cell BE.out 0).trans rfl
         have zBF0 : w9_.cell? ⟨gf, 0, none⟩ = some (.int .i64 0) := (blk_cell BF.out 0).trans rfl
         have zBF1 : w9_.cell? ⟨gf, 1, none⟩ = some (.int .i64 0) := (blk_cell BF.out 1).trans rfl
         have zBF2 : w9_.cell? ⟨gf, 2, none⟩ = some (.int .i64 0) := (blk_cell BF.out 2).trans rfl
         have fBF0 := blk_frozen BF.out 0
         have fBF1 := blk_frozen BF.out 1
         have fBF2 := blk_frozen BF.out 2
         go_wp2
         refine bodyPost_ret (results_ct rfl _ _ gf 94 #[.int .i64 (rd l0_1 x), .int .i64 (rd l0_1 y), .int .i64 (rd es z)] (0, 0) _ rfl (by (with_reducible repeat (first | refine blk_drewN ?_ _ | refine blk_drew ?_ | refine blk_alloc ?_ _)); refine blk_put (cs := #[.int .i64 (rd l0_1 x), .int .i64 (rd l0_1 y), .int .i64 0]) ?_ 2 _ rfl; (with_reducible repeat (first | refine blk_drewN ?_ _ | refine blk_drew ?_ | refine blk_alloc ?_ _)); refine blk_put (cs := #[.int .i64 (rd l0_1 x), .int .i64 0, .int .i64 0]) ?_ 1 _ rfl; (with_reducible repeat (first | refine blk_drewN ?_ _ | refine blk_drew ?_ | refine blk_alloc ?_ _)); refine blk_put (cs := #[.int .i64 0, .int .i64 0, .int .i64 0]) ?_ 0 _ rfl; (with_reducible repeat (first | refine blk_drewN ?_ _ | refine blk_drew ?_ | refine blk_alloc ?_ _)); exact BF.out) Try.underlying94 rfl (by kernel_rfl)) rfl ?_
         exact ⟨rs_, (by repeat (first | (with_reducible first | exact HB.out | apply below_alloc | apply pw_below_drewN | apply below_drew1 | refine below_set ?_ GBF.out) | exact HB.out))⟩
       ·have l3 : decide (z < (es.length : Int)) = false := decide_eq_false hlt3
        have hK := HK.out
        rw [int_drop_end es z hlt3] at hK
        simp only [impl_FirstFailure.l2, Option.some.injEq] at hK
        subst hK
        have hj := HJ1.out
        have HJ2 := Lib.hid (show impl_FirstFailure.l1 k l0_1 (rd l0_1 x) (l0_1.drop (y + 1).toNat) = some t1 from hj)
        clear hj HJ1 HK hlt3
        go_wp2
        go_roundg (l0_1.length - (y + 1).toNat)
        case measure => have := HG2.out; have := HY.out; have := Q2.out; omega
        case rel => exact ⟨y + 1, by rw [E2.out], ⟨by have := HY.out; have := Q2.out; omega⟩, ⟨Nat.le_refl _⟩, ⟨pk BM.out⟩, ⟨pk BF.out⟩, ⟨pk BA.out⟩, ⟨(pB HB.out)⟩, ⟨HJ2.out⟩⟩
     ·have l2 : decide (y < (l0_1.length : Int)) = false := decide_eq_false hlt2
      have hJ := HJ.out
      rw [int_drop_end l0_1 y hlt2] at hJ
      simp only [impl_FirstFailure.l1, Option.some.injEq] at hJ
      subst hJ
      have hi := HI1.out
      have HI2 := Lib.hid (show impl_FirstFailure.l0 k l0_1 (l0_1.drop (x + 1).toNat) = some u from hi)
      clear hi HI1 HJ hlt2
      go_wp2
      go_roundg (l0_1.length - (x + 1).toNat)
      case measure => have := HG.out; have := HX.out; have := Q1.out; omega
      case rel => exact ⟨x + 1, by rw [E1.out], ⟨by have := HX.out; have := Q1.out; omega⟩, ⟨Nat.le_refl _⟩, ⟨pk BM.out⟩, ⟨pk BF.out⟩, ⟨(pB HB.out)⟩, ⟨HI2.out⟩⟩
   ·have l1 : decide (x < (l0_1.length : Int)) = false := decide_eq_false hlt
    have hI := HI.out
    rw [int_drop_end l0_1 x hlt] at hI
    simp only [impl_FirstFailure.l0, Option.some.injEq] at hI
    subst hI
    have hu := HU.out
    simp only [Option.some.injEq, Prod.mk.injEq] at hu
    obtain ⟨rfl, rfl, rfl, rfl⟩ := hu
    clear HI hlt HU
    have zBF0 : wr.cell? ⟨gf, 0, none⟩ = some (.int .i64 0) := (blk_cell BF.out 0).trans rfl
    have zBF1 : wr.cell? ⟨gf, 1, none⟩ = some (.int .i64 0) := (blk_cell BF.out 1).trans rfl
    have zBF2 : wr.cell? ⟨gf, 2, none⟩ = some (.int .i64 0) := (blk_cell BF.out 2).trans rfl
    have fBF0 := blk_frozen BF.out 0
    have fBF1 := blk_frozen BF.out 1
    have fBF2 := blk_frozen BF.out 2
    go_wp2
    refine bodyPost_ret (results_ct rfl _ _ gf 94 #[.int .i64 0, .int .i64 0, .int .i64 0] (0, 0) _ rfl (by (with_reducible repeat (first | refine blk_drewN ?_ _ | refine blk_drew ?_ | refine blk_alloc ?_ _)); refine blk_put (cs := #[.int .i64 0, .int .i64 0, .int .i64 0]) ?_ 2 _ rfl; (with_reducible repeat (first | refine blk_drewN ?_ _ | refine blk_drew ?_ | refine blk_alloc ?_ _)); refine blk_put (cs := #[.int .i64 0, .int .i64 0, .int .i64 0]) ?_ 1 _ rfl; (with_reducible repeat (first | refine blk_drewN ?_ _ | refine blk_drew ?_ | refine blk_alloc ?_ _)); refine blk_put (cs := #[.int .i64 0, .int .i64 0, .int .i64 0]) ?_ 0 _ rfl; (with_reducible repeat (first | refine blk_drewN ?_ _ | refine blk_drew ?_ | refine blk_alloc ?_ _)); exact BF.out) Try.underlying94 rfl (by kernel_rfl)) rfl ?_
    exact ⟨rs_, (by repeat (first | (with_reducible first | exact HB.out | apply below_alloc | apply pw_below_drewN | apply below_drew1 | refine below_set ?_ GBF.out) | exact HB.out))⟩
 ·have c4 := Bool.eq_false_iff.mpr c3
  subst c4
  clear c3
  rw [if_neg (by decide)] at H
  simp only [Option.some.injEq, Prod.mk.injEq] at H
  obtain ⟨rfl, rfl, rfl, rfl⟩ := H
  go_enter Try.func116, Try.ntmps116
  go_wp2_with (first | ((with_reducible refine gate_dst (N := 1) rfl ?_); refine box_event ?hg (N := 1) ?hd (cs := #[.int .i64 a0_0, .slice A0_1 l0_1.length c0_1]) (t := 28) ?hr ?_; (case hd => rfl); (case hg => rfl); (case hr => first | (go_simp; done) | (go_simp; rfl)); intro gm hg w1_ hbox hb; have n_HB := aQ (below_step (pB HB.out) hb); have n_GBM := aQ ((by rw [hg]; exact below_size (pB HB.out)) : w.heap.size ≤ gm); clear HB; have HB := n_HB; have GBM := n_GBM; have BM := aQ hbox; clear n_HB n_GBM; clear hb hbox hg; have zBM0 : w1_.cell? ⟨gm, 0, none⟩ = some (.int .i64 a0_0) := (blk_cell BM.out 0).trans rfl; have zBM1 : w1_.cell? ⟨gm, 1, none⟩ = some (.slice A0_1 l0_1.length c0_1) := (blk_cell BM.out 1).trans rfl) | ((with_reducible refine gate_dst (N := 2) rfl ?_); refine box_event ?hg (N := 2) ?hd (cs := #[.int .i64 0, .int .i64 0, .int .i64 0]) (t := 94) ?hr ?_; (case hd => rfl); (case hg => rfl); (case hr => first | (go_simp; done) | (go_simp; rfl)); intro gf hg w1_ hbox hb; have n_BM := aQ (blk_below (g := gm) (o := .cells #[.int .i64 a0_0, .slice A0_1 l0_1.length c0_1] 28 (0, 0)) (pk BM.out) hb); have n_NBMBF := aQ ((by rw [hg]; exact Nat.ne_of_lt (blk_lt (g := gm) (o := .cells #[.int .i64 a0_0, .slice A0_1 l0_1.length c0_1] 28 (0, 0)) (pk BM.out))) : gm ≠ gf); have n_HB := aQ (below_step (pB HB.out) hb); have n_GBF := aQ ((by rw [hg]; exact below_size (pB HB.out)) : w.heap.size ≤ gf); clear BM; clear HB; have HB := n_HB; have GBF := n_GBF; have BF := aQ hbox; have BM := n_BM; have NBMBF := n_NBMBF; clear n_HB n_GBF n_BM n_NBMBF; clear hb hbox hg; have zBM0 : w1_.cell? ⟨gm, 0, none⟩ = some (.int .i64 a0_0) := (blk_cell BM.out 0).trans rfl; have zBM1 : w1_.cell? ⟨gm, 1, none⟩ = some (.slice A0_1 l0_1.length c0_1) := (blk_cell BM.out 1).trans rfl; have zBF0 : w1_.cell? ⟨gf, 0, none⟩ = some (.int .i64 0) := (blk_cell BF.out 0).trans rfl; have fBF0 := blk_frozen BF.out 0; have zBF1 : w1_.cell? ⟨gf, 1, none⟩ = some (.int .i64 0) := (blk_cell BF.out 1).trans rfl; have fBF1 := blk_frozen BF.out 1; have zBF2 : w1_.cell? ⟨gf, 2, none⟩ = some (.int .i64 0) := (blk_cell BF.out 2).trans rfl; have fBF2 := blk_frozen BF.out 2) | (go_at_call 117; (with_reducible refine (impl_IsFamily.calls k a0_0 _ _ l0_1 false _ ?side1 ?side2 HF.out).mono ?_); (case side1 => exact pC (Kd.C_below HR.out HB.out)); (case side2 => exact HC.out); rintro e w' ⟨rfl, ⟨nd, rfl⟩⟩))
  refine bodyPost_ret (results_ct rfl _ _ gf 94 #[.int .i64 0, .int .i64 0, .int .i64 0] (0, 0) _ rfl (by (with_reducible repeat (first | refine blk_drewN ?_ _ | refine blk_drew ?_ | refine blk_alloc ?_ _)); refine blk_put (cs := #[.int .i64 0, .int .i64 0, .int .i64 0]) ?_ 2 _ rfl; (with_reducible repeat (first | refine blk_drewN ?_ _ | refine blk_drew ?_ | refine blk_alloc ?_ _)); refine blk_put (cs := #[.int .i64 0, .int .i64 0, .int .i64 0]) ?_ 1 _ rfl; (with_reducible repeat (first | refine blk_drewN ?_ _ | refine blk_drew ?_ | refine blk_alloc ?_ _)); refine blk_put (cs := #[.int .i64 0, .int .i64 0, .int .i64 0]) ?_ 0 _ rfl; (with_reducible repeat (first | refine blk_drewN ?_ _ | refine blk_drew ?_ | refine blk_alloc ?_ _)); exact BF.out) Try.underlying94 rfl (by kernel_rfl)) rfl ?_
  exact ⟨rs_, (by repeat (first | (with_reducible first | exact HB.out | apply below_alloc | apply pw_below_drewN | apply below_drew1 | refine below_set ?_ GBF.out) | exact HB.out))⟩
end Go.Proofs.Ytimkekeaeojpkaa.A
namespace Go.Proofs.Ytimkekeaeojpkaa.A
open Go.RowKit Go.Proofs.YtimkekeaeojpkaaW.PrintWords Go.Proofs.YtimkekeaeojpkaaW.PrintLast Go.Proofs.YtimkekeaeojpkaaW.PrintMore
attribute [local go_sem] max2_int min2_int max_two min_two max_three min_three max_four min_four
set_option linter.unusedVariables false
set_option linter.unusedSimpArgs false
/-! ### impl_IsMatroid: function 62 -/
def impl_IsMatroid.f (k : Nat) (a0_0 : Int) (l0_1 : List Int) : Option (Bool) := (impl_FirstFailure.f k a0_0 l0_1).bind fun bt63002 => ((impl_IsFamily.f k a0_0 l0_1).bind fun t63007 => (if t63007 = true then (if (l0_1.length : Int) > 0 then (some (!bt63002.2.2.2)) else (some false)) else (some false)))
theorem impl_IsMatroid.mono : ∀ a0 a1 k, LeO (impl_IsMatroid.f k a0 a1) (impl_IsMatroid.f (k + 1) a0 a1) := by
 intro a0 a1 k
 unfold impl_IsMatroid.f
 repeat' first
   | (with_reducible exact impl_FirstFailure.mono _ _ _)
   | (with_reducible exact impl_IsFamily.mono _ _ _)
   | (with_reducible exact LeO.refl _)
   | (with_reducible exact LeO.none _)
   | (with_reducible refine LeO.ite ?_ ?_)
   | (with_reducible refine LeO.bind ?_ (fun _ => ?_))
   | exact impl_FirstFailure.mono _ _ _
   | exact impl_IsFamily.mono _ _ _
   | exact LeO.none _
   | refine LeO.ite ?_ ?_
   | refine LeO.bind ?_ (fun _ => ?_)
set_option maxHeartbeats 8000000 in
set_option maxRecDepth 100000 in
theorem impl_IsMatroid.calls (k : Nat) (a0_0 : Int) (A0_1 : Option Addr) (c0_1 : Nat) (l0_1 : List Int) (r : Bool) (w : World) (hr0_1 : Kd.C (Kd.int .i64) w A0_1 l0_1.length l0_1) (hc0_1 : l0_1.length ≤ c0_1) (h : impl_IsMatroid.f k a0_0 l0_1 = some r) :
  Calls Try.prog 62 #[.agg #[.int .i64 a0_0, .slice A0_1 l0_1.length c0_1]] w fun e w' => e = .returned (.bool r) ∧ Below w.heap.size w w' := by
 have hu28 := Try.underlying28
 have hu94 := Try.underlying94
 have HR0_1 := aQ hr0_1
 have HC0_1 := aQ hc0_1
 clear hr0_1 hc0_1
 have HB := aQ (Below.refl w.heap.size w)
 have H : ((impl_FirstFailure.f k a0_0 l0_1).bind fun bt63002 => ((impl_IsFamily.f k a0_0 l0_1).bind fun t63007 => (if t63007 = true then (if (l0_1.length : Int) > 0 then (some (!bt63002.2.2.2)) else (some false)) else (some false)))) = some r := h
 clear h
 replace H := Option.bind_eq_some_iff.mp H
 obtain ⟨⟨t63002, t63003, t63004, t63005⟩, A20, H⟩ := H
 replace H : ((impl_IsFamily.f k a0_0 l0_1).bind fun t63007 => (if t63007 = true then (if (l0_1.length : Int) > 0 then (some (!t63005)) else (some false)) else (some false))) = some r := H
 have A2 := aQ A20
 clear A20
 replace H := Option.bind_eq_some_iff.mp H
 obtain ⟨t63007, A30, H⟩ := H
 replace H : (if t63007 = true then (if (l0_1.length : Int) > 0 then (some (!t63005)) else (some false)) else (some false)) = some r := H
 have A3 := aQ A30
 clear A30
 by_cases c4 : t63007 = true
 ·subst c4
  have H1 : (if (l0_1.length : Int) > 0 then (some (!t63005)) else (some false)) = some r := by rw [if_pos rfl] at H; exact H
  clear H
  have H := H1
  clear H1
  by_cases c5 : (l0_1.length : Int) > 0
  ·rw [if_pos c5] at H
   have c5b0 : decide (0 < (l0_1.length : Int)) = true := decide_eq_true c5
   have c5b1 : decide (0 < l0_1.length) = true := decide_eq_true (by omega)
   clear c5
   obtain rfl := Option.some.inj H
   go_enter Try.func62, Try.ntmps62
   go_wp2_with (first | ((with_reducible refine gate_dst (N := 1) rfl ?_); (try (refine gate_guard (by rfl) ?_; dsimp only)); refine box_event ?hg (N := 1) ?hd (cs := #[.int .i64 a0_0, .slice A0_1 l0_1.length c0_1]) (t := 28) ?hr ?_; (case hd => rfl); (case hg => rfl); (case hr => first | (go_simp; done) | (go_simp; rfl)); intro gb63001 hg w6 hbox hb; have BK63001 := aQ (hbox); have GW63001 := aQ ((by rw [hg]; exact (below_size (pB HB.out)) : w.heap.size ≤ gb63001)); have GE63001 := aQ ((by rw [hg]; exact (below_size (pB HB.out)) : w.heap.size ≤ gb63001)); replace HB := aQ (below_step (pB HB.out) hb); clear hb hbox hg; have hcz7_0 := bc (v := (.int .i64 a0_0)) BK63001.out 0; have hcz7_1 := bc (v := (.slice A0_1 l0_1.length c0_1)) BK63001.out 1; have hfz7_0 := blk_frozen BK63001.out 0; have hfz7_1 := blk_frozen BK63001.out 1) | ((with_reducible refine gate_callee (f := 116) rfl ?_); refine goesL_ (some 7) rfl rfl Try.func116 (by kernel_rfl) rfl #[.agg #[.int .i64 a0_0, .slice A0_1 l0_1.length c0_1]] rfl lm ?_; (with_reducible refine (impl_FirstFailure.calls k a0_0 _ _ l0_1 t63002 t63003 t63004 t63005 _ ?side1 ?side2 A2.out).mono ?_); (case side1 => exact pC (Kd.C_below HR0_1.out HB.out)); (case side2 => exact HC0_1.out); rintro e w8 ⟨rfl, hb⟩; refine ⟨_, rfl, ?_⟩; replace BK63001 := aQ (blk_below (g := gb63001) (o := .cells #[.int .i64 a0_0, .slice A0_1 l0_1.length c0_1] 28 (0, 0)) (pk BK63001.out) hb); replace HB := aQ (below_step (pB1 HB.out GE63001.out) hb); (try clear hb)) | ((with_reducible refine gate_dst (N := 3) rfl ?_); (try (refine gate_guard (by rfl) ?_; dsimp only)); refine box_event ?hg (N := 3) ?hd (cs := #[.int .i64 0, .int .i64 0, .int .i64 0]) (t := 94) ?hr ?_; (case hd => rfl); (case hg => rfl); (case hr => first | (go_simp; done) | (go_simp; rfl)); intro gb63006 hg w9 hbox hb; have BK63006 := aQ (hbox); have GW63006 := aQ ((by rw [hg]; exact (below_size (pB1 HB.out GE63001.out)) : w.heap.size ≤ gb63006)); have GE63006 := aQ ((by rw [hg]; exact (below_size (pB1 HB.out GE63001.out)) : w.heap.size ≤ gb63006)); replace HB := aQ (below_step (pB1 HB.out GE63001.out) hb); have NB63001_63006 := aQ ((by rw [hg]; exact Nat.ne_of_lt (blk_lt (g := gb63001) (o := .cells #[.int .i64 a0_0, .slice A0_1 l0_1.length c0_1] 28 (0, 0)) (pk BK63001.out)) : gb63001 ≠ gb63006)); have NB63006_63001 := aQ ((by rw [hg]; exact Nat.ne_of_gt (blk_lt (g := gb63001) (o := .cells #[.int .i64 a0_0, .slice A0_1 l0_1.length c0_1] 28 (0, 0)) (pk BK63001.out)) : gb63006 ≠ gb63001)); replace BK63001 := aQ (blk_below (g := gb63001) (o := .cells #[.int .i64 a0_0, .slice A0_1 l0_1.length c0_1] 28 (0, 0)) (pk BK63001.out) hb); clear hb hbox hg; have hnb10 := NB63006_63001.out; have hnc10 := NB63001_63006.out; have hcz11_0 := bc (v := (.int .i64 0)) BK63006.out 0; have hcz11_1 := bc (v := (.int .i64 0)) BK63006.out 1; have hcz11_2 := bc (v := (.int .i64 0)) BK63006.out 2; have hfz11_0 := blk_frozen BK63006.out 0; have hfz11_1 := blk_frozen BK63006.out 1; have hfz11_2 := blk_frozen BK63006.out 2; have hcz12_0 := bc (v := (.int .i64 a0_0)) BK63001.out 0; have hcz12_1 := bc (v := (.slice A0_1 l0_1.length c0_1)) BK63001.out 1; have hfz12_0 := blk_frozen BK63001.out 0; have hfz12_1 := blk_frozen BK63001.out 1) | ((with_reducible refine gate_callee (f := 117) rfl ?_); refine goesL_ (some 14) rfl rfl Try.func117 (by kernel_rfl) rfl #[.int .i64 a0_0, .slice A0_1 l0_1.length c0_1] rfl lm ?_; (with_reducible refine (impl_IsFamily.calls k a0_0 _ _ l0_1 true _ ?side1 ?side2 A3.out).mono ?_); (case side1 => exact Kd.C_below HR0_1.out (pB2 HB.out GE63001.out GE63006.out)); (case side2 => exact HC0_1.out); rintro e w' ⟨rfl, ⟨nd, rfl⟩⟩; refine ⟨_, rfl, ?_⟩))
   go_ret
   exact ⟨re_, pB2 HB.out GE63001.out GE63006.out⟩
  ·rw [if_neg c5] at H
   have c5b0 : decide (0 < (l0_1.length : Int)) = false := decide_eq_false c5
   have c5b1 : decide (0 < l0_1.length) = false := decide_eq_false (by omega)
   clear c5
   obtain rfl := Option.some.inj H
   go_enter Try.func62, Try.ntmps62
   go_wp2_with (first | ((with_reducible refine gate_dst (N := 1) rfl ?_); (try (refine gate_guard (by rfl) ?_; dsimp only)); refine box_event ?hg (N := 1) ?hd (cs := #[.int .i64 a0_0, .slice A0_1 l0_1.length c0_1]) (t := 28) ?hr ?_; (case hd => rfl); (case hg => rfl); (case hr => first | (go_simp; done) | (go_simp; rfl)); intro gb63001 hg w13 hbox hb; have BK63001 := aQ (hbox); have GW63001 := aQ ((by rw [hg]; exact (below_size (pB HB.out)) : w.heap.size ≤ gb63001)); have GE63001 := aQ ((by rw [hg]; exact (below_size (pB HB.out)) : w.heap.size ≤ gb63001)); replace HB := aQ (below_step (pB HB.out) hb); clear hb hbox hg; have hcz14_0 := bc (v := (.int .i64 a0_0)) BK63001.out 0; have hcz14_1 := bc (v := (.slice A0_1 l0_1.length c0_1)) BK63001.out 1; have hfz14_0 := blk_frozen BK63001.out 0; have hfz14_1 := blk_frozen BK63001.out 1) | ((with_reducible refine gate_callee (f := 116) rfl ?_); refine goesL_ (some 7) rfl rfl Try.func116 (by kernel_rfl) rfl #[.agg #[.int .i64 a0_0, .slice A0_1 l0_1.length c0_1]] rfl lm ?_; (with_reducible refine (impl_FirstFailure.calls k a0_0 _ _ l0_1 t63002 t63003 t63004 t63005 _ ?side1 ?side2 A2.out).mono ?_); (case side1 => exact pC (Kd.C_below HR0_1.out HB.out)); (case side2 => exact HC0_1.out); rintro e w15 ⟨rfl, hb⟩; refine ⟨_, rfl, ?_⟩; replace BK63001 := aQ (blk_below (g := gb63001) (o := .cells #[.int .i64 a0_0, .slice A0_1 l0_1.length c0_1] 28 (0, 0)) (pk BK63001.out) hb); replace HB := aQ (below_step (pB1 HB.out GE63001.out) hb); (try clear hb)) | ((with_reducible refine gate_dst (N := 3) rfl ?_); (try (refine gate_guard (by rfl) ?_; dsimp only)); refine box_event ?hg (N := 3) ?hd (cs := #[.int .i64 0, .int .i64 0, .int .i64 0]) (t := 94) ?hr ?_; (case hd => rfl); (case hg => rfl); (case hr => first | (go_simp; done) | (go_simp; rfl)); intro gb63006 hg w16 hbox hb; have BK63006 := aQ (hbox); have GW63006 := aQ ((by rw [hg]; exact (below_size (pB1 HB.out GE63001.out)) : w.heap.size ≤ gb63006)); have GE63006 := aQ ((by rw [hg]; exact (below_size (pB1 HB.out GE63001.out)) : w.heap.size ≤ gb63006)); replace HB := aQ (below_step (pB1 HB.out GE63001.out) hb); have NB63001_63006 := aQ ((by rw [hg]; exact Nat.ne_of_lt (blk_lt (g := gb63001) (o := .cells #[.int .i64 a0_0, .slice A0_1 l0_1.length c0_1] 28 (0, 0)) (pk BK63001.out)) : gb63001 ≠ gb63006)); have NB63006_63001 := aQ ((by rw [hg]; exact Nat.ne_of_gt (blk_lt (g := gb63001) (o := .cells #[.int .i64 a0_0, .slice A0_1 l0_1.length c0_1] 28 (0, 0)) (pk BK63001.out)) : gb63006 ≠ gb63001)); replace BK63001 := aQ (blk_below (g := gb63001) (o := .cells #[.int .i64 a0_0, .slice A0_1 l0_1.length c0_1] 28 (0, 0)) (pk BK63001.out) hb); clear hb hbox hg; have hnb17 := NB63006_63001.out; have hnc17 := NB63001_63006.out; have hcz18_0 := bc (v := (.int .i64 0)) BK63006.out 0; have hcz18_1 := bc (v := (.int .i64 0)) BK63006.out 1; have hcz18_2 := bc (v := (.int .i64 0)) BK63006.out 2; have hfz18_0 := blk_frozen BK63006.out 0; have hfz18_1 := blk_frozen BK63006.out 1; have hfz18_2 := blk_frozen BK63006.out 2; have hcz19_0 := bc (v := (.int .i64 a0_0)) BK63001.out 0; have hcz19_1 := bc (v := (.slice A0_1 l0_1.length c0_1)) BK63001.out 1; have hfz19_0 := blk_frozen BK63001.out 0; have hfz19_1 := blk_frozen BK63001.out 1) | ((with_reducible refine gate_callee (f := 117) rfl ?_); refine goesL_ (some 14) rfl rfl Try.func117 (by kernel_rfl) rfl #[.int .i64 a0_0, .slice A0_1 l0_1.length c0_1] rfl lm ?_; (with_reducible refine (impl_IsFamily.calls k a0_0 _ _ l0_1 true _ ?side1 ?side2 A3.out).mono ?_); (case side1 => exact Kd.C_below HR0_1.out (pB2 HB.out GE63001.out GE63006.out)); (case side2 => exact HC0_1.out); rintro e w' ⟨rfl, ⟨nd, rfl⟩⟩; refine ⟨_, rfl, ?_⟩))
   go_ret
   exact ⟨re_, pB2 HB.out GE63001.out GE63006.out⟩
 ·replace c4 := Bool.eq_false_iff.mpr c4
  subst c4
  have H1 : (some false) = some r := by rw [if_neg (show ¬ (false = true) by decide)] at H; exact H
  clear H
  have H := H1
  clear H1
  obtain rfl := Option.some.inj H
  go_enter Try.func62, Try.ntmps62
  go_wp2_with (first | ((with_reducible refine gate_dst (N := 1) rfl ?_); (try (refine gate_guard (by rfl) ?_; dsimp only)); refine box_event ?hg (N := 1) ?hd (cs := #[.int .i64 a0_0, .slice A0_1 l0_1.length c0_1]) (t := 28) ?hr ?_; (case hd => rfl); (case hg => rfl); (case hr => first | (go_simp; done) | (go_simp; rfl)); intro gb63001 hg w20 hbox hb; have BK63001 := aQ (hbox); have GW63001 := aQ ((by rw [hg]; exact (below_size (pB HB.out)) : w.heap.size ≤ gb63001)); have GE63001 := aQ ((by rw [hg]; exact (below_size (pB HB.out)) : w.heap.size ≤ gb63001)); replace HB := aQ (below_step (pB HB.out) hb); clear hb hbox hg; have hcz21_0 := bc (v := (.int .i64 a0_0)) BK63001.out 0; have hcz21_1 := bc (v := (.slice A0_1 l0_1.length c0_1)) BK63001.out 1; have hfz21_0 := blk_frozen BK63001.out 0; have hfz21_1 := blk_frozen BK63001.out 1) | ((with_reducible refine gate_callee (f := 116) rfl ?_); refine goesL_ (some 7) rfl rfl Try.func116 (by kernel_rfl) rfl #[.agg #[.int .i64 a0_0, .slice A0_1 l0_1.length c0_1]] rfl lm ?_; (with_reducible refine (impl_FirstFailure.calls k a0_0 _ _ l0_1 t63002 t63003 t63004 t63005 _ ?side1 ?side2 A2.out).mono ?_); (case side1 => exact pC (Kd.C_below HR0_1.out HB.out)); (case side2 => exact HC0_1.out); rintro e w22 ⟨rfl, hb⟩; refine ⟨_, rfl, ?_⟩; replace BK63001 := aQ (blk_below (g := gb63001) (o := .cells #[.int .i64 a0_0, .slice A0_1 l0_1.length c0_1] 28 (0, 0)) (pk BK63001.out) hb); replace HB := aQ (below_step (pB1 HB.out GE63001.out) hb); (try clear hb)) | ((with_reducible refine gate_dst (N := 3) rfl ?_); (try (refine gate_guard (by rfl) ?_; dsimp only)); refine box_event ?hg (N := 3) ?hd (cs := #[.int .i64 0, .int .i64 0, .int .i64 0]) (t := 94) ?hr ?_; (case hd => rfl); (case hg => rfl); (case hr => first | (go_simp; done) | (go_simp; rfl)); intro gb63006 hg w23 hbox hb; have BK63006 := aQ (hbox); have GW63006 := aQ ((by rw [hg]; exact (below_size (pB1 HB.out GE63001.out)) : w.heap.size ≤ gb63006)); have GE63006 := aQ ((by rw [hg]; exact (below_size (pB1 HB.out GE63001.out)) : w.heap.size ≤ gb63006)); replace HB := aQ (below_step (pB1 HB.out GE63001.out) hb); have NB63001_63006 := aQ ((by rw [hg]; exact Nat.ne_of_lt (blk_lt (g := gb63001) (o := .cells #[.int .i64 a0_0, .slice A0_1 l0_1.length c0_1] 28 (0, 0)) (pk BK63001.out)) : gb63001 ≠ gb63006)); have NB63006_63001 := aQ ((by rw [hg]; exact Nat.ne_of_gt (blk_lt (g := gb63001) (o := .cells #[.int .i64 a0_0, .slice A0_1 l0_1.length c0_1] 28 (0, 0)) (pk BK63001.out)) : gb63006 ≠ gb63001)); replace BK63001 := aQ (blk_below (g := gb63001) (o := .cells #[.int .i64 a0_0, .slice A0_1 l0_1.length c0_1] 28 (0, 0)) (pk BK63001.out) hb); clear hb hbox hg; have hnb24 := NB63006_63001.out; have hnc24 := NB63001_63006.out; have hcz25_0 := bc (v := (.int .i64 0)) BK63006.out 0; have hcz25_1 := bc (v := (.int .i64 0)) BK63006.out 1; have hcz25_2 := bc (v := (.int .i64 0)) BK63006.out 2; have hfz25_0 := blk_frozen BK63006.out 0; have hfz25_1 := blk_frozen BK63006.out 1; have hfz25_2 := blk_frozen BK63006.out 2; have hcz26_0 := bc (v := (.int .i64 a0_0)) BK63001.out 0; have hcz26_1 := bc (v := (.slice A0_1 l0_1.length c0_1)) BK63001.out 1; have hfz26_0 := blk_frozen BK63001.out 0; have hfz26_1 := blk_frozen BK63001.out 1) | ((with_reducible refine gate_callee (f := 117) rfl ?_); refine goesL_ (some 14) rfl rfl Try.func117 (by kernel_rfl) rfl #[.int .i64 a0_0, .slice A0_1 l0_1.length c0_1] rfl lm ?_; (with_reducible refine (impl_IsFamily.calls k a0_0 _ _ l0_1 false _ ?side1 ?side2 A3.out).mono ?_); (case side1 => exact Kd.C_below HR0_1.out (pB2 HB.out GE63001.out GE63006.out)); (case side2 => exact HC0_1.out); rintro e w' ⟨rfl, ⟨nd, rfl⟩⟩; refine ⟨_, rfl, ?_⟩))
  go_ret
  exact ⟨re_, pB2 HB.out GE63001.out GE63006.out⟩
end Go.Proofs.Ytimkekeaeojpkaa.A
namespace Go.Proofs.Ytimkekeaeojpkaa.A
open Go.RowKit Go.Proofs.YtimkekeaeojpkaaW.PrintWords Go.Proofs.YtimkekeaeojpkaaW.PrintLast Go.Proofs.YtimkekeaeojpkaaW.PrintMore Go.Proofs.Ytimkekeaeojpkaa.Z
attribute [local go_sem] max2_int min2_int max_two min_two max_three min_three max_four min_four
set_option linter.unusedVariables false
set_option linter.unusedSimpArgs false
/-! ### slices_Sort_int_int: function 149 (by hand) -/
def laysSort_ren : Go.Shelf.Ren := ⟨fun | 189 => 149 | 125 => 127 | 257 => 176 | 128 => 162 | 129 => 163 | 294 => 186 | 295 => 187 | 296 => 188 | 297 => 189 | 298 => 190 | 299 => 191 | 216 => 192 | 300 => 193 | 301 => 194 | 328 => 200 | 329 => 178 | 330 => 179 | 331 => 201 | 332 => 202 | 215 => 182 | 343 => 207 | n => n, fun | 28 => 22 | 3 => 3 | 46 => 70 | 0 => 0 | 51 => 119 | 53 => 121 | 4 => 4 | 183 => 113 | 182 => 112 | 131 => 44 | 5 => 5 | 9 => 9 | 218 => 127 | 222 => 131 | 228 => 142 | 229 => 143 | n => n, fun | n => n⟩
theorem laysSort : Go.Proofs.Lays.n189 Try.prog laysSort_ren := {
 mixed := by kernel_rfl
 f125 := Try.func127.trans (congrArg some (by kernel_rfl))
 f128 := Try.func162.trans (congrArg some (by kernel_rfl))
 f129 := Try.func163.trans (congrArg some (by kernel_rfl))
 f189 := Try.func149.trans (congrArg some (by kernel_rfl))
 f215 := Try.func182.trans (congrArg some (by kernel_rfl))
 f216 := Try.func192.trans (congrArg some (by kernel_rfl))
 f257 := Try.func176.trans (congrArg some (by kernel_rfl))
 f294 := Try.func186.trans (congrArg some (by kernel_rfl))
 f295 := Try.func187.trans (congrArg some (by kernel_rfl))
 f296 := Try.func188.trans (congrArg some (by kernel_rfl))
 f297 := Try.func189.trans (congrArg some (by kernel_rfl))
 f298 := Try.func190.trans (congrArg some (by kernel_rfl))
 f299 := Try.func191.trans (congrArg some (by kernel_rfl))
 f300 := Try.func193.trans (congrArg some (by kernel_rfl))
 f301 := Try.func194.trans (congrArg some (by kernel_rfl))
 f328 := Try.func200.trans (congrArg some (by kernel_rfl))
 f329 := Try.func178.trans (congrArg some (by kernel_rfl))
 f330 := Try.func179.trans (congrArg some (by kernel_rfl))
 f331 := Try.func201.trans (congrArg some (by kernel_rfl))
 f332 := Try.func202.trans (congrArg some (by kernel_rfl))
 f343 := Try.func207.trans (congrArg some (by kernel_rfl))
 t0 := Try.underlying0
 a0 := Try.isAgg0
 z0 := Try.sizeOf0
 v0 := Try.zeroValue0
 t3 := Try.underlying3
 a3 := Try.isAgg3
 z3 := Try.sizeOf3
 v3 := Try.zeroValue3
 t4 := Try.underlying4
 a4 := Try.isAgg4
 z4 := Try.sizeOf4
 v4 := Try.zeroValue4
 t5 := Try.underlying5
 a5 := Try.isAgg5
 z5 := Try.sizeOf5
 v5 := Try.zeroValue5
 t9 := Try.underlying9
 a9 := Try.isAgg9
 z9 := Try.sizeOf9
 v9 := Try.zeroValue9
 t28 := Try.underlying22
 a28 := Try.isAgg22
 z28 := Try.sizeOf22
 v28 := Try.zeroValue22
 t46 := Try.underlying70
 a46 := Try.isAgg70
 z46 := Try.sizeOf70
 v46 := Try.zeroValue70
 t51 := Try.underlying119
 a51 := Try.isAgg119
 z51 := Try.sizeOf119
 v51 := Try.zeroValue119
 t53 := Try.underlying121
 a53 := Try.isAgg121
 z53 := Try.sizeOf121
 v53 := Try.zeroValue121
 t131 := Try.underlying44
 a131 := Try.isAgg44
 z131 := Try.sizeOf44
 v131 := Try.zeroValue44
 t182 := Try.underlying112
 a182 := Try.isAgg112
 z182 := Try.sizeOf112
 v182 := Try.zeroValue112
 t183 := Try.underlying113
 a183 := Try.isAgg113
 z183 := Try.sizeOf113
 v183 := Try.zeroValue113
 t218 := Try.underlying127
 a218 := Try.isAgg127
 z218 := Try.sizeOf127
 v218 := Try.zeroValue127
 t222 := Try.underlying131
 a222 := Try.isAgg131
 z222 := Try.sizeOf131
 v222 := Try.zeroValue131
 t228 := Try.underlying142
 a228 := Try.isAgg142
 z228 := Try.sizeOf142
 v228 := Try.zeroValue142
 t229 := Try.underlying143
 a229 := Try.isAgg143
 z229 := Try.sizeOf143
 v229 := Try.zeroValue143 }
set_option maxHeartbeats 2000000 in
theorem sortOwn_walk (A : Option Addr) (c : Nat) (xs : List Int) (base : Nat) (ok : Nat → Prop) (w : World)
  (h : Kd.R (Kd.int .i64) 3 w base ok (.slice A xs.length c) xs) (hb : base ≤ w.heap.size) (hl : xs.length < 17592186044416) :
  Calls Try.prog 149 #[.slice A xs.length c] w fun e w' => e = .returned (.tuple #[]) ∧ Kd.R (Kd.int .i64) 3 w' base ok (.slice A xs.length c) (xs.mergeSort fun x y => decide (x ≤ y)) ∧ Below base w w' := by
 rcases R_where h with ⟨rfl, rfl⟩ | ⟨g, rfl, hg, hlt, hc⟩
 ·refine (Any.slices_Sort_int_none laysSort none c w).mono ?_
  rintro e w' ⟨rfl, rfl⟩
  exact ⟨rfl, by simpa using h, Below.refl _ _⟩
 ·refine (Any.slices_Sort_int laysSort g 0 c xs w (R_holds h) hlt (by omega)).mono ?_
  rintro e w' ⟨rfl, n, os, rfl⟩
  have hy := List.length_mergeSort (le := fun (x y : Int) => decide (x ≤ y)) xs
  refine ⟨rfl, ?_, below_put (Below.refl _ _) hg hb n _ os⟩
  have := R_put h hy n os
  rwa [hy] at this
/-! ### slices_Compact_int_int: function 150 (by hand) -/
def laysCompact_ren : Go.Shelf.Ren := ⟨fun | 20 => 150 | n => n, fun | 22 => 22 | 3 => 3 | 4 => 4 | 0 => 0 | n => n, fun | n => n⟩
theorem laysCompact : Go.Proofs.Lays2.n20 Try.prog laysCompact_ren := {
 mixed := by kernel_rfl
 f20 := Try.func150.trans (congrArg some (by kernel_rfl))
 t0 := Try.underlying0
 a0 := Try.isAgg0
 z0 := Try.sizeOf0
 v0 := Try.zeroValue0
 t3 := Try.underlying3
 a3 := Try.isAgg3
 z3 := Try.sizeOf3
 v3 := Try.zeroValue3
 t4 := Try.underlying4
 a4 := Try.isAgg4
 z4 := Try.sizeOf4
 v4 := Try.zeroValue4
 t22 := Try.underlying22
 a22 := Try.isAgg22
 z22 := Try.sizeOf22
 v22 := Try.zeroValue22
 i3 := by kernel_rfl }
set_option maxHeartbeats 2000000 in
theorem compactOwn_walk (A : Option Addr) (c : Nat) (xs : List Int) (base : Nat) (ok : Nat → Prop) (w : World)
  (h : Kd.R (Kd.int .i64) 3 w base ok (.slice A xs.length c) xs) (hb : base ≤ w.heap.size) (hl : xs.length < 17592186044416) :
  Calls Try.prog 150 #[.slice A xs.length c] w fun e w' => e = .returned (.slice A (Lib.compact xs).length c) ∧ Kd.R (Kd.int .i64) 3 w' base ok (.slice A (Lib.compact xs).length c) (Lib.compact xs) ∧ Below base w w' := by
 rcases R_where h with ⟨rfl, rfl⟩ | ⟨g, rfl, hg, hlt, hc⟩
 ·refine (Any.slices_Compact_int_empty laysCompact none c w).mono ?_
  rintro e w' ⟨rfl, rfl⟩
  exact ⟨rfl, h, Below.refl _ _⟩
 ·refine (Any.slices_Compact_int laysCompact g 0 c xs w (R_holds h) (by omega) hc).mono ?_
  rintro e w' ⟨rfl, n, rfl⟩
  refine ⟨rfl, ?_, below_put' (Below.refl _ _) hg hb n _⟩
  have hlen := compact_len xs
  have hy : (Lib.compact xs ++ List.replicate (xs.length - (Lib.compact xs).length) 0).length = xs.length := by
   rw [List.length_append, List.length_replicate]; omega
  have h1 := R_grown h hy n
  have h2 := Kd.R_take h1 (m := (Lib.compact xs).length) (by rw [List.length_append]; omega)
  rwa [List.take_left] at h2
/-! ### impl_SortSets: function 121 (by hand) -/
def impl_SortSets.f (l : List Int) : Option (List Int) := if l.length < 17592186044416 then some (sortC l) else none
set_option maxHeartbeats 4000000 in
set_option maxRecDepth 100000 in
theorem impl_SortSets.calls (A0 : Option Addr) (c0 : Nat) (l0 : List Int) (r : List Int) (w : World) (hr0 : Kd.C (Kd.int .i64) w A0 l0.length l0) (hc0 : l0.length ≤ c0) (h : impl_SortSets.f l0 = some r) :
  Calls Try.prog 121 #[.slice A0 l0.length c0] w fun e w' => ∃ v0_ : Value, e = .returned (v0_) ∧ Kd.R (Kd.int .i64) 3 w' w.heap.size (fun _ => True) v0_ r ∧ Below w.heap.size w w' := by
 unfold impl_SortSets.f at h
 by_cases hlt : l0.length < 17592186044416
 ·rw [if_pos hlt] at h
  simp only [Option.some.injEq] at h
  subst h
  have HR := aQ hr0
  have HLM := aQ hlt
  have HB := aQ (Below.refl w.heap.size w)
  clear hr0 hc0 hlt
  go_enter Try.func121, Try.ntmps121
  go_wp2_with (first | ((with_reducible refine gate_dst (N := 4) rfl ?_); refine Kd.R_lit (Kd.int .i64) _ 3 ?hg (N := 4) ?hd (xs := ([] : List Int)) (inner := []) (ok := fun _ => True) (okp := fun _ => True) ?hr ?hp (fun _ hk => hk) trivial (Below.refl _ _) (Nat.le_refl _) (by simp) ?_; (case hd => rfl); (case hg => rfl); (case hr => first | (go_simp; done) | (go_simp; rfl)); (case hp => exact (Reps.none _ _)); intro v9_ w2 ho3 hb hg_ hnew_; clear hg_ hnew_; have HO := aQ (Kd.R_lower ho3 (below_size (pB HB.out))); replace HB := aQ (below_step (pB HB.out) hb); clear hb ho3) | ((with_reducible refine gate_builtin (b := .append) (xs := #[.tmp 4, .tmp 5]) rfl ?_); at_builtin; refine Kd.R_append_rows (Kd.int .i64) (w0 := w) w.heap.size rfl (.tmp 4) (.tmp 5) 22 3 (.int .i64 0) 8 rfl Try.underlying22 info3 rfl (by decide) (by omega) v9_ ([] : List Int) l0 _ _ _ (fun _ => True) (fun _ => False) rfl rfl ?aO ?aR (fun _ _ h => h) (fun _ h => h.elim) ?aF ?aB ?aS ?aL ?_; (case aR => exact pC (Kd.C_below HR.out HB.out)); (case aB => exact (pB HB.out)); (case aF => exact (fun _ _ => trivial)); (case aO => exact (pR HO.out)); (case aS => exact (below_size (pB HB.out))); (case aL => have := HLM.out; simp only [List.length_nil]; omega); intro v8_ w8 ho hb hg hat; rw [List.nil_append] at ho; replace HB := aQ (hb); replace HO := aQ (ho); clear ho hb hg hat; obtain ⟨AO, cO, eO⟩ := Kd.R_slice HO.out; subst eO))
  refine (sortOwn_walk AO cO l0 w.heap.size (fun _ => True) _ (pR HO.out) (below_size (pB HB.out)) HLM.out).mono ?_
  rintro e w9_ ⟨rfl, ho, hb⟩
  have n0_ := aQ (Below.trans (pB HB.out) hb)
  have hlen := List.length_mergeSort (le := fun (x y : Int) => decide (x ≤ y)) l0
  generalize hys : (l0.mergeSort fun x y => decide (x ≤ y)) = ys at ho hlen
  have HY := aQ hys
  have HOY := aQ ho
  have HLY := aQ hlen
  clear HB HO ho hb hys hlen
  have HB := n0_
  clear n0_
  go_wp2_with fail
  rw [← HLY.out]
  refine (compactOwn_walk AO cO ys w.heap.size (fun _ => True) _ (by (with_reducible repeat (first | apply Kd.R_alloc | apply Kd.R_drewN | apply Kd.R_drew)); rw [HLY.out]; exact HOY.out) (below_size (pB HB.out)) (by rw [HLY.out]; exact HLM.out)).mono ?_
  rintro e w9_ ⟨rfl, ho, hb⟩
  have n0_ := aQ (Below.trans (pB HB.out) hb)
  have HO := aQ ho
  clear HB HOY ho hb
  have HB := n0_
  clear n0_
  go_wp2
  go_ret
  exact ⟨_, rfl, by unfold sortC; rw [HY.out]; (with_reducible repeat (first | apply Kd.R_alloc | apply Kd.R_drewN | apply Kd.R_drew)); exact HO.out, pB HB.out⟩
 ·rw [if_neg hlt] at h; cases h
end Go.Proofs.Ytimkekeaeojpkaa.A
namespace Go.Proofs.Ytimkekeaeojpkaa.A
open Go.RowKit Go.Proofs.YtimkekeaeojpkaaW.PrintWords Go.Proofs.YtimkekeaeojpkaaW.PrintLast Go.Proofs.YtimkekeaeojpkaaW.PrintMore
attribute [local go_sem] max2_int min2_int max_two min_two max_three min_three max_four min_four
set_option linter.unusedVariables false
set_option linter.unusedSimpArgs false
/-! ### impl_areSets: function 173 -/
def impl_areSets.l0 : Nat → List Int → Int → Int → Option (Bool)
 | 0, _, _, _ => none
 | k + 1, x5, x6, x7 => if x7 < x6 then (if 0 ≤ x7 then (if x7 < (x5.length : Int) then ((impl_isAny.f (rd x5 x7)).bind fun t174002 => (if t174002 = true then (impl_areSets.l0 k x5 x6 (wrap64 (x7 + 1))) else (some false))) else (none)) else (none)) else (some true)
def impl_areSets.f (k : Nat) (l0 : List Int) : Option (Bool) := impl_areSets.l0 k l0 (l0.length : Int) 0
theorem impl_areSets.mono_l : ∀ k, (∀ y0 y1 y2, LeO (impl_areSets.l0 k y0 y1 y2) (impl_areSets.l0 (k + 1) y0 y1 y2))
 | 0 => fun _ _ _ r h => by simp [impl_areSets.l0] at h
 | k + 1 => by
  have ih0 := impl_areSets.mono_l k
  ·intro y0 y1 y2
   unfold impl_areSets.l0
   repeat' first
   | (with_reducible exact ih0 _ _ _)
   | (with_reducible exact LeO.refl _)
   | (with_reducible exact LeO.none _)
   | (with_reducible refine LeO.ite ?_ ?_)
   | (with_reducible refine LeO.bind ?_ (fun _ => ?_))
   | exact ih0 _ _ _
   | exact LeO.none _
   | refine LeO.ite ?_ ?_
   | refine LeO.bind ?_ (fun _ => ?_)
theorem impl_areSets.mono : ∀ a0 k, LeO (impl_areSets.f k a0) (impl_areSets.f (k + 1) a0) := by
 intro a0 k
 have ih0 := impl_areSets.mono_l k
 unfold impl_areSets.f
 repeat' first
   | (with_reducible exact ih0 _ _ _)
   | (with_reducible exact LeO.refl _)
   | (with_reducible exact LeO.none _)
   | (with_reducible refine LeO.ite ?_ ?_)
   | (with_reducible refine LeO.bind ?_ (fun _ => ?_))
   | exact ih0 _ _ _
   | exact LeO.none _
   | refine LeO.ite ?_ ?_
   | refine LeO.bind ?_ (fun _ => ?_)
set_option maxHeartbeats 8000000 in
set_option maxRecDepth 100000 in
theorem impl_areSets.calls (k : Nat) (A0 : Option Addr) (c0 : Nat) (l0 : List Int) (r : Bool) (w : World) (hr0 : Kd.C (Kd.int .i64) w A0 l0.length l0) (hc0 : l0.length ≤ c0) (h : impl_areSets.f k l0 = some r) :
  Calls Try.prog 173 #[.slice A0 l0.length c0] w fun e w' => e = .returned (.bool r) ∧ Drawn0 w w' := by
 have HR0 := aQ hr0
 have HC0 := aQ hc0
 clear hr0 hc0
 have H : (impl_areSets.l0 k l0 (l0.length : Int) 0) = some r := h
 clear h
 have H' := aQ H
 clear H
 go_enter Try.func173, Try.ntmps173
 go_wp2
 go_loopg [7] k (fun kq v7 w' => ∃ (x7_1 : Int), v7 = .int .i64 x7_1 ∧ Aside0 (impl_areSets.l0 kq l0 (l0.length : Int) x7_1 = some r) ∧ Aside0 (kq ≤ k) ∧ Drawn0 w w')
 case atStart => exact ⟨(0), rs_, H', ⟨Nat.le_refl _⟩, rd_⟩
 case round =>
  clear H'
  try clear c1
  obtain ⟨x7_1, rfl, HA, HK1, ⟨m1, rfl⟩⟩ := hrel
  cases gk with
  | zero => exact absurd HA.out (by simp [impl_areSets.l0])
  | succ k1 =>
   have H := HA.out
   clear HA
   simp only [impl_areSets.l0] at H
   by_cases c2 : x7_1 < (l0.length : Int)
   ·rw [if_pos c2] at H
    have c2b0 : decide (x7_1 < (l0.length : Int)) = true := decide_eq_true c2
    clear c2
    by_cases c3 : 0 ≤ x7_1
    ·rw [if_pos c3] at H
     have c3b0 : decide (0 ≤ x7_1) = true := decide_eq_true c3
     clear c3
     by_cases c4 : x7_1 < (l0.length : Int)
     ·rw [if_pos c4] at H
      have c4b0 : decide (x7_1 < (l0.length : Int)) = true := decide_eq_true c4
      clear c4
      replace H := Option.bind_eq_some_iff.mp H
      obtain ⟨t174002, A50, H⟩ := H
      replace H : (if t174002 = true then (impl_areSets.l0 k1 l0 (l0.length : Int) (wrap64 (x7_1 + 1))) else (some false)) = some r := H
      have A5 := aQ A50
      clear A50
      by_cases c6 : t174002 = true
      ·subst c6
       have H1 : (impl_areSets.l0 k1 l0 (l0.length : Int) (wrap64 (x7_1 + 1))) = some r := by rw [if_pos rfl] at H; exact H
       clear H
       have H := H1
       clear H1
       have H' := aQ H
       clear H
       have p174001 : 0 ≤ (x7_1 : Int) := of_decide_eq_true as_
       have q174001 : x7_1 < (l0.length : Int) := of_decide_eq_true as_
       obtain ⟨ad174001, e174001, hx174001_0⟩ := Kd.at_int HR0.out x7_1 p174001 q174001
       cases e174001
       replace p174001 := eq_true p174001
       replace q174001 := eq_true q174001
       go_wp2_with (first | ((with_reducible refine gate_callee (f := 97) rfl ?_); refine goesL_ (some 12) rfl rfl Try.func97 (by kernel_rfl) rfl #[.int .i64 (rd l0 x7_1)] rfl lm ?_; (with_reducible refine (impl_isAny.calls (rd l0 x7_1) true _ A5.out).mono ?_); rintro e w' ⟨rfl, ⟨nd, rfl⟩⟩; refine ⟨_, rfl, ?_⟩))
       go_roundg k1
       case measure => have := HK1.out; omega
       case rel => exact ⟨(wrap64 (x7_1 + 1)), rs_, H', ⟨by have := HK1.out; omega⟩, rd_⟩
      ·replace c6 := Bool.eq_false_iff.mpr c6
       subst c6
       have H1 : (some false) = some r := by rw [if_neg (show ¬ (false = true) by decide)] at H; exact H
       clear H
       have H := H1
       clear H1
       obtain rfl := Option.some.inj H
       have p174001 : 0 ≤ (x7_1 : Int) := of_decide_eq_true as_
       have q174001 : x7_1 < (l0.length : Int) := of_decide_eq_true as_
       obtain ⟨ad174001, e174001, hx174001_0⟩ := Kd.at_int HR0.out x7_1 p174001 q174001
       cases e174001
       replace p174001 := eq_true p174001
       replace q174001 := eq_true q174001
       go_wp2_with (first | ((with_reducible refine gate_callee (f := 97) rfl ?_); refine goesL_ (some 12) rfl rfl Try.func97 (by kernel_rfl) rfl #[.int .i64 (rd l0 x7_1)] rfl lm ?_; (with_reducible refine (impl_isAny.calls (rd l0 x7_1) false _ A5.out).mono ?_); rintro e w' ⟨rfl, ⟨nd, rfl⟩⟩; refine ⟨_, rfl, ?_⟩))
       go_ret
       exact ⟨rs_, rd_⟩
     ·rw [if_neg c4] at H
      exact absurd H (by simp)
    ·rw [if_neg c3] at H
     exact absurd H (by simp)
   ·rw [if_neg c2] at H
    have c2b0 : decide (x7_1 < (l0.length : Int)) = false := decide_eq_false c2
    clear c2
    obtain rfl := Option.some.inj H
    go_wp2
    go_ret
    exact ⟨rs_, rd_⟩
/-! ### impl_IsSubset: function 106 -/
def impl_IsSubset.f (a0 : Int) (a1 : Int) : Option (Bool) := (impl_isAny.f a0).bind fun t107001 => (if t107001 = true then ((impl_isAny.f a1).bind fun t107002 => (if t107002 = true then (some ((Go.bits .andNot .i64 a0 a1) == 0)) else (some false))) else (some false))
set_option maxHeartbeats 8000000 in
set_option maxRecDepth 100000 in
theorem impl_IsSubset.calls (a0 : Int) (a1 : Int) (r : Bool) (w : World) (h : impl_IsSubset.f a0 a1 = some r) :
  Calls Try.prog 106 #[.int .i64 a0, .int .i64 a1] w fun e w' => e = .returned (.bool r) ∧ Drawn0 w w' := by
 have H : ((impl_isAny.f a0).bind fun t107001 => (if t107001 = true then ((impl_isAny.f a1).bind fun t107002 => (if t107002 = true then (some ((Go.bits .andNot .i64 a0 a1) == 0)) else (some false))) else (some false))) = some r := h
 clear h
 replace H := Option.bind_eq_some_iff.mp H
 obtain ⟨t107001, A30, H⟩ := H
 replace H : (if t107001 = true then ((impl_isAny.f a1).bind fun t107002 => (if t107002 = true then (some ((Go.bits .andNot .i64 a0 a1) == 0)) else (some false))) else (some false)) = some r := H
 have A3 := aQ A30
 clear A30
 by_cases c4 : t107001 = true
 ·subst c4
  have H1 : ((impl_isAny.f a1).bind fun t107002 => (if t107002 = true then (some ((Go.bits .andNot .i64 a0 a1) == 0)) else (some false))) = some r := by rw [if_pos rfl] at H; exact H
  clear H
  have H := H1
  clear H1
  replace H := Option.bind_eq_some_iff.mp H
  obtain ⟨t107002, A50, H⟩ := H
  replace H : (if t107002 = true then (some ((Go.bits .andNot .i64 a0 a1) == 0)) else (some false)) = some r := H
  have A5 := aQ A50
  clear A50
  by_cases c6 : t107002 = true
  ·subst c6
   have H1 : (some ((Go.bits .andNot .i64 a0 a1) == 0)) = some r := by rw [if_pos rfl] at H; exact H
   clear H
   have H := H1
   clear H1
   obtain rfl := Option.some.inj H
   go_enter Try.func106, Try.ntmps106
   go_wp2_with (first | ((with_reducible refine gate_callee (f := 97) rfl ?_); refine goesL_ (some 6) rfl rfl Try.func97 (by kernel_rfl) rfl #[.int .i64 a0] rfl lm ?_; (with_reducible refine (impl_isAny.calls a0 true _ A3.out).mono ?_); rintro e w' ⟨rfl, ⟨nd, rfl⟩⟩; refine ⟨_, rfl, ?_⟩) | (go_at_call 97; (with_reducible refine (impl_isAny.calls a1 true _ A5.out).mono ?_); rintro e w' ⟨rfl, ⟨nd, rfl⟩⟩))
   go_ret
   exact ⟨rs_, rd_⟩
  ·replace c6 := Bool.eq_false_iff.mpr c6
   subst c6
   have H1 : (some false) = some r := by rw [if_neg (show ¬ (false = true) by decide)] at H; exact H
   clear H
   have H := H1
   clear H1
   obtain rfl := Option.some.inj H
   go_enter Try.func106, Try.ntmps106
   go_wp2_with (first | ((with_reducible refine gate_callee (f := 97) rfl ?_); refine goesL_ (some 6) rfl rfl Try.func97 (by kernel_rfl) rfl #[.int .i64 a0] rfl lm ?_; (with_reducible refine (impl_isAny.calls a0 true _ A3.out).mono ?_); rintro e w' ⟨rfl, ⟨nd, rfl⟩⟩; refine ⟨_, rfl, ?_⟩) | (go_at_call 97; (with_reducible refine (impl_isAny.calls a1 false _ A5.out).mono ?_); rintro e w' ⟨rfl, ⟨nd, rfl⟩⟩))
   go_ret
   exact ⟨rs_, rd_⟩
 ·replace c4 := Bool.eq_false_iff.mpr c4
  subst c4
  have H1 : (some false) = some r := by rw [if_neg (show ¬ (false = true) by decide)] at H; exact H
  clear H
  have H := H1
  clear H1
  obtain rfl := Option.some.inj H
  go_enter Try.func106, Try.ntmps106
  go_wp2_with (first | ((with_reducible refine gate_callee (f := 97) rfl ?_); refine goesL_ (some 6) rfl rfl Try.func97 (by kernel_rfl) rfl #[.int .i64 a0] rfl lm ?_; (with_reducible refine (impl_isAny.calls a0 false _ A3.out).mono ?_); rintro e w' ⟨rfl, ⟨nd, rfl⟩⟩; refine ⟨_, rfl, ?_⟩))
  go_ret
  exact ⟨rs_, rd_⟩
end Go.Proofs.Ytimkekeaeojpkaa.A
namespace Go.Proofs.Ytimkekeaeojpkaa.A
open Go.RowKit Go.Proofs.YtimkekeaeojpkaaW.PrintWords Go.Proofs.YtimkekeaeojpkaaW.PrintLast Go.Proofs.YtimkekeaeojpkaaW.PrintMore Go.Proofs.Ytimkekeaeojpkaa.Z
attribute [local go_sem] max2_int min2_int max_two min_two max_three min_three max_four min_four
set_option linter.unusedVariables false
set_option linter.unusedSimpArgs false
/-! ### impl_MaximalSets: function 142 (by hand) -/
/-- Does t speak against s? -/
def impl_MaximalSets.c (s t : Int) : Option Bool := if t = s then some false else impl_IsSubset.f s t
def impl_MaximalSets.p (l : List Int) (s : Int) : Option Bool := (anyO (fun t => impl_MaximalSets.c s t) l).bind fun b => some (!b)
def impl_MaximalSets.f (k : Nat) (l : List Int) : Option (List Int) := (impl_areSets.f k l).bind fun t => if t = true then (impl_SortSets.f l).bind fun ys => filterO (fun s => impl_MaximalSets.p l s) ys else some []
theorem impl_MaximalSets.mono : ∀ a0 k, LeO (impl_MaximalSets.f k a0) (impl_MaximalSets.f (k + 1) a0) := by
 intro a0 k
 unfold impl_MaximalSets.f
 exact LeO.bind (impl_areSets.mono _ _) (fun t => LeO.ite (LeO.refl _) (LeO.refl _))
set_option maxHeartbeats 4000000 in
set_option maxRecDepth 100000 in
theorem MaximalSets1_walk (s t : Int) (b : Bool) (gs : Nat) (w : World) (hs : w.heap[gs]? = some (.cells #[.int .i64 s] 3 (0, 0))) (h : impl_MaximalSets.c s t = some b) :
  Calls Try.prog 174 #[.int .i64 t, .pointer (some ⟨gs, 0, none⟩)] w fun e w' => e = .returned (.bool b) ∧ Below w.heap.size w w' := by
 unfold impl_MaximalSets.c at h
 have hcs : w.cell? ⟨gs, 0, none⟩ = some (.int .i64 s) := (blk_cell hs 0).trans rfl
 clear hs
 by_cases hne : t = s
 ·rw [if_pos hne] at h
  simp only [Option.some.injEq] at h
  subst h
  subst hne
  go_enter Try.func174, Try.ntmps174
  go_wp2
  go_ret
  exact ⟨rs_, by repeat (first | exact Below.refl _ _ | apply pw_below_drewN | apply below_drew1)⟩
 ·rw [if_neg hne] at h
  have HT := Lib.hid h
  have e1 : (t == s) = false := beq_eq_false_iff_ne.2 hne
  have e2 : (t != s) = true := bne_iff_ne.2 hne
  clear h
  go_enter Try.func174, Try.ntmps174
  go_wp2_with (first | (go_at_call 106; (with_reducible refine (impl_IsSubset.calls _ _ b _ HT.out).mono ?_); rintro e w' ⟨rfl, ⟨nd, rfl⟩⟩))
  go_ret
  exact ⟨rs_, by repeat (first | exact Below.refl _ _ | apply pw_below_drewN | apply below_drew1)⟩
set_option maxHeartbeats 4000000 in
set_option maxRecDepth 100000 in
theorem impl_MaximalSets.calls (k : Nat) (A0 : Option Addr) (c0 : Nat) (l0 : List Int) (r : List Int) (w : World) (hr0 : Kd.C (Kd.int .i64) w A0 l0.length l0) (hc0 : l0.length ≤ c0) (h : impl_MaximalSets.f k l0 = some r) :
  Calls Try.prog 142 #[.slice A0 l0.length c0] w fun e w' => ∃ v0_ : Value, e = .returned (v0_) ∧ Kd.R (Kd.int .i64) 3 w' w.heap.size (fun _ => True) v0_ r ∧ Below w.heap.size w w' := by
 have HR := aQ hr0
 have HC := aQ hc0
 have HB := aQ (Below.refl w.heap.size w)
 clear hr0 hc0
 have EG := aQ (show ∀ args w, (callFunc 174 args).run Try.prog w = .ok (.enter 174 args) w from runs_of Try.func174 (by kernel_rfl) rfl)
 unfold impl_MaximalSets.f at h
 obtain ⟨t, hT, h⟩ := Option.bind_eq_some_iff.1 h
 have HT := aQ hT
 clear hT
 by_cases c3 : t = true
 ·subst c3
  rw [if_pos rfl] at h
  obtain ⟨ys, hY, h⟩ := Option.bind_eq_some_iff.1 h
  have hyl : ys.length < 17592186044416 := by
   unfold impl_SortSets.f at hY
   by_cases hc : l0.length < 17592186044416
   ·rw [if_pos hc, Option.some.injEq] at hY; subst hY; have := sortC_len l0; omega
   ·rw [if_neg hc] at hY; cases hY
  have HY := aQ hY
  have HI := Lib.hid h
  have HYL := aQ hyl
  clear hY h hyl
  go_enter Try.func142, Try.ntmps142
  go_wp2_with (first | ((with_reducible refine gate_dst (N := 6) rfl ?_); refine Kd.R_lit (Kd.int .i64) _ 3 ?hg (N := 6) ?hd (xs := ([] : List Int)) (inner := []) (ok := fun _ => True) (okp := fun _ => True) ?hr ?hp (fun _ hk => hk) trivial (Below.refl _ _) (Nat.le_refl _) (by simp) ?_; (case hd => rfl); (case hg => rfl); (case hr => first | (go_simp; done) | (go_simp; rfl)); (case hp => exact (Reps.none _ _)); intro v9_ w2 ho3 hb hg_ hnew_; clear hg_ hnew_; have HO := aQ (Kd.R_lower ho3 (below_size (pB HB.out))); replace HB := aQ (below_step (pB HB.out) hb); clear hb ho3) | (go_at_call 173; (with_reducible refine (impl_areSets.calls k _ _ l0 true _ ?side1 ?side2 HT.out).mono ?_); (case side1 => repeat (first | exact (Kd.C_below HR.out (pB HB.out)) | (with_reducible refine Kd.C_alloc ?_ _) | (with_reducible refine Kd.C_drewN ?_ _) | (with_reducible refine Kd.C_drew ?_))); (case side2 => exact HC.out); rintro e w' ⟨rfl, ⟨nd, rfl⟩⟩) | (go_at_call 121; (with_reducible refine (impl_SortSets.calls _ _ l0 ys _ ?side1 ?side2 HY.out).mono ?_); (case side1 => repeat (first | exact (Kd.C_below HR.out (pB HB.out)) | (with_reducible refine Kd.C_alloc ?_ _) | (with_reducible refine Kd.C_drewN ?_ _) | (with_reducible refine Kd.C_drew ?_))); (case side2 => exact HC.out); rintro e w3_ ⟨v_, rfl, ho_, hb⟩; have HP := aQ (Kd.R_lower (R_apart2 ho_ (pR HO.out)) (below_size (pB HB.out))); replace HO := aQ (Kd.R_below (R_apart (pR HO.out) ho_) hb); replace HB := aQ (below_step (pB HB.out) hb); clear ho_ hb; obtain ⟨AP, cP, eP⟩ := Kd.R_slice HP.out; subst eP))
  go_loopg [3, 13] ys.length (fun gg v3 v13 wr => ∃ (x : Int) (acc rest : List Int), v13 = .int .i64 x ∧ Aside0 (0 ≤ x ∧ x ≤ (ys.length : Int)) ∧ Aside0 (ys.length - x.toNat ≤ gg) ∧ Aside0 (acc.length ≤ x.toNat) ∧ Aside0 (filterO (fun s => impl_MaximalSets.p l0 s) (ys.drop x.toNat) = some rest) ∧ Aside0 (acc ++ rest = r) ∧ Aside0 (Kd.R (Kd.int .i64) 3 wr w.heap.size (fun k_ => some k_ ≠ ((.slice AP ys.length cP : Value)).ownBlock) v3 acc) ∧ Aside0 (Kd.R (Kd.int .i64) 3 wr w.heap.size (fun k_ => some k_ ≠ (v3 : Value).ownBlock) (.slice AP ys.length cP) ys) ∧ Aside0 (Below w.heap.size w wr))
  case atStart => exact ⟨0, [], r, rfl, ⟨by omega⟩, ⟨by omega⟩, ⟨by simp⟩, ⟨HI.out⟩, ⟨rfl⟩, ⟨pR HO.out⟩, ⟨pR HP.out⟩, ⟨(pB HB.out)⟩⟩
  case round =>
   clear HI HO HP HB
   obtain ⟨x, acc, rest, rfl, HX, HG, HA, HI, HE, HO, HP, HB⟩ := hrel
   by_cases hlt : x < (ys.length : Int)
   ·have p1 : 0 ≤ x := HX.out.1
    have l1 : decide (x < (ys.length : Int)) = true := decide_eq_true hlt
    obtain ⟨ad, ea, hx⟩ := Kd.at_int ((Kd.R_reads' HP.out).2.2) x p1 hlt
    cases ea
    have hI := HI.out
    rw [int_drop ys x p1 hlt] at hI
    simp only [filterO] at hI
    obtain ⟨b, hgb, hI⟩ := Option.bind_eq_some_iff.1 hI
    obtain ⟨zs, hzs, hI⟩ := Option.bind_eq_some_iff.1 hI
    unfold impl_MaximalSets.p at hgb
    obtain ⟨tb, hA, hgb⟩ := Option.bind_eq_some_iff.1 hgb
    simp only [Option.some.injEq] at hgb
    subst hgb
    have HTA := Lib.hid hA
    have HZ := Lib.hid hzs
    have HK := Lib.hid hI
    have E1 := Lib.hid (wrap64_of (n := x + 1) (by omega) (by have := HYL.out; omega))
    have Q1 := aQ hlt
    clear HI hA hzs hI
    replace p1 := eq_true p1
    replace hlt := eq_true hlt
    go_wp2_with (first | ((with_reducible refine gate_dst (N := 5) rfl ?_); refine box_event ?hg (N := 5) ?hd (cs := #[.int .i64 0]) (t := 3) ?hr ?_; (case hd => rfl); (case hg => rfl); (case hr => first | (go_simp; done) | (go_simp; rfl)); intro gs hg w1_ hbox hb; have n_HO := aQ (Kd.R_below (Kd.R_elderB (pR HO.out) gs (by rw [hg]; exact Nat.le_refl _)) hb); have n_HP := aQ (Kd.R_below (Kd.R_elderB (pR HP.out) gs (by rw [hg]; exact Nat.le_refl _)) hb); have n_HB := aQ (below_step (pB HB.out) hb); have GBS := aQ ((by rw [hg]; exact below_size (pB HB.out)) : w.heap.size ≤ gs); clear HO HP HB; have HO := n_HO; have HP := n_HP; have HB := n_HB; have BS := aQ hbox; clear n_HO n_HP n_HB; clear hb hbox hg; have zBS : w1_.cell? ⟨gs, 0, none⟩ = some (.int .i64 0) := (blk_cell BS.out 0).trans rfl; have fBS := blk_frozen BS.out 0))
    (with_reducible refine (ContainsFunc_walk (fun t => impl_MaximalSets.c (rd ys x) t) 174 _ EG.out _ _ l0 tb _ (Kd.C_below HR.out (by repeat (first | (with_reducible first | exact HB.out | apply below_alloc | apply pw_below_drewN | apply below_drew1 | refine below_set ?_ GBS.out) | exact HB.out))) HTA.out (fun W t_ b_ hb hg => calls_of_args (by simp) (MaximalSets1_walk (rd ys x) t_ b_ gs W (blk_below (g := gs) (o := .cells #[.int .i64 (rd ys x)] 3 (0, 0)) (by (with_reducible repeat (first | refine blk_drewN ?_ _ | refine blk_drew ?_ | refine blk_alloc ?_ _)); refine blk_put (cs := #[.int .i64 0]) ?_ 0 _ rfl; (with_reducible repeat (first | refine blk_drewN ?_ _ | refine blk_drew ?_ | refine blk_alloc ?_ _)); exact BS.out) hb) hg))).mono ?_)
    rintro e w9_ ⟨rfl, hb⟩
    have n_HO := aQ (Kd.R_below (Kd.R_mono (Kd.R_far (p := ⟨gs, 0, none⟩) (pR HO.out) (fun k_ (hk : _ ∧ k_ ≠ gs) => hk.2) (.int .i64 (rd ys x))) (fun k_ (hk : _ ∧ k_ ≠ gs) => hk.1)) hb)
    have n_HP := aQ (Kd.R_below (Kd.R_mono (Kd.R_far (p := ⟨gs, 0, none⟩) (pR HP.out) (fun k_ (hk : _ ∧ k_ ≠ gs) => hk.2) (.int .i64 (rd ys x))) (fun k_ (hk : _ ∧ k_ ≠ gs) => hk.1)) hb)
    have n_BS := aQ (blk_below (g := gs) (o := .cells #[.int .i64 (rd ys x)] 3 (0, 0)) (by (with_reducible repeat (first | refine blk_drewN ?_ _ | refine blk_drew ?_ | refine blk_alloc ?_ _)); refine blk_put (cs := #[.int .i64 0]) ?_ 0 _ rfl; (with_reducible repeat (first | refine blk_drewN ?_ _ | refine blk_drew ?_ | refine blk_alloc ?_ _)); exact BS.out) hb)
    have n_HB := aQ (below_step (by repeat (first | (with_reducible first | exact HB.out | apply below_alloc | apply pw_below_drewN | apply below_drew1 | refine below_set ?_ GBS.out) | exact HB.out)) hb)
    clear HO HP HB BS hb HTA zBS fBS
    have HO := n_HO
    have HP := n_HP
    have HB := n_HB
    have BS := n_BS
    clear n_HO n_HP n_HB n_BS
    have zBS : w9_.cell? ⟨gs, 0, none⟩ = some (.int .i64 (rd ys x)) := (blk_cell BS.out 0).trans rfl
    try clear hx
    have hc := HK.out
    clear HK
    cases tb with
    | false =>
     rw [if_pos (by decide)] at hc
     simp only [Option.some.injEq] at hc
     have HR2 := Lib.hid hc
     have HLM := aQ (show acc.length < 17592186044416 by have := HA.out; have := HX.out; have := Q1.out; have := HYL.out; omega)
     clear hc
     go_wp2_with (first | ((with_reducible refine gate_builtin (b := .append) (xs := #[.tmp 21, .tmp 23]) rfl ?_); at_builtin; refine Kd.R_append (Kd.int .i64) (w0 := w) w.heap.size rfl (.tmp 21) (.tmp 23) 22 3 (.int .i64 0) 8 rfl Try.underlying22 info3 rfl (by decide) (by omega) u3 acc (rd ys x) [.int .i64 (rd ys x)] (fun k_ => some k_ ≠ ((.slice (some ad) ys.length cP : Value)).ownBlock) (fun _ => False) rfl rfl ?aP (fun _ hk => hk.elim) ?aF ?aO ?aB ?aS ?aL ?_; (case aP => exact rfl); (case aB => exact (pB HB.out)); (case aF => exact (fun k_ hk => Kd.fresh' (Kd.R_lt (pR HP.out)) k_ hk)); (case aO => exact (pR HO.out)); (case aS => exact (below_size (pB HB.out))); (case aL => have := HLM.out; omega); intro v8_ w8 ho hb hg hat; have n0_ := aQ (Kd.R_after (ok := (fun _ => True)) (by (with_reducible repeat (first | apply Kd.R_alloc | apply Kd.R_drewN | apply Kd.R_drew)); exact Kd.R_mono HP.out (fun _ hk => ⟨trivial, hk⟩)) hg hat); have n1_ := aQ hb; have n2_ := aQ ho; clear HB; clear HO; clear HP; have HP := aQ (Kd.R_mono n0_.out (fun _ hk => hk.2)); have HB := n1_; have HO := n2_; clear n0_ n1_ n2_; clear ho hb hg hat))
     go_roundg (ys.length - (x + 1).toNat)
     case measure => have := HG.out; have := HX.out; have := Q1.out; omega
     case rel =>
      refine ⟨x + 1, acc ++ [rd ys x], zs, by rw [E1.out], ⟨by have := HX.out; have := Q1.out; omega⟩, ⟨Nat.le_refl _⟩, ⟨by rw [List.length_append, List.length_singleton]; have := HA.out; have := HX.out; omega⟩, ⟨HZ.out⟩, ⟨by rw [List.append_assoc]; have h1 := HR2.out; have h2 := HE.out; rw [← h1] at h2; exact h2⟩, ⟨pR HO.out⟩, ⟨pR HP.out⟩, ⟨(pB HB.out)⟩⟩
    | true =>
     rw [if_neg (by decide)] at hc
     simp only [Option.some.injEq] at hc
     have HR2 := Lib.hid hc
     clear hc
     go_wp2
     go_roundg (ys.length - (x + 1).toNat)
     case measure => have := HG.out; have := HX.out; have := Q1.out; omega
     case rel =>
      refine ⟨x + 1, acc, zs, by rw [E1.out], ⟨by have := HX.out; have := Q1.out; omega⟩, ⟨Nat.le_refl _⟩, ⟨by have := HA.out; have := HX.out; omega⟩, ⟨HZ.out⟩, ⟨by have h1 := HR2.out; have h2 := HE.out; rw [← h1] at h2; exact h2⟩, ⟨pR HO.out⟩, ⟨pR HP.out⟩, ⟨(pB HB.out)⟩⟩
   ·have l1 : decide (x < (ys.length : Int)) = false := decide_eq_false hlt
    have hI := HI.out
    rw [int_drop_end ys x hlt] at hI
    simp only [filterO, Option.some.injEq] at hI
    have hE := HE.out
    rw [← hI, List.append_nil] at hE
    subst hE
    clear HI hI hlt HE
    go_wp2
    go_ret
    exact ⟨_, rs_, by (with_reducible repeat (first | apply Kd.R_alloc | apply Kd.R_drewN | apply Kd.R_drew)); exact Kd.R_mono HO.out (fun _ _ => trivial), (pB HB.out)⟩
 ·have c4 := Bool.eq_false_iff.mpr c3
  subst c4
  clear c3
  rw [if_neg (by decide)] at h
  simp only [Option.some.injEq] at h
  subst h
  go_enter Try.func142, Try.ntmps142
  go_wp2_with (first | ((with_reducible refine gate_dst (N := 6) rfl ?_); refine Kd.R_lit (Kd.int .i64) _ 3 ?hg (N := 6) ?hd (xs := ([] : List Int)) (inner := []) (ok := fun _ => True) (okp := fun _ => True) ?hr ?hp (fun _ hk => hk) trivial (Below.refl _ _) (Nat.le_refl _) (by simp) ?_; (case hd => rfl); (case hg => rfl); (case hr => first | (go_simp; done) | (go_simp; rfl)); (case hp => exact (Reps.none _ _)); intro v9_ w2 ho3 hb hg_ hnew_; clear hg_ hnew_; have HO := aQ (Kd.R_lower ho3 (below_size (pB HB.out))); replace HB := aQ (below_step (pB HB.out) hb); clear hb ho3) | (go_at_call 173; (with_reducible refine (impl_areSets.calls k _ _ l0 false _ ?side1 ?side2 HT.out).mono ?_); (case side1 => repeat (first | exact (Kd.C_below HR.out (pB HB.out)) | (with_reducible refine Kd.C_alloc ?_ _) | (with_reducible refine Kd.C_drewN ?_ _) | (with_reducible refine Kd.C_drew ?_))); (case side2 => exact HC.out); rintro e w' ⟨rfl, ⟨nd, rfl⟩⟩))
  go_ret
  exact ⟨_, rs_, Kd.R_nil _ _ _ _ _, (pB HB.out)⟩
end Go.Proofs.Ytimkekeaeojpkaa.A
namespace Go.Proofs.Ytimkekeaeojpkaa.A
open Go.RowKit Go.Proofs.YtimkekeaeojpkaaW.PrintWords Go.Proofs.YtimkekeaeojpkaaW.PrintLast Go.Proofs.YtimkekeaeojpkaaW.PrintMore
attribute [local go_sem] max2_int min2_int max_two min_two max_three min_three max_four min_four
set_option linter.unusedVariables false
set_option linter.unusedSimpArgs false
/-! ### impl_fromIndependent: function 100 -/
def impl_fromIndependent.f (k : Nat) (a0 : Int) (l1 : List Int) : Option (Int × List Int × Bool) := (impl_MaximalSets.f k l1).bind fun t101002 => ((impl_IsMatroid.f k a0 t101002).bind fun t101006 => (if t101006 = true then (some (a0, t101002, true)) else (some (0, ([] : List Int), false))))
theorem impl_fromIndependent.mono : ∀ a0 a1 k, LeO (impl_fromIndependent.f k a0 a1) (impl_fromIndependent.f (k + 1) a0 a1) := by
 intro a0 a1 k
 unfold impl_fromIndependent.f
 repeat' first
   | (with_reducible exact impl_IsMatroid.mono _ _ _)
   | (with_reducible exact impl_MaximalSets.mono _ _)
   | (with_reducible exact LeO.refl _)
   | (with_reducible exact LeO.none _)
   | (with_reducible refine LeO.ite ?_ ?_)
   | (with_reducible refine LeO.bind ?_ (fun _ => ?_))
   | exact impl_IsMatroid.mono _ _ _
   | exact impl_MaximalSets.mono _ _
   | exact LeO.none _
   | refine LeO.ite ?_ ?_
   | refine LeO.bind ?_ (fun _ => ?_)
set_option maxHeartbeats 8000000 in
set_option maxRecDepth 100000 in
theorem impl_fromIndependent.calls (k : Nat) (a0 : Int) (A1 : Option Addr) (c1 : Nat) (l1 : List Int) (r1 : Int) (r2 : List Int) (r3 : Bool) (w : World) (hr1 : Kd.C (Kd.int .i64) w A1 l1.length l1) (hc1 : l1.length ≤ c1) (h : impl_fromIndependent.f k a0 l1 = some (r1, r2, r3)) :
  Calls Try.prog 100 #[.int .i64 a0, .slice A1 l1.length c1] w fun e w' => ∃ v1_ : Value, e = .returned (.tuple #[.agg #[.int .i64 r1, v1_], .bool r3]) ∧ Kd.R (Kd.int .i64) 3 w' w.heap.size (fun _ => True) v1_ r2 ∧ Below w.heap.size w w' := by
 have hu28 := Try.underlying28
 have HR1 := aQ hr1
 have HC1 := aQ hc1
 clear hr1 hc1
 have HB := aQ (Below.refl w.heap.size w)
 have H : ((impl_MaximalSets.f k l1).bind fun t101002 => ((impl_IsMatroid.f k a0 t101002).bind fun t101006 => (if t101006 = true then (some (a0, t101002, true)) else (some (0, ([] : List Int), false))))) = some (r1, r2, r3) := h
 clear h
 replace H := Option.bind_eq_some_iff.mp H
 obtain ⟨t101002, A30, H⟩ := H
 replace H : ((impl_IsMatroid.f k a0 t101002).bind fun t101006 => (if t101006 = true then (some (a0, t101002, true)) else (some (0, ([] : List Int), false)))) = some (r1, r2, r3) := H
 have A3 := aQ A30
 clear A30
 replace H := Option.bind_eq_some_iff.mp H
 obtain ⟨t101006, A40, H⟩ := H
 replace H : (if t101006 = true then (some (a0, t101002, true)) else (some (0, ([] : List Int), false))) = some (r1, r2, r3) := H
 have A4 := aQ A40
 clear A40
 by_cases c5 : t101006 = true
 ·subst c5
  have H1 : (some (a0, t101002, true)) = some (r1, r2, r3) := by rw [if_pos rfl] at H; exact H
  clear H
  have H := H1
  clear H1
  simp only [Option.some.injEq, Prod.mk.injEq] at H
  obtain ⟨rfl, rfl, rfl⟩ := H
  go_enter Try.func100, Try.ntmps100
  go_wp2_with (first | ((with_reducible refine gate_dst (N := 4) rfl ?_); refine box_event ?hg (N := 4) ?hd (cs := #[.int .i64 0, .slice none 0 0]) (t := 28) ?hr ?_; (case hd => rfl); (case hg => rfl); (case hr => first | (go_simp; done) | (go_simp; rfl)); intro gb101001 hg w6 hbox hb; have BK101001 := aQ (hbox); have GW101001 := aQ ((by rw [hg]; exact (below_size (pB HB.out)) : w.heap.size ≤ gb101001)); have GE101001 := aQ ((by rw [hg]; exact (below_size (pB HB.out)) : w.heap.size ≤ gb101001)); replace HB := aQ (below_step (pB HB.out) hb); clear hb hbox hg) | ((with_reducible refine gate_callee (f := 142) rfl ?_); refine goesL_ (some 9) rfl rfl Try.func142 (by kernel_rfl) rfl #[.slice A1 l1.length c1] rfl lm ?_; (with_reducible refine (impl_MaximalSets.calls k _ _ l1 t101002 _ ?side1 ?side2 A3.out).mono ?_); (case side1 => exact pC (Kd.C_below HR1.out HB.out)); (case side2 => exact HC1.out); rintro e w7 ⟨v101003, rfl, ho0, hb⟩; refine ⟨_, rfl, ?_⟩; have HO101004 := aQ (Kd.R_lower ho0 (below_size (pB1 HB.out GE101001.out))); replace BK101001 := aQ (blk_below (g := gb101001) (o := .cells #[.int .i64 0, .slice none 0 0] 28 (0, 0)) (pk BK101001.out) hb); replace HB := aQ (below_step (pB1 HB.out GE101001.out) hb); (try clear hb); (try clear ho0); obtain ⟨Ao8, co8, eo8⟩ := Kd.R_slice HO101004.out; subst eo8) | ((with_reducible refine gate_dst (N := 6) rfl ?_); refine box_event ?hg (N := 6) ?hd (cs := #[.int .i64 0, .slice none 0 0]) (t := 28) ?hr ?_; (case hd => rfl); (case hg => rfl); (case hr => first | (go_simp; done) | (go_simp; rfl)); intro gb101005 hg w9 hbox hb; replace HO101004 := aQ (Kd.R_below (pR HO101004.out) hb); have BK101005 := aQ (hbox); have GW101005 := aQ ((by rw [hg]; exact (below_size (pB1 HB.out GE101001.out)) : w.heap.size ≤ gb101005)); have GE101005 := aQ ((by rw [hg]; exact (below_size (pB1 HB.out GE101001.out)) : w.heap.size ≤ gb101005)); replace HB := aQ (below_step (pB1 HB.out GE101001.out) hb); have NB101001_101005 := aQ ((by rw [hg]; exact Nat.ne_of_lt (blk_lt (g := gb101001) (o := .cells #[.int .i64 0, .slice none 0 0] 28 (0, 0)) (pk BK101001.out)) : gb101001 ≠ gb101005)); have NB101005_101001 := aQ ((by rw [hg]; exact Nat.ne_of_gt (blk_lt (g := gb101001) (o := .cells #[.int .i64 0, .slice none 0 0] 28 (0, 0)) (pk BK101001.out)) : gb101005 ≠ gb101001)); replace BK101001 := aQ (blk_below (g := gb101001) (o := .cells #[.int .i64 0, .slice none 0 0] 28 (0, 0)) (pk BK101001.out) hb); clear hb hbox hg; have hnb10 := NB101005_101001.out; have hnc10 := NB101001_101005.out; have hcz11_0 := bc (v := (.int .i64 0)) BK101005.out 0; have hcz11_1 := bc (v := (.slice none 0 0)) BK101005.out 1; have hfz11_0 := blk_frozen BK101005.out 0; have hfz11_1 := blk_frozen BK101005.out 1) | ((with_reducible refine gate_callee (f := 62) rfl ?_); refine goesL_ (some 12) rfl rfl Try.func62 (by kernel_rfl) rfl #[.agg #[.int .i64 a0, .slice Ao8 t101002.length co8]] rfl lm ?_; (with_reducible refine (impl_IsMatroid.calls k a0 _ _ t101002 true _ ?side1 ?side2 A4.out).mono ?_); (case side1 => refine (Kd.R_reads' (e := 3) (base := w.heap.size) (ok := fun k_ => True) (n := t101002.length) (c := co8) ?_).2.2; exact (by (with_reducible repeat (first | apply Kd.R_alloc | apply Kd.R_drewN | apply Kd.R_drew)); exact (Kd.R_mono (Kd.R_far (p := ⟨gb101005, 1, none⟩) (Kd.R_far (p := ⟨gb101005, 0, none⟩) (Kd.R_types HO101004.out BK101005.out (by decide)) (fun _ hk => hk.2) (.int .i64 a0)) (fun _ hk => hk.2) (.slice Ao8 t101002.length co8)) (fun _ h_ => h_.1)))); (case side2 => exact (Kd.R_reads' HO101004.out).2.1); rintro e w12 ⟨rfl, hb⟩; refine ⟨_, rfl, ?_⟩; replace HO101004 := aQ (Kd.R_below (by (with_reducible repeat (first | apply Kd.R_alloc | apply Kd.R_drewN | apply Kd.R_drew)); exact (Kd.R_mono (Kd.R_far (p := ⟨gb101005, 1, none⟩) (Kd.R_far (p := ⟨gb101005, 0, none⟩) (Kd.R_types HO101004.out BK101005.out (by decide)) (fun _ hk => hk.2) (.int .i64 a0)) (fun _ hk => hk.2) (.slice Ao8 t101002.length co8)) (fun _ h_ => h_.1))) hb); replace BK101001 := aQ (blk_below (g := gb101001) (o := .cells #[.int .i64 0, .slice none 0 0] 28 (0, 0)) (by (with_reducible repeat (first | refine blk_drewN ?_ _ | refine blk_drew ?_ | refine blk_alloc ?_ _)); refine blk_far ?_ NB101001_101005.out _; (with_reducible repeat (first | refine blk_drewN ?_ _ | refine blk_drew ?_ | refine blk_alloc ?_ _)); refine blk_far ?_ NB101001_101005.out _; (with_reducible repeat (first | refine blk_drewN ?_ _ | refine blk_drew ?_ | refine blk_alloc ?_ _)); exact BK101001.out) hb); replace BK101005 := aQ (blk_below (g := gb101005) (o := .cells #[.int .i64 a0, .slice Ao8 t101002.length co8] 28 (0, 0)) (by (with_reducible repeat (first | refine blk_drewN ?_ _ | refine blk_drew ?_ | refine blk_alloc ?_ _)); refine blk_put (cs := #[.int .i64 a0, .slice none 0 0]) ?_ 1 _ rfl; (with_reducible repeat (first | refine blk_drewN ?_ _ | refine blk_drew ?_ | refine blk_alloc ?_ _)); refine blk_put (cs := #[.int .i64 0, .slice none 0 0]) ?_ 0 _ rfl; (with_reducible repeat (first | refine blk_drewN ?_ _ | refine blk_drew ?_ | refine blk_alloc ?_ _)); exact BK101005.out) hb); replace HB := aQ (below_step (pB2 HB.out GE101001.out GE101005.out) hb); (try clear hb); (try clear hk); have hcz13_0 := bc (v := (.int .i64 a0)) BK101005.out 0; have hcz13_1 := bc (v := (.slice Ao8 t101002.length co8)) BK101005.out 1; have hfz13_0 := blk_frozen BK101005.out 0; have hfz13_1 := blk_frozen BK101005.out 1; have hcz14_0 := bc (v := (.int .i64 0)) BK101001.out 0; have hcz14_1 := bc (v := (.slice none 0 0)) BK101001.out 1; have hfz14_0 := blk_frozen BK101001.out 0; have hfz14_1 := blk_frozen BK101001.out 1))
  refine bodyPost_ret (results_ct rfl _ _ gb101001 28 #[.int .i64 a0, .slice Ao8 t101002.length co8] (0, 0) _ rfl (by (with_reducible repeat (first | refine blk_drewN ?_ _ | refine blk_drew ?_ | refine blk_alloc ?_ _)); refine blk_put (cs := #[.int .i64 a0, .slice none 0 0]) ?_ 1 _ rfl; (with_reducible repeat (first | refine blk_drewN ?_ _ | refine blk_drew ?_ | refine blk_alloc ?_ _)); refine blk_put (cs := #[.int .i64 0, .slice none 0 0]) ?_ 0 _ rfl; (with_reducible repeat (first | refine blk_drewN ?_ _ | refine blk_drew ?_ | refine blk_alloc ?_ _)); exact BK101001.out) Try.underlying28 rfl (by kernel_rfl)) rfl ?_
  exact ⟨_, by first | rfl | (simp [errW_none, errW_some] <;> rfl) | (simp [*, errW_none, errW_some] <;> rfl), by (with_reducible repeat (first | apply Kd.R_alloc | apply Kd.R_drewN | apply Kd.R_drew)); exact Kd.R_mono (Kd.R_far (p := ⟨gb101001, 1, none⟩) (Kd.R_far (p := ⟨gb101001, 0, none⟩) (Kd.R_types HO101004.out BK101001.out (by decide)) (fun _ hk => hk.2) (.int .i64 a0)) (fun _ hk => hk.2) (.slice Ao8 t101002.length co8)) (fun _ hk => trivial), pB2 HB.out GE101001.out GE101005.out⟩
 ·replace c5 := Bool.eq_false_iff.mpr c5
  subst c5
  have H1 : (some (0, ([] : List Int), false)) = some (r1, r2, r3) := by rw [if_neg (show ¬ (false = true) by decide)] at H; exact H
  clear H
  have H := H1
  clear H1
  simp only [Option.some.injEq, Prod.mk.injEq] at H
  obtain ⟨rfl, rfl, rfl⟩ := H
  go_enter Try.func100, Try.ntmps100
  go_wp2_with (first | ((with_reducible refine gate_dst (N := 4) rfl ?_); refine box_event ?hg (N := 4) ?hd (cs := #[.int .i64 0, .slice none 0 0]) (t := 28) ?hr ?_; (case hd => rfl); (case hg => rfl); (case hr => first | (go_simp; done) | (go_simp; rfl)); intro gb101001 hg w15 hbox hb; have BK101001 := aQ (hbox); have GW101001 := aQ ((by rw [hg]; exact (below_size (pB HB.out)) : w.heap.size ≤ gb101001)); have GE101001 := aQ ((by rw [hg]; exact (below_size (pB HB.out)) : w.heap.size ≤ gb101001)); replace HB := aQ (below_step (pB HB.out) hb); clear hb hbox hg) | ((with_reducible refine gate_callee (f := 142) rfl ?_); refine goesL_ (some 9) rfl rfl Try.func142 (by kernel_rfl) rfl #[.slice A1 l1.length c1] rfl lm ?_; (with_reducible refine (impl_MaximalSets.calls k _ _ l1 t101002 _ ?side1 ?side2 A3.out).mono ?_); (case side1 => exact pC (Kd.C_below HR1.out HB.out)); (case side2 => exact HC1.out); rintro e w16 ⟨v101003, rfl, ho0, hb⟩; refine ⟨_, rfl, ?_⟩; have HO101004 := aQ (Kd.R_lower ho0 (below_size (pB1 HB.out GE101001.out))); replace BK101001 := aQ (blk_below (g := gb101001) (o := .cells #[.int .i64 0, .slice none 0 0] 28 (0, 0)) (pk BK101001.out) hb); replace HB := aQ (below_step (pB1 HB.out GE101001.out) hb); (try clear hb); (try clear ho0); obtain ⟨Ao17, co17, eo17⟩ := Kd.R_slice HO101004.out; subst eo17) | ((with_reducible refine gate_dst (N := 6) rfl ?_); refine box_event ?hg (N := 6) ?hd (cs := #[.int .i64 0, .slice none 0 0]) (t := 28) ?hr ?_; (case hd => rfl); (case hg => rfl); (case hr => first | (go_simp; done) | (go_simp; rfl)); intro gb101005 hg w18 hbox hb; replace HO101004 := aQ (Kd.R_below (pR HO101004.out) hb); have BK101005 := aQ (hbox); have GW101005 := aQ ((by rw [hg]; exact (below_size (pB1 HB.out GE101001.out)) : w.heap.size ≤ gb101005)); have GE101005 := aQ ((by rw [hg]; exact (below_size (pB1 HB.out GE101001.out)) : w.heap.size ≤ gb101005)); replace HB := aQ (below_step (pB1 HB.out GE101001.out) hb); have NB101001_101005 := aQ ((by rw [hg]; exact Nat.ne_of_lt (blk_lt (g := gb101001) (o := .cells #[.int .i64 0, .slice none 0 0] 28 (0, 0)) (pk BK101001.out)) : gb101001 ≠ gb101005)); have NB101005_101001 := aQ ((by rw [hg]; exact Nat.ne_of_gt (blk_lt (g := gb101001) (o := .cells #[.int .i64 0, .slice none 0 0] 28 (0, 0)) (pk BK101001.out)) : gb101005 ≠ gb101001)); replace BK101001 := aQ (blk_below (g := gb101001) (o := .cells #[.int .i64 0, .slice none 0 0] 28 (0, 0)) (pk BK101001.out) hb); clear hb hbox hg; have hnb19 := NB101005_101001.out; have hnc19 := NB101001_101005.out; have hcz20_0 := bc (v := (.int .i64 0)) BK101005.out 0; have hcz20_1 := bc (v := (.slice none 0 0)) BK101005.out 1; have hfz20_0 := blk_frozen BK101005.out 0; have hfz20_1 := blk_frozen BK101005.out 1) | ((with_reducible refine gate_callee (f := 62) rfl ?_); refine goesL_ (some 12) rfl rfl Try.func62 (by kernel_rfl) rfl #[.agg #[.int .i64 a0, .slice Ao17 t101002.length co17]] rfl lm ?_; (with_reducible refine (impl_IsMatroid.calls k a0 _ _ t101002 false _ ?side1 ?side2 A4.out).mono ?_); (case side1 => refine (Kd.R_reads' (e := 3) (base := w.heap.size) (ok := fun k_ => True) (n := t101002.length) (c := co17) ?_).2.2; exact (by (with_reducible repeat (first | apply Kd.R_alloc | apply Kd.R_drewN | apply Kd.R_drew)); exact (Kd.R_mono (Kd.R_far (p := ⟨gb101005, 1, none⟩) (Kd.R_far (p := ⟨gb101005, 0, none⟩) (Kd.R_types HO101004.out BK101005.out (by decide)) (fun _ hk => hk.2) (.int .i64 a0)) (fun _ hk => hk.2) (.slice Ao17 t101002.length co17)) (fun _ h_ => h_.1)))); (case side2 => exact (Kd.R_reads' HO101004.out).2.1); rintro e w21 ⟨rfl, hb⟩; refine ⟨_, rfl, ?_⟩; replace HO101004 := aQ (Kd.R_below (by (with_reducible repeat (first | apply Kd.R_alloc | apply Kd.R_drewN | apply Kd.R_drew)); exact (Kd.R_mono (Kd.R_far (p := ⟨gb101005, 1, none⟩) (Kd.R_far (p := ⟨gb101005, 0, none⟩) (Kd.R_types HO101004.out BK101005.out (by decide)) (fun _ hk => hk.2) (.int .i64 a0)) (fun _ hk => hk.2) (.slice Ao17 t101002.length co17)) (fun _ h_ => h_.1))) hb); replace BK101001 := aQ (blk_below (g := gb101001) (o := .cells #[.int .i64 0, .slice none 0 0] 28 (0, 0)) (by (with_reducible repeat (first | refine blk_drewN ?_ _ | refine blk_drew ?_ | refine blk_alloc ?_ _)); refine blk_far ?_ NB101001_101005.out _; (with_reducible repeat (first | refine blk_drewN ?_ _ | refine blk_drew ?_ | refine blk_alloc ?_ _)); refine blk_far ?_ NB101001_101005.out _; (with_reducible repeat (first | refine blk_drewN ?_ _ | refine blk_drew ?_ | refine blk_alloc ?_ _)); exact BK101001.out) hb); replace BK101005 := aQ (blk_below (g := gb101005) (o := .cells #[.int .i64 a0, .slice Ao17 t101002.length co17] 28 (0, 0)) (by (with_reducible repeat (first | refine blk_drewN ?_ _ | refine blk_drew ?_ | refine blk_alloc ?_ _)); refine blk_put (cs := #[.int .i64 a0, .slice none 0 0]) ?_ 1 _ rfl; (with_reducible repeat (first | refine blk_drewN ?_ _ | refine blk_drew ?_ | refine blk_alloc ?_ _)); refine blk_put (cs := #[.int .i64 0, .slice none 0 0]) ?_ 0 _ rfl; (with_reducible repeat (first | refine blk_drewN ?_ _ | refine blk_drew ?_ | refine blk_alloc ?_ _)); exact BK101005.out) hb); replace HB := aQ (below_step (pB2 HB.out GE101001.out GE101005.out) hb); (try clear hb); (try clear hk); have hcz22_0 := bc (v := (.int .i64 0)) BK101001.out 0; have hcz22_1 := bc (v := (.slice none 0 0)) BK101001.out 1; have hfz22_0 := blk_frozen BK101001.out 0; have hfz22_1 := blk_frozen BK101001.out 1))
  refine bodyPost_ret (results_ct rfl _ _ gb101001 28 #[.int .i64 0, .slice none 0 0] (0, 0) _ rfl (by (with_reducible repeat (first | refine blk_drewN ?_ _ | refine blk_drew ?_ | refine blk_alloc ?_ _)); refine blk_put (cs := #[.int .i64 0, .slice none 0 0]) ?_ 1 _ rfl; (with_reducible repeat (first | refine blk_drewN ?_ _ | refine blk_drew ?_ | refine blk_alloc ?_ _)); refine blk_put (cs := #[.int .i64 0, .slice none 0 0]) ?_ 0 _ rfl; (with_reducible repeat (first | refine blk_drewN ?_ _ | refine blk_drew ?_ | refine blk_alloc ?_ _)); exact BK101001.out) Try.underlying28 rfl (by kernel_rfl)) rfl ?_
  exact ⟨_, by first | rfl | (simp [errW_none, errW_some] <;> rfl) | (simp [*, errW_none, errW_some] <;> rfl), by first | exact Kd.R_nil _ _ _ _ _ | exact Kd.N_nil _ _ _ _ _ | exact Kd.V_nil _ _ _ _ _ | exact Kd.Q_nil _ _ _ _ _ | exact Kd.S_nil _ _ _ _ _, pB2 HB.out GE101001.out GE101005.out⟩
/-! ### impl_FullSet: function 83 -/
def impl_FullSet.f (a0 : Int) : Option (Int) := (impl_isSize.f a0).bind fun t84001 => (if t84001 = true then (if 0 ≤ a0 then (some (wrap64 ((shl .i64 1 a0) - 1))) else (none)) else (some 0))
set_option maxHeartbeats 8000000 in
set_option maxRecDepth 100000 in
theorem impl_FullSet.calls (a0 : Int) (r : Int) (w : World) (h : impl_FullSet.f a0 = some r) :
  Calls Try.prog 83 #[.int .i64 a0] w fun e w' => e = .returned (.int .i64 r) ∧ Drawn0 w w' := by
 have H : ((impl_isSize.f a0).bind fun t84001 => (if t84001 = true then (if 0 ≤ a0 then (some (wrap64 ((shl .i64 1 a0) - 1))) else (none)) else (some 0))) = some r := h
 clear h
 replace H := Option.bind_eq_some_iff.mp H
 obtain ⟨t84001, A20, H⟩ := H
 replace H : (if t84001 = true then (if 0 ≤ a0 then (some (wrap64 ((shl .i64 1 a0) - 1))) else (none)) else (some 0)) = some r := H
 have A2 := aQ A20
 clear A20
 by_cases c3 : t84001 = true
 ·subst c3
  have H1 : (if 0 ≤ a0 then (some (wrap64 ((shl .i64 1 a0) - 1))) else (none)) = some r := by rw [if_pos rfl] at H; exact H
  clear H
  have H := H1
  clear H1
  by_cases c4 : 0 ≤ a0
  ·rw [if_pos c4] at H
   have c4b0 := eq_true c4
   have c4b1 : decide (0 ≤ a0) = true := decide_eq_true c4
   clear c4
   obtain ⟨ji5, hji5⟩ : ∃ j_ : Int, (shl .i64 1 a0) = j_ := ⟨_, rfl⟩
   replace H : (some (wrap64 ((ji5) - 1))) = some r := by first | (rw [hji5] at H; exact H) | (simp only [hji5] at H ⊢; exact H)
   (try rw [hji5] at A2)
   have hji5_ : (IntKind.i64.wrap (1 * 2 ^ min a0.toNat 64)) = ji5 := hji5
   have hji5z : a0 ≤ 64 → (IntKind.i64.wrap (1 * 2 ^ a0.toNat)) = ji5 := shl_small hji5
   have hji5u : (IntKind.i64.wrap (2 ^ min a0.toNat 64)) = ji5 := by have h_ := hji5_; rw [Int.one_mul] at h_; exact h_
   have hji5v : a0 ≤ 64 → (IntKind.i64.wrap (2 ^ a0.toNat)) = ji5 := fun hle_ => by have h_ := hji5z hle_; rw [Int.one_mul] at h_; exact h_
   have hji5y : (wrap64 (1 * 2 ^ min a0.toNat 64)) = ji5 := (i64_w _).symm.trans hji5_
   have hji5x : a0 ≤ 64 → (wrap64 (1 * 2 ^ a0.toNat)) = ji5 := fun h_ => (i64_w _).symm.trans (hji5z h_)
   obtain rfl := Option.some.inj H
   go_enter Try.func83, Try.ntmps83
   go_wp2_with (first | ((with_reducible refine gate_callee (f := 137) rfl ?_); refine goesL_ (some 4) rfl rfl Try.func137 (by kernel_rfl) rfl #[.int .i64 a0] rfl lm ?_; (with_reducible refine (impl_isSize.calls a0 true _ A2.out).mono ?_); rintro e w' ⟨rfl, ⟨nd, rfl⟩⟩; refine ⟨_, rfl, ?_⟩))
   go_ret
   exact ⟨by first | rfl | (simp; done) | (simp only [← hji5] <;> (first | rfl | simp)) | (simp [*]; done), rd_⟩
  ·rw [if_neg c4] at H
   exact absurd H (by simp)
 ·replace c3 := Bool.eq_false_iff.mpr c3
  subst c3
  have H1 : (some 0) = some r := by rw [if_neg (show ¬ (false = true) by decide)] at H; exact H
  clear H
  have H := H1
  clear H1
  obtain rfl := Option.some.inj H
  go_enter Try.func83, Try.ntmps83
  go_wp2_with (first | ((with_reducible refine gate_callee (f := 137) rfl ?_); refine goesL_ (some 4) rfl rfl Try.func137 (by kernel_rfl) rfl #[.int .i64 a0] rfl lm ?_; (with_reducible refine (impl_isSize.calls a0 false _ A2.out).mono ?_); rintro e w' ⟨rfl, ⟨nd, rfl⟩⟩; refine ⟨_, rfl, ?_⟩))
  go_ret
  exact ⟨rs_, rd_⟩
end Go.Proofs.Ytimkekeaeojpkaa.A
namespace Go.Proofs.Ytimkekeaeojpkaa.A
open Go.RowKit Go.Proofs.YtimkekeaeojpkaaW.PrintWords Go.Proofs.YtimkekeaeojpkaaW.PrintLast Go.Proofs.YtimkekeaeojpkaaW.PrintMore Go.Proofs.Ytimkekeaeojpkaa.Z
attribute [local go_sem] max2_int min2_int max_two min_two max_three min_three max_four min_four
set_option linter.unusedVariables false
set_option linter.unusedSimpArgs false
/-! ### impl_setsOf: function 101 (by hand) -/
set_option maxHeartbeats 4000000 in
set_option maxRecDepth 100000 in
theorem setsOf_walk (g : Int → Option Bool) (K : Nat) (lb : Array Value) (eg : ∀ args w, (callFunc K args).run Try.prog w = .ok (.enter K args) w) (n m : Int) (r : List Int) (w : World)
  (hf : impl_FullSet.f n = some m) (h0 : 0 ≤ m) (h1 : m ≤ 1000) (h : setsO g m = some r)
  (hp : ∀ (W : World) (x : Int) (b : Bool), Below w.heap.size w W → g x = some b → Calls Try.prog K (#[.int .i64 x] ++ lb) W fun e w' => e = .returned (.bool b) ∧ Below W.heap.size W w') :
  Calls Try.prog 101 #[.int .i64 n, .func (.func K) #[] lb] w fun e w' => ∃ v0_ : Value, e = .returned (v0_) ∧ Kd.R (Kd.int .i64) 3 w' w.heap.size (fun _ => True) v0_ r ∧ Below w.heap.size w w' := by
 have HB := aQ (Below.refl w.heap.size w)
 have HP := Lib.hid hp
 have HF := aQ hf
 have HI := Lib.hid h
 clear hf h hp
 go_enter Try.func101, Try.ntmps101
 go_wp2_with (first | ((with_reducible refine gate_dst (N := 7) rfl ?_); refine Kd.R_lit (Kd.int .i64) _ 3 ?hg (N := 7) ?hd (xs := ([] : List Int)) (inner := []) (ok := fun _ => True) (okp := fun _ => True) ?hr ?hp (fun _ hk => hk) trivial (Below.refl _ _) (Nat.le_refl _) (by simp) ?_; (case hd => rfl); (case hg => rfl); (case hr => first | (go_simp; done) | (go_simp; rfl)); (case hp => exact (Reps.none _ _)); intro v9_ w2 ho3 hb hg_ hnew_; clear hg_ hnew_; have HO := aQ (Kd.R_lower ho3 (below_size (pB HB.out))); replace HB := aQ (below_step (pB HB.out) hb); clear hb ho3))
 go_loopg [5, 6] (m + 1).toNat (fun gg v5 v6 wr => ∃ (x : Int) (acc rest : List Int), v6 = .int .i64 x ∧ Aside0 (0 ≤ x ∧ x ≤ m + 1) ∧ Aside0 ((m + 1).toNat - x.toNat ≤ gg) ∧ Aside0 (acc.length ≤ x.toNat) ∧ Aside0 (filterO g (fromTo x m) = some rest) ∧ Aside0 (acc ++ rest = r) ∧ Aside0 (Kd.R (Kd.int .i64) 3 wr w.heap.size (fun _ => True) v5 acc) ∧ Aside0 (Below w.heap.size w wr))
 case atStart => exact ⟨0, [], r, rfl, ⟨by omega⟩, ⟨by omega⟩, ⟨by simp⟩, ⟨HI.out⟩, ⟨rfl⟩, ⟨pR HO.out⟩, ⟨pB HB.out⟩⟩
 case round =>
  clear HI HO HB
  obtain ⟨x, acc, rest, rfl, HX, HG, HA, HI, HE, HO, HB⟩ := hrel
  by_cases hlt : x ≤ m
  ·have l1 : decide (x ≤ m) = true := decide_eq_true hlt
   have hI := HI.out
   rw [fromTo_cons HX.out.1 hlt] at hI
   simp only [filterO] at hI
   obtain ⟨b, hgb, hI⟩ := Option.bind_eq_some_iff.1 hI
   obtain ⟨ys, hys, hI⟩ := Option.bind_eq_some_iff.1 hI
   have HG2 := Lib.hid hgb
   have HY := Lib.hid hys
   have HC := Lib.hid hI
   have E1 := Lib.hid (wrap64_of (n := x + 1) (by have := HX.out; omega) (by omega))
   have Q1 := aQ hlt
   clear HI hgb hys hI
   replace hlt := eq_true hlt
   go_wp2_with (first | (go_at_call 83; (with_reducible refine (impl_FullSet.calls n m _ HF.out).mono ?_); rintro e w' ⟨rfl, ⟨nd, rfl⟩⟩))
   refine (HP.out _ x b (pB HB.out) HG2.out).mono ?_
   rintro e w3_ ⟨rfl, hb⟩
   have n0_ := aQ (Kd.R_below (pR HO.out) hb)
   have n1_ := aQ (below_step (pB HB.out) hb)
   clear HO HB hb
   have HO := n0_
   have HB := n1_
   clear n0_ n1_ HG2
   have hc := HC.out
   clear HC
   cases b with
   | true =>
    rw [if_pos rfl] at hc
    simp only [Option.some.injEq] at hc
    have HR2 := Lib.hid hc
    have HLM := aQ (show acc.length < 17592186044416 by have := HA.out; have := HX.out; have := Q1.out; omega)
    clear hc
    go_wp2_with (first | ((with_reducible refine gate_builtin (b := .append) (xs := #[.tmp 17, .tmp 19]) rfl ?_); at_builtin; refine Kd.R_append (Kd.int .i64) (w0 := w) w.heap.size rfl (.tmp 17) (.tmp 19) 22 3 (.int .i64 0) 8 rfl Try.underlying22 info3 rfl (by decide) (by omega) u5 acc x [.int .i64 x] (fun _ => True) (fun _ => False) rfl rfl ?aP (fun _ hk => hk.elim) ?aF ?aO ?aB ?aS ?aL ?_; (case aP => exact rfl); (case aB => exact (pB HB.out)); (case aF => exact (fun _ _ => trivial)); (case aO => exact (pR HO.out)); (case aS => exact (below_size (pB HB.out))); (case aL => have := HLM.out; omega); intro v8_ w8 ho hb hg hat; replace HB := aQ (hb); replace HO := aQ (ho); clear ho hb hg hat))
    go_roundg ((m + 1).toNat - (x + 1).toNat)
    case measure => have := HG.out; have := HX.out; have := Q1.out; omega
    case rel =>
     refine ⟨x + 1, acc ++ [x], ys, by rw [E1.out], ⟨by have := HX.out; have := Q1.out; omega⟩, ⟨Nat.le_refl _⟩, ⟨by rw [List.length_append, List.length_singleton]; have := HA.out; have := HX.out; omega⟩, ⟨HY.out⟩, ⟨by rw [List.append_assoc]; have h1 := HR2.out; have h2 := HE.out; rw [← h1] at h2; exact h2⟩, ⟨pR HO.out⟩, ⟨pB HB.out⟩⟩
   | false =>
    rw [if_neg (by decide)] at hc
    simp only [Option.some.injEq] at hc
    have HR2 := Lib.hid hc
    clear hc
    go_wp2
    go_roundg ((m + 1).toNat - (x + 1).toNat)
    case measure => have := HG.out; have := HX.out; have := Q1.out; omega
    case rel =>
     refine ⟨x + 1, acc, ys, by rw [E1.out], ⟨by have := HX.out; have := Q1.out; omega⟩, ⟨Nat.le_refl _⟩, ⟨by have := HA.out; have := HX.out; omega⟩, ⟨HY.out⟩, ⟨by have h1 := HR2.out; have h2 := HE.out; rw [← h1] at h2; exact h2⟩, ⟨pR HO.out⟩, ⟨pB HB.out⟩⟩
  ·have l1 : decide (x ≤ m) = false := decide_eq_false hlt
   have hI := HI.out
   rw [fromTo_end HX.out.1 hlt] at hI
   simp only [filterO, Option.some.injEq] at hI
   have hE := HE.out
   rw [← hI, List.append_nil] at hE
   subst hE
   clear HI hI hlt HE
   go_wp2_with (first | (go_at_call 83; (with_reducible refine (impl_FullSet.calls n m _ HF.out).mono ?_); rintro e w' ⟨rfl, ⟨nd, rfl⟩⟩))
   go_ret
   exact ⟨_, rs_, by (with_reducible repeat (first | apply Kd.R_alloc | apply Kd.R_drewN | apply Kd.R_drew)); exact HO.out, pB HB.out⟩
end Go.Proofs.Ytimkekeaeojpkaa.A
namespace Go.Proofs.Ytimkekeaeojpkaa.A
open Go.RowKit Go.Proofs.YtimkekeaeojpkaaW.PrintWords Go.Proofs.YtimkekeaeojpkaaW.PrintLast Go.Proofs.YtimkekeaeojpkaaW.PrintMore
attribute [local go_sem] max2_int min2_int max_two min_two max_three min_three max_four min_four
set_option linter.unusedVariables false
set_option linter.unusedSimpArgs false
/-! ### impl_assign: function 103 -/
mutual
def impl_assign.l0 : Nat → List Int → List Int → List Int → List Int → Int → Int → Option (List Int × Bool)
 | 0, _, _, _, _, _, _ => none
 | k + 1, x0, x1, x2, x18, x19, x20 => if x20 < x19 then (if 0 ≤ x20 then (if x20 < (x18.length : Int) then ((slices_Contains_int_int.f k x2 x20).bind fun t104002 => (if t104002 = true then (impl_assign.j1 k x0 x1 x2 x20 x18 x19 x20 true) else (if 0 ≤ (x2.length : Int) then (if (x2.length : Int) < (x1.length : Int) then ((impl_HasElement.f (rd x18 x20) (rd x1 (x2.length : Int))).bind fun t104004 => (impl_assign.j1 k x0 x1 x2 x20 x18 x19 x20 (!t104004))) else (none)) else (none)))) else (none)) else (none)) else (some (([] : List Int), false))
def impl_assign.j1 : Nat → List Int → List Int → List Int → Int → List Int → Int → Int → Bool → Option (List Int × Bool)
 | 0, _, _, _, _, _, _, _, _ => none
 | k + 1, x0, x1, x2, x8, x18, x19, x20, x37 => if x37 = true then (impl_assign.l0 k x0 x1 x2 x18 x19 (wrap64 (x20 + 1))) else ((some (([] : List Int) : List Int)).bind fun y104005 => (if y104005.length + x2.length < 17592186044416 then ((some (y104005 ++ x2 : List Int)).bind fun y104008 => (if y104008.length < 17592186044416 then ((impl_assign.f k x0 x1 (y104008 ++ [x8])).bind fun bt104014 => (if bt104014.2 = true then (some (bt104014.1, true)) else (impl_assign.l0 k x0 x1 x2 x18 x19 (wrap64 (x20 + 1))))) else (none))) else (none)))
def impl_assign.f : Nat → List Int → List Int → List Int → Option (List Int × Bool)
 | 0, _, _, _ => none
 | k + 1, l0, l1, l2 => if (l2.length : Int) = (l1.length : Int) then (some (l2, true)) else (impl_assign.l0 k l0 l1 l2 l0 (l0.length : Int) 0)
end
theorem impl_assign.mono_l : ∀ k, (∀ y0 y1 y2, LeO (impl_assign.f k y0 y1 y2) (impl_assign.f (k + 1) y0 y1 y2)) ∧ (∀ y0 y1 y2 y3 y4 y5, LeO (impl_assign.l0 k y0 y1 y2 y3 y4 y5) (impl_assign.l0 (k + 1) y0 y1 y2 y3 y4 y5)) ∧ (∀ y0 y1 y2 y3 y4 y5 y6 y7, LeO (impl_assign.j1 k y0 y1 y2 y3 y4 y5 y6 y7) (impl_assign.j1 (k + 1) y0 y1 y2 y3 y4 y5 y6 y7))
 | 0 => ⟨fun _ _ _ r h => by simp [impl_assign.f] at h, fun _ _ _ _ _ _ r h => by simp [impl_assign.l0] at h, fun _ _ _ _ _ _ _ _ r h => by simp [impl_assign.j1] at h⟩
 | k + 1 => by
  obtain ⟨ih0, ih1, ih2⟩ := impl_assign.mono_l k
  refine ⟨?_, ?_, ?_⟩
  ·intro y0 y1 y2
   unfold impl_assign.f
   repeat' first
   | (with_reducible exact ih0 _ _ _)
   | (with_reducible exact ih1 _ _ _ _ _ _)
   | (with_reducible exact ih2 _ _ _ _ _ _ _ _)
   | (with_reducible exact slices_Contains_int_int.mono _ _ _)
   | (with_reducible exact LeO.refl _)
   | (with_reducible exact LeO.none _)
   | (with_reducible refine LeO.ite ?_ ?_)
   | (with_reducible refine LeO.bind ?_ (fun _ => ?_))
   | exact ih0 _ _ _
   | exact ih1 _ _ _ _ _ _
   | exact ih2 _ _ _ _ _ _ _ _
   | exact slices_Contains_int_int.mono _ _ _
   | exact LeO.none _
   | refine LeO.ite ?_ ?_
   | refine LeO.bind ?_ (fun _ => ?_)
  ·intro y0 y1 y2 y3 y4 y5
   unfold impl_assign.l0
   repeat' first
   | (with_reducible exact ih0 _ _ _)
   | (with_reducible exact ih1 _ _ _ _ _ _)
   | (with_reducible exact ih2 _ _ _ _ _ _ _ _)
   | (with_reducible exact slices_Contains_int_int.mono _ _ _)
   | (with_reducible exact LeO.refl _)
   | (with_reducible exact LeO.none _)
   | (with_reducible refine LeO.ite ?_ ?_)
   | (with_reducible refine LeO.bind ?_ (fun _ => ?_))
   | exact ih0 _ _ _
   | exact ih1 _ _ _ _ _ _
   | exact ih2 _ _ _ _ _ _ _ _
   | exact slices_Contains_int_int.mono _ _ _
   | exact LeO.none _
   | refine LeO.ite ?_ ?_
   | refine LeO.bind ?_ (fun _ => ?_)
  ·intro y0 y1 y2 y3 y4 y5 y6 y7
   unfold impl_assign.j1
   repeat' first
   | (with_reducible exact ih0 _ _ _)
   | (with_reducible exact ih1 _ _ _ _ _ _)
   | (with_reducible exact ih2 _ _ _ _ _ _ _ _)
   | (with_reducible exact slices_Contains_int_int.mono _ _ _)
   | (with_reducible exact LeO.refl _)
   | (with_reducible exact LeO.none _)
   | (with_reducible refine LeO.ite ?_ ?_)
   | (with_reducible refine LeO.bind ?_ (fun _ => ?_))
   | exact ih0 _ _ _
   | exact ih1 _ _ _ _ _ _
   | exact ih2 _ _ _ _ _ _ _ _
   | exact slices_Contains_int_int.mono _ _ _
   | exact LeO.none _
   | refine LeO.ite ?_ ?_
   | refine LeO.bind ?_ (fun _ => ?_)
theorem impl_assign.mono : ∀ a0 a1 a2 k, LeO (impl_assign.f k a0 a1 a2) (impl_assign.f (k + 1) a0 a1 a2) := by
 intro a0 a1 a2 k
 obtain ⟨ih0, ih1, ih2⟩ := impl_assign.mono_l k
 exact ih0 a0 a1 a2
set_option maxHeartbeats 8000000 in
set_option maxRecDepth 100000 in
theorem impl_assign.calls (k : Nat) : ∀ (A0 : Option Addr) (c0 : Nat) (l0 : List Int) (A1 : Option Addr) (c1 : Nat) (l1 : List Int) (P2_ : Nat → Prop) (u9000_ : Value) (l2 : List Int) (r1 : List Int) (r2 : Bool) (w0 w : World) (hB : Below w0.heap.size w0 w) (hr0 : ∀ W_, Kept w W_ (fun k_ => P2_ k_) → Kd.C (Kd.int .i64) W_ A0 l0.length l0) (hc0 : l0.length ≤ c0) (hr1 : ∀ W_, Kept w W_ (fun k_ => P2_ k_) → Kd.C (Kd.int .i64) W_ A1 l1.length l1) (hc1 : l1.length ≤ c1) (ho2 : Kd.R (Kd.int .i64) 3 w w0.heap.size P2_ u9000_ l2) (h : impl_assign.f k l0 l1 l2 = some (r1, r2)),
  Calls Try.prog 103 #[.slice A0 l0.length c0, .slice A1 l1.length c1, u9000_] w fun e w' => ∃ v0_ : Value, e = .returned (.tuple #[v0_, .bool r2]) ∧ Kd.R (Kd.int .i64) 3 w' w0.heap.size (fun k_ => (P2_ k_ ∨ w.heap.size ≤ k_)) v0_ r1 ∧ Below w0.heap.size w0 w' ∧ Kept w w' (fun k_ => P2_ k_) := by
 induction k using Nat.strongRecOn with
 | _ k ih =>
 intro A0 c0 l0 A1 c1 l1 P2_ u9000_ l2 r1 r2 w0 w hB hr0 hc0 hr1 hc1 ho2 h
 cases k with
 | zero => exact absurd h (by simp [impl_assign.f])
 | succ k =>
 simp only [impl_assign.f] at h
 have HR0 := aQ hr0
 have HC0 := aQ hc0
 clear hr0 hc0
 have HR1 := aQ hr1
 have HC1 := aQ hc1
 clear hr1 hc1
 have HO2 := aQ (show Kd.R (Kd.int .i64) 3 w w0.heap.size (fun k_ => (P2_ k_ ∨ w.heap.size ≤ k_)) u9000_ l2 from Kd.R_mono ho2 (fun k_ hk => (.inl hk)))
 have HK := aQ (Kept.refl w (fun k_ => P2_ k_))
 have HW0 := aQ hB.size
 have HB := aQ hB
 clear hB
 have H : (if (l2.length : Int) = (l1.length : Int) then (some (l2, true)) else (impl_assign.l0 k l0 l1 l2 l0 (l0.length : Int) 0)) = some (r1, r2) := h
 clear h
 by_cases c4 : (l2.length : Int) = (l1.length : Int)
 ·rw [if_pos c4] at H
  have c4b0 : ((l2.length : Int) == (l1.length : Int)) = true := beq_iff_eq.mpr c4
  have c4b1 : ((l2.length : Int) != (l1.length : Int)) = false := bne_eq_false_iff_eq.mpr c4
  have c4b2 : (l2.length == l1.length) = true := by first | simpa using c4 | (simp at c4 ⊢; omega)
  clear c4
  simp only [Option.some.injEq, Prod.mk.injEq] at H
  obtain ⟨rfl, rfl⟩ := H
  obtain ⟨Ao5, co5, eo5⟩ := Kd.R_slice HO2.out
  subst eo5
  go_enter Try.func103, Try.ntmps103
  go_wp2
  go_ret2
  exact ⟨_, by first | rfl | (simp [errW_none, errW_some] <;> rfl) | (simp [*, errW_none, errW_some] <;> rfl), by (with_reducible repeat (first | apply Kd.R_alloc | apply Kd.R_drewN | apply Kd.R_drew)); exact HO2.out, pB HB.out, by repeat (first | (with_reducible first | exact HK.out | apply Kept.alloc | apply Kept.drewN | apply Kept.drew) | exact HK.out)⟩
 ·rw [if_neg c4] at H
  have c4b0 : ((l2.length : Int) == (l1.length : Int)) = false := beq_eq_false_iff_ne.mpr c4
  have c4b1 : ((l2.length : Int) != (l1.length : Int)) = true := bne_iff_ne.mpr c4
  have c4b2 : (l2.length == l1.length) = false := by first | simpa using c4 | (simp at c4 ⊢; omega)
  have H' := aQ H
  clear H
  obtain ⟨Ao6, co6, eo6⟩ := Kd.R_slice HO2.out
  subst eo6
  go_enter Try.func103, Try.ntmps103
  go_wp2
  go_loopg [20] k (fun kq v20 w' => ∃ (x20_1 : Int), v20 = .int .i64 x20_1 ∧ Aside0 (impl_assign.l0 kq l0 l1 l2 l0 (l0.length : Int) x20_1 = some (r1, r2)) ∧ Aside0 (kq ≤ k) ∧ Aside0 (Kd.R (Kd.int .i64) 3 w' w0.heap.size (fun k_ => (P2_ k_ ∨ w.heap.size ≤ k_)) (.slice Ao6 l2.length co6) l2) ∧ Aside0 (Kept w w' (fun k_ => P2_ k_)) ∧ Aside0 (Below w0.heap.size w0 w'))
  case atStart => exact ⟨(0), rs_, H', ⟨Nat.le_refl _⟩, ⟨pR HO2.out⟩, ⟨by repeat (first | (with_reducible first | exact HK.out | apply Kept.alloc | apply Kept.drewN | apply Kept.drew) | exact HK.out)⟩, ⟨pB HB.out⟩⟩
  case round =>
   clear H'
   try clear c1
   try clear p2
   try clear c4
   try clear c4b0
   try clear c4b1
   try clear c4b2
   obtain ⟨x20_1, rfl, HA, HK1, HO_2, HK, HB⟩ := hrel
   cases gk with
   | zero => exact absurd HA.out (by simp [impl_assign.l0])
   | succ k1 =>
    have H := HA.out
    clear HA
    simp only [impl_assign.l0] at H
    by_cases c7 : x20_1 < (l0.length : Int)
    ·rw [if_pos c7] at H
     have c7b0 : decide (x20_1 < (l0.length : Int)) = true := decide_eq_true c7
     clear c7
     by_cases c8 : 0 ≤ x20_1
     ·rw [if_pos c8] at H
      have c8b0 : decide (0 ≤ x20_1) = true := decide_eq_true c8
      clear c8
      by_cases c9 : x20_1 < (l0.length : Int)
      ·rw [if_pos c9] at H
       have c9b0 : decide (x20_1 < (l0.length : Int)) = true := decide_eq_true c9
       clear c9
       have HC10 := aQ H
       clear H
       have p104001 : 0 ≤ (x20_1 : Int) := of_decide_eq_true as_
       have q104001 : x20_1 < (l0.length : Int) := of_decide_eq_true as_
       obtain ⟨ad104001, e104001, hx104001_0⟩ := Kd.at_int (Kd.C_kept_now HR0.out HK.out) x20_1 p104001 q104001
       cases e104001
       replace p104001 := eq_true p104001
       replace q104001 := eq_true q104001
       go_upto_region 6 with (fail)
       go_cut [37] (fun v37 wc => ∃ (kq : Nat) (x37_9 : Bool), v37 = .bool x37_9 ∧ Aside0 (impl_assign.j1 kq l0 l1 l2 x20_1 l0 (l0.length : Int) x20_1 x37_9 = some (r1, r2)) ∧ Aside0 (kq ≤ k1) ∧ Aside0 (Kd.R (Kd.int .i64) 3 wc w0.heap.size (fun k_ => (P2_ k_ ∨ w.heap.size ≤ k_)) (.slice Ao6 l2.length co6) l2) ∧ Aside0 (Kept w wc (fun k_ => P2_ k_)) ∧ Aside0 (Below w0.heap.size w0 wc))
       case first =>
        have H := HC10.out
        clear HC10
        replace H := Option.bind_eq_some_iff.mp H
        obtain ⟨t104002, A110, H⟩ := H
        replace H : (if t104002 = true then (impl_assign.j1 k1 l0 l1 l2 x20_1 l0 (l0.length : Int) x20_1 true) else (if 0 ≤ (l2.length : Int) then (if (l2.length : Int) < (l1.length : Int) then ((impl_HasElement.f (rd l0 x20_1) (rd l1 (l2.length : Int))).bind fun t104004 => (impl_assign.j1 k1 l0 l1 l2 x20_1 l0 (l0.length : Int) x20_1 (!t104004))) else (none)) else (none))) = some (r1, r2) := H
        have A11 := aQ A110
        clear A110
        by_cases c12 : t104002 = true
        ·subst c12
         have H1 : (impl_assign.j1 k1 l0 l1 l2 x20_1 l0 (l0.length : Int) x20_1 true) = some (r1, r2) := by rw [if_pos rfl] at H; exact H
         clear H
         have H := H1
         clear H1
         have H' := aQ H
         clear H
         go_wp2_with (first | ((with_reducible refine gate_callee (f := 118) rfl ?_); refine goesL_ (some 27) rfl rfl Try.func118 (by kernel_rfl) rfl #[.slice Ao6 l2.length co6, .int .i64 x20_1] rfl lm ?_; (with_reducible refine (slices_Contains_int_int.calls k1 _ _ l2 x20_1 true _ ?side1 ?side2 A11.out).mono ?_); (case side1 => repeat (first | exact (Kd.R_reads' HO_2.out).2.2 | (with_reducible refine Kd.C_alloc ?_ _) | (with_reducible refine Kd.C_drewN ?_ _) | (with_reducible refine Kd.C_drew ?_))); (case side2 => exact (Kd.R_reads' HO_2.out).2.1); rintro e w' ⟨rfl, ⟨nd, rfl⟩⟩; refine ⟨_, rfl, ?_⟩))
         go_meet
         case rel => exact ⟨_, (true), rs_, H', ⟨by have := HK1.out; first | omega | exact Nat.le_refl _⟩, ⟨pR HO_2.out⟩, ⟨by repeat (first | (with_reducible first | exact HK.out | apply Kept.alloc | apply Kept.drewN | apply Kept.drew) | exact HK.out)⟩, ⟨pB HB.out⟩⟩
        ·replace c12 := Bool.eq_false_iff.mpr c12
         subst c12
         have H1 : (if 0 ≤ (l2.length : Int) then (if (l2.length : Int) < (l1.length : Int) then ((impl_HasElement.f (rd l0 x20_1) (rd l1 (l2.length : Int))).bind fun t104004 => (impl_assign.j1 k1 l0 l1 l2 x20_1 l0 (l0.length : Int) x20_1 (!t104004))) else (none)) else (none)) = some (r1, r2) := by rw [if_neg (show ¬ (false = true) by decide)] at H; exact H
         clear H
         have H := H1
         clear H1
         by_cases c13 : 0 ≤ (l2.length : Int)
         ·rw [if_pos c13] at H
          have c13b0 : decide (0 ≤ (l2.length : Int)) = true := decide_eq_true c13
          have c13b1 : decide (0 ≤ l2.length) = true := decide_eq_true (by omega)
          clear c13
          (first | rw [c13b0] | (simp only [i64_w, i32_w]; rw [c13b0]) | skip)
          by_cases c14 : (l2.length : Int) < (l1.length : Int)
          ·rw [if_pos c14] at H
           have c14b0 : decide ((l2.length : Int) < (l1.length : Int)) = true := decide_eq_true c14
           have c14b1 : decide (l2.length < l1.length) = true := decide_eq_true (Int.ofNat_lt.mp c14)
           clear c14
           replace H := Option.bind_eq_some_iff.mp H
           obtain ⟨t104004, A150, H⟩ := H
           replace H : (impl_assign.j1 k1 l0 l1 l2 x20_1 l0 (l0.length : Int) x20_1 (!t104004)) = some (r1, r2) := H
           have A15 := aQ A150
           clear A150
           have H' := aQ H
           clear H
           go_wp2_with (first | ((with_reducible refine gate_callee (f := 118) rfl ?_); refine goesL_ (some 27) rfl rfl Try.func118 (by kernel_rfl) rfl #[.slice Ao6 l2.length co6, .int .i64 x20_1] rfl lm ?_; (with_reducible refine (slices_Contains_int_int.calls k1 _ _ l2 x20_1 false _ ?side1 ?side2 A11.out).mono ?_); (case side1 => repeat (first | exact (Kd.R_reads' HO_2.out).2.2 | (with_reducible refine Kd.C_alloc ?_ _) | (with_reducible refine Kd.C_drewN ?_ _) | (with_reducible refine Kd.C_drew ?_))); (case side2 => exact (Kd.R_reads' HO_2.out).2.1); rintro e w' ⟨rfl, ⟨nd, rfl⟩⟩; refine ⟨_, rfl, ?_⟩; have p104003 : 0 ≤ ((l2.length : Int) : Int) := of_decide_eq_true as_; have q104003 : (l2.length : Int) < (l1.length : Int) := of_decide_eq_true as_; obtain ⟨ad104003, e104003, hx104003_0⟩ := Kd.at_int (Kd.C_kept_now HR1.out HK.out) (l2.length : Int) p104003 q104003; cases e104003; (try simp only [Go.IntWalk.toNatUp] at hx104003_0); replace p104003 := eq_true p104003; replace q104003 := eq_true q104003) | (go_at_call 92; (with_reducible refine (impl_HasElement.calls (rd l0 x20_1) (rd l1 (l2.length : Int)) t104004 _ A15.out).mono ?_); rintro e w' ⟨rfl, ⟨nd, rfl⟩⟩))
           go_meet
           case rel => exact ⟨_, (!t104004), rs_, H', ⟨by have := HK1.out; first | omega | exact Nat.le_refl _⟩, ⟨pR HO_2.out⟩, ⟨by repeat (first | (with_reducible first | exact HK.out | apply Kept.alloc | apply Kept.drewN | apply Kept.drew) | exact HK.out)⟩, ⟨pB HB.out⟩⟩
          ·rw [if_neg c14] at H
           exact absurd H (by simp)
         ·rw [if_neg c13] at H
          exact absurd H (by simp)
       case rest =>
        clear HC10
        try clear c1
        try clear p1
        try clear q1
        try clear hx1
        try clear p2
        try clear c4
        try clear c4b0
        try clear c4b1
        try clear c4b2
        try clear c7
        try clear c7b0
        try clear c8
        try clear c8b0
        try clear c9
        try clear c9b0
        try clear c10
        try clear p10
        try clear q10
        try clear hx10
        try clear c11
        try clear c12
        try clear c13
        try clear c13b0
        try clear c13b1
        try clear c14
        try clear c14b0
        try clear c14b1
        try clear hx104001_0
        try clear hx104003_0
        try clear p104001
        try clear p104003
        try clear p2
        try clear q104001
        try clear q104003
        obtain ⟨kq, x37_9, rfl, HA, HJ9, HO_2, HK, HB⟩ := hcut
        cases kq with
        | zero => exact absurd HA.out (by simp [impl_assign.j1])
        | succ kj9 =>
         have H := HA.out
         clear HA
         simp only [impl_assign.j1] at H
         by_cases c16 : x37_9 = true
         ·subst c16
          have H1 : (impl_assign.l0 kj9 l0 l1 l2 l0 (l0.length : Int) (wrap64 (x20_1 + 1))) = some (r1, r2) := by rw [if_pos rfl] at H; exact H
          clear H
          have H := H1
          clear H1
          have H' := aQ H
          clear H
          go_wp2
          go_roundg kj9
          case measure => have := HK1.out; have := HJ9.out; omega
          case rel => exact ⟨(wrap64 (x20_1 + 1)), rs_, H', ⟨by have := HK1.out; have := HJ9.out; omega⟩, ⟨pR HO_2.out⟩, ⟨by repeat (first | (with_reducible first | exact HK.out | apply Kept.alloc | apply Kept.drewN | apply Kept.drew) | exact HK.out)⟩, ⟨pB HB.out⟩⟩
         ·replace c16 := Bool.eq_false_iff.mpr c16
          subst c16
          have H1 : ((some (([] : List Int) : List Int)).bind fun y104005 => (if y104005.length + l2.length < 17592186044416 then ((some (y104005 ++ l2 : List Int)).bind fun y104008 => (if y104008.length < 17592186044416 then ((impl_assign.f kj9 l0 l1 (y104008 ++ [x20_1])).bind fun bt104014 => (if bt104014.2 = true then (some (bt104014.1, true)) else (impl_assign.l0 kj9 l0 l1 l2 l0 (l0.length : Int) (wrap64 (x20_1 + 1))))) else (none))) else (none))) = some (r1, r2) := by rw [if_neg (show ¬ (false = true) by decide)] at H; exact H
          clear H
          have H := H1
          clear H1
          obtain ⟨y104005, hy104005⟩ : ∃ y_ : List Int, y_ = (([] : List Int)) := ⟨_, rfl⟩
          replace H : (if y104005.length + l2.length < 17592186044416 then ((some (y104005 ++ l2 : List Int)).bind fun y104008 => (if y104008.length < 17592186044416 then ((impl_assign.f kj9 l0 l1 (y104008 ++ [x20_1])).bind fun bt104014 => (if bt104014.2 = true then (some (bt104014.1, true)) else (impl_assign.l0 kj9 l0 l1 l2 l0 (l0.length : Int) (wrap64 (x20_1 + 1))))) else (none))) else (none)) = some (r1, r2) := by first | (rw [hy104005]; with_reducible exact H) | (have H2_ := (Option.bind_some _ _).symm.trans H; rw [hy104005]; with_reducible exact H2_) | (have H2_ := (Option.bind_some _ _).symm.trans H; with_reducible exact H2_) | with_reducible exact H | (rw [hy104005]; exact H) | exact H
          have Ny104005 := aQ hy104005
          clear hy104005
          by_cases c17 : y104005.length + l2.length < 17592186044416
          ·rw [if_pos c17] at H
           have LMc17 := aQ c17
           clear c17
           obtain ⟨y104008, hy104008⟩ : ∃ y_ : List Int, y_ = (y104005 ++ l2) := ⟨_, rfl⟩
           replace H : (if y104008.length < 17592186044416 then ((impl_assign.f kj9 l0 l1 (y104008 ++ [x20_1])).bind fun bt104014 => (if bt104014.2 = true then (some (bt104014.1, true)) else (impl_assign.l0 kj9 l0 l1 l2 l0 (l0.length : Int) (wrap64 (x20_1 + 1))))) else (none)) = some (r1, r2) := by first | (rw [hy104008]; with_reducible exact H) | (have H2_ := (Option.bind_some _ _).symm.trans H; rw [hy104008]; with_reducible exact H2_) | (have H2_ := (Option.bind_some _ _).symm.trans H; with_reducible exact H2_) | with_reducible exact H | (rw [hy104008]; exact H) | exact H
           have Ny104008 := aQ hy104008
           clear hy104008
           by_cases c18 : y104008.length < 17592186044416
           ·rw [if_pos c18] at H
            have LMc18 := aQ c18
            clear c18
            obtain ⟨y104011, hy104011⟩ : ∃ y_ : List Int, y_ = (y104008 ++ [x20_1]) := ⟨_, rfl⟩
            replace H : ((impl_assign.f kj9 l0 l1 y104011).bind fun bt104014 => (if bt104014.2 = true then (some (bt104014.1, true)) else (impl_assign.l0 kj9 l0 l1 l2 l0 (l0.length : Int) (wrap64 (x20_1 + 1))))) = some (r1, r2) := by first | (rw [hy104011]; with_reducible exact H) | (have H2_ := (Option.bind_some _ _).symm.trans H; rw [hy104011]; with_reducible exact H2_) | (have H2_ := (Option.bind_some _ _).symm.trans H; with_reducible exact H2_) | with_reducible exact H | (rw [hy104011]; exact H) | exact H
            have Ny104011 := aQ hy104011
            clear hy104011
            replace H := Option.bind_eq_some_iff.mp H
            obtain ⟨⟨t104014, t104017⟩, A190, H⟩ := H
            replace H : (if t104017 = true then (some (t104014, true)) else (impl_assign.l0 kj9 l0 l1 l2 l0 (l0.length : Int) (wrap64 (x20_1 + 1)))) = some (r1, r2) := H
            have A19 := aQ A190
            clear A190
            by_cases c20 : t104017 = true
            ·subst c20
             have H1 : (some (t104014, true)) = some (r1, r2) := by rw [if_pos rfl] at H; exact H
             clear H
             have H := H1
             clear H1
             simp only [Option.some.injEq, Prod.mk.injEq] at H
             obtain ⟨rfl, rfl⟩ := H
             go_wp2_with (first | ((with_reducible refine gate_dst (N := 41) rfl ?_); (try (refine gate_guard (by rfl) ?_; dsimp only)); refine Kd.R_lit (Kd.int .i64) _ 3 ?hg (N := 41) ?hd (xs := ([] : List Int)) (inner := []) (ok := fun _ => True) (okp := fun _ => True) ?hr ?hp (fun _ hk => hk) trivial (Below.refl _ _) (Nat.le_refl _) (by simp) ?_; (case hd => rfl); (case hg => rfl); (case hr => first | (go_simp; done) | (go_simp; rfl)); (case hp => exact (Reps.none _ _)); intro v104006 w21 ho22 hb hg_ hnew_; clear hg_ hnew_; (first | rw [← Ny104005.out] at ho22 | (simp only [Int.reduceToNat] at ho22; rw [← Ny104005.out] at ho22)); have HO104007 := aQ (Kd.R_lower (Kd.R_new' (Kd.R_newM (M := fun k_ => (P2_ k_ ∨ w.heap.size ≤ k_)) ho22 (by first | exact HK.out.1 | exact (show Kept w _ (fun k_ => P2_ k_) from by repeat (first | (with_reducible first | exact HK.out | apply Kept.alloc | apply Kept.drewN | apply Kept.drew) | exact HK.out)).1) (fun k_ h_ => .inr h_)) (Kd.R_lt (pR HO_2.out))) (below_size (pB HB.out))); replace HO_2 := aQ (Kd.R_elder' (pR HO_2.out) (Kd.R_base ho22) hb); replace HK := aQ (Kept.below (S := (fun k_ => P2_ k_)) (by repeat (first | (with_reducible first | exact HK.out | apply Kept.alloc | apply Kept.drewN | apply Kept.drew) | exact HK.out)) hb); replace HB := aQ (below_step (pB HB.out) hb); clear hb ho22) | ((with_reducible refine gate_builtin (b := .append) (xs := #[.tmp 41, .tmp 42]) rfl ?_); (try (refine gate_guard (by rfl) ?_; dsimp only)); at_builtin; refine Kd.R_append_rows (Kd.int .i64) (w0 := w0) w0.heap.size rfl (.tmp 41) (.tmp 42) 22 3 (.int .i64 0) 8 rfl Try.underlying22 info3 rfl (by decide) (by omega) v104006 y104005 l2 _ _ _ (fun k_ => (P2_ k_ ∨ w.heap.size ≤ k_) ∧ some k_ ≠ (.slice Ao6 l2.length co6 : Value).ownBlock) (fun _ => False) rfl rfl ?aO ?aR (fun _ _ h => h) (fun _ h => h.elim) ?aF ?aB ?aS ?aL ?_; (case aR => repeat (first | exact (Kd.R_reads' HO_2.out).2.2 | (with_reducible refine Kd.C_alloc ?_ _) | (with_reducible refine Kd.C_drewN ?_ _) | (with_reducible refine Kd.C_drew ?_))); (case aB => exact (pB HB.out)); (case aF => exact (fun k_ hk => ⟨(.inr (Nat.le_trans (by first | exact HK.out.1 | exact (show Kept w _ (fun k_ => P2_ k_) from by repeat (first | (with_reducible first | exact HK.out | apply Kept.alloc | apply Kept.drewN | apply Kept.drew) | exact HK.out)).1) hk)), Kd.fresh' (Kd.R_lt (pR HO_2.out)) k_ hk⟩)); (case aO => exact (by (with_reducible repeat (first | apply Kd.R_alloc | apply Kd.R_drewN | apply Kd.R_drew)); exact Kd.R_mono HO104007.out (fun _ hk => ⟨hk.1.1, hk.2⟩))); (case aS => exact (below_size (pB HB.out))); (case aL => have := LMc17.out; omega); intro v104009 w23 ho hb hg hat; rw [← Ny104008.out] at ho; replace HO_2 := aQ (Kd.R_after (ok := (fun k_ => (P2_ k_ ∨ w.heap.size ≤ k_))) (pR HO_2.out) hg hat); replace HB := aQ (hb); replace HK := aQ (Kept.of_grown (S := (fun k_ => P2_ k_)) hg (by repeat (first | (with_reducible first | exact HK.out | apply Kept.alloc | apply Kept.drewN | apply Kept.drew) | exact HK.out)) (fun k_ e_ => (HO104007.out.1 k_ e_).1.1)); have HO104010 := aQ (ho); clear HO104007; clear ho hb hg hat) | ((with_reducible refine gate_builtin (b := .append) (xs := #[.tmp 43, .tmp 45]) rfl ?_); (try (refine gate_guard (by rfl) ?_; dsimp only)); at_builtin; refine Kd.R_append (Kd.int .i64) (w0 := w0) w0.heap.size rfl (.tmp 43) (.tmp 45) 22 3 (.int .i64 0) 8 rfl Try.underlying22 info3 rfl (by decide) (by omega) v104009 y104008 x20_1 [.int .i64 x20_1] (fun k_ => (P2_ k_ ∨ w.heap.size ≤ k_) ∧ some k_ ≠ (.slice Ao6 l2.length co6 : Value).ownBlock) (fun _ => False) rfl rfl ?aP (fun _ hk => hk.elim) ?aF ?aO ?aB ?aS ?aL ?_; (case aP => exact rfl); (case aB => exact (pB HB.out)); (case aF => exact (fun k_ hk => ⟨(.inr (Nat.le_trans (by first | exact HK.out.1 | exact (show Kept w _ (fun k_ => P2_ k_) from by repeat (first | (with_reducible first | exact HK.out | apply Kept.alloc | apply Kept.drewN | apply Kept.drew) | exact HK.out)).1) hk)), Kd.fresh' (Kd.R_lt (pR HO_2.out)) k_ hk⟩)); (case aO => exact (pR HO104010.out)); (case aS => exact (below_size (pB HB.out))); (case aL => have := LMc18.out; omega); intro v104012 w24 ho hb hg hat; rw [← Ny104011.out] at ho; replace HO_2 := aQ (Kd.R_after (ok := (fun k_ => (P2_ k_ ∨ w.heap.size ≤ k_))) (pR HO_2.out) hg hat); replace HB := aQ (hb); replace HK := aQ (Kept.of_grown (S := (fun k_ => P2_ k_)) hg (by repeat (first | (with_reducible first | exact HK.out | apply Kept.alloc | apply Kept.drewN | apply Kept.drew) | exact HK.out)) (fun k_ e_ => (HO104010.out.1 k_ e_).1)); have HO104013 := aQ (ho); clear HO104010; clear ho hb hg hat; obtain ⟨Ao25, co25, eo25⟩ := Kd.R_slice HO104013.out; subst eo25) | ((with_reducible refine gate_callee (f := 103) rfl ?_); refine goesL_ (some 47) rfl rfl Try.func103 (by kernel_rfl) rfl #[.slice (some ad104001) l0.length c0, .slice A1 l1.length c1, .slice Ao25 y104011.length co25] rfl lm ?_; (with_reducible refine (ih kj9 (by have := HK1.out; have := HJ9.out; omega) _ _ l0 _ _ l1 (fun k_ => some k_ = (.slice Ao25 y104011.length co25 : Value).ownBlock) (.slice Ao25 y104011.length co25) y104011 t104014 true w0 _ ?side1 ?side2 ?side3 ?side4 ?side5 ?side6 A19.out).mono ?_); (case side1 => repeat (first | (with_reducible first | exact HB.out | apply below_alloc | apply pw_below_drewN | apply below_drew1) | exact HB.out)); (case side2 => exact Kd.C_kept_call HR0.out (by repeat (first | (with_reducible first | exact HK.out | apply Kept.alloc | apply Kept.drewN | apply Kept.drew) | exact HK.out)) (fun k_ hs_ => (fun e_ => (HO104013.out.1 k_ e_.symm).1) hs_)); (case side3 => exact HC0.out); (case side4 => exact Kd.C_kept_call HR1.out (by repeat (first | (with_reducible first | exact HK.out | apply Kept.alloc | apply Kept.drewN | apply Kept.drew) | exact HK.out)) (fun k_ hs_ => (fun e_ => (HO104013.out.1 k_ e_.symm).1) hs_)); (case side5 => exact HC1.out); (case side6 => exact Kd.R_tight rfl HO104013.out); rintro e w26 ⟨v104015, rfl, ho0, hb, hkp⟩; refine ⟨_, rfl, ?_⟩; have HO104016 := aQ (Kd.R_mono (ok' := fun k_ => (P2_ k_ ∨ w.heap.size ≤ k_) ∧ some k_ ≠ (.slice Ao6 l2.length co6 : Value).ownBlock) ho0 (fun k_ hk_ => ⟨Or.elim hk_ (fun hs_ => (HO104013.out.1 k_ (hs_).symm).1) (fun hn_ => (.inr (Nat.le_trans (by first | exact HK.out.1 | exact (show Kept w _ (fun k_ => P2_ k_) from by repeat (first | (with_reducible first | exact HK.out | apply Kept.alloc | apply Kept.drewN | apply Kept.drew) | exact HK.out)).1) hn_))), Or.elim hk_ (fun hs_ => fun e_ => (((HO_2.out).1 k_ e_.symm).2) hs_) (fun hn_ => (Kd.fresh' (Kd.R_lt (pR HO_2.out)) k_ hn_))⟩)); replace HO_2 := aQ (Kd.R_mono (ok' := fun k_ => (P2_ k_ ∨ w.heap.size ≤ k_) ∧ some k_ ≠ (v104015 : Value).ownBlock) (Kd.R_keptB (HO_2.out) hkp (fun k_ hk_ hs_ => (hk_.2) hs_)) (fun k_ hk_ => ⟨hk_.1.1, fun e_ => Or.elim (ho0.1 k_ e_.symm) (fun hs_ => hk_.2.1 hs_) (fun hn_ => Nat.not_le.2 hk_.2.2 hn_)⟩)); replace HK := aQ (Kept.then_ (S := (fun k_ => P2_ k_)) (by repeat (first | (with_reducible first | exact HK.out | apply Kept.alloc | apply Kept.drewN | apply Kept.drew) | exact HK.out)) hkp (fun k_ hs_ => (fun e_ => (HO104013.out.1 k_ e_.symm).1) hs_)); replace HB := aQ (hb); clear HO104013; (try clear hb); (try clear hkp); (try clear ho0)))
             go_ret2
             exact ⟨_, by first | rfl | (simp [errW_none, errW_some] <;> rfl) | (simp [*, errW_none, errW_some] <;> rfl), by (with_reducible repeat (first | apply Kd.R_alloc | apply Kd.R_drewN | apply Kd.R_drew)); exact Kd.R_mono HO104016.out (fun _ hk => hk.1), pB HB.out, by repeat (first | (with_reducible first | exact HK.out | apply Kept.alloc | apply Kept.drewN | apply Kept.drew) | exact HK.out)⟩
            ·replace c20 := Bool.eq_false_iff.mpr c20
             subst c20
             have H1 : (impl_assign.l0 kj9 l0 l1 l2 l0 (l0.length : Int) (wrap64 (x20_1 + 1))) = some (r1, r2) := by rw [if_neg (show ¬ (false = true) by decide)] at H; exact H
             clear H
             have H := H1
             clear H1
             have H' := aQ H
             clear H
             go_wp2_with (first | ((with_reducible refine gate_dst (N := 41) rfl ?_); (try (refine gate_guard (by rfl) ?_; dsimp only)); refine Kd.R_lit (Kd.int .i64) _ 3 ?hg (N := 41) ?hd (xs := ([] : List Int)) (inner := []) (ok := fun _ => True) (okp := fun _ => True) ?hr ?hp (fun _ hk => hk) trivial (Below.refl _ _) (Nat.le_refl _) (by simp) ?_; (case hd => rfl); (case hg => rfl); (case hr => first | (go_simp; done) | (go_simp; rfl)); (case hp => exact (Reps.none _ _)); intro v104006 w27 ho28 hb hg_ hnew_; clear hg_ hnew_; (first | rw [← Ny104005.out] at ho28 | (simp only [Int.reduceToNat] at ho28; rw [← Ny104005.out] at ho28)); have HO104007 := aQ (Kd.R_lower (Kd.R_new' (Kd.R_newM (M := fun k_ => (P2_ k_ ∨ w.heap.size ≤ k_)) ho28 (by first | exact HK.out.1 | exact (show Kept w _ (fun k_ => P2_ k_) from by repeat (first | (with_reducible first | exact HK.out | apply Kept.alloc | apply Kept.drewN | apply Kept.drew) | exact HK.out)).1) (fun k_ h_ => .inr h_)) (Kd.R_lt (pR HO_2.out))) (below_size (pB HB.out))); replace HO_2 := aQ (Kd.R_elder' (pR HO_2.out) (Kd.R_base ho28) hb); replace HK := aQ (Kept.below (S := (fun k_ => P2_ k_)) (by repeat (first | (with_reducible first | exact HK.out | apply Kept.alloc | apply Kept.drewN | apply Kept.drew) | exact HK.out)) hb); replace HB := aQ (below_step (pB HB.out) hb); clear hb ho28) | ((with_reducible refine gate_builtin (b := .append) (xs := #[.tmp 41, .tmp 42]) rfl ?_); (try (refine gate_guard (by rfl) ?_; dsimp only)); at_builtin; refine Kd.R_append_rows (Kd.int .i64) (w0 := w0) w0.heap.size rfl (.tmp 41) (.tmp 42) 22 3 (.int .i64 0) 8 rfl Try.underlying22 info3 rfl (by decide) (by omega) v104006 y104005 l2 _ _ _ (fun k_ => (P2_ k_ ∨ w.heap.size ≤ k_) ∧ some k_ ≠ (.slice Ao6 l2.length co6 : Value).ownBlock) (fun _ => False) rfl rfl ?aO ?aR (fun _ _ h => h) (fun _ h => h.elim) ?aF ?aB ?aS ?aL ?_; (case aR => repeat (first | exact (Kd.R_reads' HO_2.out).2.2 | (with_reducible refine Kd.C_alloc ?_ _) | (with_reducible refine Kd.C_drewN ?_ _) | (with_reducible refine Kd.C_drew ?_))); (case aB => exact (pB HB.out)); (case aF => exact (fun k_ hk => ⟨(.inr (Nat.le_trans (by first | exact HK.out.1 | exact (show Kept w _ (fun k_ => P2_ k_) from by repeat (first | (with_reducible first | exact HK.out | apply Kept.alloc | apply Kept.drewN | apply Kept.drew) | exact HK.out)).1) hk)), Kd.fresh' (Kd.R_lt (pR HO_2.out)) k_ hk⟩)); (case aO => exact (by (with_reducible repeat (first | apply Kd.R_alloc | apply Kd.R_drewN | apply Kd.R_drew)); exact Kd.R_mono HO104007.out (fun _ hk => ⟨hk.1.1, hk.2⟩))); (case aS => exact (below_size (pB HB.out))); (case aL => have := LMc17.out; omega); intro v104009 w29 ho hb hg hat; rw [← Ny104008.out] at ho; replace HO_2 := aQ (Kd.R_after (ok := (fun k_ => (P2_ k_ ∨ w.heap.size ≤ k_))) (pR HO_2.out) hg hat); replace HB := aQ (hb); replace HK := aQ (Kept.of_grown (S := (fun k_ => P2_ k_)) hg (by repeat (first | (with_reducible first | exact HK.out | apply Kept.alloc | apply Kept.drewN | apply Kept.drew) | exact HK.out)) (fun k_ e_ => (HO104007.out.1 k_ e_).1.1)); have HO104010 := aQ (ho); clear HO104007; clear ho hb hg hat) | ((with_reducible refine gate_builtin (b := .append) (xs := #[.tmp 43, .tmp 45]) rfl ?_); (try (refine gate_guard (by rfl) ?_; dsimp only)); at_builtin; refine Kd.R_append (Kd.int .i64) (w0 := w0) w0.heap.size rfl (.tmp 43) (.tmp 45) 22 3 (.int .i64 0) 8 rfl Try.underlying22 info3 rfl (by decide) (by omega) v104009 y104008 x20_1 [.int .i64 x20_1] (fun k_ => (P2_ k_ ∨ w.heap.size ≤ k_) ∧ some k_ ≠ (.slice Ao6 l2.length co6 : Value).ownBlock) (fun _ => False) rfl rfl ?aP (fun _ hk => hk.elim) ?aF ?aO ?aB ?aS ?aL ?_; (case aP => exact rfl); (case aB => exact (pB HB.out)); (case aF => exact (fun k_ hk => ⟨(.inr (Nat.le_trans (by first | exact HK.out.1 | exact (show Kept w _ (fun k_ => P2_ k_) from by repeat (first | (with_reducible first | exact HK.out | apply Kept.alloc | apply Kept.drewN | apply Kept.drew) | exact HK.out)).1) hk)), Kd.fresh' (Kd.R_lt (pR HO_2.out)) k_ hk⟩)); (case aO => exact (pR HO104010.out)); (case aS => exact (below_size (pB HB.out))); (case aL => have := LMc18.out; omega); intro v104012 w30 ho hb hg hat; rw [← Ny104011.out] at ho; replace HO_2 := aQ (Kd.R_after (ok := (fun k_ => (P2_ k_ ∨ w.heap.size ≤ k_))) (pR HO_2.out) hg hat); replace HB := aQ (hb); replace HK := aQ (Kept.of_grown (S := (fun k_ => P2_ k_)) hg (by repeat (first | (with_reducible first | exact HK.out | apply Kept.alloc | apply Kept.drewN | apply Kept.drew) | exact HK.out)) (fun k_ e_ => (HO104010.out.1 k_ e_).1)); have HO104013 := aQ (ho); clear HO104010; clear ho hb hg hat; obtain ⟨Ao31, co31, eo31⟩ := Kd.R_slice HO104013.out; subst eo31) | ((with_reducible refine gate_callee (f := 103) rfl ?_); refine goesL_ (some 47) rfl rfl Try.func103 (by kernel_rfl) rfl #[.slice (some ad104001) l0.length c0, .slice A1 l1.length c1, .slice Ao31 y104011.length co31] rfl lm ?_; (with_reducible refine (ih kj9 (by have := HK1.out; have := HJ9.out; omega) _ _ l0 _ _ l1 (fun k_ => some k_ = (.slice Ao31 y104011.length co31 : Value).ownBlock) (.slice Ao31 y104011.length co31) y104011 t104014 false w0 _ ?side1 ?side2 ?side3 ?side4 ?side5 ?side6 A19.out).mono ?_); (case side1 => repeat (first | (with_reducible first | exact HB.out | apply below_alloc | apply pw_below_drewN | apply below_drew1) | exact HB.out)); (case side2 => exact Kd.C_kept_call HR0.out (by repeat (first | (with_reducible first | exact HK.out | apply Kept.alloc | apply Kept.drewN | apply Kept.drew) | exact HK.out)) (fun k_ hs_ => (fun e_ => (HO104013.out.1 k_ e_.symm).1) hs_)); (case side3 => exact HC0.out); (case side4 => exact Kd.C_kept_call HR1.out (by repeat (first | (with_reducible first | exact HK.out | apply Kept.alloc | apply Kept.drewN | apply Kept.drew) | exact HK.out)) (fun k_ hs_ => (fun e_ => (HO104013.out.1 k_ e_.symm).1) hs_)); (case side5 => exact HC1.out); (case side6 => exact Kd.R_tight rfl HO104013.out); rintro e w32 ⟨v104015, rfl, ho0, hb, hkp⟩; refine ⟨_, rfl, ?_⟩; have HO104016 := aQ (Kd.R_mono (ok' := fun k_ => (P2_ k_ ∨ w.heap.size ≤ k_) ∧ some k_ ≠ (.slice Ao6 l2.length co6 : Value).ownBlock) ho0 (fun k_ hk_ => ⟨Or.elim hk_ (fun hs_ => (HO104013.out.1 k_ (hs_).symm).1) (fun hn_ => (.inr (Nat.le_trans (by first | exact HK.out.1 | exact (show Kept w _ (fun k_ => P2_ k_) from by repeat (first | (with_reducible first | exact HK.out | apply Kept.alloc | apply Kept.drewN | apply Kept.drew) | exact HK.out)).1) hn_))), Or.elim hk_ (fun hs_ => fun e_ => (((HO_2.out).1 k_ e_.symm).2) hs_) (fun hn_ => (Kd.fresh' (Kd.R_lt (pR HO_2.out)) k_ hn_))⟩)); replace HO_2 := aQ (Kd.R_mono (ok' := fun k_ => (P2_ k_ ∨ w.heap.size ≤ k_) ∧ some k_ ≠ (v104015 : Value).ownBlock) (Kd.R_keptB (HO_2.out) hkp (fun k_ hk_ hs_ => (hk_.2) hs_)) (fun k_ hk_ => ⟨hk_.1.1, fun e_ => Or.elim (ho0.1 k_ e_.symm) (fun hs_ => hk_.2.1 hs_) (fun hn_ => Nat.not_le.2 hk_.2.2 hn_)⟩)); replace HK := aQ (Kept.then_ (S := (fun k_ => P2_ k_)) (by repeat (first | (with_reducible first | exact HK.out | apply Kept.alloc | apply Kept.drewN | apply Kept.drew) | exact HK.out)) hkp (fun k_ hs_ => (fun e_ => (HO104013.out.1 k_ e_.symm).1) hs_)); replace HB := aQ (hb); clear HO104013; (try clear hb); (try clear hkp); (try clear ho0)))
             go_roundg kj9
             case measure => have := HK1.out; have := HJ9.out; omega
             case rel => exact ⟨(wrap64 (x20_1 + 1)), rs_, H', ⟨by have := HK1.out; have := HJ9.out; omega⟩, ⟨by (with_reducible repeat (first | apply Kd.R_alloc | apply Kd.R_drewN | apply Kd.R_drew)); exact Kd.R_mono HO_2.out (fun _ hk => hk.1)⟩, ⟨by repeat (first | (with_reducible first | exact HK.out | apply Kept.alloc | apply Kept.drewN | apply Kept.drew) | exact HK.out)⟩, ⟨pB HB.out⟩⟩
           ·rw [if_neg c18] at H
            exact absurd H (by simp)
          ·rw [if_neg c17] at H
           exact absurd H (by simp)
      ·rw [if_neg c9] at H
       exact absurd H (by simp)
     ·rw [if_neg c8] at H
      exact absurd H (by simp)
    ·rw [if_neg c7] at H
     have c7b0 : decide (x20_1 < (l0.length : Int)) = false := decide_eq_false c7
     clear c7
     simp only [Option.some.injEq, Prod.mk.injEq] at H
     obtain ⟨rfl, rfl⟩ := H
     go_wp2
     go_ret2
     exact ⟨_, by first | rfl | (simp [errW_none, errW_some] <;> rfl) | (simp [*, errW_none, errW_some] <;> rfl), by first | exact Kd.R_nil _ _ _ _ _ | exact Kd.N_nil _ _ _ _ _ | exact Kd.V_nil _ _ _ _ _ | exact Kd.Q_nil _ _ _ _ _ | exact Kd.S_nil _ _ _ _ _, pB HB.out, by repeat (first | (with_reducible first | exact HK.out | apply Kept.alloc | apply Kept.drewN | apply Kept.drew) | exact HK.out)⟩
end Go.Proofs.Ytimkekeaeojpkaa.A
