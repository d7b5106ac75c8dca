/- The machine side of the law FnExactCertificateOf, laid by a program of this work over the kit's print and contracts by hand: Go functions as Lean functions, and proofs that calls come to what these tell. Conditions: those in each theorem. -/
import Derived.Test.YtinoamehdhgpgaaMFnExactCertificateOf0
import Derived.Test.YtinoamehdhgpgaaMFnExactCertificateOf1
import Derived.Test.YtinoamehdhgpgaaMFnExactCertificateOf2
import Derived.Test.YtinoamehdhgpgaaMFnExactCertificateOf3
import Derived.Test.YtinoamehdhgpgaaMFnExactCertificateOf4
namespace Go.Proofs.Ytinoamehdhgpgaa.A
open Go.RowKit Go.Proofs.YtinoamehdhgpgaaW.PrintWords Go.Proofs.YtinoamehdhgpgaaW.PrintLast Go.Proofs.YtinoamehdhgpgaaW.PrintMore
attribute [local go_sem] max2_int min2_int max_two min_two max_three min_three max_four min_four   -- for this text's walks alone
set_option linter.unusedVariables false
set_option linter.unusedSimpArgs false


/-! ### laws_FnExactCertificateOf: function 9 -/
def laws_FnExactCertificateOf.j0 : Nat → Bool → Int → List Int → Int → List Int → Int → List Int → Int → List Int → Option (Bool)
  | 0, _, _, _, _, _, _, _, _, _ => none
  | k + 1, x47, x10002000, x10002001, x10003000, x10003001, x10020000, x10020001, x10025000, x10025001 => if x47 = true then (some false) else ((laws_toMatroid.f k x10002000 x10002001).bind fun bt10027 => ((laws_eqMatroid.f k x10020000 x10020001 bt10027.1 bt10027.2).bind fun t10031 => (if t10031 = true then ((laws_toMatroid.f k x10003000 x10003001).bind fun bt10032 => ((laws_eqMatroid.f k x10025000 x10025001 bt10032.1 bt10032.2).bind fun t10036 => (if t10036 = true then (some true) else (some false)))) else (some false))))
def laws_FnExactCertificateOf.f (k : Nat) (a0_0 : Int) (l0_1 : List Int) (a1_0 : Int) (l1_1 : List Int) : Option (Bool) := (laws_szMatroid.f a0_0 l0_1 1048576).bind fun t10003 => (if t10003 < 0 then (some true) else ((laws_szMatroid.f a1_0 l1_1 t10003).bind fun t10004 => (if t10004 < 0 then (some true) else ((laws_toMatroid.f k a0_0 l0_1).bind fun bt10005 => ((laws_toMatroid.f k a1_0 l1_1).bind fun bt10009 => ((spec_CertificateOf.f k bt10005.1 bt10005.2 bt10009.1 bt10009.2).bind fun bt10013 => ((laws_toMatroid.f k a0_0 l0_1).bind fun bt10015 => ((laws_toMatroid.f k a1_0 l1_1).bind fun bt10020 => ((impl_CertificateOf.f k bt10015.1 bt10015.2 bt10020.1 bt10020.2).bind fun bt10025 => (if bt10025.1 = bt10013.1 then (laws_FnExactCertificateOf.j0 k (bt10025.2 != bt10013.2) a0_0 l0_1 a1_0 l1_1 bt10015.1 bt10015.2 bt10020.1 bt10020.2) else (laws_FnExactCertificateOf.j0 k true a0_0 l0_1 a1_0 l1_1 bt10015.1 bt10015.2 bt10020.1 bt10020.2)))))))))))
theorem laws_FnExactCertificateOf.mono_l : ∀ k, (∀ y0 y1 y2 y3 y4 y5 y6 y7 y8, LeO (laws_FnExactCertificateOf.j0 k y0 y1 y2 y3 y4 y5 y6 y7 y8) (laws_FnExactCertificateOf.j0 (k + 1) y0 y1 y2 y3 y4 y5 y6 y7 y8))
  | 0 => fun _ _ _ _ _ _ _ _ _ r h => by simp [laws_FnExactCertificateOf.j0] at h
  | k + 1 => by
    have ih0 := laws_FnExactCertificateOf.mono_l k
    · intro y0 y1 y2 y3 y4 y5 y6 y7 y8
      unfold laws_FnExactCertificateOf.j0
      repeat' first
      | (with_reducible exact ih0 _ _ _ _ _ _ _ _ _)
      | (with_reducible exact impl_CertificateOf.mono _ _ _ _ _)
      | (with_reducible exact laws_eqMatroid.mono _ _ _ _ _)
      | (with_reducible exact laws_toMatroid.mono _ _ _)
      | (with_reducible exact spec_CertificateOf.mono _ _ _ _ _)
      | (with_reducible exact LeO.refl _)
      | (with_reducible exact LeO.none _)
      | (with_reducible refine LeO.ite ?_ ?_)
      | (with_reducible refine LeO.bind ?_ (fun _ => ?_))
      | exact ih0 _ _ _ _ _ _ _ _ _
      | exact impl_CertificateOf.mono _ _ _ _ _
      | exact laws_eqMatroid.mono _ _ _ _ _
      | exact laws_toMatroid.mono _ _ _
      | exact spec_CertificateOf.mono _ _ _ _ _
      | exact LeO.none _
      | refine LeO.ite ?_ ?_
      | refine LeO.bind ?_ (fun _ => ?_)
theorem laws_FnExactCertificateOf.mono : ∀ a0 a1 a2 a3 k, LeO (laws_FnExactCertificateOf.f k a0 a1 a2 a3) (laws_FnExactCertificateOf.f (k + 1) a0 a1 a2 a3) := by
  intro a0 a1 a2 a3 k
  have ih0 := laws_FnExactCertificateOf.mono_l k
  unfold laws_FnExactCertificateOf.f
  repeat' first
      | (with_reducible exact ih0 _ _ _ _ _ _ _ _ _)
      | (with_reducible exact impl_CertificateOf.mono _ _ _ _ _)
      | (with_reducible exact laws_eqMatroid.mono _ _ _ _ _)
      | (with_reducible exact laws_toMatroid.mono _ _ _)
      | (with_reducible exact spec_CertificateOf.mono _ _ _ _ _)
      | (with_reducible exact LeO.refl _)
      | (with_reducible exact LeO.none _)
      | (with_reducible refine LeO.ite ?_ ?_)
      | (with_reducible refine LeO.bind ?_ (fun _ => ?_))
      | exact ih0 _ _ _ _ _ _ _ _ _
      | exact impl_CertificateOf.mono _ _ _ _ _
      | exact laws_eqMatroid.mono _ _ _ _ _
      | exact laws_toMatroid.mono _ _ _
      | exact spec_CertificateOf.mono _ _ _ _ _
      | exact LeO.none _
      | refine LeO.ite ?_ ?_
      | refine LeO.bind ?_ (fun _ => ?_)
def laws_FnExactCertificateOf.T8 : Bool × List (List Nat × List Nat) := (true, [([], []), ([0], [0]), ([], []), ([2, 1], [2]), ([1, 3, 3], [1, 3]), ([4], [4]), ([5], [5]), ([5], [5]), ([6, 4, 0, 1, 2, 3, 4, 5, 6], [6]), ([7, 8, 0, 1, 2, 3, 4, 5, 6, 7, 8], [7])])
def laws_FnExactCertificateOf.B8 : List Nat := [0, 1, 0, 7, 15, 31, 63, 63, 127, 511]
theorem laws_FnExactCertificateOf.tab8 : rtab .any (opsOf Try.f9 8) = laws_FnExactCertificateOf.T8 := by kernel_rfl
theorem laws_FnExactCertificateOf.bits8 : waitsOk laws_FnExactCertificateOf.T8.2 laws_FnExactCertificateOf.B8 = true := by kernel_rfl
set_option maxHeartbeats 8000000 in
set_option maxRecDepth 100000 in
theorem laws_FnExactCertificateOf.calls (k : Nat) (a0_0 : Int) (A0_1 : Option Addr) (c0_1 : Nat) (l0_1 : List Int) (a1_0 : Int) (A1_1 : Option Addr) (c1_1 : Nat) (l1_1 : List Int) (w : World) (hr0_1 : Kd.C (Kd.int .i64) w A0_1 l0_1.length l0_1) (hc0_1 : l0_1.length ≤ c0_1) (hr1_1 : Kd.C (Kd.int .i64) w A1_1 l1_1.length l1_1) (hc1_1 : l1_1.length ≤ c1_1) (h : laws_FnExactCertificateOf.f k a0_0 l0_1 a1_0 l1_1 = some true) :
    Calls Try.prog 9 #[.agg #[.int .i64 a0_0, .slice A0_1 l0_1.length c0_1], .agg #[.int .i64 a1_0, .slice A1_1 l1_1.length c1_1]] w fun e w' => e = .returned (.bool true) ∧ Below w.heap.size w w' := by
  have hu24 := Try.underlying24
  have hu28 := Try.underlying28
  have HR0_1 := Aside0.mk hr0_1
  have HC0_1 := Aside0.mk hc0_1
  clear hr0_1 hc0_1
  have HR1_1 := Aside0.mk hr1_1
  have HC1_1 := Aside0.mk hc1_1
  clear hr1_1 hc1_1
  have HB := Aside0.mk (Below.refl w.heap.size w)
  have H : ((laws_szMatroid.f a0_0 l0_1 1048576).bind fun t10003 => (if t10003 < 0 then (some true) else ((laws_szMatroid.f a1_0 l1_1 t10003).bind fun t10004 => (if t10004 < 0 then (some true) else ((laws_toMatroid.f k a0_0 l0_1).bind fun bt10005 => ((laws_toMatroid.f k a1_0 l1_1).bind fun bt10009 => ((spec_CertificateOf.f k bt10005.1 bt10005.2 bt10009.1 bt10009.2).bind fun bt10013 => ((laws_toMatroid.f k a0_0 l0_1).bind fun bt10015 => ((laws_toMatroid.f k a1_0 l1_1).bind fun bt10020 => ((impl_CertificateOf.f k bt10015.1 bt10015.2 bt10020.1 bt10020.2).bind fun bt10025 => (if bt10025.1 = bt10013.1 then (laws_FnExactCertificateOf.j0 k (bt10025.2 != bt10013.2) a0_0 l0_1 a1_0 l1_1 bt10015.1 bt10015.2 bt10020.1 bt10020.2) else (laws_FnExactCertificateOf.j0 k true a0_0 l0_1 a1_0 l1_1 bt10015.1 bt10015.2 bt10020.1 bt10020.2)))))))))))) = some true := h
  clear h
  replace H := Option.bind_eq_some_iff.mp H
  obtain ⟨t10003, A30, H⟩ := H
  replace H : (if t10003 < 0 then (some true) else ((laws_szMatroid.f a1_0 l1_1 t10003).bind fun t10004 => (if t10004 < 0 then (some true) else ((laws_toMatroid.f k a0_0 l0_1).bind fun bt10005 => ((laws_toMatroid.f k a1_0 l1_1).bind fun bt10009 => ((spec_CertificateOf.f k bt10005.1 bt10005.2 bt10009.1 bt10009.2).bind fun bt10013 => ((laws_toMatroid.f k a0_0 l0_1).bind fun bt10015 => ((laws_toMatroid.f k a1_0 l1_1).bind fun bt10020 => ((impl_CertificateOf.f k bt10015.1 bt10015.2 bt10020.1 bt10020.2).bind fun bt10025 => (if bt10025.1 = bt10013.1 then (laws_FnExactCertificateOf.j0 k (bt10025.2 != bt10013.2) a0_0 l0_1 a1_0 l1_1 bt10015.1 bt10015.2 bt10020.1 bt10020.2) else (laws_FnExactCertificateOf.j0 k true a0_0 l0_1 a1_0 l1_1 bt10015.1 bt10015.2 bt10020.1 bt10020.2))))))))))) = some true := H
  have A3 := Aside0.mk A30
  clear A30
  by_cases c4 : t10003 < 0
  · rw [if_pos c4] at H
    have c4b0 : decide (t10003 < 0) = true := decide_eq_true c4
    clear c4
    clear H
    go_enter Try.func9, Try.ntmps9
    go_wp2_with (first | ((with_reducible refine gate_dst (N := 2) rfl ?_); refine box_event ?hg (N := 2) ?hd (cs := #[.int .i64 a0_0, .slice A0_1 l0_1.length c0_1]) (t := 24) ?hr ?_; (case hd => rfl); (case hg => rfl); (case hr => first | (go_simp; done) | (go_simp; rfl)); intro gb10001 hg w5 hbox hb; have n0_ := Aside0.mk (below_step (by repeat (first | (with_reducible first | exact HB.out | apply below_alloc | apply pw_below_drewN | apply below_drew1) | exact HB.out)) hb); have n1_ := Aside0.mk (hbox); have n2_ := Aside0.mk ((by rw [hg]; exact (below_size (by repeat (first | (with_reducible first | exact HB.out | apply below_alloc | apply pw_below_drewN | apply below_drew1) | exact HB.out))) : w.heap.size ≤ gb10001)); have n3_ := Aside0.mk ((by rw [hg]; exact (below_size (by repeat (first | (with_reducible first | exact HB.out | apply below_alloc | apply pw_below_drewN | apply below_drew1) | exact HB.out))) : w.heap.size ≤ gb10001)); clear HB; have HB := n0_; have BK10001 := n1_; have GW10001 := n2_; have GE10001 := n3_; clear n0_ n1_ n2_ n3_; clear hb hbox hg) | ((with_reducible refine gate_dst (N := 3) rfl ?_); refine box_event ?hg (N := 3) ?hd (cs := #[.int .i64 a1_0, .slice A1_1 l1_1.length c1_1]) (t := 24) ?hr ?_; (case hd => rfl); (case hg => rfl); (case hr => first | (go_simp; done) | (go_simp; rfl)); intro gb10002 hg w6 hbox hb; have n0_ := Aside0.mk (blk_below (g := gb10001) (o := .cells #[.int .i64 a0_0, .slice A0_1 l0_1.length c0_1] 24 (0, 0)) (by (with_reducible repeat (first | refine blk_drewN ?_ _ | refine blk_drew ?_ | refine blk_alloc ?_ _)); exact BK10001.out) hb); have n1_ := Aside0.mk (below_step (by repeat (first | (with_reducible first | exact HB.out | apply below_alloc | apply pw_below_drewN | apply below_drew1 | refine below_set ?_ GE10001.out) | exact HB.out)) hb); have n2_ := Aside0.mk (hbox); have n3_ := Aside0.mk ((by rw [hg]; exact (below_size (by repeat (first | (with_reducible first | exact HB.out | apply below_alloc | apply pw_below_drewN | apply below_drew1 | refine below_set ?_ GE10001.out) | exact HB.out))) : w.heap.size ≤ gb10002)); have n4_ := Aside0.mk ((by rw [hg]; exact (below_size (by repeat (first | (with_reducible first | exact HB.out | apply below_alloc | apply pw_below_drewN | apply below_drew1 | refine below_set ?_ GE10001.out) | exact HB.out))) : w.heap.size ≤ gb10002)); have n5_ := Aside0.mk ((by rw [hg]; exact Nat.ne_of_lt (blk_lt (g := gb10001) (o := .cells #[.int .i64 a0_0, .slice A0_1 l0_1.length c0_1] 24 (0, 0)) (by (with_reducible repeat (first | refine blk_drewN ?_ _ | refine blk_drew ?_ | refine blk_alloc ?_ _)); exact BK10001.out)) : gb10001 ≠ gb10002)); have n6_ := Aside0.mk ((by rw [hg]; exact Nat.ne_of_gt (blk_lt (g := gb10001) (o := .cells #[.int .i64 a0_0, .slice A0_1 l0_1.length c0_1] 24 (0, 0)) (by (with_reducible repeat (first | refine blk_drewN ?_ _ | refine blk_drew ?_ | refine blk_alloc ?_ _)); exact BK10001.out)) : gb10002 ≠ gb10001)); clear BK10001; clear HB; have BK10001 := n0_; have HB := n1_; have BK10002 := n2_; have GW10002 := n3_; have GE10002 := n4_; have NB10001_10002 := n5_; have NB10002_10001 := n6_; clear n0_ n1_ n2_ n3_ n4_ n5_ n6_; clear hb hbox hg; have hnb7 := NB10001_10002.out; have hnc7 := NB10002_10001.out; have hcz8_0 : w6.cell? ⟨gb10001, 0, none⟩ = some (.int .i64 a0_0) := (blk_cell BK10001.out 0).trans rfl; have hcz8_1 : w6.cell? ⟨gb10001, 1, none⟩ = some (.slice A0_1 l0_1.length c0_1) := (blk_cell BK10001.out 1).trans rfl; have hfz8_0 := blk_frozen BK10001.out 0; have hfz8_1 := blk_frozen BK10001.out 1) | ((with_reducible refine gate_callee (f := 33) rfl ?_); refine goesL_ (some 14) rfl rfl Try.func33 (by kernel_rfl) rfl #[.agg #[.int .i64 a0_0, .slice A0_1 l0_1.length c0_1], .int .i64 1048576] rfl (by (try simp only [List.map_toArray, List.map_cons, List.map_nil]); first | done | rfl | (simp only [List.length_drop, List.length_take]; rfl)) ?_; (with_reducible refine (laws_szMatroid.calls a0_0 _ _ l0_1 1048576 t10003 _ ?side1 ?side2 A3.out).mono ?_); (case side1 => repeat (first | exact (Kd.C_below HR0_1.out HB.out) | (with_reducible refine Kd.C_alloc ?_ _) | (with_reducible refine Kd.C_drewN ?_ _) | (with_reducible refine Kd.C_drew ?_))); (case side2 => exact HC0_1.out); rintro e w9 ⟨rfl, hb⟩; refine ⟨_, rfl, ?_⟩; have n0_ := Aside0.mk (blk_below (g := gb10001) (o := .cells #[.int .i64 a0_0, .slice A0_1 l0_1.length c0_1] 24 (0, 0)) (by (with_reducible repeat (first | refine blk_drewN ?_ _ | refine blk_drew ?_ | refine blk_alloc ?_ _)); exact BK10001.out) hb); have n1_ := Aside0.mk (blk_below (g := gb10002) (o := .cells #[.int .i64 a1_0, .slice A1_1 l1_1.length c1_1] 24 (0, 0)) (by (with_reducible repeat (first | refine blk_drewN ?_ _ | refine blk_drew ?_ | refine blk_alloc ?_ _)); exact BK10002.out) hb); have n2_ := Aside0.mk (below_step (by repeat (first | (with_reducible first | exact HB.out | apply below_alloc | apply pw_below_drewN | apply below_drew1 | refine below_set ?_ GE10001.out | refine below_set ?_ GE10002.out) | exact HB.out)) hb); clear BK10001; clear BK10002; clear HB; have BK10001 := n0_; have BK10002 := n1_; have HB := n2_; clear n0_ n1_ n2_; (try clear hb); (try clear hb2); (try clear hk); (try clear hi)))
    go_ret
    exact ⟨by first | rfl | (simp [errW_none, errW_some] <;> rfl) | (simp [*, errW_none, errW_some] <;> rfl), by repeat (first | (with_reducible first | exact HB.out | apply below_alloc | apply pw_below_drewN | apply below_drew1 | refine below_set ?_ GE10001.out | refine below_set ?_ GE10002.out) | exact HB.out)⟩
  · rw [if_neg c4] at H
    have c4b0 : decide (t10003 < 0) = false := decide_eq_false c4
    clear c4
    replace H := Option.bind_eq_some_iff.mp H
    obtain ⟨t10004, A100, H⟩ := H
    replace H : (if t10004 < 0 then (some true) else ((laws_toMatroid.f k a0_0 l0_1).bind fun bt10005 => ((laws_toMatroid.f k a1_0 l1_1).bind fun bt10009 => ((spec_CertificateOf.f k bt10005.1 bt10005.2 bt10009.1 bt10009.2).bind fun bt10013 => ((laws_toMatroid.f k a0_0 l0_1).bind fun bt10015 => ((laws_toMatroid.f k a1_0 l1_1).bind fun bt10020 => ((impl_CertificateOf.f k bt10015.1 bt10015.2 bt10020.1 bt10020.2).bind fun bt10025 => (if bt10025.1 = bt10013.1 then (laws_FnExactCertificateOf.j0 k (bt10025.2 != bt10013.2) a0_0 l0_1 a1_0 l1_1 bt10015.1 bt10015.2 bt10020.1 bt10020.2) else (laws_FnExactCertificateOf.j0 k true a0_0 l0_1 a1_0 l1_1 bt10015.1 bt10015.2 bt10020.1 bt10020.2))))))))) = some true := H
    have A10 := Aside0.mk A100
    clear A100
    by_cases c11 : t10004 < 0
    · rw [if_pos c11] at H
      have c11b0 : decide (t10004 < 0) = true := decide_eq_true c11
      clear c11
      clear H
      go_enter Try.func9, Try.ntmps9
      go_wp2_with (first | ((with_reducible refine gate_dst (N := 2) rfl ?_); refine box_event ?hg (N := 2) ?hd (cs := #[.int .i64 a0_0, .slice A0_1 l0_1.length c0_1]) (t := 24) ?hr ?_; (case hd => rfl); (case hg => rfl); (case hr => first | (go_simp; done) | (go_simp; rfl)); intro gb10001 hg w12 hbox hb; have n0_ := Aside0.mk (below_step (by repeat (first | (with_reducible first | exact HB.out | apply below_alloc | apply pw_below_drewN | apply below_drew1) | exact HB.out)) hb); have n1_ := Aside0.mk (hbox); have n2_ := Aside0.mk ((by rw [hg]; exact (below_size (by repeat (first | (with_reducible first | exact HB.out | apply below_alloc | apply pw_below_drewN | apply below_drew1) | exact HB.out))) : w.heap.size ≤ gb10001)); have n3_ := Aside0.mk ((by rw [hg]; exact (below_size (by repeat (first | (with_reducible first | exact HB.out | apply below_alloc | apply pw_below_drewN | apply below_drew1) | exact HB.out))) : w.heap.size ≤ gb10001)); clear HB; have HB := n0_; have BK10001 := n1_; have GW10001 := n2_; have GE10001 := n3_; clear n0_ n1_ n2_ n3_; clear hb hbox hg) | ((with_reducible refine gate_dst (N := 3) rfl ?_); refine box_event ?hg (N := 3) ?hd (cs := #[.int .i64 a1_0, .slice A1_1 l1_1.length c1_1]) (t := 24) ?hr ?_; (case hd => rfl); (case hg => rfl); (case hr => first | (go_simp; done) | (go_simp; rfl)); intro gb10002 hg w13 hbox hb; have n0_ := Aside0.mk (blk_below (g := gb10001) (o := .cells #[.int .i64 a0_0, .slice A0_1 l0_1.length c0_1] 24 (0, 0)) (by (with_reducible repeat (first | refine blk_drewN ?_ _ | refine blk_drew ?_ | refine blk_alloc ?_ _)); exact BK10001.out) hb); have n1_ := Aside0.mk (below_step (by repeat (first | (with_reducible first | exact HB.out | apply below_alloc | apply pw_below_drewN | apply below_drew1 | refine below_set ?_ GE10001.out) | exact HB.out)) hb); have n2_ := Aside0.mk (hbox); have n3_ := Aside0.mk ((by rw [hg]; exact (below_size (by repeat (first | (with_reducible first | exact HB.out | apply below_alloc | apply pw_below_drewN | apply below_drew1 | refine below_set ?_ GE10001.out) | exact HB.out))) : w.heap.size ≤ gb10002)); have n4_ := Aside0.mk ((by rw [hg]; exact (below_size (by repeat (first | (with_reducible first | exact HB.out | apply below_alloc | apply pw_below_drewN | apply below_drew1 | refine below_set ?_ GE10001.out) | exact HB.out))) : w.heap.size ≤ gb10002)); have n5_ := Aside0.mk ((by rw [hg]; exact Nat.ne_of_lt (blk_lt (g := gb10001) (o := .cells #[.int .i64 a0_0, .slice A0_1 l0_1.length c0_1] 24 (0, 0)) (by (with_reducible repeat (first | refine blk_drewN ?_ _ | refine blk_drew ?_ | refine blk_alloc ?_ _)); exact BK10001.out)) : gb10001 ≠ gb10002)); have n6_ := Aside0.mk ((by rw [hg]; exact Nat.ne_of_gt (blk_lt (g := gb10001) (o := .cells #[.int .i64 a0_0, .slice A0_1 l0_1.length c0_1] 24 (0, 0)) (by (with_reducible repeat (first | refine blk_drewN ?_ _ | refine blk_drew ?_ | refine blk_alloc ?_ _)); exact BK10001.out)) : gb10002 ≠ gb10001)); clear BK10001; clear HB; have BK10001 := n0_; have HB := n1_; have BK10002 := n2_; have GW10002 := n3_; have GE10002 := n4_; have NB10001_10002 := n5_; have NB10002_10001 := n6_; clear n0_ n1_ n2_ n3_ n4_ n5_ n6_; clear hb hbox hg; have hnb14 := NB10001_10002.out; have hnc14 := NB10002_10001.out; have hcz15_0 : w13.cell? ⟨gb10001, 0, none⟩ = some (.int .i64 a0_0) := (blk_cell BK10001.out 0).trans rfl; have hcz15_1 : w13.cell? ⟨gb10001, 1, none⟩ = some (.slice A0_1 l0_1.length c0_1) := (blk_cell BK10001.out 1).trans rfl; have hfz15_0 := blk_frozen BK10001.out 0; have hfz15_1 := blk_frozen BK10001.out 1) | ((with_reducible refine gate_callee (f := 33) rfl ?_); refine goesL_ (some 14) rfl rfl Try.func33 (by kernel_rfl) rfl #[.agg #[.int .i64 a0_0, .slice A0_1 l0_1.length c0_1], .int .i64 1048576] rfl (by (try simp only [List.map_toArray, List.map_cons, List.map_nil]); first | done | rfl | (simp only [List.length_drop, List.length_take]; rfl)) ?_; (with_reducible refine (laws_szMatroid.calls a0_0 _ _ l0_1 1048576 t10003 _ ?side1 ?side2 A3.out).mono ?_); (case side1 => repeat (first | exact (Kd.C_below HR0_1.out HB.out) | (with_reducible refine Kd.C_alloc ?_ _) | (with_reducible refine Kd.C_drewN ?_ _) | (with_reducible refine Kd.C_drew ?_))); (case side2 => exact HC0_1.out); rintro e w16 ⟨rfl, hb⟩; refine ⟨_, rfl, ?_⟩; have n0_ := Aside0.mk (blk_below (g := gb10001) (o := .cells #[.int .i64 a0_0, .slice A0_1 l0_1.length c0_1] 24 (0, 0)) (by (with_reducible repeat (first | refine blk_drewN ?_ _ | refine blk_drew ?_ | refine blk_alloc ?_ _)); exact BK10001.out) hb); have n1_ := Aside0.mk (blk_below (g := gb10002) (o := .cells #[.int .i64 a1_0, .slice A1_1 l1_1.length c1_1] 24 (0, 0)) (by (with_reducible repeat (first | refine blk_drewN ?_ _ | refine blk_drew ?_ | refine blk_alloc ?_ _)); exact BK10002.out) hb); have n2_ := Aside0.mk (below_step (by repeat (first | (with_reducible first | exact HB.out | apply below_alloc | apply pw_below_drewN | apply below_drew1 | refine below_set ?_ GE10001.out | refine below_set ?_ GE10002.out) | exact HB.out)) hb); clear BK10001; clear BK10002; clear HB; have BK10001 := n0_; have BK10002 := n1_; have HB := n2_; clear n0_ n1_ n2_; (try clear hb); (try clear hb2); (try clear hk); (try clear hi); have hcz17_0 : w16.cell? ⟨gb10002, 0, none⟩ = some (.int .i64 a1_0) := (blk_cell BK10002.out 0).trans rfl; have hcz17_1 : w16.cell? ⟨gb10002, 1, none⟩ = some (.slice A1_1 l1_1.length c1_1) := (blk_cell BK10002.out 1).trans rfl; have hfz17_0 := blk_frozen BK10002.out 0; have hfz17_1 := blk_frozen BK10002.out 1) | ((with_reducible refine gate_callee (f := 33) rfl ?_); refine goesL_ (some 19) rfl rfl Try.func33 (by kernel_rfl) rfl #[.agg #[.int .i64 a1_0, .slice A1_1 l1_1.length c1_1], .int .i64 t10003] rfl (by (try simp only [List.map_toArray, List.map_cons, List.map_nil]); first | done | rfl | (simp only [List.length_drop, List.length_take]; rfl)) ?_; (with_reducible refine (laws_szMatroid.calls a1_0 _ _ l1_1 t10003 t10004 _ ?side1 ?side2 A10.out).mono ?_); (case side1 => repeat (first | exact (Kd.C_below HR1_1.out HB.out) | (with_reducible refine Kd.C_alloc ?_ _) | (with_reducible refine Kd.C_drewN ?_ _) | (with_reducible refine Kd.C_drew ?_))); (case side2 => exact HC1_1.out); rintro e w18 ⟨rfl, hb⟩; refine ⟨_, rfl, ?_⟩; have n0_ := Aside0.mk (blk_below (g := gb10001) (o := .cells #[.int .i64 a0_0, .slice A0_1 l0_1.length c0_1] 24 (0, 0)) (by (with_reducible repeat (first | refine blk_drewN ?_ _ | refine blk_drew ?_ | refine blk_alloc ?_ _)); exact BK10001.out) hb); have n1_ := Aside0.mk (blk_below (g := gb10002) (o := .cells #[.int .i64 a1_0, .slice A1_1 l1_1.length c1_1] 24 (0, 0)) (by (with_reducible repeat (first | refine blk_drewN ?_ _ | refine blk_drew ?_ | refine blk_alloc ?_ _)); exact BK10002.out) hb); have n2_ := Aside0.mk (below_step (by repeat (first | (with_reducible first | exact HB.out | apply below_alloc | apply pw_below_drewN | apply below_drew1 | refine below_set ?_ GE10001.out | refine below_set ?_ GE10002.out) | exact HB.out)) hb); clear BK10001; clear BK10002; clear HB; have BK10001 := n0_; have BK10002 := n1_; have HB := n2_; clear n0_ n1_ n2_; (try clear hb); (try clear hb2); (try clear hk); (try clear hi)))
      go_ret
      exact ⟨by first | rfl | (simp [errW_none, errW_some] <;> rfl) | (simp [*, errW_none, errW_some] <;> rfl), by repeat (first | (with_reducible first | exact HB.out | apply below_alloc | apply pw_below_drewN | apply below_drew1 | refine below_set ?_ GE10001.out | refine below_set ?_ GE10002.out) | exact HB.out)⟩
    · rw [if_neg c11] at H
      have c11b0 : decide (t10004 < 0) = false := decide_eq_false c11
      clear c11
      replace H := Option.bind_eq_some_iff.mp H
      obtain ⟨⟨t10005, t10006⟩, A190, H⟩ := H
      replace H : ((laws_toMatroid.f k a1_0 l1_1).bind fun bt10009 => ((spec_CertificateOf.f k t10005 t10006 bt10009.1 bt10009.2).bind fun bt10013 => ((laws_toMatroid.f k a0_0 l0_1).bind fun bt10015 => ((laws_toMatroid.f k a1_0 l1_1).bind fun bt10020 => ((impl_CertificateOf.f k bt10015.1 bt10015.2 bt10020.1 bt10020.2).bind fun bt10025 => (if bt10025.1 = bt10013.1 then (laws_FnExactCertificateOf.j0 k (bt10025.2 != bt10013.2) a0_0 l0_1 a1_0 l1_1 bt10015.1 bt10015.2 bt10020.1 bt10020.2) else (laws_FnExactCertificateOf.j0 k true a0_0 l0_1 a1_0 l1_1 bt10015.1 bt10015.2 bt10020.1 bt10020.2))))))) = some true := H
      have A19 := Aside0.mk A190
      clear A190
      replace H := Option.bind_eq_some_iff.mp H
      obtain ⟨⟨t10009, t10010⟩, A200, H⟩ := H
      replace H : ((spec_CertificateOf.f k t10005 t10006 t10009 t10010).bind fun bt10013 => ((laws_toMatroid.f k a0_0 l0_1).bind fun bt10015 => ((laws_toMatroid.f k a1_0 l1_1).bind fun bt10020 => ((impl_CertificateOf.f k bt10015.1 bt10015.2 bt10020.1 bt10020.2).bind fun bt10025 => (if bt10025.1 = bt10013.1 then (laws_FnExactCertificateOf.j0 k (bt10025.2 != bt10013.2) a0_0 l0_1 a1_0 l1_1 bt10015.1 bt10015.2 bt10020.1 bt10020.2) else (laws_FnExactCertificateOf.j0 k true a0_0 l0_1 a1_0 l1_1 bt10015.1 bt10015.2 bt10020.1 bt10020.2)))))) = some true := H
      have A20 := Aside0.mk A200
      clear A200
      replace H := Option.bind_eq_some_iff.mp H
      obtain ⟨⟨t10013, t10014⟩, A210, H⟩ := H
      replace H : ((laws_toMatroid.f k a0_0 l0_1).bind fun bt10015 => ((laws_toMatroid.f k a1_0 l1_1).bind fun bt10020 => ((impl_CertificateOf.f k bt10015.1 bt10015.2 bt10020.1 bt10020.2).bind fun bt10025 => (if bt10025.1 = t10013 then (laws_FnExactCertificateOf.j0 k (bt10025.2 != t10014) a0_0 l0_1 a1_0 l1_1 bt10015.1 bt10015.2 bt10020.1 bt10020.2) else (laws_FnExactCertificateOf.j0 k true a0_0 l0_1 a1_0 l1_1 bt10015.1 bt10015.2 bt10020.1 bt10020.2))))) = some true := H
      have A21 := Aside0.mk A210
      clear A210
      replace H := Option.bind_eq_some_iff.mp H
      obtain ⟨⟨t10015, t10016⟩, A220, H⟩ := H
      replace H : ((laws_toMatroid.f k a1_0 l1_1).bind fun bt10020 => ((impl_CertificateOf.f k t10015 t10016 bt10020.1 bt10020.2).bind fun bt10025 => (if bt10025.1 = t10013 then (laws_FnExactCertificateOf.j0 k (bt10025.2 != t10014) a0_0 l0_1 a1_0 l1_1 t10015 t10016 bt10020.1 bt10020.2) else (laws_FnExactCertificateOf.j0 k true a0_0 l0_1 a1_0 l1_1 t10015 t10016 bt10020.1 bt10020.2)))) = some true := H
      have A22 := Aside0.mk A220
      clear A220
      replace H := Option.bind_eq_some_iff.mp H
      obtain ⟨⟨t10020, t10021⟩, A230, H⟩ := H
      replace H : ((impl_CertificateOf.f k t10015 t10016 t10020 t10021).bind fun bt10025 => (if bt10025.1 = t10013 then (laws_FnExactCertificateOf.j0 k (bt10025.2 != t10014) a0_0 l0_1 a1_0 l1_1 t10015 t10016 t10020 t10021) else (laws_FnExactCertificateOf.j0 k true a0_0 l0_1 a1_0 l1_1 t10015 t10016 t10020 t10021))) = some true := H
      have A23 := Aside0.mk A230
      clear A230
      replace H := Option.bind_eq_some_iff.mp H
      obtain ⟨⟨t10025, t10026⟩, A240, H⟩ := H
      replace H : (if t10025 = t10013 then (laws_FnExactCertificateOf.j0 k (t10026 != t10014) a0_0 l0_1 a1_0 l1_1 t10015 t10016 t10020 t10021) else (laws_FnExactCertificateOf.j0 k true a0_0 l0_1 a1_0 l1_1 t10015 t10016 t10020 t10021)) = some true := H
      have A24 := Aside0.mk A240
      clear A240
      have HC25 := Aside0.mk H
      clear H
      go_enter Try.func9, Try.ntmps9
      try go_wp2_with (first | ((with_reducible refine gate_dst (N := 2) rfl ?_); refine box_event ?hg (N := 2) ?hd (cs := #[.int .i64 a0_0, .slice A0_1 l0_1.length c0_1]) (t := 24) ?hr ?_; (case hd => rfl); (case hg => rfl); (case hr => first | (go_simp; done) | (go_simp; rfl)); intro gb10001 hg w26 hbox hb; have n0_ := Aside0.mk (below_step (by repeat (first | (with_reducible first | exact HB.out | apply below_alloc | apply pw_below_drewN | apply below_drew1) | exact HB.out)) hb); have n1_ := Aside0.mk (hbox); have n2_ := Aside0.mk ((by rw [hg]; exact (below_size (by repeat (first | (with_reducible first | exact HB.out | apply below_alloc | apply pw_below_drewN | apply below_drew1) | exact HB.out))) : w.heap.size ≤ gb10001)); have n3_ := Aside0.mk ((by rw [hg]; exact (below_size (by repeat (first | (with_reducible first | exact HB.out | apply below_alloc | apply pw_below_drewN | apply below_drew1) | exact HB.out))) : w.heap.size ≤ gb10001)); clear HB; have HB := n0_; have BK10001 := n1_; have GW10001 := n2_; have GE10001 := n3_; clear n0_ n1_ n2_ n3_; clear hb hbox hg) | ((with_reducible refine gate_dst (N := 3) rfl ?_); refine box_event ?hg (N := 3) ?hd (cs := #[.int .i64 a1_0, .slice A1_1 l1_1.length c1_1]) (t := 24) ?hr ?_; (case hd => rfl); (case hg => rfl); (case hr => first | (go_simp; done) | (go_simp; rfl)); intro gb10002 hg w27 hbox hb; have n0_ := Aside0.mk (blk_below (g := gb10001) (o := .cells #[.int .i64 a0_0, .slice A0_1 l0_1.length c0_1] 24 (0, 0)) (by (with_reducible repeat (first | refine blk_drewN ?_ _ | refine blk_drew ?_ | refine blk_alloc ?_ _)); exact BK10001.out) hb); have n1_ := Aside0.mk (below_step (by repeat (first | (with_reducible first | exact HB.out | apply below_alloc | apply pw_below_drewN | apply below_drew1 | refine below_set ?_ GE10001.out) | exact HB.out)) hb); have n2_ := Aside0.mk (hbox); have n3_ := Aside0.mk ((by rw [hg]; exact (below_size (by repeat (first | (with_reducible first | exact HB.out | apply below_alloc | apply pw_below_drewN | apply below_drew1 | refine below_set ?_ GE10001.out) | exact HB.out))) : w.heap.size ≤ gb10002)); have n4_ := Aside0.mk ((by rw [hg]; exact (below_size (by repeat (first | (with_reducible first | exact HB.out | apply below_alloc | apply pw_below_drewN | apply below_drew1 | refine below_set ?_ GE10001.out) | exact HB.out))) : w.heap.size ≤ gb10002)); have n5_ := Aside0.mk ((by rw [hg]; exact Nat.ne_of_lt (blk_lt (g := gb10001) (o := .cells #[.int .i64 a0_0, .slice A0_1 l0_1.length c0_1] 24 (0, 0)) (by (with_reducible repeat (first | refine blk_drewN ?_ _ | refine blk_drew ?_ | refine blk_alloc ?_ _)); exact BK10001.out)) : gb10001 ≠ gb10002)); have n6_ := Aside0.mk ((by rw [hg]; exact Nat.ne_of_gt (blk_lt (g := gb10001) (o := .cells #[.int .i64 a0_0, .slice A0_1 l0_1.length c0_1] 24 (0, 0)) (by (with_reducible repeat (first | refine blk_drewN ?_ _ | refine blk_drew ?_ | refine blk_alloc ?_ _)); exact BK10001.out)) : gb10002 ≠ gb10001)); clear BK10001; clear HB; have BK10001 := n0_; have HB := n1_; have BK10002 := n2_; have GW10002 := n3_; have GE10002 := n4_; have NB10001_10002 := n5_; have NB10002_10001 := n6_; clear n0_ n1_ n2_ n3_ n4_ n5_ n6_; clear hb hbox hg; have hnb28 := NB10001_10002.out; have hnc28 := NB10002_10001.out; have hcz29_0 : w27.cell? ⟨gb10001, 0, none⟩ = some (.int .i64 a0_0) := (blk_cell BK10001.out 0).trans rfl; have hcz29_1 : w27.cell? ⟨gb10001, 1, none⟩ = some (.slice A0_1 l0_1.length c0_1) := (blk_cell BK10001.out 1).trans rfl; have hfz29_0 := blk_frozen BK10001.out 0; have hfz29_1 := blk_frozen BK10001.out 1) | ((with_reducible refine gate_callee (f := 33) rfl ?_); refine goesL_ (some 14) rfl rfl Try.func33 (by kernel_rfl) rfl #[.agg #[.int .i64 a0_0, .slice A0_1 l0_1.length c0_1], .int .i64 1048576] rfl (by (try simp only [List.map_toArray, List.map_cons, List.map_nil]); first | done | rfl | (simp only [List.length_drop, List.length_take]; rfl)) ?_; (with_reducible refine (laws_szMatroid.calls a0_0 _ _ l0_1 1048576 t10003 _ ?side1 ?side2 A3.out).mono ?_); (case side1 => repeat (first | exact (Kd.C_below HR0_1.out HB.out) | (with_reducible refine Kd.C_alloc ?_ _) | (with_reducible refine Kd.C_drewN ?_ _) | (with_reducible refine Kd.C_drew ?_))); (case side2 => exact HC0_1.out); rintro e w30 ⟨rfl, hb⟩; refine ⟨_, rfl, ?_⟩; have n0_ := Aside0.mk (blk_below (g := gb10001) (o := .cells #[.int .i64 a0_0, .slice A0_1 l0_1.length c0_1] 24 (0, 0)) (by (with_reducible repeat (first | refine blk_drewN ?_ _ | refine blk_drew ?_ | refine blk_alloc ?_ _)); exact BK10001.out) hb); have n1_ := Aside0.mk (blk_below (g := gb10002) (o := .cells #[.int .i64 a1_0, .slice A1_1 l1_1.length c1_1] 24 (0, 0)) (by (with_reducible repeat (first | refine blk_drewN ?_ _ | refine blk_drew ?_ | refine blk_alloc ?_ _)); exact BK10002.out) hb); have n2_ := Aside0.mk (below_step (by repeat (first | (with_reducible first | exact HB.out | apply below_alloc | apply pw_below_drewN | apply below_drew1 | refine below_set ?_ GE10001.out | refine below_set ?_ GE10002.out) | exact HB.out)) hb); clear BK10001; clear BK10002; clear HB; have BK10001 := n0_; have BK10002 := n1_; have HB := n2_; clear n0_ n1_ n2_; (try clear hb); (try clear hb2); (try clear hk); (try clear hi); have hcz31_0 : w30.cell? ⟨gb10002, 0, none⟩ = some (.int .i64 a1_0) := (blk_cell BK10002.out 0).trans rfl; have hcz31_1 : w30.cell? ⟨gb10002, 1, none⟩ = some (.slice A1_1 l1_1.length c1_1) := (blk_cell BK10002.out 1).trans rfl; have hfz31_0 := blk_frozen BK10002.out 0; have hfz31_1 := blk_frozen BK10002.out 1) | ((with_reducible refine gate_callee (f := 33) rfl ?_); refine goesL_ (some 19) rfl rfl Try.func33 (by kernel_rfl) rfl #[.agg #[.int .i64 a1_0, .slice A1_1 l1_1.length c1_1], .int .i64 t10003] rfl (by (try simp only [List.map_toArray, List.map_cons, List.map_nil]); first | done | rfl | (simp only [List.length_drop, List.length_take]; rfl)) ?_; (with_reducible refine (laws_szMatroid.calls a1_0 _ _ l1_1 t10003 t10004 _ ?side1 ?side2 A10.out).mono ?_); (case side1 => repeat (first | exact (Kd.C_below HR1_1.out HB.out) | (with_reducible refine Kd.C_alloc ?_ _) | (with_reducible refine Kd.C_drewN ?_ _) | (with_reducible refine Kd.C_drew ?_))); (case side2 => exact HC1_1.out); rintro e w32 ⟨rfl, hb⟩; refine ⟨_, rfl, ?_⟩; have n0_ := Aside0.mk (blk_below (g := gb10001) (o := .cells #[.int .i64 a0_0, .slice A0_1 l0_1.length c0_1] 24 (0, 0)) (by (with_reducible repeat (first | refine blk_drewN ?_ _ | refine blk_drew ?_ | refine blk_alloc ?_ _)); exact BK10001.out) hb); have n1_ := Aside0.mk (blk_below (g := gb10002) (o := .cells #[.int .i64 a1_0, .slice A1_1 l1_1.length c1_1] 24 (0, 0)) (by (with_reducible repeat (first | refine blk_drewN ?_ _ | refine blk_drew ?_ | refine blk_alloc ?_ _)); exact BK10002.out) hb); have n2_ := Aside0.mk (below_step (by repeat (first | (with_reducible first | exact HB.out | apply below_alloc | apply pw_below_drewN | apply below_drew1 | refine below_set ?_ GE10001.out | refine below_set ?_ GE10002.out) | exact HB.out)) hb); clear BK10001; clear BK10002; clear HB; have BK10001 := n0_; have BK10002 := n1_; have HB := n2_; clear n0_ n1_ n2_; (try clear hb); (try clear hb2); (try clear hk); (try clear hi)))
      have n0_ := Aside0.mk (blk_drew BK10001.out)
      have n1_ := Aside0.mk (blk_drew BK10002.out)
      have n2_ := Aside0.mk (below_drew1 HB.out)
      clear BK10001
      clear BK10002
      clear HB
      have BK10001 := n0_
      have BK10002 := n1_
      have HB := n2_
      clear n0_ n1_ n2_
      refine start_ (n := 10) (S := fun w' => w'.cell? ⟨gb10001, 0, none⟩ = some (.int .i64 a0_0) ∧ w'.cell? ⟨gb10001, 1, none⟩ = some (.slice A0_1 l0_1.length c0_1) ∧ w'.cell? ⟨gb10002, 0, none⟩ = some (.int .i64 a1_0) ∧ w'.cell? ⟨gb10002, 1, none⟩ = some (.slice A1_1 l1_1.length c1_1)) (ds := []) #[false, false, false, false, false, false, false, false, false, false] (by kernel_rfl) rfl rfl ⟨(blk_cell BK10001.out 0).trans rfl, (blk_cell BK10001.out 1).trans rfl, (blk_cell BK10002.out 0).trans rfl, (blk_cell BK10002.out 1).trans rfl⟩ (fun hHeld => ?_); refine with_tabW laws_FnExactCertificateOf.tab8 laws_FnExactCertificateOf.bits8 (fun HT_ HW_ => ?_)
      generalize w32.drew = w33 at BK10001 BK10002 HB hHeld ⊢
      refine take_ (i := 0) (N := some 23) (v := ?_) (a' := ?_) #[true, false, false, false, false, false, false, false, false, false] rfl rfl (take_ofW HT_.out HW_.out (by kernel_rfl)) (fun _ _ _ h => h) (Or.inl ⟨by rfl, ?_⟩) hHeld ?_ ?_
      rotate_left
      · rintro w' ⟨s0, s1, s2, s3⟩
        go_simp
        with_reducible rfl
      rotate_left
      · simp only [Act.put, List.setIfInBounds_toArray, List.set_cons_zero, List.set_cons_succ, i64_w, i32_w]
        rfl
      refine take_ (i := 2) (N := some 25) (v := ?_) (a' := ?_) #[true, false, true, false, false, false, false, false, false, false] rfl rfl (take_ofW HT_.out HW_.out (by kernel_rfl)) (fun _ _ _ h => h) (Or.inl ⟨by rfl, ?_⟩) hHeld ?_ ?_
      rotate_left
      · rintro w' ⟨s0, s1, s2, s3⟩
        go_simp
        with_reducible rfl
      rotate_left
      · simp only [Act.put, List.setIfInBounds_toArray, List.set_cons_zero, List.set_cons_succ, i64_w, i32_w]
        rfl
      refine one_ (i := 1) (N := some 24) #[true, true, true, false, false, false, false, false, false, false] rfl rfl (one_of HT_.out (by kernel_rfl)) (by decide) (fun K hK => ?_)
      refine goes_ Try.func35 (by kernel_rfl) rfl #[.agg #[.int .i64 a0_0, .slice A0_1 l0_1.length c0_1]] (by rfl) rfl rfl (by (try simp only [List.map_toArray, List.map_cons, List.map_nil]); first | done | rfl | (simp only [List.length_drop, List.length_take]; rfl)) ?_
      with_reducible refine (laws_toMatroid.calls k a0_0 _ _ l0_1 t10005 t10006 _ ?side1 ?side2 A19.out).mono ?_
      (case side1 => repeat (first | exact (Kd.C_below HR0_1.out HB.out) | (with_reducible refine Kd.C_alloc ?_ _) | (with_reducible refine Kd.C_drewN ?_ _) | (with_reducible refine Kd.C_drew ?_)))
      (case side2 => exact HC0_1.out)
      rintro e w34 ⟨v10007, rfl, ho0, hb⟩
      refine ⟨_, rfl, ?_⟩
      have n0_ := Aside0.mk (Kd.R_lower ho0 (below_size (by repeat (first | (with_reducible first | exact HB.out | apply below_alloc | apply pw_below_drewN | apply below_drew1 | refine below_set ?_ GE10001.out | refine below_set ?_ GE10002.out) | exact HB.out))))
      have n1_ := Aside0.mk (blk_below (g := gb10001) (o := .cells #[.int .i64 a0_0, .slice A0_1 l0_1.length c0_1] 24 (0, 0)) (by (with_reducible repeat (first | refine blk_drewN ?_ _ | refine blk_drew ?_ | refine blk_alloc ?_ _)); exact BK10001.out) hb)
      have n2_ := Aside0.mk (blk_below (g := gb10002) (o := .cells #[.int .i64 a1_0, .slice A1_1 l1_1.length c1_1] 24 (0, 0)) (by (with_reducible repeat (first | refine blk_drewN ?_ _ | refine blk_drew ?_ | refine blk_alloc ?_ _)); exact BK10002.out) hb)
      have n3_ := Aside0.mk (below_step (by repeat (first | (with_reducible first | exact HB.out | apply below_alloc | apply pw_below_drewN | apply below_drew1 | refine below_set ?_ GE10001.out | refine below_set ?_ GE10002.out) | exact HB.out)) hb)
      clear BK10001
      clear BK10002
      clear HB
      have HO10008 := n0_
      have BK10001 := n1_
      have BK10002 := n2_
      have HB := n3_
      clear n0_ n1_ n2_ n3_
      (try clear hb)
      (try clear hb2)
      (try clear hk)
      (try clear hi)
      (try clear ho0)
      refine hK.out _ _ ⟨(blk_cell BK10001.out 0).trans rfl, (blk_cell BK10001.out 1).trans rfl, (blk_cell BK10002.out 0).trans rfl, (blk_cell BK10002.out 1).trans rfl⟩ (fun hHeld => ?_)
      clear hK K
      refine norm_ (a' := ?_) ?_ ?_
      rotate_left
      · show Act.put _ (some 24) _ = _
        simp only [Act.put, List.setIfInBounds_toArray, List.set_cons_zero, List.set_cons_succ, i64_w, i32_w]
        rfl
      refine one_ (i := 3) (N := some 26) #[true, true, true, true, false, false, false, false, false, false] rfl rfl (one_of HT_.out (by kernel_rfl)) (by decide) (fun K hK => ?_)
      refine goes_ Try.func35 (by kernel_rfl) rfl #[.agg #[.int .i64 a1_0, .slice A1_1 l1_1.length c1_1]] (by rfl) rfl rfl (by (try simp only [List.map_toArray, List.map_cons, List.map_nil]); first | done | rfl | (simp only [List.length_drop, List.length_take]; rfl)) ?_
      with_reducible refine (laws_toMatroid.calls k a1_0 _ _ l1_1 t10009 t10010 _ ?side1 ?side2 A20.out).mono ?_
      (case side1 => repeat (first | exact (Kd.C_below HR1_1.out HB.out) | (with_reducible refine Kd.C_alloc ?_ _) | (with_reducible refine Kd.C_drewN ?_ _) | (with_reducible refine Kd.C_drew ?_)))
      (case side2 => exact HC1_1.out)
      rintro e w35 ⟨v10011, rfl, ho0, hb⟩
      refine ⟨_, rfl, ?_⟩
      have n0_ := Aside0.mk (Kd.R_elder' (by (with_reducible repeat (first | apply Kd.R_alloc | apply Kd.R_drewN | apply Kd.R_drew)); exact HO10008.out) (Kd.R_base ho0) hb)
      have n1_ := Aside0.mk (Kd.R_lower (Kd.R_new' ho0 (Kd.R_lt (by (with_reducible repeat (first | apply Kd.R_alloc | apply Kd.R_drewN | apply Kd.R_drew)); exact HO10008.out))) (below_size (by repeat (first | (with_reducible first | exact HB.out | apply below_alloc | apply pw_below_drewN | apply below_drew1 | refine below_set ?_ GE10001.out | refine below_set ?_ GE10002.out) | exact HB.out))))
      have n2_ := Aside0.mk (blk_below (g := gb10001) (o := .cells #[.int .i64 a0_0, .slice A0_1 l0_1.length c0_1] 24 (0, 0)) (by (with_reducible repeat (first | refine blk_drewN ?_ _ | refine blk_drew ?_ | refine blk_alloc ?_ _)); exact BK10001.out) hb)
      have n3_ := Aside0.mk (blk_below (g := gb10002) (o := .cells #[.int .i64 a1_0, .slice A1_1 l1_1.length c1_1] 24 (0, 0)) (by (with_reducible repeat (first | refine blk_drewN ?_ _ | refine blk_drew ?_ | refine blk_alloc ?_ _)); exact BK10002.out) hb)
      have n4_ := Aside0.mk (below_step (by repeat (first | (with_reducible first | exact HB.out | apply below_alloc | apply pw_below_drewN | apply below_drew1 | refine below_set ?_ GE10001.out | refine below_set ?_ GE10002.out) | exact HB.out)) hb)
      clear HO10008
      clear BK10001
      clear BK10002
      clear HB
      have HO10008 := n0_
      have HO10012 := n1_
      have BK10001 := n2_
      have BK10002 := n3_
      have HB := n4_
      clear n0_ n1_ n2_ n3_ n4_
      (try clear hb)
      (try clear hb2)
      (try clear hk)
      (try clear hi)
      (try clear ho0)
      obtain ⟨Ao36, co36, eo36⟩ := Kd.R_slice HO10008.out
      (first | subst eo36 | (injection eo36 with f1_ f2_ f3_; have f4_ := f1_.symm; have f5_ := f3_.symm; clear f1_ f2_ f3_; subst f4_; subst f5_))
      obtain ⟨Ao37, co37, eo37⟩ := Kd.R_slice HO10012.out
      (first | subst eo37 | (injection eo37 with f1_ f2_ f3_; have f4_ := f1_.symm; have f5_ := f3_.symm; clear f1_ f2_ f3_; subst f4_; subst f5_))
      refine hK.out _ _ ⟨(blk_cell BK10001.out 0).trans rfl, (blk_cell BK10001.out 1).trans rfl, (blk_cell BK10002.out 0).trans rfl, (blk_cell BK10002.out 1).trans rfl⟩ (fun hHeld => ?_)
      clear hK K
      refine norm_ (a' := ?_) ?_ ?_
      rotate_left
      · show Act.put _ (some 26) _ = _
        simp only [Act.put, List.setIfInBounds_toArray, List.set_cons_zero, List.set_cons_succ, i64_w, i32_w]
        rfl
      refine one_ (i := 4) (N := some 27) #[true, true, true, true, true, false, false, false, false, false] rfl rfl (one_of HT_.out (by kernel_rfl)) (by decide) (fun K hK => ?_)
      refine goes_ Try.func54 (by kernel_rfl) rfl #[.agg #[.int .i64 t10005, .slice Ao36 t10006.length co36], .agg #[.int .i64 t10009, .slice Ao37 t10010.length co37]] (by rfl) rfl rfl (by (try simp only [List.map_toArray, List.map_cons, List.map_nil]); first | done | rfl | (simp only [List.length_drop, List.length_take]; rfl)) ?_
      with_reducible refine (spec_CertificateOf.calls k t10005 _ _ t10006 t10009 _ _ t10010 t10013 t10014 _ ?side1 ?side2 ?side3 ?side4 A21.out).mono ?_
      (case side1 => repeat (first | exact (Kd.R_reads' HO10008.out).2.2 | (with_reducible refine Kd.C_alloc ?_ _) | (with_reducible refine Kd.C_drewN ?_ _) | (with_reducible refine Kd.C_drew ?_)))
      (case side2 => exact (Kd.R_reads' HO10008.out).2.1)
      (case side3 => repeat (first | exact (Kd.R_reads' HO10012.out).2.2 | (with_reducible refine Kd.C_alloc ?_ _) | (with_reducible refine Kd.C_drewN ?_ _) | (with_reducible refine Kd.C_drew ?_)))
      (case side4 => exact (Kd.R_reads' HO10012.out).2.1)
      rintro e w38 ⟨rfl, hb⟩
      refine ⟨_, rfl, ?_⟩
      have n0_ := Aside0.mk (Kd.R_below (by (with_reducible repeat (first | apply Kd.R_alloc | apply Kd.R_drewN | apply Kd.R_drew)); exact HO10008.out) hb)
      have n1_ := Aside0.mk (Kd.R_below (by (with_reducible repeat (first | apply Kd.R_alloc | apply Kd.R_drewN | apply Kd.R_drew)); exact HO10012.out) hb)
      have n2_ := Aside0.mk (blk_below (g := gb10001) (o := .cells #[.int .i64 a0_0, .slice A0_1 l0_1.length c0_1] 24 (0, 0)) (by (with_reducible repeat (first | refine blk_drewN ?_ _ | refine blk_drew ?_ | refine blk_alloc ?_ _)); exact BK10001.out) hb)
      have n3_ := Aside0.mk (blk_below (g := gb10002) (o := .cells #[.int .i64 a1_0, .slice A1_1 l1_1.length c1_1] 24 (0, 0)) (by (with_reducible repeat (first | refine blk_drewN ?_ _ | refine blk_drew ?_ | refine blk_alloc ?_ _)); exact BK10002.out) hb)
      have n4_ := Aside0.mk (below_step (by repeat (first | (with_reducible first | exact HB.out | apply below_alloc | apply pw_below_drewN | apply below_drew1 | refine below_set ?_ GE10001.out | refine below_set ?_ GE10002.out) | exact HB.out)) hb)
      clear HO10008
      clear HO10012
      clear BK10001
      clear BK10002
      clear HB
      have HO10008 := n0_
      have HO10012 := n1_
      have BK10001 := n2_
      have BK10002 := n3_
      have HB := n4_
      clear n0_ n1_ n2_ n3_ n4_
      (try clear hb)
      (try clear hb2)
      (try clear hk)
      (try clear hi)
      refine hK.out _ _ ⟨(blk_cell BK10001.out 0).trans rfl, (blk_cell BK10001.out 1).trans rfl, (blk_cell BK10002.out 0).trans rfl, (blk_cell BK10002.out 1).trans rfl⟩ (fun hHeld => ?_)
      clear hK K
      refine norm_ (a' := ?_) ?_ ?_
      rotate_left
      · show Act.put _ (some 27) _ = _
        simp only [Act.put, List.setIfInBounds_toArray, List.set_cons_zero, List.set_cons_succ, i64_w, i32_w]
        rfl
      refine pure_ (i := 5) (N := some 22) (v := ?_) (a' := ?_) #[true, true, true, true, true, true, false, false, false, false] rfl rfl (any_of HT_.out (by kernel_rfl)) (fun _ _ _ h => h) (Or.inl ⟨by rfl, ?_⟩) ?_ ?_
      rotate_left
      · intro w'
        go_simp
        with_reducible rfl
      rotate_left
      · simp only [Act.put, List.setIfInBounds_toArray, List.set_cons_zero, List.set_cons_succ, i64_w, i32_w]
        rfl
      refine pure_ (i := 6) (N := some 28) (v := ?_) (a' := ?_) #[true, true, true, true, true, true, true, false, false, false] rfl rfl (any_of HT_.out (by kernel_rfl)) (fun _ _ _ h => h) (Or.inl ⟨by rfl, ?_⟩) ?_ ?_
      rotate_left
      · intro w'
        go_simp
        with_reducible rfl
      rotate_left
      · simp only [Act.put, List.setIfInBounds_toArray, List.set_cons_zero, List.set_cons_succ, i64_w, i32_w]
        rfl
      refine pure_ (i := 7) (N := some 29) (v := ?_) (a' := ?_) #[true, true, true, true, true, true, true, true, false, false] rfl rfl (any_of HT_.out (by kernel_rfl)) (fun _ _ _ h => h) (Or.inl ⟨by rfl, ?_⟩) ?_ ?_
      rotate_left
      · intro w'
        go_simp
        with_reducible rfl
      rotate_left
      · simp only [Act.put, List.setIfInBounds_toArray, List.set_cons_zero, List.set_cons_succ, i64_w, i32_w]
        rfl
      refine pure_ (i := 8) (N := some 6) (v := ?_) (a' := ?_) #[true, true, true, true, true, true, true, true, true, false] rfl rfl (any_of HT_.out (by kernel_rfl)) (fun _ _ _ h => h) (Or.inl ⟨by rfl, ?_⟩) ?_ ?_
      rotate_left
      · intro w'
        go_simp
        with_reducible rfl
      rotate_left
      · simp only [Act.put, List.setIfInBounds_toArray, List.set_cons_zero, List.set_cons_succ, i64_w, i32_w]
        rfl
      refine pure_ (i := 9) (N := some 7) (v := ?_) (a' := ?_) #[true, true, true, true, true, true, true, true, true, true] rfl rfl (any_of HT_.out (by kernel_rfl)) (fun _ _ _ h => h) (Or.inl ⟨by rfl, ?_⟩) ?_ ?_
      rotate_left
      · intro w'
        go_simp
        with_reducible rfl
      rotate_left
      · simp only [Act.put, List.setIfInBounds_toArray, List.set_cons_zero, List.set_cons_succ, i64_w, i32_w]
        rfl
      refine done_ (done_of HT_.out (by kernel_rfl)) ?_
      have hcz39_0 : w38.cell? ⟨gb10001, 0, none⟩ = some (.int .i64 a0_0) := (blk_cell BK10001.out 0).trans rfl
      have hcz39_1 : w38.cell? ⟨gb10001, 1, none⟩ = some (.slice A0_1 l0_1.length c0_1) := (blk_cell BK10001.out 1).trans rfl
      have hfz39_0 := blk_frozen BK10001.out 0
      have hfz39_1 := blk_frozen BK10001.out 1
      go_upto_region 12 with (first | ((with_reducible refine gate_callee (f := 35) rfl ?_); refine goesL_ (some 31) rfl rfl Try.func35 (by kernel_rfl) rfl #[.agg #[.int .i64 a0_0, .slice A0_1 l0_1.length c0_1]] rfl (by (try simp only [List.map_toArray, List.map_cons, List.map_nil]); first | done | rfl | (simp only [List.length_drop, List.length_take]; rfl)) ?_; (with_reducible refine (laws_toMatroid.calls k a0_0 _ _ l0_1 t10015 t10016 _ ?side1 ?side2 A22.out).mono ?_); (case side1 => repeat (first | exact (Kd.C_below HR0_1.out HB.out) | (with_reducible refine Kd.C_alloc ?_ _) | (with_reducible refine Kd.C_drewN ?_ _) | (with_reducible refine Kd.C_drew ?_))); (case side2 => exact HC0_1.out); rintro e w40 ⟨v10017, rfl, ho0, hb⟩; refine ⟨_, rfl, ?_⟩; have n0_ := Aside0.mk (Kd.R_elder' (by (with_reducible repeat (first | apply Kd.R_alloc | apply Kd.R_drewN | apply Kd.R_drew)); exact HO10008.out) (Kd.R_base ho0) hb); have n1_ := Aside0.mk (Kd.R_elder' (by (with_reducible repeat (first | apply Kd.R_alloc | apply Kd.R_drewN | apply Kd.R_drew)); exact HO10012.out) (Kd.R_base ho0) hb); have n2_ := Aside0.mk (Kd.R_lower (Kd.R_new' (Kd.R_new' ho0 (Kd.R_lt (by (with_reducible repeat (first | apply Kd.R_alloc | apply Kd.R_drewN | apply Kd.R_drew)); exact HO10008.out))) (Kd.R_lt (by (with_reducible repeat (first | apply Kd.R_alloc | apply Kd.R_drewN | apply Kd.R_drew)); exact HO10012.out))) (below_size (by repeat (first | (with_reducible first | exact HB.out | apply below_alloc | apply pw_below_drewN | apply below_drew1 | refine below_set ?_ GE10001.out | refine below_set ?_ GE10002.out) | exact HB.out)))); have n3_ := Aside0.mk (blk_below (g := gb10001) (o := .cells #[.int .i64 a0_0, .slice A0_1 l0_1.length c0_1] 24 (0, 0)) (by (with_reducible repeat (first | refine blk_drewN ?_ _ | refine blk_drew ?_ | refine blk_alloc ?_ _)); exact BK10001.out) hb); have n4_ := Aside0.mk (blk_below (g := gb10002) (o := .cells #[.int .i64 a1_0, .slice A1_1 l1_1.length c1_1] 24 (0, 0)) (by (with_reducible repeat (first | refine blk_drewN ?_ _ | refine blk_drew ?_ | refine blk_alloc ?_ _)); exact BK10002.out) hb); have n5_ := Aside0.mk (below_step (by repeat (first | (with_reducible first | exact HB.out | apply below_alloc | apply pw_below_drewN | apply below_drew1 | refine below_set ?_ GE10001.out | refine below_set ?_ GE10002.out) | exact HB.out)) hb); clear HO10008; clear HO10012; clear BK10001; clear BK10002; clear HB; have HO10008 := n0_; have HO10012 := n1_; have HO10018 := n2_; have BK10001 := n3_; have BK10002 := n4_; have HB := n5_; clear n0_ n1_ n2_ n3_ n4_ n5_; (try clear hb); (try clear hb2); (try clear hk); (try clear hi); (try clear ho0)) | ((with_reducible refine gate_dst (N := 8) rfl ?_); refine box_event ?hg (N := 8) ?hd (cs := #[.int .i64 0, .slice none 0 0]) (t := 28) ?hr ?_; (case hd => rfl); (case hg => rfl); (case hr => first | (go_simp; done) | (go_simp; rfl)); intro gb10019 hg w41 hbox hb; have n0_ := Aside0.mk (Kd.R_below (by (with_reducible repeat (first | apply Kd.R_alloc | apply Kd.R_drewN | apply Kd.R_drew)); exact HO10008.out) hb); have n1_ := Aside0.mk (Kd.R_below (by (with_reducible repeat (first | apply Kd.R_alloc | apply Kd.R_drewN | apply Kd.R_drew)); exact HO10012.out) hb); have n2_ := Aside0.mk (Kd.R_below (by (with_reducible repeat (first | apply Kd.R_alloc | apply Kd.R_drewN | apply Kd.R_drew)); exact HO10018.out) hb); have n3_ := Aside0.mk (blk_below (g := gb10001) (o := .cells #[.int .i64 a0_0, .slice A0_1 l0_1.length c0_1] 24 (0, 0)) (by (with_reducible repeat (first | refine blk_drewN ?_ _ | refine blk_drew ?_ | refine blk_alloc ?_ _)); exact BK10001.out) hb); have n4_ := Aside0.mk (blk_below (g := gb10002) (o := .cells #[.int .i64 a1_0, .slice A1_1 l1_1.length c1_1] 24 (0, 0)) (by (with_reducible repeat (first | refine blk_drewN ?_ _ | refine blk_drew ?_ | refine blk_alloc ?_ _)); exact BK10002.out) hb); have n5_ := Aside0.mk (below_step (by repeat (first | (with_reducible first | exact HB.out | apply below_alloc | apply pw_below_drewN | apply below_drew1 | refine below_set ?_ GE10001.out | refine below_set ?_ GE10002.out) | exact HB.out)) hb); have n6_ := Aside0.mk (hbox); have n7_ := Aside0.mk ((by rw [hg]; exact (below_size (by repeat (first | (with_reducible first | exact HB.out | apply below_alloc | apply pw_below_drewN | apply below_drew1 | refine below_set ?_ GE10001.out | refine below_set ?_ GE10002.out) | exact HB.out))) : w.heap.size ≤ gb10019)); have n8_ := Aside0.mk ((by rw [hg]; exact (below_size (by repeat (first | (with_reducible first | exact HB.out | apply below_alloc | apply pw_below_drewN | apply below_drew1 | refine below_set ?_ GE10001.out | refine below_set ?_ GE10002.out) | exact HB.out))) : w.heap.size ≤ gb10019)); have n9_ := Aside0.mk ((by rw [hg]; exact Nat.ne_of_lt (blk_lt (g := gb10001) (o := .cells #[.int .i64 a0_0, .slice A0_1 l0_1.length c0_1] 24 (0, 0)) (by (with_reducible repeat (first | refine blk_drewN ?_ _ | refine blk_drew ?_ | refine blk_alloc ?_ _)); exact BK10001.out)) : gb10001 ≠ gb10019)); have n10_ := Aside0.mk ((by rw [hg]; exact Nat.ne_of_gt (blk_lt (g := gb10001) (o := .cells #[.int .i64 a0_0, .slice A0_1 l0_1.length c0_1] 24 (0, 0)) (by (with_reducible repeat (first | refine blk_drewN ?_ _ | refine blk_drew ?_ | refine blk_alloc ?_ _)); exact BK10001.out)) : gb10019 ≠ gb10001)); have n11_ := Aside0.mk ((by rw [hg]; exact Nat.ne_of_lt (blk_lt (g := gb10002) (o := .cells #[.int .i64 a1_0, .slice A1_1 l1_1.length c1_1] 24 (0, 0)) (by (with_reducible repeat (first | refine blk_drewN ?_ _ | refine blk_drew ?_ | refine blk_alloc ?_ _)); exact BK10002.out)) : gb10002 ≠ gb10019)); have n12_ := Aside0.mk ((by rw [hg]; exact Nat.ne_of_gt (blk_lt (g := gb10002) (o := .cells #[.int .i64 a1_0, .slice A1_1 l1_1.length c1_1] 24 (0, 0)) (by (with_reducible repeat (first | refine blk_drewN ?_ _ | refine blk_drew ?_ | refine blk_alloc ?_ _)); exact BK10002.out)) : gb10019 ≠ gb10002)); clear HO10008; clear HO10012; clear HO10018; clear BK10001; clear BK10002; clear HB; have HO10008 := n0_; have HO10012 := n1_; have HO10018 := n2_; have BK10001 := n3_; have BK10002 := n4_; have HB := n5_; have BK10019 := n6_; have GW10019 := n7_; have GE10019 := n8_; have NB10001_10019 := n9_; have NB10019_10001 := n10_; have NB10002_10019 := n11_; have NB10019_10002 := n12_; clear n0_ n1_ n2_ n3_ n4_ n5_ n6_ n7_ n8_ n9_ n10_ n11_ n12_; clear hb hbox hg; have hnb42 := NB10019_10001.out; have hnc42 := NB10001_10019.out; have hnb43 := NB10019_10002.out; have hnc43 := NB10002_10019.out; have hcz44_0 : w41.cell? ⟨gb10019, 0, none⟩ = some (.int .i64 0) := (blk_cell BK10019.out 0).trans rfl; have hcz44_1 : w41.cell? ⟨gb10019, 1, none⟩ = some (.slice none 0 0) := (blk_cell BK10019.out 1).trans rfl; have hfz44_0 := blk_frozen BK10019.out 0; have hfz44_1 := blk_frozen BK10019.out 1; obtain ⟨Ao45, co45, eo45⟩ := Kd.R_slice HO10018.out; subst eo45; have hcz46_0 : w41.cell? ⟨gb10002, 0, none⟩ = some (.int .i64 a1_0) := (blk_cell BK10002.out 0).trans rfl; have hcz46_1 : w41.cell? ⟨gb10002, 1, none⟩ = some (.slice A1_1 l1_1.length c1_1) := (blk_cell BK10002.out 1).trans rfl; have hfz46_0 := blk_frozen BK10002.out 0; have hfz46_1 := blk_frozen BK10002.out 1) | ((with_reducible refine gate_callee (f := 35) rfl ?_); refine goesL_ (some 33) rfl rfl Try.func35 (by kernel_rfl) rfl #[.agg #[.int .i64 a1_0, .slice A1_1 l1_1.length c1_1]] rfl (by (try simp only [List.map_toArray, List.map_cons, List.map_nil]); first | done | rfl | (simp only [List.length_drop, List.length_take]; rfl)) ?_; (with_reducible refine (laws_toMatroid.calls k a1_0 _ _ l1_1 t10020 t10021 _ ?side1 ?side2 A23.out).mono ?_); (case side1 => exact Kd.C_below HR1_1.out (by repeat (first | (with_reducible first | exact HB.out | apply below_alloc | apply pw_below_drewN | apply below_drew1 | refine below_set ?_ GE10001.out | refine below_set ?_ GE10002.out | refine below_set ?_ GE10019.out) | exact HB.out))); (case side2 => exact HC1_1.out); rintro e w47 ⟨v10022, rfl, ho0, hb⟩; refine ⟨_, rfl, ?_⟩; have n0_ := Aside0.mk (Kd.R_elder' (by (with_reducible repeat (first | apply Kd.R_alloc | apply Kd.R_drewN | apply Kd.R_drew)); exact (Kd.R_mono (Kd.R_far (p := ⟨gb10019, 1, none⟩) (Kd.R_far (p := ⟨gb10019, 0, none⟩) (Kd.R_types HO10008.out BK10019.out (by decide)) (fun _ hk => hk.2) (.int .i64 t10015)) (fun _ hk => hk.2) (.slice Ao45 t10016.length co45)) (fun _ h_ => h_.1))) (Kd.R_base ho0) hb); have n1_ := Aside0.mk (Kd.R_elder' (by (with_reducible repeat (first | apply Kd.R_alloc | apply Kd.R_drewN | apply Kd.R_drew)); exact (Kd.R_mono (Kd.R_far (p := ⟨gb10019, 1, none⟩) (Kd.R_far (p := ⟨gb10019, 0, none⟩) (Kd.R_types HO10012.out BK10019.out (by decide)) (fun _ hk => hk.2) (.int .i64 t10015)) (fun _ hk => hk.2) (.slice Ao45 t10016.length co45)) (fun _ h_ => h_.1))) (Kd.R_base ho0) hb); have n2_ := Aside0.mk (Kd.R_elder' (by (with_reducible repeat (first | apply Kd.R_alloc | apply Kd.R_drewN | apply Kd.R_drew)); exact (Kd.R_mono (Kd.R_far (p := ⟨gb10019, 1, none⟩) (Kd.R_far (p := ⟨gb10019, 0, none⟩) (Kd.R_types HO10018.out BK10019.out (by decide)) (fun _ hk => hk.2) (.int .i64 t10015)) (fun _ hk => hk.2) (.slice Ao45 t10016.length co45)) (fun _ h_ => h_.1))) (Kd.R_base ho0) hb); have n3_ := Aside0.mk (Kd.R_lower (Kd.R_new' (Kd.R_new' (Kd.R_new' ho0 (Kd.R_lt (by (with_reducible repeat (first | apply Kd.R_alloc | apply Kd.R_drewN | apply Kd.R_drew)); exact (Kd.R_mono (Kd.R_far (p := ⟨gb10019, 1, none⟩) (Kd.R_far (p := ⟨gb10019, 0, none⟩) (Kd.R_types HO10008.out BK10019.out (by decide)) (fun _ hk => hk.2) (.int .i64 t10015)) (fun _ hk => hk.2) (.slice Ao45 t10016.length co45)) (fun _ h_ => h_.1))))) (Kd.R_lt (by (with_reducible repeat (first | apply Kd.R_alloc | apply Kd.R_drewN | apply Kd.R_drew)); exact (Kd.R_mono (Kd.R_far (p := ⟨gb10019, 1, none⟩) (Kd.R_far (p := ⟨gb10019, 0, none⟩) (Kd.R_types HO10012.out BK10019.out (by decide)) (fun _ hk => hk.2) (.int .i64 t10015)) (fun _ hk => hk.2) (.slice Ao45 t10016.length co45)) (fun _ h_ => h_.1))))) (Kd.R_lt (by (with_reducible repeat (first | apply Kd.R_alloc | apply Kd.R_drewN | apply Kd.R_drew)); exact (Kd.R_mono (Kd.R_far (p := ⟨gb10019, 1, none⟩) (Kd.R_far (p := ⟨gb10019, 0, none⟩) (Kd.R_types HO10018.out BK10019.out (by decide)) (fun _ hk => hk.2) (.int .i64 t10015)) (fun _ hk => hk.2) (.slice Ao45 t10016.length co45)) (fun _ h_ => h_.1))))) (below_size (by repeat (first | (with_reducible first | exact HB.out | apply below_alloc | apply pw_below_drewN | apply below_drew1 | refine below_set ?_ GE10001.out | refine below_set ?_ GE10002.out | refine below_set ?_ GE10019.out) | exact HB.out)))); have n4_ := Aside0.mk (blk_below (g := gb10001) (o := .cells #[.int .i64 a0_0, .slice A0_1 l0_1.length c0_1] 24 (0, 0)) (by (with_reducible repeat (first | refine blk_drewN ?_ _ | refine blk_drew ?_ | refine blk_alloc ?_ _)); refine blk_far ?_ NB10001_10019.out _; (with_reducible repeat (first | refine blk_drewN ?_ _ | refine blk_drew ?_ | refine blk_alloc ?_ _)); refine blk_far ?_ NB10001_10019.out _; (with_reducible repeat (first | refine blk_drewN ?_ _ | refine blk_drew ?_ | refine blk_alloc ?_ _)); exact BK10001.out) hb); have n5_ := Aside0.mk (blk_below (g := gb10002) (o := .cells #[.int .i64 a1_0, .slice A1_1 l1_1.length c1_1] 24 (0, 0)) (by (with_reducible repeat (first | refine blk_drewN ?_ _ | refine blk_drew ?_ | refine blk_alloc ?_ _)); refine blk_far ?_ NB10002_10019.out _; (with_reducible repeat (first | refine blk_drewN ?_ _ | refine blk_drew ?_ | refine blk_alloc ?_ _)); refine blk_far ?_ NB10002_10019.out _; (with_reducible repeat (first | refine blk_drewN ?_ _ | refine blk_drew ?_ | refine blk_alloc ?_ _)); exact BK10002.out) hb); have n6_ := Aside0.mk (blk_below (g := gb10019) (o := .cells #[.int .i64 t10015, .slice Ao45 t10016.length co45] 28 (0, 0)) (by (with_reducible repeat (first | refine blk_drewN ?_ _ | refine blk_drew ?_ | refine blk_alloc ?_ _)); refine blk_put (cs := #[.int .i64 t10015, .slice none 0 0]) ?_ 1 _ rfl; (with_reducible repeat (first | refine blk_drewN ?_ _ | refine blk_drew ?_ | refine blk_alloc ?_ _)); refine blk_put (cs := #[.int .i64 0, .slice none 0 0]) ?_ 0 _ rfl; (with_reducible repeat (first | refine blk_drewN ?_ _ | refine blk_drew ?_ | refine blk_alloc ?_ _)); exact BK10019.out) hb); have n7_ := Aside0.mk (below_step (by repeat (first | (with_reducible first | exact HB.out | apply below_alloc | apply pw_below_drewN | apply below_drew1 | refine below_set ?_ GE10001.out | refine below_set ?_ GE10002.out | refine below_set ?_ GE10019.out) | exact HB.out)) hb); clear HO10008; clear HO10012; clear HO10018; clear BK10001; clear BK10002; clear BK10019; clear HB; have HO10008 := n0_; have HO10012 := n1_; have HO10018 := n2_; have HO10023 := n3_; have BK10001 := n4_; have BK10002 := n5_; have BK10019 := n6_; have HB := n7_; clear n0_ n1_ n2_ n3_ n4_ n5_ n6_ n7_; (try clear hb); (try clear hb2); (try clear hk); (try clear hi); (try clear ho0)) | ((with_reducible refine gate_dst (N := 9) rfl ?_); refine box_event ?hg (N := 9) ?hd (cs := #[.int .i64 0, .slice none 0 0]) (t := 28) ?hr ?_; (case hd => rfl); (case hg => rfl); (case hr => first | (go_simp; done) | (go_simp; rfl)); intro gb10024 hg w48 hbox hb; have n0_ := Aside0.mk (Kd.R_below (by (with_reducible repeat (first | apply Kd.R_alloc | apply Kd.R_drewN | apply Kd.R_drew)); exact HO10008.out) hb); have n1_ := Aside0.mk (Kd.R_below (by (with_reducible repeat (first | apply Kd.R_alloc | apply Kd.R_drewN | apply Kd.R_drew)); exact HO10012.out) hb); have n2_ := Aside0.mk (Kd.R_below (by (with_reducible repeat (first | apply Kd.R_alloc | apply Kd.R_drewN | apply Kd.R_drew)); exact HO10018.out) hb); have n3_ := Aside0.mk (Kd.R_below (by (with_reducible repeat (first | apply Kd.R_alloc | apply Kd.R_drewN | apply Kd.R_drew)); exact HO10023.out) hb); have n4_ := Aside0.mk (blk_below (g := gb10001) (o := .cells #[.int .i64 a0_0, .slice A0_1 l0_1.length c0_1] 24 (0, 0)) (by (with_reducible repeat (first | refine blk_drewN ?_ _ | refine blk_drew ?_ | refine blk_alloc ?_ _)); exact BK10001.out) hb); have n5_ := Aside0.mk (blk_below (g := gb10002) (o := .cells #[.int .i64 a1_0, .slice A1_1 l1_1.length c1_1] 24 (0, 0)) (by (with_reducible repeat (first | refine blk_drewN ?_ _ | refine blk_drew ?_ | refine blk_alloc ?_ _)); exact BK10002.out) hb); have n6_ := Aside0.mk (blk_below (g := gb10019) (o := .cells #[.int .i64 t10015, .slice Ao45 t10016.length co45] 28 (0, 0)) (by (with_reducible repeat (first | refine blk_drewN ?_ _ | refine blk_drew ?_ | refine blk_alloc ?_ _)); exact BK10019.out) hb); have n7_ := Aside0.mk (below_step (by repeat (first | (with_reducible first | exact HB.out | apply below_alloc | apply pw_below_drewN | apply below_drew1 | refine below_set ?_ GE10001.out | refine below_set ?_ GE10002.out | refine below_set ?_ GE10019.out) | exact HB.out)) hb); have n8_ := Aside0.mk (hbox); have n9_ := Aside0.mk ((by rw [hg]; exact (below_size (by repeat (first | (with_reducible first | exact HB.out | apply below_alloc | apply pw_below_drewN | apply below_drew1 | refine below_set ?_ GE10001.out | refine below_set ?_ GE10002.out | refine below_set ?_ GE10019.out) | exact HB.out))) : w.heap.size ≤ gb10024)); have n10_ := Aside0.mk ((by rw [hg]; exact (below_size (by repeat (first | (with_reducible first | exact HB.out | apply below_alloc | apply pw_below_drewN | apply below_drew1 | refine below_set ?_ GE10001.out | refine below_set ?_ GE10002.out | refine below_set ?_ GE10019.out) | exact HB.out))) : w.heap.size ≤ gb10024)); have n11_ := Aside0.mk ((by rw [hg]; exact Nat.ne_of_lt (blk_lt (g := gb10001) (o := .cells #[.int .i64 a0_0, .slice A0_1 l0_1.length c0_1] 24 (0, 0)) (by (with_reducible repeat (first | refine blk_drewN ?_ _ | refine blk_drew ?_ | refine blk_alloc ?_ _)); exact BK10001.out)) : gb10001 ≠ gb10024)); have n12_ := Aside0.mk ((by rw [hg]; exact Nat.ne_of_gt (blk_lt (g := gb10001) (o := .cells #[.int .i64 a0_0, .slice A0_1 l0_1.length c0_1] 24 (0, 0)) (by (with_reducible repeat (first | refine blk_drewN ?_ _ | refine blk_drew ?_ | refine blk_alloc ?_ _)); exact BK10001.out)) : gb10024 ≠ gb10001)); have n13_ := Aside0.mk ((by rw [hg]; exact Nat.ne_of_lt (blk_lt (g := gb10002) (o := .cells #[.int .i64 a1_0, .slice A1_1 l1_1.length c1_1] 24 (0, 0)) (by (with_reducible repeat (first | refine blk_drewN ?_ _ | refine blk_drew ?_ | refine blk_alloc ?_ _)); exact BK10002.out)) : gb10002 ≠ gb10024)); have n14_ := Aside0.mk ((by rw [hg]; exact Nat.ne_of_gt (blk_lt (g := gb10002) (o := .cells #[.int .i64 a1_0, .slice A1_1 l1_1.length c1_1] 24 (0, 0)) (by (with_reducible repeat (first | refine blk_drewN ?_ _ | refine blk_drew ?_ | refine blk_alloc ?_ _)); exact BK10002.out)) : gb10024 ≠ gb10002)); have n15_ := Aside0.mk ((by rw [hg]; exact Nat.ne_of_lt (blk_lt (g := gb10019) (o := .cells #[.int .i64 t10015, .slice Ao45 t10016.length co45] 28 (0, 0)) (by (with_reducible repeat (first | refine blk_drewN ?_ _ | refine blk_drew ?_ | refine blk_alloc ?_ _)); exact BK10019.out)) : gb10019 ≠ gb10024)); have n16_ := Aside0.mk ((by rw [hg]; exact Nat.ne_of_gt (blk_lt (g := gb10019) (o := .cells #[.int .i64 t10015, .slice Ao45 t10016.length co45] 28 (0, 0)) (by (with_reducible repeat (first | refine blk_drewN ?_ _ | refine blk_drew ?_ | refine blk_alloc ?_ _)); exact BK10019.out)) : gb10024 ≠ gb10019)); clear HO10008; clear HO10012; clear HO10018; clear HO10023; clear BK10001; clear BK10002; clear BK10019; clear HB; have HO10008 := n0_; have HO10012 := n1_; have HO10018 := n2_; have HO10023 := n3_; have BK10001 := n4_; have BK10002 := n5_; have BK10019 := n6_; have HB := n7_; have BK10024 := n8_; have GW10024 := n9_; have GE10024 := n10_; have NB10001_10024 := n11_; have NB10024_10001 := n12_; have NB10002_10024 := n13_; have NB10024_10002 := n14_; have NB10019_10024 := n15_; have NB10024_10019 := n16_; clear n0_ n1_ n2_ n3_ n4_ n5_ n6_ n7_ n8_ n9_ n10_ n11_ n12_ n13_ n14_ n15_ n16_; clear hb hbox hg; have hnb49 := NB10024_10001.out; have hnc49 := NB10001_10024.out; have hnb50 := NB10024_10002.out; have hnc50 := NB10002_10024.out; have hnb51 := NB10024_10019.out; have hnc51 := NB10019_10024.out; have hcz52_0 : w48.cell? ⟨gb10024, 0, none⟩ = some (.int .i64 0) := (blk_cell BK10024.out 0).trans rfl; have hcz52_1 : w48.cell? ⟨gb10024, 1, none⟩ = some (.slice none 0 0) := (blk_cell BK10024.out 1).trans rfl; have hfz52_0 := blk_frozen BK10024.out 0; have hfz52_1 := blk_frozen BK10024.out 1; obtain ⟨Ao53, co53, eo53⟩ := Kd.R_slice HO10023.out; subst eo53; have hcz54_0 : w48.cell? ⟨gb10019, 0, none⟩ = some (.int .i64 t10015) := (blk_cell BK10019.out 0).trans rfl; have hcz54_1 : w48.cell? ⟨gb10019, 1, none⟩ = some (.slice Ao45 t10016.length co45) := (blk_cell BK10019.out 1).trans rfl; have hfz54_0 := blk_frozen BK10019.out 0; have hfz54_1 := blk_frozen BK10019.out 1) | ((with_reducible refine gate_callee (f := 55) rfl ?_); refine goesL_ (some 37) rfl rfl Try.func55 (by kernel_rfl) rfl #[.agg #[.int .i64 t10015, .slice Ao45 t10016.length co45], .agg #[.int .i64 t10020, .slice Ao53 t10021.length co53]] rfl (by (try simp only [List.map_toArray, List.map_cons, List.map_nil]); first | done | rfl | (simp only [List.length_drop, List.length_take]; rfl)) ?_; (with_reducible refine (impl_CertificateOf.calls k t10015 _ _ t10016 t10020 _ _ t10021 t10025 t10026 _ ?side1 ?side2 ?side3 ?side4 A24.out).mono ?_); (case side1 => refine (Kd.R_reads' (e := 3) (base := w.heap.size) (ok := fun k_ => (((True ∧ some k_ ≠ (.slice Ao36 t10006.length co36 : Value).ownBlock) ∧ some k_ ≠ (.slice Ao37 t10010.length co37 : Value).ownBlock) ∧ some k_ ≠ (.slice Ao53 t10021.length co53 : Value).ownBlock)) (n := t10016.length) (c := co45) ?_).2.2; exact (by (with_reducible repeat (first | apply Kd.R_alloc | apply Kd.R_drewN | apply Kd.R_drew)); exact (Kd.R_mono (Kd.R_far (p := ⟨gb10024, 1, none⟩) (Kd.R_far (p := ⟨gb10024, 0, none⟩) (Kd.R_types HO10018.out BK10024.out (by decide)) (fun _ hk => hk.2) (.int .i64 t10020)) (fun _ hk => hk.2) (.slice Ao53 t10021.length co53)) (fun _ h_ => h_.1)))); (case side2 => exact (Kd.R_reads' HO10018.out).2.1); (case side3 => refine (Kd.R_reads' (e := 3) (base := w.heap.size) (ok := fun k_ => (((True ∧ some k_ ≠ (.slice Ao36 t10006.length co36 : Value).ownBlock) ∧ some k_ ≠ (.slice Ao37 t10010.length co37 : Value).ownBlock) ∧ some k_ ≠ (.slice Ao45 t10016.length co45 : Value).ownBlock)) (n := t10021.length) (c := co53) ?_).2.2; exact (by (with_reducible repeat (first | apply Kd.R_alloc | apply Kd.R_drewN | apply Kd.R_drew)); exact (Kd.R_mono (Kd.R_far (p := ⟨gb10024, 1, none⟩) (Kd.R_far (p := ⟨gb10024, 0, none⟩) (Kd.R_types HO10023.out BK10024.out (by decide)) (fun _ hk => hk.2) (.int .i64 t10020)) (fun _ hk => hk.2) (.slice Ao53 t10021.length co53)) (fun _ h_ => h_.1)))); (case side4 => exact (Kd.R_reads' HO10023.out).2.1); rintro e w55 ⟨rfl, hb⟩; refine ⟨_, rfl, ?_⟩; have n0_ := Aside0.mk (Kd.R_below (by (with_reducible repeat (first | apply Kd.R_alloc | apply Kd.R_drewN | apply Kd.R_drew)); exact (Kd.R_mono (Kd.R_far (p := ⟨gb10024, 1, none⟩) (Kd.R_far (p := ⟨gb10024, 0, none⟩) (Kd.R_types HO10008.out BK10024.out (by decide)) (fun _ hk => hk.2) (.int .i64 t10020)) (fun _ hk => hk.2) (.slice Ao53 t10021.length co53)) (fun _ h_ => h_.1))) hb); have n1_ := Aside0.mk (Kd.R_below (by (with_reducible repeat (first | apply Kd.R_alloc | apply Kd.R_drewN | apply Kd.R_drew)); exact (Kd.R_mono (Kd.R_far (p := ⟨gb10024, 1, none⟩) (Kd.R_far (p := ⟨gb10024, 0, none⟩) (Kd.R_types HO10012.out BK10024.out (by decide)) (fun _ hk => hk.2) (.int .i64 t10020)) (fun _ hk => hk.2) (.slice Ao53 t10021.length co53)) (fun _ h_ => h_.1))) hb); have n2_ := Aside0.mk (Kd.R_below (by (with_reducible repeat (first | apply Kd.R_alloc | apply Kd.R_drewN | apply Kd.R_drew)); exact (Kd.R_mono (Kd.R_far (p := ⟨gb10024, 1, none⟩) (Kd.R_far (p := ⟨gb10024, 0, none⟩) (Kd.R_types HO10018.out BK10024.out (by decide)) (fun _ hk => hk.2) (.int .i64 t10020)) (fun _ hk => hk.2) (.slice Ao53 t10021.length co53)) (fun _ h_ => h_.1))) hb); have n3_ := Aside0.mk (Kd.R_below (by (with_reducible repeat (first | apply Kd.R_alloc | apply Kd.R_drewN | apply Kd.R_drew)); exact (Kd.R_mono (Kd.R_far (p := ⟨gb10024, 1, none⟩) (Kd.R_far (p := ⟨gb10024, 0, none⟩) (Kd.R_types HO10023.out BK10024.out (by decide)) (fun _ hk => hk.2) (.int .i64 t10020)) (fun _ hk => hk.2) (.slice Ao53 t10021.length co53)) (fun _ h_ => h_.1))) hb); have n4_ := Aside0.mk (blk_below (g := gb10001) (o := .cells #[.int .i64 a0_0, .slice A0_1 l0_1.length c0_1] 24 (0, 0)) (by (with_reducible repeat (first | refine blk_drewN ?_ _ | refine blk_drew ?_ | refine blk_alloc ?_ _)); refine blk_far ?_ NB10001_10024.out _; (with_reducible repeat (first | refine blk_drewN ?_ _ | refine blk_drew ?_ | refine blk_alloc ?_ _)); refine blk_far ?_ NB10001_10024.out _; (with_reducible repeat (first | refine blk_drewN ?_ _ | refine blk_drew ?_ | refine blk_alloc ?_ _)); exact BK10001.out) hb); have n5_ := Aside0.mk (blk_below (g := gb10002) (o := .cells #[.int .i64 a1_0, .slice A1_1 l1_1.length c1_1] 24 (0, 0)) (by (with_reducible repeat (first | refine blk_drewN ?_ _ | refine blk_drew ?_ | refine blk_alloc ?_ _)); refine blk_far ?_ NB10002_10024.out _; (with_reducible repeat (first | refine blk_drewN ?_ _ | refine blk_drew ?_ | refine blk_alloc ?_ _)); refine blk_far ?_ NB10002_10024.out _; (with_reducible repeat (first | refine blk_drewN ?_ _ | refine blk_drew ?_ | refine blk_alloc ?_ _)); exact BK10002.out) hb); have n6_ := Aside0.mk (blk_below (g := gb10019) (o := .cells #[.int .i64 t10015, .slice Ao45 t10016.length co45] 28 (0, 0)) (by (with_reducible repeat (first | refine blk_drewN ?_ _ | refine blk_drew ?_ | refine blk_alloc ?_ _)); refine blk_far ?_ NB10019_10024.out _; (with_reducible repeat (first | refine blk_drewN ?_ _ | refine blk_drew ?_ | refine blk_alloc ?_ _)); refine blk_far ?_ NB10019_10024.out _; (with_reducible repeat (first | refine blk_drewN ?_ _ | refine blk_drew ?_ | refine blk_alloc ?_ _)); exact BK10019.out) hb); have n7_ := Aside0.mk (blk_below (g := gb10024) (o := .cells #[.int .i64 t10020, .slice Ao53 t10021.length co53] 28 (0, 0)) (by (with_reducible repeat (first | refine blk_drewN ?_ _ | refine blk_drew ?_ | refine blk_alloc ?_ _)); refine blk_put (cs := #[.int .i64 t10020, .slice none 0 0]) ?_ 1 _ rfl; (with_reducible repeat (first | refine blk_drewN ?_ _ | refine blk_drew ?_ | refine blk_alloc ?_ _)); refine blk_put (cs := #[.int .i64 0, .slice none 0 0]) ?_ 0 _ rfl; (with_reducible repeat (first | refine blk_drewN ?_ _ | refine blk_drew ?_ | refine blk_alloc ?_ _)); exact BK10024.out) hb); have n8_ := Aside0.mk (below_step (by repeat (first | (with_reducible first | exact HB.out | apply below_alloc | apply pw_below_drewN | apply below_drew1 | refine below_set ?_ GE10001.out | refine below_set ?_ GE10002.out | refine below_set ?_ GE10019.out | refine below_set ?_ GE10024.out) | exact HB.out)) hb); clear HO10008; clear HO10012; clear HO10018; clear HO10023; clear BK10001; clear BK10002; clear BK10019; clear BK10024; clear HB; have HO10008 := n0_; have HO10012 := n1_; have HO10018 := n2_; have HO10023 := n3_; have BK10001 := n4_; have BK10002 := n5_; have BK10019 := n6_; have BK10024 := n7_; have HB := n8_; clear n0_ n1_ n2_ n3_ n4_ n5_ n6_ n7_ n8_; (try clear hb); (try clear hb2); (try clear hk); (try clear hi)))
      (try simp only [Act.put, List.setIfInBounds_toArray, List.set_cons_zero, List.set_cons_succ])
      go_cut [47] (fun v47 wc => ∃ (kq : Nat) (x47_24 : Bool), v47 = .bool x47_24 ∧ Aside0 (laws_FnExactCertificateOf.j0 kq x47_24 a0_0 l0_1 a1_0 l1_1 t10015 t10016 t10020 t10021 = some true) ∧ Aside0 (kq ≤ k) ∧ Aside0 (Kd.R (Kd.int .i64) 3 wc w.heap.size (fun k_ => some k_ ≠ ((.slice Ao53 t10021.length co53) : Value).ownBlock) (.slice Ao45 t10016.length co45) t10016) ∧ Aside0 (Kd.R (Kd.int .i64) 3 wc w.heap.size (fun k_ => some k_ ≠ ((.slice Ao45 t10016.length co45) : Value).ownBlock) (.slice Ao53 t10021.length co53) t10021) ∧ Aside0 (wc.heap[gb10001]? = some (.cells #[.int .i64 a0_0, (.slice A0_1 l0_1.length c0_1)] 24 (0, 0))) ∧ Aside0 (wc.heap[gb10002]? = some (.cells #[.int .i64 a1_0, (.slice A1_1 l1_1.length c1_1)] 24 (0, 0))) ∧ Aside0 (wc.heap[gb10019]? = some (.cells #[.int .i64 t10015, (.slice Ao45 t10016.length co45)] 28 (0, 0))) ∧ Aside0 (wc.heap[gb10024]? = some (.cells #[.int .i64 t10020, (.slice Ao53 t10021.length co53)] 28 (0, 0))) ∧ Aside0 (Below w.heap.size w wc))
      case first =>
        have H := HC25.out
        clear HC25
        by_cases c56 : t10025 = t10013
        · rw [if_pos c56] at H
          have c56b0 : (t10025 == t10013) = true := beq_iff_eq.mpr c56
          have c56b1 : (t10025 != t10013) = false := bne_eq_false_iff_eq.mpr c56
          clear c56
          (first | rw [c56b0] | (simp only [i64_w, i32_w]; rw [c56b0]) | skip)
          have H' := Aside0.mk H
          clear H
          go_wp2
          go_meet
          case rel => exact ⟨_, ((t10026 != t10014)), (by first | rfl | (simp; done) | (simp [*]; done)), H', ⟨by first | omega | exact Nat.le_refl _⟩, ⟨by (with_reducible repeat (first | apply Kd.R_alloc | apply Kd.R_drewN | apply Kd.R_drew)); exact Kd.R_mono HO10018.out (fun _ hk => hk.2)⟩, ⟨by (with_reducible repeat (first | apply Kd.R_alloc | apply Kd.R_drewN | apply Kd.R_drew)); exact Kd.R_mono HO10023.out (fun _ hk => hk.2)⟩, ⟨by (with_reducible repeat (first | refine blk_drewN ?_ _ | refine blk_drew ?_ | refine blk_alloc ?_ _)); exact BK10001.out⟩, ⟨by (with_reducible repeat (first | refine blk_drewN ?_ _ | refine blk_drew ?_ | refine blk_alloc ?_ _)); exact BK10002.out⟩, ⟨by (with_reducible repeat (first | refine blk_drewN ?_ _ | refine blk_drew ?_ | refine blk_alloc ?_ _)); exact BK10019.out⟩, ⟨by (with_reducible repeat (first | refine blk_drewN ?_ _ | refine blk_drew ?_ | refine blk_alloc ?_ _)); exact BK10024.out⟩, ⟨by repeat (first | (with_reducible first | exact HB.out | apply below_alloc | apply pw_below_drewN | apply below_drew1 | refine below_set ?_ GE10001.out | refine below_set ?_ GE10002.out | refine below_set ?_ GE10019.out | refine below_set ?_ GE10024.out) | exact HB.out)⟩⟩
        · rw [if_neg c56] at H
          have c56b0 : (t10025 == t10013) = false := beq_eq_false_iff_ne.mpr c56
          have c56b1 : (t10025 != t10013) = true := bne_iff_ne.mpr c56
          (first | rw [c56b0] | (simp only [i64_w, i32_w]; rw [c56b0]) | skip)
          have H' := Aside0.mk H
          clear H
          go_wp2
          go_meet
          case rel => exact ⟨_, (true), (by first | rfl | (simp; done) | (simp [*]; done)), H', ⟨by first | omega | exact Nat.le_refl _⟩, ⟨by (with_reducible repeat (first | apply Kd.R_alloc | apply Kd.R_drewN | apply Kd.R_drew)); exact Kd.R_mono HO10018.out (fun _ hk => hk.2)⟩, ⟨by (with_reducible repeat (first | apply Kd.R_alloc | apply Kd.R_drewN | apply Kd.R_drew)); exact Kd.R_mono HO10023.out (fun _ hk => hk.2)⟩, ⟨by (with_reducible repeat (first | refine blk_drewN ?_ _ | refine blk_drew ?_ | refine blk_alloc ?_ _)); exact BK10001.out⟩, ⟨by (with_reducible repeat (first | refine blk_drewN ?_ _ | refine blk_drew ?_ | refine blk_alloc ?_ _)); exact BK10002.out⟩, ⟨by (with_reducible repeat (first | refine blk_drewN ?_ _ | refine blk_drew ?_ | refine blk_alloc ?_ _)); exact BK10019.out⟩, ⟨by (with_reducible repeat (first | refine blk_drewN ?_ _ | refine blk_drew ?_ | refine blk_alloc ?_ _)); exact BK10024.out⟩, ⟨by repeat (first | (with_reducible first | exact HB.out | apply below_alloc | apply pw_below_drewN | apply below_drew1 | refine below_set ?_ GE10001.out | refine below_set ?_ GE10002.out | refine below_set ?_ GE10019.out | refine below_set ?_ GE10024.out) | exact HB.out)⟩⟩
      case rest =>
        clear HC25
        try clear c1
        try clear c2
        try clear p2
        try clear c3
        try clear c4
        try clear c4b0
        try clear c5
        try clear c7
        try clear c9
        try clear c11
        try clear c11b0
        try clear c14
        try clear c28
        try clear c33
        try clear c35
        try clear c42
        try clear c43
        try clear c49
        try clear c50
        try clear c51
        try clear c54
        try clear c55
        try clear c56
        try clear c56b0
        try clear c56b1
        try clear hcz15_0
        try clear hcz15_1
        try clear hcz17_0
        try clear hcz17_1
        try clear hcz29_0
        try clear hcz29_1
        try clear hcz31_0
        try clear hcz31_1
        try clear hcz39_0
        try clear hcz39_1
        try clear hcz44_0
        try clear hcz44_1
        try clear hcz46_0
        try clear hcz46_1
        try clear hcz52_0
        try clear hcz52_1
        try clear hcz54_0
        try clear hcz54_1
        try clear hcz8_0
        try clear hcz8_1
        try clear hfz15_0
        try clear hfz15_1
        try clear hfz17_0
        try clear hfz17_1
        try clear hfz29_0
        try clear hfz29_1
        try clear hfz31_0
        try clear hfz31_1
        try clear hfz39_0
        try clear hfz39_1
        try clear hfz44_0
        try clear hfz44_1
        try clear hfz46_0
        try clear hfz46_1
        try clear hfz52_0
        try clear hfz52_1
        try clear hfz54_0
        try clear hfz54_1
        try clear hfz8_0
        try clear hfz8_1
        obtain ⟨kq, x47_24, rfl, HA, HJ24, HO_10020001, HO_10025001, BK10001, BK10002, BK10019, BK10024, HB⟩ := hcut
        cases kq with
        | zero => exact absurd HA.out (by simp [laws_FnExactCertificateOf.j0])
        | succ kj24 =>
          have H := HA.out
          clear HA
          simp only [laws_FnExactCertificateOf.j0] at H
          by_cases c57 : x47_24 = true
          · subst c57
            have H1 : (some false) = some true := by rw [if_pos rfl] at H; exact H
            clear H
            have H := H1
            clear H1
            exact absurd (Option.some.inj H) (by decide)
          · replace c57 := Bool.eq_false_iff.mpr c57
            subst c57
            have H1 : ((laws_toMatroid.f kj24 a0_0 l0_1).bind fun bt10027 => ((laws_eqMatroid.f kj24 t10015 t10016 bt10027.1 bt10027.2).bind fun t10031 => (if t10031 = true then ((laws_toMatroid.f kj24 a1_0 l1_1).bind fun bt10032 => ((laws_eqMatroid.f kj24 t10020 t10021 bt10032.1 bt10032.2).bind fun t10036 => (if t10036 = true then (some true) else (some false)))) else (some false)))) = some true := by rw [if_neg (show ¬ (false = true) by decide)] at H; exact H
            clear H
            have H := H1
            clear H1
            replace H := Option.bind_eq_some_iff.mp H
            obtain ⟨⟨t10027, t10028⟩, A580, H⟩ := H
            replace H : ((laws_eqMatroid.f kj24 t10015 t10016 t10027 t10028).bind fun t10031 => (if t10031 = true then ((laws_toMatroid.f kj24 a1_0 l1_1).bind fun bt10032 => ((laws_eqMatroid.f kj24 t10020 t10021 bt10032.1 bt10032.2).bind fun t10036 => (if t10036 = true then (some true) else (some false)))) else (some false))) = some true := H
            have A58 := Aside0.mk A580
            clear A580
            replace H := Option.bind_eq_some_iff.mp H
            obtain ⟨t10031, A590, H⟩ := H
            replace H : (if t10031 = true then ((laws_toMatroid.f kj24 a1_0 l1_1).bind fun bt10032 => ((laws_eqMatroid.f kj24 t10020 t10021 bt10032.1 bt10032.2).bind fun t10036 => (if t10036 = true then (some true) else (some false)))) else (some false)) = some true := H
            have A59 := Aside0.mk A590
            clear A590
            by_cases c60 : t10031 = true
            · subst c60
              have H1 : ((laws_toMatroid.f kj24 a1_0 l1_1).bind fun bt10032 => ((laws_eqMatroid.f kj24 t10020 t10021 bt10032.1 bt10032.2).bind fun t10036 => (if t10036 = true then (some true) else (some false)))) = some true := by rw [if_pos rfl] at H; exact H
              clear H
              have H := H1
              clear H1
              replace H := Option.bind_eq_some_iff.mp H
              obtain ⟨⟨t10032, t10033⟩, A610, H⟩ := H
              replace H : ((laws_eqMatroid.f kj24 t10020 t10021 t10032 t10033).bind fun t10036 => (if t10036 = true then (some true) else (some false))) = some true := H
              have A61 := Aside0.mk A610
              clear A610
              replace H := Option.bind_eq_some_iff.mp H
              obtain ⟨t10036, A620, H⟩ := H
              replace H : (if t10036 = true then (some true) else (some false)) = some true := H
              have A62 := Aside0.mk A620
              clear A620
              by_cases c63 : t10036 = true
              · subst c63
                have H1 : (some true) = some true := rfl
                clear H
                have H := H1
                clear H1
                clear H
                try go_wp2
                have n0_ := Aside0.mk (Kd.R_drew HO_10020001.out)
                have n1_ := Aside0.mk (Kd.R_drew HO_10025001.out)
                have n2_ := Aside0.mk (blk_drew BK10001.out)
                have n3_ := Aside0.mk (blk_drew BK10002.out)
                have n4_ := Aside0.mk (blk_drew BK10019.out)
                have n5_ := Aside0.mk (blk_drew BK10024.out)
                have n6_ := Aside0.mk (below_drew1 HB.out)
                clear HO_10020001
                clear HO_10025001
                clear BK10001
                clear BK10002
                clear BK10019
                clear BK10024
                clear HB
                have HO_10020001 := n0_
                have HO_10025001 := n1_
                have BK10001 := n2_
                have BK10002 := n3_
                have BK10019 := n4_
                have BK10024 := n5_
                have HB := n6_
                clear n0_ n1_ n2_ n3_ n4_ n5_ n6_
                refine start_ (n := 5) (S := fun w' => w'.cell? ⟨gb10019, 0, none⟩ = some (.int .i64 t10015) ∧ w'.cell? ⟨gb10019, 1, none⟩ = some (.slice Ao45 t10016.length co45) ∧ w'.cell? ⟨gb10001, 0, none⟩ = some (.int .i64 a0_0) ∧ w'.cell? ⟨gb10001, 1, none⟩ = some (.slice A0_1 l0_1.length c0_1)) (ds := []) #[false, false, false, false, false] (by kernel_rfl) rfl rfl ⟨(blk_cell BK10019.out 0).trans rfl, (blk_cell BK10019.out 1).trans rfl, (blk_cell BK10001.out 0).trans rfl, (blk_cell BK10001.out 1).trans rfl⟩ (fun hHeld => ?_)
                generalize wc.drew = w64 at HO_10020001 HO_10025001 BK10001 BK10002 BK10019 BK10024 HB hHeld ⊢
                refine take_ (i := 0) (N := some 48) (v := ?_) (a' := ?_) #[true, false, false, false, false] rfl rfl (by kernel_rfl) (fun _ _ _ h => h) (Or.inl ⟨by rfl, ?_⟩) hHeld ?_ ?_
                rotate_left
                · rintro w' ⟨s0, s1, s2, s3⟩
                  go_simp
                  with_reducible rfl
                rotate_left
                · simp only [Act.put, List.setIfInBounds_toArray, List.set_cons_zero, List.set_cons_succ, i64_w, i32_w]
                  rfl
                refine take_ (i := 1) (N := some 49) (v := ?_) (a' := ?_) #[true, true, false, false, false] rfl rfl (by kernel_rfl) (fun _ _ _ h => h) (Or.inl ⟨by rfl, ?_⟩) hHeld ?_ ?_
                rotate_left
                · rintro w' ⟨s0, s1, s2, s3⟩
                  go_simp
                  with_reducible rfl
                rotate_left
                · simp only [Act.put, List.setIfInBounds_toArray, List.set_cons_zero, List.set_cons_succ, i64_w, i32_w]
                  rfl
                refine one_ (i := 2) (N := some 50) #[true, true, true, false, false] rfl rfl (by kernel_rfl) (by decide) (fun K hK => ?_)
                refine goes_ Try.func35 (by kernel_rfl) rfl #[.agg #[.int .i64 a0_0, .slice A0_1 l0_1.length c0_1]] (by rfl) rfl rfl (by (try simp only [List.map_toArray, List.map_cons, List.map_nil]); first | done | rfl | (simp only [List.length_drop, List.length_take]; rfl)) ?_
                with_reducible refine (laws_toMatroid.calls kj24 a0_0 _ _ l0_1 t10027 t10028 _ ?side1 ?side2 A58.out).mono ?_
                (case side1 => repeat (first | exact (Kd.C_below HR0_1.out HB.out) | (with_reducible refine Kd.C_alloc ?_ _) | (with_reducible refine Kd.C_drewN ?_ _) | (with_reducible refine Kd.C_drew ?_)))
                (case side2 => exact HC0_1.out)
                rintro e w65 ⟨v10029, rfl, ho0, hb⟩
                refine ⟨_, rfl, ?_⟩
                have n0_ := Aside0.mk (Kd.R_elder' (by (with_reducible repeat (first | apply Kd.R_alloc | apply Kd.R_drewN | apply Kd.R_drew)); exact HO_10020001.out) (Kd.R_base ho0) hb)
                have n1_ := Aside0.mk (Kd.R_elder' (by (with_reducible repeat (first | apply Kd.R_alloc | apply Kd.R_drewN | apply Kd.R_drew)); exact HO_10025001.out) (Kd.R_base ho0) hb)
                have n2_ := Aside0.mk (Kd.R_lower (Kd.R_new' (Kd.R_new' ho0 (Kd.R_lt (by (with_reducible repeat (first | apply Kd.R_alloc | apply Kd.R_drewN | apply Kd.R_drew)); exact HO_10020001.out))) (Kd.R_lt (by (with_reducible repeat (first | apply Kd.R_alloc | apply Kd.R_drewN | apply Kd.R_drew)); exact HO_10025001.out))) (below_size (by repeat (first | (with_reducible first | exact HB.out | apply below_alloc | apply pw_below_drewN | apply below_drew1 | refine below_set ?_ GE10001.out | refine below_set ?_ GE10002.out | refine below_set ?_ GE10019.out | refine below_set ?_ GE10024.out) | exact HB.out))))
                have n3_ := Aside0.mk (blk_below (g := gb10001) (o := .cells #[.int .i64 a0_0, .slice A0_1 l0_1.length c0_1] 24 (0, 0)) (by (with_reducible repeat (first | refine blk_drewN ?_ _ | refine blk_drew ?_ | refine blk_alloc ?_ _)); exact BK10001.out) hb)
                have n4_ := Aside0.mk (blk_below (g := gb10002) (o := .cells #[.int .i64 a1_0, .slice A1_1 l1_1.length c1_1] 24 (0, 0)) (by (with_reducible repeat (first | refine blk_drewN ?_ _ | refine blk_drew ?_ | refine blk_alloc ?_ _)); exact BK10002.out) hb)
                have n5_ := Aside0.mk (blk_below (g := gb10019) (o := .cells #[.int .i64 t10015, .slice Ao45 t10016.length co45] 28 (0, 0)) (by (with_reducible repeat (first | refine blk_drewN ?_ _ | refine blk_drew ?_ | refine blk_alloc ?_ _)); exact BK10019.out) hb)
                have n6_ := Aside0.mk (blk_below (g := gb10024) (o := .cells #[.int .i64 t10020, .slice Ao53 t10021.length co53] 28 (0, 0)) (by (with_reducible repeat (first | refine blk_drewN ?_ _ | refine blk_drew ?_ | refine blk_alloc ?_ _)); exact BK10024.out) hb)
                have n7_ := Aside0.mk (below_step (by repeat (first | (with_reducible first | exact HB.out | apply below_alloc | apply pw_below_drewN | apply below_drew1 | refine below_set ?_ GE10001.out | refine below_set ?_ GE10002.out | refine below_set ?_ GE10019.out | refine below_set ?_ GE10024.out) | exact HB.out)) hb)
                clear HO_10020001
                clear HO_10025001
                clear BK10001
                clear BK10002
                clear BK10019
                clear BK10024
                clear HB
                have HO_10020001 := n0_
                have HO_10025001 := n1_
                have HO10030 := n2_
                have BK10001 := n3_
                have BK10002 := n4_
                have BK10019 := n5_
                have BK10024 := n6_
                have HB := n7_
                clear n0_ n1_ n2_ n3_ n4_ n5_ n6_ n7_
                (try clear hb)
                (try clear hb2)
                (try clear hk)
                (try clear hi)
                (try clear ho0)
                obtain ⟨Ao66, co66, eo66⟩ := Kd.R_slice HO10030.out
                (first | subst eo66 | (injection eo66 with f1_ f2_ f3_; have f4_ := f1_.symm; have f5_ := f3_.symm; clear f1_ f2_ f3_; subst f4_; subst f5_))
                refine hK.out _ _ ⟨(blk_cell BK10019.out 0).trans rfl, (blk_cell BK10019.out 1).trans rfl, (blk_cell BK10001.out 0).trans rfl, (blk_cell BK10001.out 1).trans rfl⟩ (fun hHeld => ?_)
                clear hK K
                refine norm_ (a' := ?_) ?_ ?_
                rotate_left
                · show Act.put _ (some 50) _ = _
                  simp only [Act.put, List.setIfInBounds_toArray, List.set_cons_zero, List.set_cons_succ, i64_w, i32_w]
                  rfl
                refine one_ (i := 3) (N := some 51) #[true, true, true, true, false] rfl rfl (by kernel_rfl) (by decide) (fun K hK => ?_)
                refine goes_ Try.func38 (by kernel_rfl) rfl #[.agg #[.int .i64 t10015, .slice Ao45 t10016.length co45], .agg #[.int .i64 t10027, .slice Ao66 t10028.length co66]] (by rfl) rfl rfl (by (try simp only [List.map_toArray, List.map_cons, List.map_nil]); first | done | rfl | (simp only [List.length_drop, List.length_take]; rfl)) ?_
                with_reducible refine (laws_eqMatroid.calls kj24 t10015 _ _ t10016 t10027 _ _ t10028 true _ ?side1 ?side2 ?side3 ?side4 A59.out).mono ?_
                (case side1 => repeat (first | exact (Kd.R_reads' HO_10020001.out).2.2 | (with_reducible refine Kd.C_alloc ?_ _) | (with_reducible refine Kd.C_drewN ?_ _) | (with_reducible refine Kd.C_drew ?_)))
                (case side2 => exact (Kd.R_reads' HO_10020001.out).2.1)
                (case side3 => repeat (first | exact (Kd.R_reads' HO10030.out).2.2 | (with_reducible refine Kd.C_alloc ?_ _) | (with_reducible refine Kd.C_drewN ?_ _) | (with_reducible refine Kd.C_drew ?_)))
                (case side4 => exact (Kd.R_reads' HO10030.out).2.1)
                rintro e w67 ⟨rfl, hb⟩
                refine ⟨_, rfl, ?_⟩
                have n0_ := Aside0.mk (Kd.R_below (by (with_reducible repeat (first | apply Kd.R_alloc | apply Kd.R_drewN | apply Kd.R_drew)); exact HO_10020001.out) hb)
                have n1_ := Aside0.mk (Kd.R_below (by (with_reducible repeat (first | apply Kd.R_alloc | apply Kd.R_drewN | apply Kd.R_drew)); exact HO_10025001.out) hb)
                have n2_ := Aside0.mk (Kd.R_below (by (with_reducible repeat (first | apply Kd.R_alloc | apply Kd.R_drewN | apply Kd.R_drew)); exact HO10030.out) hb)
                have n3_ := Aside0.mk (blk_below (g := gb10001) (o := .cells #[.int .i64 a0_0, .slice A0_1 l0_1.length c0_1] 24 (0, 0)) (by (with_reducible repeat (first | refine blk_drewN ?_ _ | refine blk_drew ?_ | refine blk_alloc ?_ _)); exact BK10001.out) hb)
                have n4_ := Aside0.mk (blk_below (g := gb10002) (o := .cells #[.int .i64 a1_0, .slice A1_1 l1_1.length c1_1] 24 (0, 0)) (by (with_reducible repeat (first | refine blk_drewN ?_ _ | refine blk_drew ?_ | refine blk_alloc ?_ _)); exact BK10002.out) hb)
                have n5_ := Aside0.mk (blk_below (g := gb10019) (o := .cells #[.int .i64 t10015, .slice Ao45 t10016.length co45] 28 (0, 0)) (by (with_reducible repeat (first | refine blk_drewN ?_ _ | refine blk_drew ?_ | refine blk_alloc ?_ _)); exact BK10019.out) hb)
                have n6_ := Aside0.mk (blk_below (g := gb10024) (o := .cells #[.int .i64 t10020, .slice Ao53 t10021.length co53] 28 (0, 0)) (by (with_reducible repeat (first | refine blk_drewN ?_ _ | refine blk_drew ?_ | refine blk_alloc ?_ _)); exact BK10024.out) hb)
                have n7_ := Aside0.mk (below_step (by repeat (first | (with_reducible first | exact HB.out | apply below_alloc | apply pw_below_drewN | apply below_drew1 | refine below_set ?_ GE10001.out | refine below_set ?_ GE10002.out | refine below_set ?_ GE10019.out | refine below_set ?_ GE10024.out) | exact HB.out)) hb)
                clear HO_10020001
                clear HO_10025001
                clear HO10030
                clear BK10001
                clear BK10002
                clear BK10019
                clear BK10024
                clear HB
                have HO_10020001 := n0_
                have HO_10025001 := n1_
                have HO10030 := n2_
                have BK10001 := n3_
                have BK10002 := n4_
                have BK10019 := n5_
                have BK10024 := n6_
                have HB := n7_
                clear n0_ n1_ n2_ n3_ n4_ n5_ n6_ n7_
                (try clear hb)
                (try clear hb2)
                (try clear hk)
                (try clear hi)
                refine hK.out _ _ ⟨(blk_cell BK10019.out 0).trans rfl, (blk_cell BK10019.out 1).trans rfl, (blk_cell BK10001.out 0).trans rfl, (blk_cell BK10001.out 1).trans rfl⟩ (fun hHeld => ?_)
                clear hK K
                refine norm_ (a' := ?_) ?_ ?_
                rotate_left
                · show Act.put _ (some 51) _ = _
                  simp only [Act.put, List.setIfInBounds_toArray, List.set_cons_zero, List.set_cons_succ, i64_w, i32_w]
                  rfl
                refine pure_ (i := 4) (N := some 52) (v := ?_) (a' := ?_) #[true, true, true, true, true] rfl rfl (by kernel_rfl) (fun _ _ _ h => h) (Or.inl ⟨by rfl, ?_⟩) ?_ ?_
                rotate_left
                · intro w'
                  go_simp
                  with_reducible rfl
                rotate_left
                · simp only [Act.put, List.setIfInBounds_toArray, List.set_cons_zero, List.set_cons_succ, i64_w, i32_w]
                  rfl
                refine done_ (by kernel_rfl) ?_
                try go_wp2
                have n0_ := Aside0.mk (Kd.R_drew HO_10020001.out)
                have n1_ := Aside0.mk (Kd.R_drew HO_10025001.out)
                have n2_ := Aside0.mk (Kd.R_drew HO10030.out)
                have n3_ := Aside0.mk (blk_drew BK10001.out)
                have n4_ := Aside0.mk (blk_drew BK10002.out)
                have n5_ := Aside0.mk (blk_drew BK10019.out)
                have n6_ := Aside0.mk (blk_drew BK10024.out)
                have n7_ := Aside0.mk (below_drew1 HB.out)
                clear HO_10020001
                clear HO_10025001
                clear HO10030
                clear BK10001
                clear BK10002
                clear BK10019
                clear BK10024
                clear HB
                have HO_10020001 := n0_
                have HO_10025001 := n1_
                have HO10030 := n2_
                have BK10001 := n3_
                have BK10002 := n4_
                have BK10019 := n5_
                have BK10024 := n6_
                have HB := n7_
                clear n0_ n1_ n2_ n3_ n4_ n5_ n6_ n7_
                refine start_ (n := 5) (S := fun w' => w'.cell? ⟨gb10024, 0, none⟩ = some (.int .i64 t10020) ∧ w'.cell? ⟨gb10024, 1, none⟩ = some (.slice Ao53 t10021.length co53) ∧ w'.cell? ⟨gb10002, 0, none⟩ = some (.int .i64 a1_0) ∧ w'.cell? ⟨gb10002, 1, none⟩ = some (.slice A1_1 l1_1.length c1_1)) (ds := []) #[false, false, false, false, false] (by kernel_rfl) rfl rfl ⟨(blk_cell BK10024.out 0).trans rfl, (blk_cell BK10024.out 1).trans rfl, (blk_cell BK10002.out 0).trans rfl, (blk_cell BK10002.out 1).trans rfl⟩ (fun hHeld => ?_)
                generalize w67.drew = w68 at HO_10020001 HO_10025001 HO10030 BK10001 BK10002 BK10019 BK10024 HB hHeld ⊢
                refine take_ (i := 0) (N := some 53) (v := ?_) (a' := ?_) #[true, false, false, false, false] rfl rfl (by kernel_rfl) (fun _ _ _ h => h) (Or.inl ⟨by rfl, ?_⟩) hHeld ?_ ?_
                rotate_left
                · rintro w' ⟨s0, s1, s2, s3⟩
                  go_simp
                  with_reducible rfl
                rotate_left
                · simp only [Act.put, List.setIfInBounds_toArray, List.set_cons_zero, List.set_cons_succ, i64_w, i32_w]
                  rfl
                refine take_ (i := 1) (N := some 54) (v := ?_) (a' := ?_) #[true, true, false, false, false] rfl rfl (by kernel_rfl) (fun _ _ _ h => h) (Or.inl ⟨by rfl, ?_⟩) hHeld ?_ ?_
                rotate_left
                · rintro w' ⟨s0, s1, s2, s3⟩
                  go_simp
                  with_reducible rfl
                rotate_left
                · simp only [Act.put, List.setIfInBounds_toArray, List.set_cons_zero, List.set_cons_succ, i64_w, i32_w]
                  rfl
                refine one_ (i := 2) (N := some 55) #[true, true, true, false, false] rfl rfl (by kernel_rfl) (by decide) (fun K hK => ?_)
                refine goes_ Try.func35 (by kernel_rfl) rfl #[.agg #[.int .i64 a1_0, .slice A1_1 l1_1.length c1_1]] (by rfl) rfl rfl (by (try simp only [List.map_toArray, List.map_cons, List.map_nil]); first | done | rfl | (simp only [List.length_drop, List.length_take]; rfl)) ?_
                with_reducible refine (laws_toMatroid.calls kj24 a1_0 _ _ l1_1 t10032 t10033 _ ?side1 ?side2 A61.out).mono ?_
                (case side1 => repeat (first | exact (Kd.C_below HR1_1.out HB.out) | (with_reducible refine Kd.C_alloc ?_ _) | (with_reducible refine Kd.C_drewN ?_ _) | (with_reducible refine Kd.C_drew ?_)))
                (case side2 => exact HC1_1.out)
                rintro e w69 ⟨v10034, rfl, ho0, hb⟩
                refine ⟨_, rfl, ?_⟩
                have n0_ := Aside0.mk (Kd.R_elder' (by (with_reducible repeat (first | apply Kd.R_alloc | apply Kd.R_drewN | apply Kd.R_drew)); exact HO_10020001.out) (Kd.R_base ho0) hb)
                have n1_ := Aside0.mk (Kd.R_elder' (by (with_reducible repeat (first | apply Kd.R_alloc | apply Kd.R_drewN | apply Kd.R_drew)); exact HO_10025001.out) (Kd.R_base ho0) hb)
                have n2_ := Aside0.mk (Kd.R_elder' (by (with_reducible repeat (first | apply Kd.R_alloc | apply Kd.R_drewN | apply Kd.R_drew)); exact HO10030.out) (Kd.R_base ho0) hb)
                have n3_ := Aside0.mk (Kd.R_lower (Kd.R_new' (Kd.R_new' (Kd.R_new' ho0 (Kd.R_lt (by (with_reducible repeat (first | apply Kd.R_alloc | apply Kd.R_drewN | apply Kd.R_drew)); exact HO_10020001.out))) (Kd.R_lt (by (with_reducible repeat (first | apply Kd.R_alloc | apply Kd.R_drewN | apply Kd.R_drew)); exact HO_10025001.out))) (Kd.R_lt (by (with_reducible repeat (first | apply Kd.R_alloc | apply Kd.R_drewN | apply Kd.R_drew)); exact HO10030.out))) (below_size (by repeat (first | (with_reducible first | exact HB.out | apply below_alloc | apply pw_below_drewN | apply below_drew1 | refine below_set ?_ GE10001.out | refine below_set ?_ GE10002.out | refine below_set ?_ GE10019.out | refine below_set ?_ GE10024.out) | exact HB.out))))
                have n4_ := Aside0.mk (blk_below (g := gb10001) (o := .cells #[.int .i64 a0_0, .slice A0_1 l0_1.length c0_1] 24 (0, 0)) (by (with_reducible repeat (first | refine blk_drewN ?_ _ | refine blk_drew ?_ | refine blk_alloc ?_ _)); exact BK10001.out) hb)
                have n5_ := Aside0.mk (blk_below (g := gb10002) (o := .cells #[.int .i64 a1_0, .slice A1_1 l1_1.length c1_1] 24 (0, 0)) (by (with_reducible repeat (first | refine blk_drewN ?_ _ | refine blk_drew ?_ | refine blk_alloc ?_ _)); exact BK10002.out) hb)
                have n6_ := Aside0.mk (blk_below (g := gb10019) (o := .cells #[.int .i64 t10015, .slice Ao45 t10016.length co45] 28 (0, 0)) (by (with_reducible repeat (first | refine blk_drewN ?_ _ | refine blk_drew ?_ | refine blk_alloc ?_ _)); exact BK10019.out) hb)
                have n7_ := Aside0.mk (blk_below (g := gb10024) (o := .cells #[.int .i64 t10020, .slice Ao53 t10021.length co53] 28 (0, 0)) (by (with_reducible repeat (first | refine blk_drewN ?_ _ | refine blk_drew ?_ | refine blk_alloc ?_ _)); exact BK10024.out) hb)
                have n8_ := Aside0.mk (below_step (by repeat (first | (with_reducible first | exact HB.out | apply below_alloc | apply pw_below_drewN | apply below_drew1 | refine below_set ?_ GE10001.out | refine below_set ?_ GE10002.out | refine below_set ?_ GE10019.out | refine below_set ?_ GE10024.out) | exact HB.out)) hb)
                clear HO_10020001
                clear HO_10025001
                clear HO10030
                clear BK10001
                clear BK10002
                clear BK10019
                clear BK10024
                clear HB
                have HO_10020001 := n0_
                have HO_10025001 := n1_
                have HO10030 := n2_
                have HO10035 := n3_
                have BK10001 := n4_
                have BK10002 := n5_
                have BK10019 := n6_
                have BK10024 := n7_
                have HB := n8_
                clear n0_ n1_ n2_ n3_ n4_ n5_ n6_ n7_ n8_
                (try clear hb)
                (try clear hb2)
                (try clear hk)
                (try clear hi)
                (try clear ho0)
                obtain ⟨Ao70, co70, eo70⟩ := Kd.R_slice HO10035.out
                (first | subst eo70 | (injection eo70 with f1_ f2_ f3_; have f4_ := f1_.symm; have f5_ := f3_.symm; clear f1_ f2_ f3_; subst f4_; subst f5_))
                refine hK.out _ _ ⟨(blk_cell BK10024.out 0).trans rfl, (blk_cell BK10024.out 1).trans rfl, (blk_cell BK10002.out 0).trans rfl, (blk_cell BK10002.out 1).trans rfl⟩ (fun hHeld => ?_)
                clear hK K
                refine norm_ (a' := ?_) ?_ ?_
                rotate_left
                · show Act.put _ (some 55) _ = _
                  simp only [Act.put, List.setIfInBounds_toArray, List.set_cons_zero, List.set_cons_succ, i64_w, i32_w]
                  rfl
                refine one_ (i := 3) (N := some 56) #[true, true, true, true, false] rfl rfl (by kernel_rfl) (by decide) (fun K hK => ?_)
                refine goes_ Try.func38 (by kernel_rfl) rfl #[.agg #[.int .i64 t10020, .slice Ao53 t10021.length co53], .agg #[.int .i64 t10032, .slice Ao70 t10033.length co70]] (by rfl) rfl rfl (by (try simp only [List.map_toArray, List.map_cons, List.map_nil]); first | done | rfl | (simp only [List.length_drop, List.length_take]; rfl)) ?_
                with_reducible refine (laws_eqMatroid.calls kj24 t10020 _ _ t10021 t10032 _ _ t10033 true _ ?side1 ?side2 ?side3 ?side4 A62.out).mono ?_
                (case side1 => repeat (first | exact (Kd.R_reads' HO_10025001.out).2.2 | (with_reducible refine Kd.C_alloc ?_ _) | (with_reducible refine Kd.C_drewN ?_ _) | (with_reducible refine Kd.C_drew ?_)))
                (case side2 => exact (Kd.R_reads' HO_10025001.out).2.1)
                (case side3 => repeat (first | exact (Kd.R_reads' HO10035.out).2.2 | (with_reducible refine Kd.C_alloc ?_ _) | (with_reducible refine Kd.C_drewN ?_ _) | (with_reducible refine Kd.C_drew ?_)))
                (case side4 => exact (Kd.R_reads' HO10035.out).2.1)
                rintro e w71 ⟨rfl, hb⟩
                refine ⟨_, rfl, ?_⟩
                have n0_ := Aside0.mk (Kd.R_below (by (with_reducible repeat (first | apply Kd.R_alloc | apply Kd.R_drewN | apply Kd.R_drew)); exact HO_10020001.out) hb)
                have n1_ := Aside0.mk (Kd.R_below (by (with_reducible repeat (first | apply Kd.R_alloc | apply Kd.R_drewN | apply Kd.R_drew)); exact HO_10025001.out) hb)
                have n2_ := Aside0.mk (Kd.R_below (by (with_reducible repeat (first | apply Kd.R_alloc | apply Kd.R_drewN | apply Kd.R_drew)); exact HO10030.out) hb)
                have n3_ := Aside0.mk (Kd.R_below (by (with_reducible repeat (first | apply Kd.R_alloc | apply Kd.R_drewN | apply Kd.R_drew)); exact HO10035.out) hb)
                have n4_ := Aside0.mk (blk_below (g := gb10001) (o := .cells #[.int .i64 a0_0, .slice A0_1 l0_1.length c0_1] 24 (0, 0)) (by (with_reducible repeat (first | refine blk_drewN ?_ _ | refine blk_drew ?_ | refine blk_alloc ?_ _)); exact BK10001.out) hb)
                have n5_ := Aside0.mk (blk_below (g := gb10002) (o := .cells #[.int .i64 a1_0, .slice A1_1 l1_1.length c1_1] 24 (0, 0)) (by (with_reducible repeat (first | refine blk_drewN ?_ _ | refine blk_drew ?_ | refine blk_alloc ?_ _)); exact BK10002.out) hb)
                have n6_ := Aside0.mk (blk_below (g := gb10019) (o := .cells #[.int .i64 t10015, .slice Ao45 t10016.length co45] 28 (0, 0)) (by (with_reducible repeat (first | refine blk_drewN ?_ _ | refine blk_drew ?_ | refine blk_alloc ?_ _)); exact BK10019.out) hb)
                have n7_ := Aside0.mk (blk_below (g := gb10024) (o := .cells #[.int .i64 t10020, .slice Ao53 t10021.length co53] 28 (0, 0)) (by (with_reducible repeat (first | refine blk_drewN ?_ _ | refine blk_drew ?_ | refine blk_alloc ?_ _)); exact BK10024.out) hb)
                have n8_ := Aside0.mk (below_step (by repeat (first | (with_reducible first | exact HB.out | apply below_alloc | apply pw_below_drewN | apply below_drew1 | refine below_set ?_ GE10001.out | refine below_set ?_ GE10002.out | refine below_set ?_ GE10019.out | refine below_set ?_ GE10024.out) | exact HB.out)) hb)
                clear HO_10020001
                clear HO_10025001
                clear HO10030
                clear HO10035
                clear BK10001
                clear BK10002
                clear BK10019
                clear BK10024
                clear HB
                have HO_10020001 := n0_
                have HO_10025001 := n1_
                have HO10030 := n2_
                have HO10035 := n3_
                have BK10001 := n4_
                have BK10002 := n5_
                have BK10019 := n6_
                have BK10024 := n7_
                have HB := n8_
                clear n0_ n1_ n2_ n3_ n4_ n5_ n6_ n7_ n8_
                (try clear hb)
                (try clear hb2)
                (try clear hk)
                (try clear hi)
                refine hK.out _ _ ⟨(blk_cell BK10024.out 0).trans rfl, (blk_cell BK10024.out 1).trans rfl, (blk_cell BK10002.out 0).trans rfl, (blk_cell BK10002.out 1).trans rfl⟩ (fun hHeld => ?_)
                clear hK K
                refine norm_ (a' := ?_) ?_ ?_
                rotate_left
                · show Act.put _ (some 56) _ = _
                  simp only [Act.put, List.setIfInBounds_toArray, List.set_cons_zero, List.set_cons_succ, i64_w, i32_w]
                  rfl
                refine pure_ (i := 4) (N := some 57) (v := ?_) (a' := ?_) #[true, true, true, true, true] rfl rfl (by kernel_rfl) (fun _ _ _ h => h) (Or.inl ⟨by rfl, ?_⟩) ?_ ?_
                rotate_left
                · intro w'
                  go_simp
                  with_reducible rfl
                rotate_left
                · simp only [Act.put, List.setIfInBounds_toArray, List.set_cons_zero, List.set_cons_succ, i64_w, i32_w]
                  rfl
                refine done_ (by kernel_rfl) ?_
                try go_wp2
                go_ret
                exact ⟨by first | rfl | (simp [errW_none, errW_some] <;> rfl) | (simp [*, errW_none, errW_some] <;> rfl), by repeat (first | (with_reducible first | exact HB.out | apply below_alloc | apply pw_below_drewN | apply below_drew1 | refine below_set ?_ GE10001.out | refine below_set ?_ GE10002.out | refine below_set ?_ GE10019.out | refine below_set ?_ GE10024.out) | exact HB.out)⟩
              · replace c63 := Bool.eq_false_iff.mpr c63
                subst c63
                have H1 : (some false) = some true := by rw [if_neg (show ¬ (false = true) by decide)] at H; exact H
                clear H
                have H := H1
                clear H1
                exact absurd (Option.some.inj H) (by decide)
            · replace c60 := Bool.eq_false_iff.mpr c60
              subst c60
              have H1 : (some false) = some true := by rw [if_neg (show ¬ (false = true) by decide)] at H; exact H
              clear H
              have H := H1
              clear H1
              exact absurd (Option.some.inj H) (by decide)

end Go.Proofs.Ytinoamehdhgpgaa.A
namespace Go.Proofs.Ytinoamehdhgpgaa.A
open Go.RowKit Go.Proofs.YtinoamehdhgpgaaW.PrintWords Go.Proofs.YtinoamehdhgpgaaW.PrintLast Go.Proofs.YtinoamehdhgpgaaW.PrintMore
attribute [local go_sem] max2_int min2_int max_two min_two max_three min_three max_four min_four   -- for this text's walks alone
set_option linter.unusedVariables false
set_option linter.unusedSimpArgs false


/-! ### impl_IsCommon: function 145 -/
def impl_IsCommon.f (k : Nat) (a0_0 : Int) (l0_1 : List Int) (a1_0 : Int) (l1_1 : List Int) (a2 : Int) : Option (Bool) := (impl_together.f k a0_0 l0_1 a1_0 l1_1).bind fun t146003 => (if t146003 = true then ((impl_independent.f k a0_0 l0_1 a2).bind fun t146004 => (if t146004 = true then ((impl_independent.f k a1_0 l1_1 a2).bind fun t146005 => (some t146005)) else (some false))) else (some false))
theorem impl_IsCommon.mono : ∀ a0 a1 a2 a3 a4 k, LeO (impl_IsCommon.f k a0 a1 a2 a3 a4) (impl_IsCommon.f (k + 1) a0 a1 a2 a3 a4) := by
  intro a0 a1 a2 a3 a4 k
  unfold impl_IsCommon.f
  repeat' first
      | (with_reducible exact impl_independent.mono _ _ _ _)
      | (with_reducible exact impl_together.mono _ _ _ _ _)
      | (with_reducible exact LeO.refl _)
      | (with_reducible exact LeO.none _)
      | (with_reducible refine LeO.ite ?_ ?_)
      | (with_reducible refine LeO.bind ?_ (fun _ => ?_))
      | exact impl_independent.mono _ _ _ _
      | exact impl_together.mono _ _ _ _ _
      | exact LeO.none _
      | refine LeO.ite ?_ ?_
      | refine LeO.bind ?_ (fun _ => ?_)
set_option maxHeartbeats 8000000 in
set_option maxRecDepth 100000 in
theorem impl_IsCommon.calls (k : Nat) (a0_0 : Int) (A0_1 : Option Addr) (c0_1 : Nat) (l0_1 : List Int) (a1_0 : Int) (A1_1 : Option Addr) (c1_1 : Nat) (l1_1 : List Int) (a2 : Int) (r : Bool) (w : World) (hr0_1 : Kd.C (Kd.int .i64) w A0_1 l0_1.length l0_1) (hc0_1 : l0_1.length ≤ c0_1) (hr1_1 : Kd.C (Kd.int .i64) w A1_1 l1_1.length l1_1) (hc1_1 : l1_1.length ≤ c1_1) (h : impl_IsCommon.f k a0_0 l0_1 a1_0 l1_1 a2 = some r) :
    Calls Try.prog 145 #[.agg #[.int .i64 a0_0, .slice A0_1 l0_1.length c0_1], .agg #[.int .i64 a1_0, .slice A1_1 l1_1.length c1_1], .int .i64 a2] w fun e w' => e = .returned (.bool r) ∧ Below w.heap.size w w' := by
  have hu28 := Try.underlying28
  have HR0_1 := Aside0.mk hr0_1
  have HC0_1 := Aside0.mk hc0_1
  clear hr0_1 hc0_1
  have HR1_1 := Aside0.mk hr1_1
  have HC1_1 := Aside0.mk hc1_1
  clear hr1_1 hc1_1
  have HB := Aside0.mk (Below.refl w.heap.size w)
  have H : ((impl_together.f k a0_0 l0_1 a1_0 l1_1).bind fun t146003 => (if t146003 = true then ((impl_independent.f k a0_0 l0_1 a2).bind fun t146004 => (if t146004 = true then ((impl_independent.f k a1_0 l1_1 a2).bind fun t146005 => (some t146005)) else (some false))) else (some false))) = some r := h
  clear h
  replace H := Option.bind_eq_some_iff.mp H
  obtain ⟨t146003, A40, H⟩ := H
  replace H : (if t146003 = true then ((impl_independent.f k a0_0 l0_1 a2).bind fun t146004 => (if t146004 = true then ((impl_independent.f k a1_0 l1_1 a2).bind fun t146005 => (some t146005)) else (some false))) else (some false)) = some r := H
  have A4 := Aside0.mk A40
  clear A40
  by_cases c5 : t146003 = true
  · subst c5
    have H1 : ((impl_independent.f k a0_0 l0_1 a2).bind fun t146004 => (if t146004 = true then ((impl_independent.f k a1_0 l1_1 a2).bind fun t146005 => (some t146005)) else (some false))) = some r := by rw [if_pos rfl] at H; exact H
    clear H
    have H := H1
    clear H1
    replace H := Option.bind_eq_some_iff.mp H
    obtain ⟨t146004, A60, H⟩ := H
    replace H : (if t146004 = true then ((impl_independent.f k a1_0 l1_1 a2).bind fun t146005 => (some t146005)) else (some false)) = some r := H
    have A6 := Aside0.mk A60
    clear A60
    by_cases c7 : t146004 = true
    · subst c7
      have H1 : ((impl_independent.f k a1_0 l1_1 a2).bind fun t146005 => (some t146005)) = some r := by rw [if_pos rfl] at H; exact H
      clear H
      have H := H1
      clear H1
      replace H := Option.bind_eq_some_iff.mp H
      obtain ⟨t146005, A80, H⟩ := H
      replace H : (some t146005) = some r := H
      have A8 := Aside0.mk A80
      clear A80
      obtain rfl := Option.some.inj H
      go_enter Try.func145, Try.ntmps145
      go_wp2_with (first | ((with_reducible refine gate_dst (N := 3) rfl ?_); refine box_event ?hg (N := 3) ?hd (cs := #[.int .i64 a0_0, .slice A0_1 l0_1.length c0_1]) (t := 28) ?hr ?_; (case hd => rfl); (case hg => rfl); (case hr => first | (go_simp; done) | (go_simp; rfl)); intro gb146001 hg w9 hbox hb; have n0_ := Aside0.mk (below_step (by repeat (first | (with_reducible first | exact HB.out | apply below_alloc | apply pw_below_drewN | apply below_drew1) | exact HB.out)) hb); have n1_ := Aside0.mk (hbox); have n2_ := Aside0.mk ((by rw [hg]; exact (below_size (by repeat (first | (with_reducible first | exact HB.out | apply below_alloc | apply pw_below_drewN | apply below_drew1) | exact HB.out))) : w.heap.size ≤ gb146001)); have n3_ := Aside0.mk ((by rw [hg]; exact (below_size (by repeat (first | (with_reducible first | exact HB.out | apply below_alloc | apply pw_below_drewN | apply below_drew1) | exact HB.out))) : w.heap.size ≤ gb146001)); clear HB; have HB := n0_; have BK146001 := n1_; have GW146001 := n2_; have GE146001 := n3_; clear n0_ n1_ n2_ n3_; clear hb hbox hg) | ((with_reducible refine gate_dst (N := 4) rfl ?_); refine box_event ?hg (N := 4) ?hd (cs := #[.int .i64 a1_0, .slice A1_1 l1_1.length c1_1]) (t := 28) ?hr ?_; (case hd => rfl); (case hg => rfl); (case hr => first | (go_simp; done) | (go_simp; rfl)); intro gb146002 hg w10 hbox hb; have n0_ := Aside0.mk (blk_below (g := gb146001) (o := .cells #[.int .i64 a0_0, .slice A0_1 l0_1.length c0_1] 28 (0, 0)) (by (with_reducible repeat (first | refine blk_drewN ?_ _ | refine blk_drew ?_ | refine blk_alloc ?_ _)); exact BK146001.out) hb); have n1_ := Aside0.mk (below_step (by repeat (first | (with_reducible first | exact HB.out | apply below_alloc | apply pw_below_drewN | apply below_drew1 | refine below_set ?_ GE146001.out) | exact HB.out)) hb); have n2_ := Aside0.mk (hbox); have n3_ := Aside0.mk ((by rw [hg]; exact (below_size (by repeat (first | (with_reducible first | exact HB.out | apply below_alloc | apply pw_below_drewN | apply below_drew1 | refine below_set ?_ GE146001.out) | exact HB.out))) : w.heap.size ≤ gb146002)); have n4_ := Aside0.mk ((by rw [hg]; exact (below_size (by repeat (first | (with_reducible first | exact HB.out | apply below_alloc | apply pw_below_drewN | apply below_drew1 | refine below_set ?_ GE146001.out) | exact HB.out))) : w.heap.size ≤ gb146002)); have n5_ := Aside0.mk ((by rw [hg]; exact Nat.ne_of_lt (blk_lt (g := gb146001) (o := .cells #[.int .i64 a0_0, .slice A0_1 l0_1.length c0_1] 28 (0, 0)) (by (with_reducible repeat (first | refine blk_drewN ?_ _ | refine blk_drew ?_ | refine blk_alloc ?_ _)); exact BK146001.out)) : gb146001 ≠ gb146002)); have n6_ := Aside0.mk ((by rw [hg]; exact Nat.ne_of_gt (blk_lt (g := gb146001) (o := .cells #[.int .i64 a0_0, .slice A0_1 l0_1.length c0_1] 28 (0, 0)) (by (with_reducible repeat (first | refine blk_drewN ?_ _ | refine blk_drew ?_ | refine blk_alloc ?_ _)); exact BK146001.out)) : gb146002 ≠ gb146001)); clear BK146001; clear HB; have BK146001 := n0_; have HB := n1_; have BK146002 := n2_; have GW146002 := n3_; have GE146002 := n4_; have NB146001_146002 := n5_; have NB146002_146001 := n6_; clear n0_ n1_ n2_ n3_ n4_ n5_ n6_; clear hb hbox hg; have hnb11 := NB146001_146002.out; have hnc11 := NB146002_146001.out; have hcz12_0 : w10.cell? ⟨gb146001, 0, none⟩ = some (.int .i64 a0_0) := (blk_cell BK146001.out 0).trans rfl; have hcz12_1 : w10.cell? ⟨gb146001, 1, none⟩ = some (.slice A0_1 l0_1.length c0_1) := (blk_cell BK146001.out 1).trans rfl; have hfz12_0 := blk_frozen BK146001.out 0; have hfz12_1 := blk_frozen BK146001.out 1; have hcz13_0 : w10.cell? ⟨gb146002, 0, none⟩ = some (.int .i64 a1_0) := (blk_cell BK146002.out 0).trans rfl; have hcz13_1 : w10.cell? ⟨gb146002, 1, none⟩ = some (.slice A1_1 l1_1.length c1_1) := (blk_cell BK146002.out 1).trans rfl; have hfz13_0 := blk_frozen BK146002.out 0; have hfz13_1 := blk_frozen BK146002.out 1) | ((with_reducible refine gate_callee (f := 118) rfl ?_); refine goesL_ (some 9) rfl rfl Try.func118 (by kernel_rfl) rfl #[.agg #[.int .i64 a0_0, .slice A0_1 l0_1.length c0_1], .agg #[.int .i64 a1_0, .slice A1_1 l1_1.length c1_1]] rfl (by (try simp only [List.map_toArray, List.map_cons, List.map_nil]); first | done | rfl | (simp only [List.length_drop, List.length_take]; rfl)) ?_; (with_reducible refine (impl_together.calls k a0_0 _ _ l0_1 a1_0 _ _ l1_1 true _ ?side1 ?side2 ?side3 ?side4 A4.out).mono ?_); (case side1 => repeat (first | exact (Kd.C_below HR0_1.out HB.out) | (with_reducible refine Kd.C_alloc ?_ _) | (with_reducible refine Kd.C_drewN ?_ _) | (with_reducible refine Kd.C_drew ?_))); (case side2 => exact HC0_1.out); (case side3 => repeat (first | exact (Kd.C_below HR1_1.out HB.out) | (with_reducible refine Kd.C_alloc ?_ _) | (with_reducible refine Kd.C_drewN ?_ _) | (with_reducible refine Kd.C_drew ?_))); (case side4 => exact HC1_1.out); rintro e w14 ⟨rfl, hb⟩; refine ⟨_, rfl, ?_⟩; have n0_ := Aside0.mk (blk_below (g := gb146001) (o := .cells #[.int .i64 a0_0, .slice A0_1 l0_1.length c0_1] 28 (0, 0)) (by (with_reducible repeat (first | refine blk_drewN ?_ _ | refine blk_drew ?_ | refine blk_alloc ?_ _)); exact BK146001.out) hb); have n1_ := Aside0.mk (blk_below (g := gb146002) (o := .cells #[.int .i64 a1_0, .slice A1_1 l1_1.length c1_1] 28 (0, 0)) (by (with_reducible repeat (first | refine blk_drewN ?_ _ | refine blk_drew ?_ | refine blk_alloc ?_ _)); exact BK146002.out) hb); have n2_ := Aside0.mk (below_step (by repeat (first | (with_reducible first | exact HB.out | apply below_alloc | apply pw_below_drewN | apply below_drew1 | refine below_set ?_ GE146001.out | refine below_set ?_ GE146002.out) | exact HB.out)) hb); clear BK146001; clear BK146002; clear HB; have BK146001 := n0_; have BK146002 := n1_; have HB := n2_; clear n0_ n1_ n2_; (try clear hb); (try clear hb2); (try clear hk); (try clear hi); have hcz15_0 : w14.cell? ⟨gb146001, 0, none⟩ = some (.int .i64 a0_0) := (blk_cell BK146001.out 0).trans rfl; have hcz15_1 : w14.cell? ⟨gb146001, 1, none⟩ = some (.slice A0_1 l0_1.length c0_1) := (blk_cell BK146001.out 1).trans rfl; have hfz15_0 := blk_frozen BK146001.out 0; have hfz15_1 := blk_frozen BK146001.out 1) | (go_at_call 141; (with_reducible refine (impl_independent.calls k a0_0 _ _ l0_1 a2 true _ ?side1 ?side2 A6.out).mono ?_); (case side1 => repeat (first | exact (Kd.C_below HR0_1.out HB.out) | (with_reducible refine Kd.C_alloc ?_ _) | (with_reducible refine Kd.C_drewN ?_ _) | (with_reducible refine Kd.C_drew ?_))); (case side2 => exact HC0_1.out); rintro e w16 ⟨rfl, hb⟩; have n0_ := Aside0.mk (blk_below (g := gb146001) (o := .cells #[.int .i64 a0_0, .slice A0_1 l0_1.length c0_1] 28 (0, 0)) (by (with_reducible repeat (first | refine blk_drewN ?_ _ | refine blk_drew ?_ | refine blk_alloc ?_ _)); exact BK146001.out) hb); have n1_ := Aside0.mk (blk_below (g := gb146002) (o := .cells #[.int .i64 a1_0, .slice A1_1 l1_1.length c1_1] 28 (0, 0)) (by (with_reducible repeat (first | refine blk_drewN ?_ _ | refine blk_drew ?_ | refine blk_alloc ?_ _)); exact BK146002.out) hb); have n2_ := Aside0.mk (below_step (by repeat (first | (with_reducible first | exact HB.out | apply below_alloc | apply pw_below_drewN | apply below_drew1 | refine below_set ?_ GE146001.out | refine below_set ?_ GE146002.out) | exact HB.out)) hb); clear BK146001; clear BK146002; clear HB; have BK146001 := n0_; have BK146002 := n1_; have HB := n2_; clear n0_ n1_ n2_; (try clear hb); (try clear hb2); (try clear hk); (try clear hi); have hcz17_0 : w16.cell? ⟨gb146002, 0, none⟩ = some (.int .i64 a1_0) := (blk_cell BK146002.out 0).trans rfl; have hcz17_1 : w16.cell? ⟨gb146002, 1, none⟩ = some (.slice A1_1 l1_1.length c1_1) := (blk_cell BK146002.out 1).trans rfl; have hfz17_0 := blk_frozen BK146002.out 0; have hfz17_1 := blk_frozen BK146002.out 1) | (go_at_call 141; (with_reducible refine (impl_independent.calls k a1_0 _ _ l1_1 a2 t146005 _ ?side1 ?side2 A8.out).mono ?_); (case side1 => repeat (first | exact (Kd.C_below HR1_1.out HB.out) | (with_reducible refine Kd.C_alloc ?_ _) | (with_reducible refine Kd.C_drewN ?_ _) | (with_reducible refine Kd.C_drew ?_))); (case side2 => exact HC1_1.out); rintro e w18 ⟨rfl, hb⟩; have n0_ := Aside0.mk (blk_below (g := gb146001) (o := .cells #[.int .i64 a0_0, .slice A0_1 l0_1.length c0_1] 28 (0, 0)) (by (with_reducible repeat (first | refine blk_drewN ?_ _ | refine blk_drew ?_ | refine blk_alloc ?_ _)); exact BK146001.out) hb); have n1_ := Aside0.mk (blk_below (g := gb146002) (o := .cells #[.int .i64 a1_0, .slice A1_1 l1_1.length c1_1] 28 (0, 0)) (by (with_reducible repeat (first | refine blk_drewN ?_ _ | refine blk_drew ?_ | refine blk_alloc ?_ _)); exact BK146002.out) hb); have n2_ := Aside0.mk (below_step (by repeat (first | (with_reducible first | exact HB.out | apply below_alloc | apply pw_below_drewN | apply below_drew1 | refine below_set ?_ GE146001.out | refine below_set ?_ GE146002.out) | exact HB.out)) hb); clear BK146001; clear BK146002; clear HB; have BK146001 := n0_; have BK146002 := n1_; have HB := n2_; clear n0_ n1_ n2_; (try clear hb); (try clear hb2); (try clear hk); (try clear hi)))
      go_ret
      exact ⟨by first | rfl | (simp [errW_none, errW_some] <;> rfl) | (simp [*, errW_none, errW_some] <;> rfl), by repeat (first | (with_reducible first | exact HB.out | apply below_alloc | apply pw_below_drewN | apply below_drew1 | refine below_set ?_ GE146001.out | refine below_set ?_ GE146002.out) | exact HB.out)⟩
    · replace c7 := Bool.eq_false_iff.mpr c7
      subst c7
      have H1 : (some false) = some r := by rw [if_neg (show ¬ (false = true) by decide)] at H; exact H
      clear H
      have H := H1
      clear H1
      obtain rfl := Option.some.inj H
      go_enter Try.func145, Try.ntmps145
      go_wp2_with (first | ((with_reducible refine gate_dst (N := 3) rfl ?_); refine box_event ?hg (N := 3) ?hd (cs := #[.int .i64 a0_0, .slice A0_1 l0_1.length c0_1]) (t := 28) ?hr ?_; (case hd => rfl); (case hg => rfl); (case hr => first | (go_simp; done) | (go_simp; rfl)); intro gb146001 hg w19 hbox hb; have n0_ := Aside0.mk (below_step (by repeat (first | (with_reducible first | exact HB.out | apply below_alloc | apply pw_below_drewN | apply below_drew1) | exact HB.out)) hb); have n1_ := Aside0.mk (hbox); have n2_ := Aside0.mk ((by rw [hg]; exact (below_size (by repeat (first | (with_reducible first | exact HB.out | apply below_alloc | apply pw_below_drewN | apply below_drew1) | exact HB.out))) : w.heap.size ≤ gb146001)); have n3_ := Aside0.mk ((by rw [hg]; exact (below_size (by repeat (first | (with_reducible first | exact HB.out | apply below_alloc | apply pw_below_drewN | apply below_drew1) | exact HB.out))) : w.heap.size ≤ gb146001)); clear HB; have HB := n0_; have BK146001 := n1_; have GW146001 := n2_; have GE146001 := n3_; clear n0_ n1_ n2_ n3_; clear hb hbox hg) | ((with_reducible refine gate_dst (N := 4) rfl ?_); refine box_event ?hg (N := 4) ?hd (cs := #[.int .i64 a1_0, .slice A1_1 l1_1.length c1_1]) (t := 28) ?hr ?_; (case hd => rfl); (case hg => rfl); (case hr => first | (go_simp; done) | (go_simp; rfl)); intro gb146002 hg w20 hbox hb; have n0_ := Aside0.mk (blk_below (g := gb146001) (o := .cells #[.int .i64 a0_0, .slice A0_1 l0_1.length c0_1] 28 (0, 0)) (by (with_reducible repeat (first | refine blk_drewN ?_ _ | refine blk_drew ?_ | refine blk_alloc ?_ _)); exact BK146001.out) hb); have n1_ := Aside0.mk (below_step (by repeat (first | (with_reducible first | exact HB.out | apply below_alloc | apply pw_below_drewN | apply below_drew1 | refine below_set ?_ GE146001.out) | exact HB.out)) hb); have n2_ := Aside0.mk (hbox); have n3_ := Aside0.mk ((by rw [hg]; exact (below_size (by repeat (first | (with_reducible first | exact HB.out | apply below_alloc | apply pw_below_drewN | apply below_drew1 | refine below_set ?_ GE146001.out) | exact HB.out))) : w.heap.size ≤ gb146002)); have n4_ := Aside0.mk ((by rw [hg]; exact (below_size (by repeat (first | (with_reducible first | exact HB.out | apply below_alloc | apply pw_below_drewN | apply below_drew1 | refine below_set ?_ GE146001.out) | exact HB.out))) : w.heap.size ≤ gb146002)); have n5_ := Aside0.mk ((by rw [hg]; exact Nat.ne_of_lt (blk_lt (g := gb146001) (o := .cells #[.int .i64 a0_0, .slice A0_1 l0_1.length c0_1] 28 (0, 0)) (by (with_reducible repeat (first | refine blk_drewN ?_ _ | refine blk_drew ?_ | refine blk_alloc ?_ _)); exact BK146001.out)) : gb146001 ≠ gb146002)); have n6_ := Aside0.mk ((by rw [hg]; exact Nat.ne_of_gt (blk_lt (g := gb146001) (o := .cells #[.int .i64 a0_0, .slice A0_1 l0_1.length c0_1] 28 (0, 0)) (by (with_reducible repeat (first | refine blk_drewN ?_ _ | refine blk_drew ?_ | refine blk_alloc ?_ _)); exact BK146001.out)) : gb146002 ≠ gb146001)); clear BK146001; clear HB; have BK146001 := n0_; have HB := n1_; have BK146002 := n2_; have GW146002 := n3_; have GE146002 := n4_; have NB146001_146002 := n5_; have NB146002_146001 := n6_; clear n0_ n1_ n2_ n3_ n4_ n5_ n6_; clear hb hbox hg; have hnb21 := NB146001_146002.out; have hnc21 := NB146002_146001.out; have hcz22_0 : w20.cell? ⟨gb146001, 0, none⟩ = some (.int .i64 a0_0) := (blk_cell BK146001.out 0).trans rfl; have hcz22_1 : w20.cell? ⟨gb146001, 1, none⟩ = some (.slice A0_1 l0_1.length c0_1) := (blk_cell BK146001.out 1).trans rfl; have hfz22_0 := blk_frozen BK146001.out 0; have hfz22_1 := blk_frozen BK146001.out 1; have hcz23_0 : w20.cell? ⟨gb146002, 0, none⟩ = some (.int .i64 a1_0) := (blk_cell BK146002.out 0).trans rfl; have hcz23_1 : w20.cell? ⟨gb146002, 1, none⟩ = some (.slice A1_1 l1_1.length c1_1) := (blk_cell BK146002.out 1).trans rfl; have hfz23_0 := blk_frozen BK146002.out 0; have hfz23_1 := blk_frozen BK146002.out 1) | ((with_reducible refine gate_callee (f := 118) rfl ?_); refine goesL_ (some 9) rfl rfl Try.func118 (by kernel_rfl) rfl #[.agg #[.int .i64 a0_0, .slice A0_1 l0_1.length c0_1], .agg #[.int .i64 a1_0, .slice A1_1 l1_1.length c1_1]] rfl (by (try simp only [List.map_toArray, List.map_cons, List.map_nil]); first | done | rfl | (simp only [List.length_drop, List.length_take]; rfl)) ?_; (with_reducible refine (impl_together.calls k a0_0 _ _ l0_1 a1_0 _ _ l1_1 true _ ?side1 ?side2 ?side3 ?side4 A4.out).mono ?_); (case side1 => repeat (first | exact (Kd.C_below HR0_1.out HB.out) | (with_reducible refine Kd.C_alloc ?_ _) | (with_reducible refine Kd.C_drewN ?_ _) | (with_reducible refine Kd.C_drew ?_))); (case side2 => exact HC0_1.out); (case side3 => repeat (first | exact (Kd.C_below HR1_1.out HB.out) | (with_reducible refine Kd.C_alloc ?_ _) | (with_reducible refine Kd.C_drewN ?_ _) | (with_reducible refine Kd.C_drew ?_))); (case side4 => exact HC1_1.out); rintro e w24 ⟨rfl, hb⟩; refine ⟨_, rfl, ?_⟩; have n0_ := Aside0.mk (blk_below (g := gb146001) (o := .cells #[.int .i64 a0_0, .slice A0_1 l0_1.length c0_1] 28 (0, 0)) (by (with_reducible repeat (first | refine blk_drewN ?_ _ | refine blk_drew ?_ | refine blk_alloc ?_ _)); exact BK146001.out) hb); have n1_ := Aside0.mk (blk_below (g := gb146002) (o := .cells #[.int .i64 a1_0, .slice A1_1 l1_1.length c1_1] 28 (0, 0)) (by (with_reducible repeat (first | refine blk_drewN ?_ _ | refine blk_drew ?_ | refine blk_alloc ?_ _)); exact BK146002.out) hb); have n2_ := Aside0.mk (below_step (by repeat (first | (with_reducible first | exact HB.out | apply below_alloc | apply pw_below_drewN | apply below_drew1 | refine below_set ?_ GE146001.out | refine below_set ?_ GE146002.out) | exact HB.out)) hb); clear BK146001; clear BK146002; clear HB; have BK146001 := n0_; have BK146002 := n1_; have HB := n2_; clear n0_ n1_ n2_; (try clear hb); (try clear hb2); (try clear hk); (try clear hi); have hcz25_0 : w24.cell? ⟨gb146001, 0, none⟩ = some (.int .i64 a0_0) := (blk_cell BK146001.out 0).trans rfl; have hcz25_1 : w24.cell? ⟨gb146001, 1, none⟩ = some (.slice A0_1 l0_1.length c0_1) := (blk_cell BK146001.out 1).trans rfl; have hfz25_0 := blk_frozen BK146001.out 0; have hfz25_1 := blk_frozen BK146001.out 1) | (go_at_call 141; (with_reducible refine (impl_independent.calls k a0_0 _ _ l0_1 a2 false _ ?side1 ?side2 A6.out).mono ?_); (case side1 => repeat (first | exact (Kd.C_below HR0_1.out HB.out) | (with_reducible refine Kd.C_alloc ?_ _) | (with_reducible refine Kd.C_drewN ?_ _) | (with_reducible refine Kd.C_drew ?_))); (case side2 => exact HC0_1.out); rintro e w26 ⟨rfl, hb⟩; have n0_ := Aside0.mk (blk_below (g := gb146001) (o := .cells #[.int .i64 a0_0, .slice A0_1 l0_1.length c0_1] 28 (0, 0)) (by (with_reducible repeat (first | refine blk_drewN ?_ _ | refine blk_drew ?_ | refine blk_alloc ?_ _)); exact BK146001.out) hb); have n1_ := Aside0.mk (blk_below (g := gb146002) (o := .cells #[.int .i64 a1_0, .slice A1_1 l1_1.length c1_1] 28 (0, 0)) (by (with_reducible repeat (first | refine blk_drewN ?_ _ | refine blk_drew ?_ | refine blk_alloc ?_ _)); exact BK146002.out) hb); have n2_ := Aside0.mk (below_step (by repeat (first | (with_reducible first | exact HB.out | apply below_alloc | apply pw_below_drewN | apply below_drew1 | refine below_set ?_ GE146001.out | refine below_set ?_ GE146002.out) | exact HB.out)) hb); clear BK146001; clear BK146002; clear HB; have BK146001 := n0_; have BK146002 := n1_; have HB := n2_; clear n0_ n1_ n2_; (try clear hb); (try clear hb2); (try clear hk); (try clear hi)))
      go_ret
      exact ⟨by first | rfl | (simp [errW_none, errW_some] <;> rfl) | (simp [*, errW_none, errW_some] <;> rfl), by repeat (first | (with_reducible first | exact HB.out | apply below_alloc | apply pw_below_drewN | apply below_drew1 | refine below_set ?_ GE146001.out | refine below_set ?_ GE146002.out) | exact HB.out)⟩
  · replace c5 := Bool.eq_false_iff.mpr c5
    subst c5
    have H1 : (some false) = some r := by rw [if_neg (show ¬ (false = true) by decide)] at H; exact H
    clear H
    have H := H1
    clear H1
    obtain rfl := Option.some.inj H
    go_enter Try.func145, Try.ntmps145
    go_wp2_with (first | ((with_reducible refine gate_dst (N := 3) rfl ?_); refine box_event ?hg (N := 3) ?hd (cs := #[.int .i64 a0_0, .slice A0_1 l0_1.length c0_1]) (t := 28) ?hr ?_; (case hd => rfl); (case hg => rfl); (case hr => first | (go_simp; done) | (go_simp; rfl)); intro gb146001 hg w27 hbox hb; have n0_ := Aside0.mk (below_step (by repeat (first | (with_reducible first | exact HB.out | apply below_alloc | apply pw_below_drewN | apply below_drew1) | exact HB.out)) hb); have n1_ := Aside0.mk (hbox); have n2_ := Aside0.mk ((by rw [hg]; exact (below_size (by repeat (first | (with_reducible first | exact HB.out | apply below_alloc | apply pw_below_drewN | apply below_drew1) | exact HB.out))) : w.heap.size ≤ gb146001)); have n3_ := Aside0.mk ((by rw [hg]; exact (below_size (by repeat (first | (with_reducible first | exact HB.out | apply below_alloc | apply pw_below_drewN | apply below_drew1) | exact HB.out))) : w.heap.size ≤ gb146001)); clear HB; have HB := n0_; have BK146001 := n1_; have GW146001 := n2_; have GE146001 := n3_; clear n0_ n1_ n2_ n3_; clear hb hbox hg) | ((with_reducible refine gate_dst (N := 4) rfl ?_); refine box_event ?hg (N := 4) ?hd (cs := #[.int .i64 a1_0, .slice A1_1 l1_1.length c1_1]) (t := 28) ?hr ?_; (case hd => rfl); (case hg => rfl); (case hr => first | (go_simp; done) | (go_simp; rfl)); intro gb146002 hg w28 hbox hb; have n0_ := Aside0.mk (blk_below (g := gb146001) (o := .cells #[.int .i64 a0_0, .slice A0_1 l0_1.length c0_1] 28 (0, 0)) (by (with_reducible repeat (first | refine blk_drewN ?_ _ | refine blk_drew ?_ | refine blk_alloc ?_ _)); exact BK146001.out) hb); have n1_ := Aside0.mk (below_step (by repeat (first | (with_reducible first | exact HB.out | apply below_alloc | apply pw_below_drewN | apply below_drew1 | refine below_set ?_ GE146001.out) | exact HB.out)) hb); have n2_ := Aside0.mk (hbox); have n3_ := Aside0.mk ((by rw [hg]; exact (below_size (by repeat (first | (with_reducible first | exact HB.out | apply below_alloc | apply pw_below_drewN | apply below_drew1 | refine below_set ?_ GE146001.out) | exact HB.out))) : w.heap.size ≤ gb146002)); have n4_ := Aside0.mk ((by rw [hg]; exact (below_size (by repeat (first | (with_reducible first | exact HB.out | apply below_alloc | apply pw_below_drewN | apply below_drew1 | refine below_set ?_ GE146001.out) | exact HB.out))) : w.heap.size ≤ gb146002)); have n5_ := Aside0.mk ((by rw [hg]; exact Nat.ne_of_lt (blk_lt (g := gb146001) (o := .cells #[.int .i64 a0_0, .slice A0_1 l0_1.length c0_1] 28 (0, 0)) (by (with_reducible repeat (first | refine blk_drewN ?_ _ | refine blk_drew ?_ | refine blk_alloc ?_ _)); exact BK146001.out)) : gb146001 ≠ gb146002)); have n6_ := Aside0.mk ((by rw [hg]; exact Nat.ne_of_gt (blk_lt (g := gb146001) (o := .cells #[.int .i64 a0_0, .slice A0_1 l0_1.length c0_1] 28 (0, 0)) (by (with_reducible repeat (first | refine blk_drewN ?_ _ | refine blk_drew ?_ | refine blk_alloc ?_ _)); exact BK146001.out)) : gb146002 ≠ gb146001)); clear BK146001; clear HB; have BK146001 := n0_; have HB := n1_; have BK146002 := n2_; have GW146002 := n3_; have GE146002 := n4_; have NB146001_146002 := n5_; have NB146002_146001 := n6_; clear n0_ n1_ n2_ n3_ n4_ n5_ n6_; clear hb hbox hg; have hnb29 := NB146001_146002.out; have hnc29 := NB146002_146001.out; have hcz30_0 : w28.cell? ⟨gb146001, 0, none⟩ = some (.int .i64 a0_0) := (blk_cell BK146001.out 0).trans rfl; have hcz30_1 : w28.cell? ⟨gb146001, 1, none⟩ = some (.slice A0_1 l0_1.length c0_1) := (blk_cell BK146001.out 1).trans rfl; have hfz30_0 := blk_frozen BK146001.out 0; have hfz30_1 := blk_frozen BK146001.out 1; have hcz31_0 : w28.cell? ⟨gb146002, 0, none⟩ = some (.int .i64 a1_0) := (blk_cell BK146002.out 0).trans rfl; have hcz31_1 : w28.cell? ⟨gb146002, 1, none⟩ = some (.slice A1_1 l1_1.length c1_1) := (blk_cell BK146002.out 1).trans rfl; have hfz31_0 := blk_frozen BK146002.out 0; have hfz31_1 := blk_frozen BK146002.out 1) | ((with_reducible refine gate_callee (f := 118) rfl ?_); refine goesL_ (some 9) rfl rfl Try.func118 (by kernel_rfl) rfl #[.agg #[.int .i64 a0_0, .slice A0_1 l0_1.length c0_1], .agg #[.int .i64 a1_0, .slice A1_1 l1_1.length c1_1]] rfl (by (try simp only [List.map_toArray, List.map_cons, List.map_nil]); first | done | rfl | (simp only [List.length_drop, List.length_take]; rfl)) ?_; (with_reducible refine (impl_together.calls k a0_0 _ _ l0_1 a1_0 _ _ l1_1 false _ ?side1 ?side2 ?side3 ?side4 A4.out).mono ?_); (case side1 => repeat (first | exact (Kd.C_below HR0_1.out HB.out) | (with_reducible refine Kd.C_alloc ?_ _) | (with_reducible refine Kd.C_drewN ?_ _) | (with_reducible refine Kd.C_drew ?_))); (case side2 => exact HC0_1.out); (case side3 => repeat (first | exact (Kd.C_below HR1_1.out HB.out) | (with_reducible refine Kd.C_alloc ?_ _) | (with_reducible refine Kd.C_drewN ?_ _) | (with_reducible refine Kd.C_drew ?_))); (case side4 => exact HC1_1.out); rintro e w32 ⟨rfl, hb⟩; refine ⟨_, rfl, ?_⟩; have n0_ := Aside0.mk (blk_below (g := gb146001) (o := .cells #[.int .i64 a0_0, .slice A0_1 l0_1.length c0_1] 28 (0, 0)) (by (with_reducible repeat (first | refine blk_drewN ?_ _ | refine blk_drew ?_ | refine blk_alloc ?_ _)); exact BK146001.out) hb); have n1_ := Aside0.mk (blk_below (g := gb146002) (o := .cells #[.int .i64 a1_0, .slice A1_1 l1_1.length c1_1] 28 (0, 0)) (by (with_reducible repeat (first | refine blk_drewN ?_ _ | refine blk_drew ?_ | refine blk_alloc ?_ _)); exact BK146002.out) hb); have n2_ := Aside0.mk (below_step (by repeat (first | (with_reducible first | exact HB.out | apply below_alloc | apply pw_below_drewN | apply below_drew1 | refine below_set ?_ GE146001.out | refine below_set ?_ GE146002.out) | exact HB.out)) hb); clear BK146001; clear BK146002; clear HB; have BK146001 := n0_; have BK146002 := n1_; have HB := n2_; clear n0_ n1_ n2_; (try clear hb); (try clear hb2); (try clear hk); (try clear hi)))
    go_ret
    exact ⟨by first | rfl | (simp [errW_none, errW_some] <;> rfl) | (simp [*, errW_none, errW_some] <;> rfl), by repeat (first | (with_reducible first | exact HB.out | apply below_alloc | apply pw_below_drewN | apply below_drew1 | refine below_set ?_ GE146001.out | refine below_set ?_ GE146002.out) | exact HB.out)⟩


end Go.Proofs.Ytinoamehdhgpgaa.A
