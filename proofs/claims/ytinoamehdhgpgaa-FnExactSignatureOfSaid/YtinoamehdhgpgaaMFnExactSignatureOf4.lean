/- The machine side of the law FnExactSignatureOf, laid by a program of this work over the kit's print and contracts by hand: Go functions as Lean functions, and proofs that calls come to what these tell. Conditions: those in each theorem. -/
import Derived.Test.YtinoamehdhgpgaaMFnExactSignatureOf0
import Derived.Test.YtinoamehdhgpgaaMFnExactSignatureOf1
import Derived.Test.YtinoamehdhgpgaaMFnExactSignatureOf2
import Derived.Test.YtinoamehdhgpgaaMFnExactSignatureOf3
namespace Go.Proofs.Ytinoamehdhgpgaa.A
open Go.RowKit Go.Proofs.YtinoamehdhgpgaaW.PrintWords Go.Proofs.YtinoamehdhgpgaaW.PrintLast Go.Proofs.YtinoamehdhgpgaaW.PrintMore
attribute [local go_sem] max2_int min2_int max_two min_two max_three min_three max_four min_four   -- for this text's walks alone
set_option linter.unusedVariables false
set_option linter.unusedSimpArgs false

/-! ### laws_FnExactSignatureOf: function 22 -/
def laws_FnExactSignatureOf.j0 : Nat → List Int → List Int → Bool → Int → List Int → Option (Bool)
 | 0, _, _, _, _, _ => none
 | k + 1, x4, x6, x42, x23002000, x23002001 => if x42 = true then (some false) else ((laws_markIntS.f k x6 1).bind fun bt23027 => ((laws_heldIntS.f k bt23027.2 1).bind fun t23029 => (if t23029 < 0 then (some false) else (if t23029 = bt23027.1 then ((laws_toMatroid.f k x23002000 x23002001).bind fun bt23030 => ((impl_SignatureOf.f k bt23030.1 bt23030.2).bind fun t23034 => ((laws_eqIntS.f k t23034 x4).bind fun t23037 => (if t23037 = true then ((laws_heldIntS.f k bt23027.2 1).bind fun t23038 => (if t23038 < 0 then (some false) else (if t23038 = bt23027.1 then (some true) else (some false)))) else (some false))))) else (some false)))))
def laws_FnExactSignatureOf.f (k : Nat) (a0_0 : Int) (l0_1 : List Int) : Option (Bool) := (laws_szMatroid.f a0_0 l0_1 1048576).bind fun t23002 => (if t23002 < 0 then (some true) else ((laws_toMatroid.f k a0_0 l0_1).bind fun bt23003 => ((spec_SignatureOf.f k bt23003.1 bt23003.2).bind fun t23007 => ((laws_toMatroid.f k a0_0 l0_1).bind fun bt23010 => ((impl_SignatureOf.f k bt23010.1 bt23010.2).bind fun t23015 => ((laws_eqIntS.f k t23015 t23007).bind fun t23018 => (if t23018 = true then ((laws_toMatroid.f k a0_0 l0_1).bind fun bt23019 => ((laws_eqMatroid.f k bt23010.1 bt23010.2 bt23019.1 bt23019.2).bind fun t23023 => (if t23023 = true then ((laws_markMatroid.f k bt23010.1 bt23010.2 1).bind fun bt23024 => (if bt23024.1 < 0 then (laws_FnExactSignatureOf.j0 k t23007 t23015 true a0_0 l0_1) else ((laws_eqIntS.f k t23015 t23007).bind fun t23026 => (laws_FnExactSignatureOf.j0 k t23007 t23015 (!t23026) a0_0 l0_1)))) else (some false)))) else (some false))))))))
theorem laws_FnExactSignatureOf.mono_l : ∀ k, (∀ y0 y1 y2 y3 y4, LeO (laws_FnExactSignatureOf.j0 k y0 y1 y2 y3 y4) (laws_FnExactSignatureOf.j0 (k + 1) y0 y1 y2 y3 y4))
 | 0 => fun _ _ _ _ _ r h => by simp [laws_FnExactSignatureOf.j0] at h
 | k + 1 => by
  have ih0 := laws_FnExactSignatureOf.mono_l k
  ·intro y0 y1 y2 y3 y4
   unfold laws_FnExactSignatureOf.j0
   repeat' first
   | (with_reducible exact ih0 _ _ _ _ _)
   | (with_reducible exact impl_SignatureOf.mono _ _ _)
   | (with_reducible exact laws_eqIntS.mono _ _ _)
   | (with_reducible exact laws_eqMatroid.mono _ _ _ _ _)
   | (with_reducible exact laws_heldIntS.mono _ _ _)
   | (with_reducible exact laws_markIntS.mono _ _ _)
   | (with_reducible exact laws_markMatroid.mono _ _ _ _)
   | (with_reducible exact laws_toMatroid.mono _ _ _)
   | (with_reducible exact spec_SignatureOf.mono _ _ _)
   | (with_reducible exact LeO.refl _)
   | (with_reducible exact LeO.none _)
   | (with_reducible refine LeO.ite ?_ ?_)
   | (with_reducible refine LeO.bind ?_ (fun _ => ?_))
   | exact ih0 _ _ _ _ _
   | exact impl_SignatureOf.mono _ _ _
   | exact laws_eqIntS.mono _ _ _
   | exact laws_eqMatroid.mono _ _ _ _ _
   | exact laws_heldIntS.mono _ _ _
   | exact laws_markIntS.mono _ _ _
   | exact laws_markMatroid.mono _ _ _ _
   | exact laws_toMatroid.mono _ _ _
   | exact spec_SignatureOf.mono _ _ _
   | exact LeO.none _
   | refine LeO.ite ?_ ?_
   | refine LeO.bind ?_ (fun _ => ?_)
theorem laws_FnExactSignatureOf.mono : ∀ a0 a1 k, LeO (laws_FnExactSignatureOf.f k a0 a1) (laws_FnExactSignatureOf.f (k + 1) a0 a1) := by
 intro a0 a1 k
 have ih0 := laws_FnExactSignatureOf.mono_l k
 unfold laws_FnExactSignatureOf.f
 repeat' first
   | (with_reducible exact ih0 _ _ _ _ _)
   | (with_reducible exact impl_SignatureOf.mono _ _ _)
   | (with_reducible exact laws_eqIntS.mono _ _ _)
   | (with_reducible exact laws_eqMatroid.mono _ _ _ _ _)
   | (with_reducible exact laws_heldIntS.mono _ _ _)
   | (with_reducible exact laws_markIntS.mono _ _ _)
   | (with_reducible exact laws_markMatroid.mono _ _ _ _)
   | (with_reducible exact laws_toMatroid.mono _ _ _)
   | (with_reducible exact spec_SignatureOf.mono _ _ _)
   | (with_reducible exact LeO.refl _)
   | (with_reducible exact LeO.none _)
   | (with_reducible refine LeO.ite ?_ ?_)
   | (with_reducible refine LeO.bind ?_ (fun _ => ?_))
   | exact ih0 _ _ _ _ _
   | exact impl_SignatureOf.mono _ _ _
   | exact laws_eqIntS.mono _ _ _
   | exact laws_eqMatroid.mono _ _ _ _ _
   | exact laws_heldIntS.mono _ _ _
   | exact laws_markIntS.mono _ _ _
   | exact laws_markMatroid.mono _ _ _ _
   | exact laws_toMatroid.mono _ _ _
   | exact spec_SignatureOf.mono _ _ _
   | exact LeO.none _
   | refine LeO.ite ?_ ?_
   | refine LeO.bind ?_ (fun _ => ?_)
set_option maxHeartbeats 8000000 in
set_option maxRecDepth 100000 in
theorem laws_FnExactSignatureOf.calls (k : Nat) (a0_0 : Int) (A0_1 : Option Addr) (c0_1 : Nat) (l0_1 : List Int) (w : World) (hr0_1 : Kd.C (Kd.int .i64) w A0_1 l0_1.length l0_1) (hc0_1 : l0_1.length ≤ c0_1) (h : laws_FnExactSignatureOf.f k a0_0 l0_1 = some true) :
  Calls Try.prog 22 #[.agg #[.int .i64 a0_0, .slice A0_1 l0_1.length c0_1]] w fun e w' => e = .returned (.bool true) ∧ Below w.heap.size w w' := by
 have hu24 := Try.underlying24
 have hu28 := Try.underlying28
 have HR0_1 := aQ hr0_1
 have HC0_1 := aQ hc0_1
 clear hr0_1 hc0_1
 have HB := aQ (Below.refl w.heap.size w)
 have H : ((laws_szMatroid.f a0_0 l0_1 1048576).bind fun t23002 => (if t23002 < 0 then (some true) else ((laws_toMatroid.f k a0_0 l0_1).bind fun bt23003 => ((spec_SignatureOf.f k bt23003.1 bt23003.2).bind fun t23007 => ((laws_toMatroid.f k a0_0 l0_1).bind fun bt23010 => ((impl_SignatureOf.f k bt23010.1 bt23010.2).bind fun t23015 => ((laws_eqIntS.f k t23015 t23007).bind fun t23018 => (if t23018 = true then ((laws_toMatroid.f k a0_0 l0_1).bind fun bt23019 => ((laws_eqMatroid.f k bt23010.1 bt23010.2 bt23019.1 bt23019.2).bind fun t23023 => (if t23023 = true then ((laws_markMatroid.f k bt23010.1 bt23010.2 1).bind fun bt23024 => (if bt23024.1 < 0 then (laws_FnExactSignatureOf.j0 k t23007 t23015 true a0_0 l0_1) else ((laws_eqIntS.f k t23015 t23007).bind fun t23026 => (laws_FnExactSignatureOf.j0 k t23007 t23015 (!t23026) a0_0 l0_1)))) else (some false)))) else (some false))))))))) = some true := h
 clear h
 replace H := Option.bind_eq_some_iff.mp H
 obtain ⟨t23002, A20, H⟩ := H
 replace H : (if t23002 < 0 then (some true) else ((laws_toMatroid.f k a0_0 l0_1).bind fun bt23003 => ((spec_SignatureOf.f k bt23003.1 bt23003.2).bind fun t23007 => ((laws_toMatroid.f k a0_0 l0_1).bind fun bt23010 => ((impl_SignatureOf.f k bt23010.1 bt23010.2).bind fun t23015 => ((laws_eqIntS.f k t23015 t23007).bind fun t23018 => (if t23018 = true then ((laws_toMatroid.f k a0_0 l0_1).bind fun bt23019 => ((laws_eqMatroid.f k bt23010.1 bt23010.2 bt23019.1 bt23019.2).bind fun t23023 => (if t23023 = true then ((laws_markMatroid.f k bt23010.1 bt23010.2 1).bind fun bt23024 => (if bt23024.1 < 0 then (laws_FnExactSignatureOf.j0 k t23007 t23015 true a0_0 l0_1) else ((laws_eqIntS.f k t23015 t23007).bind fun t23026 => (laws_FnExactSignatureOf.j0 k t23007 t23015 (!t23026) a0_0 l0_1)))) else (some false)))) else (some false)))))))) = some true := H
 have A2 := aQ A20
 clear A20
 by_cases c3 : t23002 < 0
 ·rw [if_pos c3] at H
  have c3b0 : decide (t23002 < 0) = true := decide_eq_true c3
  clear c3
  clear H
  go_enter Try.func22, Try.ntmps22
  go_wp2_with (first | ((with_reducible refine gate_dst (N := 1) rfl ?_); refine box_event ?hg (N := 1) ?hd (cs := #[.int .i64 a0_0, .slice A0_1 l0_1.length c0_1]) (t := 24) ?hr ?_; (case hd => rfl); (case hg => rfl); (case hr => first | (go_simp; done) | (go_simp; rfl)); intro gb23001 hg w4 hbox hb; have BK23001 := aQ (hbox); have GW23001 := aQ ((by rw [hg]; exact (below_size (by repeat (first | (with_reducible first | exact HB.out | apply below_alloc | apply pw_below_drewN | apply below_drew1) | exact HB.out))) : w.heap.size ≤ gb23001)); have GE23001 := aQ ((by rw [hg]; exact (below_size (by repeat (first | (with_reducible first | exact HB.out | apply below_alloc | apply pw_below_drewN | apply below_drew1) | exact HB.out))) : w.heap.size ≤ gb23001)); replace HB := aQ (below_step (by repeat (first | (with_reducible first | exact HB.out | apply below_alloc | apply pw_below_drewN | apply below_drew1) | exact HB.out)) hb); clear hb hbox hg; have hcz5_0 : w4.cell? ⟨gb23001, 0, none⟩ = some (.int .i64 a0_0) := (blk_cell BK23001.out 0).trans rfl; have hcz5_1 : w4.cell? ⟨gb23001, 1, none⟩ = some (.slice A0_1 l0_1.length c0_1) := (blk_cell BK23001.out 1).trans rfl; have hfz5_0 := blk_frozen BK23001.out 0; have hfz5_1 := blk_frozen BK23001.out 1) | ((with_reducible refine gate_callee (f := 33) rfl ?_); refine goesL_ (some 13) rfl rfl Try.func33 (by kernel_rfl) rfl #[.agg #[.int .i64 a0_0, .slice A0_1 l0_1.length c0_1], .int .i64 1048576] rfl (by (try simp only [List.map_toArray, List.map_cons, List.map_nil]); first | done | rfl | (simp only [List.length_drop, List.length_take]; rfl)) ?_; (with_reducible refine (laws_szMatroid.calls a0_0 _ _ l0_1 1048576 t23002 _ ?side1 ?side2 A2.out).mono ?_); (case side1 => repeat (first | exact (Kd.C_below HR0_1.out HB.out) | (with_reducible refine Kd.C_alloc ?_ _) | (with_reducible refine Kd.C_drewN ?_ _) | (with_reducible refine Kd.C_drew ?_))); (case side2 => exact HC0_1.out); rintro e w6 ⟨rfl, hb⟩; refine ⟨_, rfl, ?_⟩; replace BK23001 := aQ (blk_below (g := gb23001) (o := .cells #[.int .i64 a0_0, .slice A0_1 l0_1.length c0_1] 24 (0, 0)) (by (with_reducible repeat (first | refine blk_drewN ?_ _ | refine blk_drew ?_ | refine blk_alloc ?_ _)); exact BK23001.out) hb); replace HB := aQ (below_step (by repeat (first | (with_reducible first | exact HB.out | apply below_alloc | apply pw_below_drewN | apply below_drew1 | refine below_set ?_ GE23001.out) | exact HB.out)) hb); (try clear hb); (try clear hb2); (try clear hk); (try clear hi)))
  go_ret
  exact ⟨by first | rfl | (simp [errW_none, errW_some] <;> rfl) | (simp [*, errW_none, errW_some] <;> rfl), by repeat (first | (with_reducible first | exact HB.out | apply below_alloc | apply pw_below_drewN | apply below_drew1 | refine below_set ?_ GE23001.out) | exact HB.out)⟩
 ·rw [if_neg c3] at H
  have c3b0 : decide (t23002 < 0) = false := decide_eq_false c3
  clear c3
  replace H := Option.bind_eq_some_iff.mp H
  obtain ⟨⟨t23003, t23004⟩, A70, H⟩ := H
  replace H : ((spec_SignatureOf.f k t23003 t23004).bind fun t23007 => ((laws_toMatroid.f k a0_0 l0_1).bind fun bt23010 => ((impl_SignatureOf.f k bt23010.1 bt23010.2).bind fun t23015 => ((laws_eqIntS.f k t23015 t23007).bind fun t23018 => (if t23018 = true then ((laws_toMatroid.f k a0_0 l0_1).bind fun bt23019 => ((laws_eqMatroid.f k bt23010.1 bt23010.2 bt23019.1 bt23019.2).bind fun t23023 => (if t23023 = true then ((laws_markMatroid.f k bt23010.1 bt23010.2 1).bind fun bt23024 => (if bt23024.1 < 0 then (laws_FnExactSignatureOf.j0 k t23007 t23015 true a0_0 l0_1) else ((laws_eqIntS.f k t23015 t23007).bind fun t23026 => (laws_FnExactSignatureOf.j0 k t23007 t23015 (!t23026) a0_0 l0_1)))) else (some false)))) else (some false)))))) = some true := H
  have A7 := aQ A70
  clear A70
  replace H := Option.bind_eq_some_iff.mp H
  obtain ⟨t23007, A80, H⟩ := H
  replace H : ((laws_toMatroid.f k a0_0 l0_1).bind fun bt23010 => ((impl_SignatureOf.f k bt23010.1 bt23010.2).bind fun t23015 => ((laws_eqIntS.f k t23015 t23007).bind fun t23018 => (if t23018 = true then ((laws_toMatroid.f k a0_0 l0_1).bind fun bt23019 => ((laws_eqMatroid.f k bt23010.1 bt23010.2 bt23019.1 bt23019.2).bind fun t23023 => (if t23023 = true then ((laws_markMatroid.f k bt23010.1 bt23010.2 1).bind fun bt23024 => (if bt23024.1 < 0 then (laws_FnExactSignatureOf.j0 k t23007 t23015 true a0_0 l0_1) else ((laws_eqIntS.f k t23015 t23007).bind fun t23026 => (laws_FnExactSignatureOf.j0 k t23007 t23015 (!t23026) a0_0 l0_1)))) else (some false)))) else (some false))))) = some true := H
  have A8 := aQ A80
  clear A80
  replace H := Option.bind_eq_some_iff.mp H
  obtain ⟨⟨t23010, t23011⟩, A90, H⟩ := H
  replace H : ((impl_SignatureOf.f k t23010 t23011).bind fun t23015 => ((laws_eqIntS.f k t23015 t23007).bind fun t23018 => (if t23018 = true then ((laws_toMatroid.f k a0_0 l0_1).bind fun bt23019 => ((laws_eqMatroid.f k t23010 t23011 bt23019.1 bt23019.2).bind fun t23023 => (if t23023 = true then ((laws_markMatroid.f k t23010 t23011 1).bind fun bt23024 => (if bt23024.1 < 0 then (laws_FnExactSignatureOf.j0 k t23007 t23015 true a0_0 l0_1) else ((laws_eqIntS.f k t23015 t23007).bind fun t23026 => (laws_FnExactSignatureOf.j0 k t23007 t23015 (!t23026) a0_0 l0_1)))) else (some false)))) else (some false)))) = some true := H
  have A9 := aQ A90
  clear A90
  replace H := Option.bind_eq_some_iff.mp H
  obtain ⟨t23015, A100, H⟩ := H
  replace H : ((laws_eqIntS.f k t23015 t23007).bind fun t23018 => (if t23018 = true then ((laws_toMatroid.f k a0_0 l0_1).bind fun bt23019 => ((laws_eqMatroid.f k t23010 t23011 bt23019.1 bt23019.2).bind fun t23023 => (if t23023 = true then ((laws_markMatroid.f k t23010 t23011 1).bind fun bt23024 => (if bt23024.1 < 0 then (laws_FnExactSignatureOf.j0 k t23007 t23015 true a0_0 l0_1) else ((laws_eqIntS.f k t23015 t23007).bind fun t23026 => (laws_FnExactSignatureOf.j0 k t23007 t23015 (!t23026) a0_0 l0_1)))) else (some false)))) else (some false))) = some true := H
  have A10 := aQ A100
  clear A100
  replace H := Option.bind_eq_some_iff.mp H
  obtain ⟨t23018, A110, H⟩ := H
  replace H : (if t23018 = true then ((laws_toMatroid.f k a0_0 l0_1).bind fun bt23019 => ((laws_eqMatroid.f k t23010 t23011 bt23019.1 bt23019.2).bind fun t23023 => (if t23023 = true then ((laws_markMatroid.f k t23010 t23011 1).bind fun bt23024 => (if bt23024.1 < 0 then (laws_FnExactSignatureOf.j0 k t23007 t23015 true a0_0 l0_1) else ((laws_eqIntS.f k t23015 t23007).bind fun t23026 => (laws_FnExactSignatureOf.j0 k t23007 t23015 (!t23026) a0_0 l0_1)))) else (some false)))) else (some false)) = some true := H
  have A11 := aQ A110
  clear A110
  by_cases c12 : t23018 = true
  ·subst c12
   have H1 : ((laws_toMatroid.f k a0_0 l0_1).bind fun bt23019 => ((laws_eqMatroid.f k t23010 t23011 bt23019.1 bt23019.2).bind fun t23023 => (if t23023 = true then ((laws_markMatroid.f k t23010 t23011 1).bind fun bt23024 => (if bt23024.1 < 0 then (laws_FnExactSignatureOf.j0 k t23007 t23015 true a0_0 l0_1) else ((laws_eqIntS.f k t23015 t23007).bind fun t23026 => (laws_FnExactSignatureOf.j0 k t23007 t23015 (!t23026) a0_0 l0_1)))) else (some false)))) = some true := by rw [if_pos rfl] at H; exact H
   clear H
   have H := H1
   clear H1
   replace H := Option.bind_eq_some_iff.mp H
   obtain ⟨⟨t23019, t23020⟩, A130, H⟩ := H
   replace H : ((laws_eqMatroid.f k t23010 t23011 t23019 t23020).bind fun t23023 => (if t23023 = true then ((laws_markMatroid.f k t23010 t23011 1).bind fun bt23024 => (if bt23024.1 < 0 then (laws_FnExactSignatureOf.j0 k t23007 t23015 true a0_0 l0_1) else ((laws_eqIntS.f k t23015 t23007).bind fun t23026 => (laws_FnExactSignatureOf.j0 k t23007 t23015 (!t23026) a0_0 l0_1)))) else (some false))) = some true := H
   have A13 := aQ A130
   clear A130
   replace H := Option.bind_eq_some_iff.mp H
   obtain ⟨t23023, A140, H⟩ := H
   replace H : (if t23023 = true then ((laws_markMatroid.f k t23010 t23011 1).bind fun bt23024 => (if bt23024.1 < 0 then (laws_FnExactSignatureOf.j0 k t23007 t23015 true a0_0 l0_1) else ((laws_eqIntS.f k t23015 t23007).bind fun t23026 => (laws_FnExactSignatureOf.j0 k t23007 t23015 (!t23026) a0_0 l0_1)))) else (some false)) = some true := H
   have A14 := aQ A140
   clear A140
   by_cases c15 : t23023 = true
   ·subst c15
    have H1 : ((laws_markMatroid.f k t23010 t23011 1).bind fun bt23024 => (if bt23024.1 < 0 then (laws_FnExactSignatureOf.j0 k t23007 t23015 true a0_0 l0_1) else ((laws_eqIntS.f k t23015 t23007).bind fun t23026 => (laws_FnExactSignatureOf.j0 k t23007 t23015 (!t23026) a0_0 l0_1)))) = some true := by rw [if_pos rfl] at H; exact H
    clear H
    have H := H1
    clear H1
    replace H := Option.bind_eq_some_iff.mp H
    obtain ⟨⟨t23024, t23025⟩, A160, H⟩ := H
    replace H : (if t23024 < 0 then (laws_FnExactSignatureOf.j0 k t23007 t23015 true a0_0 l0_1) else ((laws_eqIntS.f k t23015 t23007).bind fun t23026 => (laws_FnExactSignatureOf.j0 k t23007 t23015 (!t23026) a0_0 l0_1))) = some true := H
    have A16 := aQ A160
    clear A160
    have HC17 := aQ H
    clear H
    go_enter Try.func22, Try.ntmps22
    try go_wp2_with (first | ((with_reducible refine gate_dst (N := 1) rfl ?_); refine box_event ?hg (N := 1) ?hd (cs := #[.int .i64 a0_0, .slice A0_1 l0_1.length c0_1]) (t := 24) ?hr ?_; (case hd => rfl); (case hg => rfl); (case hr => first | (go_simp; done) | (go_simp; rfl)); intro gb23001 hg w18 hbox hb; have BK23001 := aQ (hbox); have GW23001 := aQ ((by rw [hg]; exact (below_size (by repeat (first | (with_reducible first | exact HB.out | apply below_alloc | apply pw_below_drewN | apply below_drew1) | exact HB.out))) : w.heap.size ≤ gb23001)); have GE23001 := aQ ((by rw [hg]; exact (below_size (by repeat (first | (with_reducible first | exact HB.out | apply below_alloc | apply pw_below_drewN | apply below_drew1) | exact HB.out))) : w.heap.size ≤ gb23001)); replace HB := aQ (below_step (by repeat (first | (with_reducible first | exact HB.out | apply below_alloc | apply pw_below_drewN | apply below_drew1) | exact HB.out)) hb); clear hb hbox hg; have hcz19_0 : w18.cell? ⟨gb23001, 0, none⟩ = some (.int .i64 a0_0) := (blk_cell BK23001.out 0).trans rfl; have hcz19_1 : w18.cell? ⟨gb23001, 1, none⟩ = some (.slice A0_1 l0_1.length c0_1) := (blk_cell BK23001.out 1).trans rfl; have hfz19_0 := blk_frozen BK23001.out 0; have hfz19_1 := blk_frozen BK23001.out 1) | ((with_reducible refine gate_callee (f := 33) rfl ?_); refine goesL_ (some 13) rfl rfl Try.func33 (by kernel_rfl) rfl #[.agg #[.int .i64 a0_0, .slice A0_1 l0_1.length c0_1], .int .i64 1048576] rfl (by (try simp only [List.map_toArray, List.map_cons, List.map_nil]); first | done | rfl | (simp only [List.length_drop, List.length_take]; rfl)) ?_; (with_reducible refine (laws_szMatroid.calls a0_0 _ _ l0_1 1048576 t23002 _ ?side1 ?side2 A2.out).mono ?_); (case side1 => repeat (first | exact (Kd.C_below HR0_1.out HB.out) | (with_reducible refine Kd.C_alloc ?_ _) | (with_reducible refine Kd.C_drewN ?_ _) | (with_reducible refine Kd.C_drew ?_))); (case side2 => exact HC0_1.out); rintro e w20 ⟨rfl, hb⟩; refine ⟨_, rfl, ?_⟩; replace BK23001 := aQ (blk_below (g := gb23001) (o := .cells #[.int .i64 a0_0, .slice A0_1 l0_1.length c0_1] 24 (0, 0)) (by (with_reducible repeat (first | refine blk_drewN ?_ _ | refine blk_drew ?_ | refine blk_alloc ?_ _)); exact BK23001.out) hb); replace HB := aQ (below_step (by repeat (first | (with_reducible first | exact HB.out | apply below_alloc | apply pw_below_drewN | apply below_drew1 | refine below_set ?_ GE23001.out) | exact HB.out)) hb); (try clear hb); (try clear hb2); (try clear hk); (try clear hi); have hcz21_0 : w20.cell? ⟨gb23001, 0, none⟩ = some (.int .i64 a0_0) := (blk_cell BK23001.out 0).trans rfl; have hcz21_1 : w20.cell? ⟨gb23001, 1, none⟩ = some (.slice A0_1 l0_1.length c0_1) := (blk_cell BK23001.out 1).trans rfl; have hfz21_0 := blk_frozen BK23001.out 0; have hfz21_1 := blk_frozen BK23001.out 1) | ((with_reducible refine gate_callee (f := 35) rfl ?_); refine goesL_ (some 17) rfl rfl Try.func35 (by kernel_rfl) rfl #[.agg #[.int .i64 a0_0, .slice A0_1 l0_1.length c0_1]] rfl (by (try simp only [List.map_toArray, List.map_cons, List.map_nil]); first | done | rfl | (simp only [List.length_drop, List.length_take]; rfl)) ?_; (with_reducible refine (laws_toMatroid.calls k a0_0 _ _ l0_1 t23003 t23004 _ ?side1 ?side2 A7.out).mono ?_); (case side1 => repeat (first | exact (Kd.C_below HR0_1.out HB.out) | (with_reducible refine Kd.C_alloc ?_ _) | (with_reducible refine Kd.C_drewN ?_ _) | (with_reducible refine Kd.C_drew ?_))); (case side2 => exact HC0_1.out); rintro e w22 ⟨v23005, rfl, ho0, hb⟩; refine ⟨_, rfl, ?_⟩; have HO23006 := aQ (Kd.R_lower ho0 (below_size (by repeat (first | (with_reducible first | exact HB.out | apply below_alloc | apply pw_below_drewN | apply below_drew1 | refine below_set ?_ GE23001.out) | exact HB.out)))); replace BK23001 := aQ (blk_below (g := gb23001) (o := .cells #[.int .i64 a0_0, .slice A0_1 l0_1.length c0_1] 24 (0, 0)) (by (with_reducible repeat (first | refine blk_drewN ?_ _ | refine blk_drew ?_ | refine blk_alloc ?_ _)); exact BK23001.out) hb); replace HB := aQ (below_step (by repeat (first | (with_reducible first | exact HB.out | apply below_alloc | apply pw_below_drewN | apply below_drew1 | refine below_set ?_ GE23001.out) | exact HB.out)) hb); (try clear hb); (try clear hb2); (try clear hk); (try clear hi); (try clear ho0); obtain ⟨Ao23, co23, eo23⟩ := Kd.R_slice HO23006.out; subst eo23) | ((with_reducible refine gate_callee (f := 80) rfl ?_); refine goesL_ (some 18) rfl rfl Try.func80 (by kernel_rfl) rfl #[.agg #[.int .i64 t23003, .slice Ao23 t23004.length co23]] rfl (by (try simp only [List.map_toArray, List.map_cons, List.map_nil]); first | done | rfl | (simp only [List.length_drop, List.length_take]; rfl)) ?_; (with_reducible refine (spec_SignatureOf.calls k t23003 _ _ t23004 t23007 _ ?side1 ?side2 A8.out).mono ?_); (case side1 => repeat (first | exact (Kd.R_reads' HO23006.out).2.2 | (with_reducible refine Kd.C_alloc ?_ _) | (with_reducible refine Kd.C_drewN ?_ _) | (with_reducible refine Kd.C_drew ?_))); (case side2 => exact (Kd.R_reads' HO23006.out).2.1); rintro e w24 ⟨v23008, rfl, ho0, hb⟩; refine ⟨_, rfl, ?_⟩; have HO23009 := aQ (Kd.R_lower (Kd.R_new' ho0 (Kd.R_lt (by (with_reducible repeat (first | apply Kd.R_alloc | apply Kd.R_drewN | apply Kd.R_drew)); exact HO23006.out))) (below_size (by repeat (first | (with_reducible first | exact HB.out | apply below_alloc | apply pw_below_drewN | apply below_drew1 | refine below_set ?_ GE23001.out) | exact HB.out)))); replace HO23006 := aQ (Kd.R_elder' (by (with_reducible repeat (first | apply Kd.R_alloc | apply Kd.R_drewN | apply Kd.R_drew)); exact HO23006.out) (Kd.R_base ho0) hb); replace BK23001 := aQ (blk_below (g := gb23001) (o := .cells #[.int .i64 a0_0, .slice A0_1 l0_1.length c0_1] 24 (0, 0)) (by (with_reducible repeat (first | refine blk_drewN ?_ _ | refine blk_drew ?_ | refine blk_alloc ?_ _)); exact BK23001.out) hb); replace HB := aQ (below_step (by repeat (first | (with_reducible first | exact HB.out | apply below_alloc | apply pw_below_drewN | apply below_drew1 | refine below_set ?_ GE23001.out) | exact HB.out)) hb); (try clear hb); (try clear hb2); (try clear hk); (try clear hi); (try clear ho0); have hcz25_0 : w24.cell? ⟨gb23001, 0, none⟩ = some (.int .i64 a0_0) := (blk_cell BK23001.out 0).trans rfl; have hcz25_1 : w24.cell? ⟨gb23001, 1, none⟩ = some (.slice A0_1 l0_1.length c0_1) := (blk_cell BK23001.out 1).trans rfl; have hfz25_0 := blk_frozen BK23001.out 0; have hfz25_1 := blk_frozen BK23001.out 1) | ((with_reducible refine gate_callee (f := 35) rfl ?_); refine goesL_ (some 20) rfl rfl Try.func35 (by kernel_rfl) rfl #[.agg #[.int .i64 a0_0, .slice A0_1 l0_1.length c0_1]] rfl (by (try simp only [List.map_toArray, List.map_cons, List.map_nil]); first | done | rfl | (simp only [List.length_drop, List.length_take]; rfl)) ?_; (with_reducible refine (laws_toMatroid.calls k a0_0 _ _ l0_1 t23010 t23011 _ ?side1 ?side2 A9.out).mono ?_); (case side1 => repeat (first | exact (Kd.C_below HR0_1.out HB.out) | (with_reducible refine Kd.C_alloc ?_ _) | (with_reducible refine Kd.C_drewN ?_ _) | (with_reducible refine Kd.C_drew ?_))); (case side2 => exact HC0_1.out); rintro e w26 ⟨v23012, rfl, ho0, hb⟩; refine ⟨_, rfl, ?_⟩; have HO23013 := aQ (Kd.R_lower (Kd.R_new' (Kd.R_new' ho0 (Kd.R_lt (by (with_reducible repeat (first | apply Kd.R_alloc | apply Kd.R_drewN | apply Kd.R_drew)); exact HO23006.out))) (Kd.R_lt (by (with_reducible repeat (first | apply Kd.R_alloc | apply Kd.R_drewN | apply Kd.R_drew)); exact HO23009.out))) (below_size (by repeat (first | (with_reducible first | exact HB.out | apply below_alloc | apply pw_below_drewN | apply below_drew1 | refine below_set ?_ GE23001.out) | exact HB.out)))); replace HO23006 := aQ (Kd.R_elder' (by (with_reducible repeat (first | apply Kd.R_alloc | apply Kd.R_drewN | apply Kd.R_drew)); exact HO23006.out) (Kd.R_base ho0) hb); replace HO23009 := aQ (Kd.R_elder' (by (with_reducible repeat (first | apply Kd.R_alloc | apply Kd.R_drewN | apply Kd.R_drew)); exact HO23009.out) (Kd.R_base ho0) hb); replace BK23001 := aQ (blk_below (g := gb23001) (o := .cells #[.int .i64 a0_0, .slice A0_1 l0_1.length c0_1] 24 (0, 0)) (by (with_reducible repeat (first | refine blk_drewN ?_ _ | refine blk_drew ?_ | refine blk_alloc ?_ _)); exact BK23001.out) hb); replace HB := aQ (below_step (by repeat (first | (with_reducible first | exact HB.out | apply below_alloc | apply pw_below_drewN | apply below_drew1 | refine below_set ?_ GE23001.out) | exact HB.out)) hb); (try clear hb); (try clear hb2); (try clear hk); (try clear hi); (try clear ho0)) | ((with_reducible refine gate_dst (N := 5) rfl ?_); refine box_event ?hg (N := 5) ?hd (cs := #[.int .i64 0, .slice none 0 0]) (t := 28) ?hr ?_; (case hd => rfl); (case hg => rfl); (case hr => first | (go_simp; done) | (go_simp; rfl)); intro gb23014 hg w27 hbox hb; replace HO23006 := aQ (Kd.R_below (by (with_reducible repeat (first | apply Kd.R_alloc | apply Kd.R_drewN | apply Kd.R_drew)); exact HO23006.out) hb); replace HO23009 := aQ (Kd.R_below (by (with_reducible repeat (first | apply Kd.R_alloc | apply Kd.R_drewN | apply Kd.R_drew)); exact HO23009.out) hb); replace HO23013 := aQ (Kd.R_below (by (with_reducible repeat (first | apply Kd.R_alloc | apply Kd.R_drewN | apply Kd.R_drew)); exact HO23013.out) hb); have BK23014 := aQ (hbox); have GW23014 := aQ ((by rw [hg]; exact (below_size (by repeat (first | (with_reducible first | exact HB.out | apply below_alloc | apply pw_below_drewN | apply below_drew1 | refine below_set ?_ GE23001.out) | exact HB.out))) : w.heap.size ≤ gb23014)); have GE23014 := aQ ((by rw [hg]; exact (below_size (by repeat (first | (with_reducible first | exact HB.out | apply below_alloc | apply pw_below_drewN | apply below_drew1 | refine below_set ?_ GE23001.out) | exact HB.out))) : w.heap.size ≤ gb23014)); replace HB := aQ (below_step (by repeat (first | (with_reducible first | exact HB.out | apply below_alloc | apply pw_below_drewN | apply below_drew1 | refine below_set ?_ GE23001.out) | exact HB.out)) hb); have NB23001_23014 := aQ ((by rw [hg]; exact Nat.ne_of_lt (blk_lt (g := gb23001) (o := .cells #[.int .i64 a0_0, .slice A0_1 l0_1.length c0_1] 24 (0, 0)) (by (with_reducible repeat (first | refine blk_drewN ?_ _ | refine blk_drew ?_ | refine blk_alloc ?_ _)); exact BK23001.out)) : gb23001 ≠ gb23014)); have NB23014_23001 := aQ ((by rw [hg]; exact Nat.ne_of_gt (blk_lt (g := gb23001) (o := .cells #[.int .i64 a0_0, .slice A0_1 l0_1.length c0_1] 24 (0, 0)) (by (with_reducible repeat (first | refine blk_drewN ?_ _ | refine blk_drew ?_ | refine blk_alloc ?_ _)); exact BK23001.out)) : gb23014 ≠ gb23001)); replace BK23001 := aQ (blk_below (g := gb23001) (o := .cells #[.int .i64 a0_0, .slice A0_1 l0_1.length c0_1] 24 (0, 0)) (by (with_reducible repeat (first | refine blk_drewN ?_ _ | refine blk_drew ?_ | refine blk_alloc ?_ _)); exact BK23001.out) hb); clear hb hbox hg; have hnb28 := NB23014_23001.out; have hnc28 := NB23001_23014.out; have hcz29_0 : w27.cell? ⟨gb23014, 0, none⟩ = some (.int .i64 0) := (blk_cell BK23014.out 0).trans rfl; have hcz29_1 : w27.cell? ⟨gb23014, 1, none⟩ = some (.slice none 0 0) := (blk_cell BK23014.out 1).trans rfl; have hfz29_0 := blk_frozen BK23014.out 0; have hfz29_1 := blk_frozen BK23014.out 1; obtain ⟨Ao30, co30, eo30⟩ := Kd.R_slice HO23013.out; subst eo30) | ((with_reducible refine gate_callee (f := 81) rfl ?_); refine goesL_ (some 22) rfl rfl Try.func81 (by kernel_rfl) rfl #[.agg #[.int .i64 t23010, .slice Ao30 t23011.length co30]] rfl (by (try simp only [List.map_toArray, List.map_cons, List.map_nil]); first | done | rfl | (simp only [List.length_drop, List.length_take]; rfl)) ?_; (with_reducible refine (impl_SignatureOf.calls k t23010 _ _ t23011 t23015 _ ?side1 ?side2 A10.out).mono ?_); (case side1 => refine (Kd.R_reads' (e := 3) (base := w.heap.size) (ok := fun k_ => ((True ∧ some k_ ≠ (.slice Ao23 t23004.length co23 : Value).ownBlock) ∧ some k_ ≠ (v23008 : Value).ownBlock)) (n := t23011.length) (c := co30) ?_).2.2; exact (by (with_reducible repeat (first | apply Kd.R_alloc | apply Kd.R_drewN | apply Kd.R_drew)); exact (Kd.R_mono (Kd.R_far (p := ⟨gb23014, 1, none⟩) (Kd.R_far (p := ⟨gb23014, 0, none⟩) (Kd.R_types HO23013.out BK23014.out (by decide)) (fun _ hk => hk.2) (.int .i64 t23010)) (fun _ hk => hk.2) (.slice Ao30 t23011.length co30)) (fun _ h_ => h_.1)))); (case side2 => exact (Kd.R_reads' HO23013.out).2.1); rintro e w31 ⟨v23016, rfl, ho0, hb⟩; refine ⟨_, rfl, ?_⟩; have HO23017 := aQ (Kd.R_lower (Kd.R_new' (Kd.R_new' (Kd.R_new' ho0 (Kd.R_lt (by (with_reducible repeat (first | apply Kd.R_alloc | apply Kd.R_drewN | apply Kd.R_drew)); exact (Kd.R_mono (Kd.R_far (p := ⟨gb23014, 1, none⟩) (Kd.R_far (p := ⟨gb23014, 0, none⟩) (Kd.R_types HO23006.out BK23014.out (by decide)) (fun _ hk => hk.2) (.int .i64 t23010)) (fun _ hk => hk.2) (.slice Ao30 t23011.length co30)) (fun _ h_ => h_.1))))) (Kd.R_lt (by (with_reducible repeat (first | apply Kd.R_alloc | apply Kd.R_drewN | apply Kd.R_drew)); exact (Kd.R_mono (Kd.R_far (p := ⟨gb23014, 1, none⟩) (Kd.R_far (p := ⟨gb23014, 0, none⟩) (Kd.R_types HO23009.out BK23014.out (by decide)) (fun _ hk => hk.2) (.int .i64 t23010)) (fun _ hk => hk.2) (.slice Ao30 t23011.length co30)) (fun _ h_ => h_.1))))) (Kd.R_lt (by (with_reducible repeat (first | apply Kd.R_alloc | apply Kd.R_drewN | apply Kd.R_drew)); exact (Kd.R_mono (Kd.R_far (p := ⟨gb23014, 1, none⟩) (Kd.R_far (p := ⟨gb23014, 0, none⟩) (Kd.R_types HO23013.out BK23014.out (by decide)) (fun _ hk => hk.2) (.int .i64 t23010)) (fun _ hk => hk.2) (.slice Ao30 t23011.length co30)) (fun _ h_ => h_.1))))) (below_size (by repeat (first | (with_reducible first | exact HB.out | apply below_alloc | apply pw_below_drewN | apply below_drew1 | refine below_set ?_ GE23001.out | refine below_set ?_ GE23014.out) | exact HB.out)))); replace HO23006 := aQ (Kd.R_elder' (by (with_reducible repeat (first | apply Kd.R_alloc | apply Kd.R_drewN | apply Kd.R_drew)); exact (Kd.R_mono (Kd.R_far (p := ⟨gb23014, 1, none⟩) (Kd.R_far (p := ⟨gb23014, 0, none⟩) (Kd.R_types HO23006.out BK23014.out (by decide)) (fun _ hk => hk.2) (.int .i64 t23010)) (fun _ hk => hk.2) (.slice Ao30 t23011.length co30)) (fun _ h_ => h_.1))) (Kd.R_base ho0) hb); replace HO23009 := aQ (Kd.R_elder' (by (with_reducible repeat (first | apply Kd.R_alloc | apply Kd.R_drewN | apply Kd.R_drew)); exact (Kd.R_mono (Kd.R_far (p := ⟨gb23014, 1, none⟩) (Kd.R_far (p := ⟨gb23014, 0, none⟩) (Kd.R_types HO23009.out BK23014.out (by decide)) (fun _ hk => hk.2) (.int .i64 t23010)) (fun _ hk => hk.2) (.slice Ao30 t23011.length co30)) (fun _ h_ => h_.1))) (Kd.R_base ho0) hb); replace HO23013 := aQ (Kd.R_elder' (by (with_reducible repeat (first | apply Kd.R_alloc | apply Kd.R_drewN | apply Kd.R_drew)); exact (Kd.R_mono (Kd.R_far (p := ⟨gb23014, 1, none⟩) (Kd.R_far (p := ⟨gb23014, 0, none⟩) (Kd.R_types HO23013.out BK23014.out (by decide)) (fun _ hk => hk.2) (.int .i64 t23010)) (fun _ hk => hk.2) (.slice Ao30 t23011.length co30)) (fun _ h_ => h_.1))) (Kd.R_base ho0) hb); replace BK23001 := aQ (blk_below (g := gb23001) (o := .cells #[.int .i64 a0_0, .slice A0_1 l0_1.length c0_1] 24 (0, 0)) (by (with_reducible repeat (first | refine blk_drewN ?_ _ | refine blk_drew ?_ | refine blk_alloc ?_ _)); refine blk_far ?_ NB23001_23014.out _; (with_reducible repeat (first | refine blk_drewN ?_ _ | refine blk_drew ?_ | refine blk_alloc ?_ _)); refine blk_far ?_ NB23001_23014.out _; (with_reducible repeat (first | refine blk_drewN ?_ _ | refine blk_drew ?_ | refine blk_alloc ?_ _)); exact BK23001.out) hb); replace BK23014 := aQ (blk_below (g := gb23014) (o := .cells #[.int .i64 t23010, .slice Ao30 t23011.length co30] 28 (0, 0)) (by (with_reducible repeat (first | refine blk_drewN ?_ _ | refine blk_drew ?_ | refine blk_alloc ?_ _)); refine blk_put (cs := #[.int .i64 t23010, .slice none 0 0]) ?_ 1 _ rfl; (with_reducible repeat (first | refine blk_drewN ?_ _ | refine blk_drew ?_ | refine blk_alloc ?_ _)); refine blk_put (cs := #[.int .i64 0, .slice none 0 0]) ?_ 0 _ rfl; (with_reducible repeat (first | refine blk_drewN ?_ _ | refine blk_drew ?_ | refine blk_alloc ?_ _)); exact BK23014.out) hb); replace HB := aQ (below_step (by repeat (first | (with_reducible first | exact HB.out | apply below_alloc | apply pw_below_drewN | apply below_drew1 | refine below_set ?_ GE23001.out | refine below_set ?_ GE23014.out) | exact HB.out)) hb); (try clear hb); (try clear hb2); (try clear hk); (try clear hi); (try clear ho0); obtain ⟨Ao32, co32, eo32⟩ := Kd.R_slice HO23017.out; subst eo32; obtain ⟨Ao33, co33, eo33⟩ := Kd.R_slice HO23009.out; subst eo33) | ((with_reducible refine gate_callee (f := 37) rfl ?_); refine goesL_ (some 25) rfl rfl Try.func37 (by kernel_rfl) rfl #[.slice Ao32 t23015.length co32, .slice Ao33 t23007.length co33] rfl (by (try simp only [List.map_toArray, List.map_cons, List.map_nil]); first | done | rfl | (simp only [List.length_drop, List.length_take]; rfl)) ?_; (with_reducible refine (laws_eqIntS.calls k _ _ t23015 _ _ t23007 true _ ?side1 ?side2 ?side3 ?side4 A11.out).mono ?_); (case side1 => repeat (first | exact (Kd.R_reads' HO23017.out).2.2 | (with_reducible refine Kd.C_alloc ?_ _) | (with_reducible refine Kd.C_drewN ?_ _) | (with_reducible refine Kd.C_drew ?_))); (case side2 => exact (Kd.R_reads' HO23017.out).2.1); (case side3 => repeat (first | exact (Kd.R_reads' HO23009.out).2.2 | (with_reducible refine Kd.C_alloc ?_ _) | (with_reducible refine Kd.C_drewN ?_ _) | (with_reducible refine Kd.C_drew ?_))); (case side4 => exact (Kd.R_reads' HO23009.out).2.1); rintro e w' ⟨rfl, ⟨nd, rfl⟩⟩; refine ⟨_, rfl, ?_⟩))
    (try (rw [drewN_self w31]; generalize hq_ : World.drewN w31 _ = w31; have n0_ : Aside0 (Kd.R (Kd.int .i64) 3 w31 w.heap.size (fun k_ => some k_ ≠ (.slice Ao33 t23007.length co33 : Value).ownBlock ∧ some k_ ≠ (.slice Ao30 t23011.length co30 : Value).ownBlock ∧ some k_ ≠ (.slice Ao32 t23015.length co32 : Value).ownBlock) (.slice Ao23 t23004.length co23) t23004) := ⟨by rw [← hq_]; exact (by (with_reducible repeat (first | apply Kd.R_alloc | apply Kd.R_drewN | apply Kd.R_drew)); exact Kd.R_mono HO23006.out (fun _ hk => ⟨hk.1.1.2, ⟨hk.1.2, hk.2⟩⟩))⟩; have n1_ : Aside0 (Kd.R (Kd.int .i64) 3 w31 w.heap.size (fun k_ => some k_ ≠ (.slice Ao23 t23004.length co23 : Value).ownBlock ∧ some k_ ≠ (.slice Ao30 t23011.length co30 : Value).ownBlock ∧ some k_ ≠ (.slice Ao32 t23015.length co32 : Value).ownBlock) (.slice Ao33 t23007.length co33) t23007) := ⟨by rw [← hq_]; exact (by (with_reducible repeat (first | apply Kd.R_alloc | apply Kd.R_drewN | apply Kd.R_drew)); exact Kd.R_mono HO23009.out (fun _ hk => ⟨hk.1.1.2, ⟨hk.1.2, hk.2⟩⟩))⟩; have n2_ : Aside0 (Kd.R (Kd.int .i64) 3 w31 w.heap.size (fun k_ => some k_ ≠ (.slice Ao23 t23004.length co23 : Value).ownBlock ∧ some k_ ≠ (.slice Ao33 t23007.length co33 : Value).ownBlock ∧ some k_ ≠ (.slice Ao32 t23015.length co32 : Value).ownBlock) (.slice Ao30 t23011.length co30) t23011) := ⟨by rw [← hq_]; exact (by (with_reducible repeat (first | apply Kd.R_alloc | apply Kd.R_drewN | apply Kd.R_drew)); exact Kd.R_mono HO23013.out (fun _ hk => ⟨hk.1.1.2, ⟨hk.1.2, hk.2⟩⟩))⟩; have n3_ : Aside0 (Kd.R (Kd.int .i64) 3 w31 w.heap.size (fun k_ => some k_ ≠ (.slice Ao23 t23004.length co23 : Value).ownBlock ∧ some k_ ≠ (.slice Ao33 t23007.length co33 : Value).ownBlock ∧ some k_ ≠ (.slice Ao30 t23011.length co30 : Value).ownBlock) (.slice Ao32 t23015.length co32) t23015) := ⟨by rw [← hq_]; exact (by (with_reducible repeat (first | apply Kd.R_alloc | apply Kd.R_drewN | apply Kd.R_drew)); exact Kd.R_mono HO23017.out (fun _ hk => ⟨hk.1.1.2, ⟨hk.1.2, hk.2⟩⟩))⟩; have n4_ : Aside0 (w31.heap[gb23001]? = some (.cells #[.int .i64 a0_0, .slice A0_1 l0_1.length c0_1] 24 (0, 0))) := ⟨by rw [← hq_]; exact (by (with_reducible repeat (first | refine blk_drewN ?_ _ | refine blk_drew ?_ | refine blk_alloc ?_ _)); exact BK23001.out)⟩; have n5_ : Aside0 (w31.heap[gb23014]? = some (.cells #[.int .i64 t23010, .slice Ao30 t23011.length co30] 28 (0, 0))) := ⟨by rw [← hq_]; exact (by (with_reducible repeat (first | refine blk_drewN ?_ _ | refine blk_drew ?_ | refine blk_alloc ?_ _)); exact BK23014.out)⟩; have n6_ : Aside0 (Below w.heap.size w w31) := ⟨by rw [← hq_]; exact (by repeat (first | (with_reducible first | exact HB.out | apply below_alloc | apply pw_below_drewN | apply below_drew1 | refine below_set ?_ GE23001.out | refine below_set ?_ GE23014.out) | exact HB.out))⟩; clear HO23006 HO23009 HO23013 HO23017 BK23001 BK23014 HB hq_; have HO23006 := n0_; have HO23009 := n1_; have HO23013 := n2_; have HO23017 := n3_; have BK23001 := n4_; have BK23014 := n5_; have HB := n6_; clear n0_ n1_ n2_ n3_ n4_ n5_ n6_))
    have n0_ := aQ (Kd.R_drew HO23006.out)
    have n1_ := aQ (Kd.R_drew HO23009.out)
    have n2_ := aQ (Kd.R_drew HO23013.out)
    have n3_ := aQ (Kd.R_drew HO23017.out)
    have n4_ := aQ (blk_drew BK23001.out)
    have n5_ := aQ (blk_drew BK23014.out)
    have n6_ := aQ (below_drew1 HB.out)
    clear HO23006
    clear HO23009
    clear HO23013
    clear HO23017
    clear BK23001
    clear BK23014
    clear HB
    have HO23006 := n0_
    have HO23009 := n1_
    have HO23013 := n2_
    have HO23017 := n3_
    have BK23001 := n4_
    have BK23014 := n5_
    have HB := n6_
    clear n0_ n1_ n2_ n3_ n4_ n5_ n6_
    refine start_ (n := 5) (S := fun w' => w'.cell? ⟨gb23014, 0, none⟩ = some (.int .i64 t23010) ∧ w'.cell? ⟨gb23014, 1, none⟩ = some (.slice Ao30 t23011.length co30) ∧ w'.cell? ⟨gb23001, 0, none⟩ = some (.int .i64 a0_0) ∧ w'.cell? ⟨gb23001, 1, none⟩ = some (.slice A0_1 l0_1.length c0_1)) (ds := []) #[false, false, false, false, false] (by kernel_rfl) rfl rfl ⟨(blk_cell BK23014.out 0).trans rfl, (blk_cell BK23014.out 1).trans rfl, (blk_cell BK23001.out 0).trans rfl, (blk_cell BK23001.out 1).trans rfl⟩ (fun hHeld => ?_)
    generalize w31.drew = w34 at HO23006 HO23009 HO23013 HO23017 BK23001 BK23014 HB hHeld ⊢
    refine take_ (i := 0) (N := some 27) (v := ?_) (a' := ?_) #[true, false, false, false, false] rfl rfl (by kernel_rfl) (fun _ _ _ h => h) (Or.inl ⟨by rfl, ?_⟩) hHeld ?_ ?_
    rotate_left
    ·rintro w' ⟨s0, s1, s2, s3⟩
     go_simp
     with_reducible rfl
    rotate_left
    ·simp only [Act.put, List.setIfInBounds_toArray, List.set_cons_zero, List.set_cons_succ, i64_w, i32_w]
     rfl
    refine take_ (i := 1) (N := some 28) (v := ?_) (a' := ?_) #[true, true, false, false, false] rfl rfl (by kernel_rfl) (fun _ _ _ h => h) (Or.inl ⟨by rfl, ?_⟩) hHeld ?_ ?_
    rotate_left
    ·rintro w' ⟨s0, s1, s2, s3⟩
     go_simp
     with_reducible rfl
    rotate_left
    ·simp only [Act.put, List.setIfInBounds_toArray, List.set_cons_zero, List.set_cons_succ, i64_w, i32_w]
     rfl
    refine one_ (i := 2) (N := some 29) #[true, true, true, false, false] rfl rfl (by kernel_rfl) (by decide) (fun K hK => ?_)
    refine goes_ Try.func35 (by kernel_rfl) rfl #[.agg #[.int .i64 a0_0, .slice A0_1 l0_1.length c0_1]] (by rfl) rfl rfl (by (try simp only [List.map_toArray, List.map_cons, List.map_nil]); first | done | rfl | (simp only [List.length_drop, List.length_take]; rfl)) ?_
    with_reducible refine (laws_toMatroid.calls k a0_0 _ _ l0_1 t23019 t23020 _ ?side1 ?side2 A13.out).mono ?_
    (case side1 => repeat (first | exact (Kd.C_below HR0_1.out HB.out) | (with_reducible refine Kd.C_alloc ?_ _) | (with_reducible refine Kd.C_drewN ?_ _) | (with_reducible refine Kd.C_drew ?_)))
    (case side2 => exact HC0_1.out)
    rintro e w35 ⟨v23021, rfl, ho0, hb⟩
    refine ⟨_, rfl, ?_⟩
    have n0_ := aQ (Kd.R_elder' (by (with_reducible repeat (first | apply Kd.R_alloc | apply Kd.R_drewN | apply Kd.R_drew)); exact HO23006.out) (Kd.R_base ho0) hb)
    have n1_ := aQ (Kd.R_elder' (by (with_reducible repeat (first | apply Kd.R_alloc | apply Kd.R_drewN | apply Kd.R_drew)); exact HO23009.out) (Kd.R_base ho0) hb)
    have n2_ := aQ (Kd.R_elder' (by (with_reducible repeat (first | apply Kd.R_alloc | apply Kd.R_drewN | apply Kd.R_drew)); exact HO23013.out) (Kd.R_base ho0) hb)
    have n3_ := aQ (Kd.R_elder' (by (with_reducible repeat (first | apply Kd.R_alloc | apply Kd.R_drewN | apply Kd.R_drew)); exact HO23017.out) (Kd.R_base ho0) hb)
    have n4_ := aQ (Kd.R_lower (Kd.R_new' (Kd.R_new' (Kd.R_new' (Kd.R_new' ho0 (Kd.R_lt (by (with_reducible repeat (first | apply Kd.R_alloc | apply Kd.R_drewN | apply Kd.R_drew)); exact HO23006.out))) (Kd.R_lt (by (with_reducible repeat (first | apply Kd.R_alloc | apply Kd.R_drewN | apply Kd.R_drew)); exact HO23009.out))) (Kd.R_lt (by (with_reducible repeat (first | apply Kd.R_alloc | apply Kd.R_drewN | apply Kd.R_drew)); exact HO23013.out))) (Kd.R_lt (by (with_reducible repeat (first | apply Kd.R_alloc | apply Kd.R_drewN | apply Kd.R_drew)); exact HO23017.out))) (below_size (by repeat (first | (with_reducible first | exact HB.out | apply below_alloc | apply pw_below_drewN | apply below_drew1 | refine below_set ?_ GE23001.out | refine below_set ?_ GE23014.out) | exact HB.out))))
    have n5_ := aQ (blk_below (g := gb23001) (o := .cells #[.int .i64 a0_0, .slice A0_1 l0_1.length c0_1] 24 (0, 0)) (by (with_reducible repeat (first | refine blk_drewN ?_ _ | refine blk_drew ?_ | refine blk_alloc ?_ _)); exact BK23001.out) hb)
    have n6_ := aQ (blk_below (g := gb23014) (o := .cells #[.int .i64 t23010, .slice Ao30 t23011.length co30] 28 (0, 0)) (by (with_reducible repeat (first | refine blk_drewN ?_ _ | refine blk_drew ?_ | refine blk_alloc ?_ _)); exact BK23014.out) hb)
    have n7_ := aQ (below_step (by repeat (first | (with_reducible first | exact HB.out | apply below_alloc | apply pw_below_drewN | apply below_drew1 | refine below_set ?_ GE23001.out | refine below_set ?_ GE23014.out) | exact HB.out)) hb)
    clear HO23006
    clear HO23009
    clear HO23013
    clear HO23017
    clear BK23001
    clear BK23014
    clear HB
    have HO23006 := n0_
    have HO23009 := n1_
    have HO23013 := n2_
    have HO23017 := n3_
    have HO23022 := n4_
    have BK23001 := n5_
    have BK23014 := n6_
    have HB := n7_
    clear n0_ n1_ n2_ n3_ n4_ n5_ n6_ n7_
    (try clear hb)
    (try clear hb2)
    (try clear hk)
    (try clear hi)
    (try clear ho0)
    obtain ⟨Ao36, co36, eo36⟩ := Kd.R_slice HO23022.out
    (first | subst eo36 | (injection eo36 with f1_ f2_ f3_; have f4_ := f1_.symm; have f5_ := f3_.symm; clear f1_ f2_ f3_; subst f4_; subst f5_))
    refine hK.out _ _ ⟨(blk_cell BK23014.out 0).trans rfl, (blk_cell BK23014.out 1).trans rfl, (blk_cell BK23001.out 0).trans rfl, (blk_cell BK23001.out 1).trans rfl⟩ (fun hHeld => ?_)
    clear hK K
    refine norm_ (a' := ?_) ?_ ?_
    rotate_left
    ·show Act.put _ (some 29) _ = _
     simp only [Act.put, List.setIfInBounds_toArray, List.set_cons_zero, List.set_cons_succ, i64_w, i32_w]
     rfl
    refine one_ (i := 3) (N := some 30) #[true, true, true, true, false] rfl rfl (by kernel_rfl) (by decide) (fun K hK => ?_)
    refine goes_ Try.func38 (by kernel_rfl) rfl #[.agg #[.int .i64 t23010, .slice Ao30 t23011.length co30], .agg #[.int .i64 t23019, .slice Ao36 t23020.length co36]] (by rfl) rfl rfl (by (try simp only [List.map_toArray, List.map_cons, List.map_nil]); first | done | rfl | (simp only [List.length_drop, List.length_take]; rfl)) ?_
    with_reducible refine (laws_eqMatroid.calls k t23010 _ _ t23011 t23019 _ _ t23020 true _ ?side1 ?side2 ?side3 ?side4 A14.out).mono ?_
    (case side1 => repeat (first | exact (Kd.R_reads' HO23013.out).2.2 | (with_reducible refine Kd.C_alloc ?_ _) | (with_reducible refine Kd.C_drewN ?_ _) | (with_reducible refine Kd.C_drew ?_)))
    (case side2 => exact (Kd.R_reads' HO23013.out).2.1)
    (case side3 => repeat (first | exact (Kd.R_reads' HO23022.out).2.2 | (with_reducible refine Kd.C_alloc ?_ _) | (with_reducible refine Kd.C_drewN ?_ _) | (with_reducible refine Kd.C_drew ?_)))
    (case side4 => exact (Kd.R_reads' HO23022.out).2.1)
    rintro e w37 ⟨rfl, hb⟩
    refine ⟨_, rfl, ?_⟩
    have n0_ := aQ (Kd.R_below (by (with_reducible repeat (first | apply Kd.R_alloc | apply Kd.R_drewN | apply Kd.R_drew)); exact HO23006.out) hb)
    have n1_ := aQ (Kd.R_below (by (with_reducible repeat (first | apply Kd.R_alloc | apply Kd.R_drewN | apply Kd.R_drew)); exact HO23009.out) hb)
    have n2_ := aQ (Kd.R_below (by (with_reducible repeat (first | apply Kd.R_alloc | apply Kd.R_drewN | apply Kd.R_drew)); exact HO23013.out) hb)
    have n3_ := aQ (Kd.R_below (by (with_reducible repeat (first | apply Kd.R_alloc | apply Kd.R_drewN | apply Kd.R_drew)); exact HO23017.out) hb)
    have n4_ := aQ (Kd.R_below (by (with_reducible repeat (first | apply Kd.R_alloc | apply Kd.R_drewN | apply Kd.R_drew)); exact HO23022.out) hb)
    have n5_ := aQ (blk_below (g := gb23001) (o := .cells #[.int .i64 a0_0, .slice A0_1 l0_1.length c0_1] 24 (0, 0)) (by (with_reducible repeat (first | refine blk_drewN ?_ _ | refine blk_drew ?_ | refine blk_alloc ?_ _)); exact BK23001.out) hb)
    have n6_ := aQ (blk_below (g := gb23014) (o := .cells #[.int .i64 t23010, .slice Ao30 t23011.length co30] 28 (0, 0)) (by (with_reducible repeat (first | refine blk_drewN ?_ _ | refine blk_drew ?_ | refine blk_alloc ?_ _)); exact BK23014.out) hb)
    have n7_ := aQ (below_step (by repeat (first | (with_reducible first | exact HB.out | apply below_alloc | apply pw_below_drewN | apply below_drew1 | refine below_set ?_ GE23001.out | refine below_set ?_ GE23014.out) | exact HB.out)) hb)
    clear HO23006
    clear HO23009
    clear HO23013
    clear HO23017
    clear HO23022
    clear BK23001
    clear BK23014
    clear HB
    have HO23006 := n0_
    have HO23009 := n1_
    have HO23013 := n2_
    have HO23017 := n3_
    have HO23022 := n4_
    have BK23001 := n5_
    have BK23014 := n6_
    have HB := n7_
    clear n0_ n1_ n2_ n3_ n4_ n5_ n6_ n7_
    (try clear hb)
    (try clear hb2)
    (try clear hk)
    (try clear hi)
    refine hK.out _ _ ⟨(blk_cell BK23014.out 0).trans rfl, (blk_cell BK23014.out 1).trans rfl, (blk_cell BK23001.out 0).trans rfl, (blk_cell BK23001.out 1).trans rfl⟩ (fun hHeld => ?_)
    clear hK K
    refine norm_ (a' := ?_) ?_ ?_
    rotate_left
    ·show Act.put _ (some 30) _ = _
     simp only [Act.put, List.setIfInBounds_toArray, List.set_cons_zero, List.set_cons_succ, i64_w, i32_w]
     rfl
    refine pure_ (i := 4) (N := some 31) (v := ?_) (a' := ?_) #[true, true, true, true, true] rfl rfl (by kernel_rfl) (fun _ _ _ h => h) (Or.inl ⟨by rfl, ?_⟩) ?_ ?_
    rotate_left
    ·intro w'
     go_simp
     with_reducible rfl
    rotate_left
    ·simp only [Act.put, List.setIfInBounds_toArray, List.set_cons_zero, List.set_cons_succ, i64_w, i32_w]
     rfl
    refine done_ (by kernel_rfl) ?_
    have hcz38_0 : w37.cell? ⟨gb23014, 0, none⟩ = some (.int .i64 t23010) := (blk_cell BK23014.out 0).trans rfl
    have hcz38_1 : w37.cell? ⟨gb23014, 1, none⟩ = some (.slice Ao30 t23011.length co30) := (blk_cell BK23014.out 1).trans rfl
    have hfz38_0 := blk_frozen BK23014.out 0
    have hfz38_1 := blk_frozen BK23014.out 1
    go_upto_region 14 with (first | ((with_reducible refine gate_callee (f := 39) rfl ?_); refine goesL_ (some 34) rfl rfl Try.func39 (by kernel_rfl) rfl #[.agg #[.int .i64 t23010, .slice Ao30 t23011.length co30], .int .i64 1] rfl (by (try simp only [List.map_toArray, List.map_cons, List.map_nil]); first | done | rfl | (simp only [List.length_drop, List.length_take]; rfl)) ?_; (with_reducible refine (laws_markMatroid.calls k t23010 (fun k_ => some k_ = (.slice Ao30 t23011.length co30 : Value).ownBlock) (.slice Ao30 t23011.length co30) t23011 1 t23024 t23025 w _ ?side1 ?side2 A16.out).mono ?_); (case side1 => repeat (first | (with_reducible first | exact HB.out | apply below_alloc | apply pw_below_drewN | apply below_drew1 | refine below_set ?_ GE23001.out | refine below_set ?_ GE23014.out) | exact HB.out)); (case side2 => exact Kd.R_tight rfl HO23013.out); rintro e w39 ⟨rfl, hy0, hb, hkp⟩; refine ⟨_, rfl, ?_⟩; replace BK23001 := aQ (blk_kept (by (with_reducible repeat (first | refine blk_drewN ?_ _ | refine blk_drew ?_ | refine blk_alloc ?_ _)); exact BK23001.out) hkp (fun hs_ => (fun e_ => (Kd.R_ne HO23013.out BK23001.out (by decide)) e_) hs_)); replace HO23006 := aQ (Kd.R_mono (ok' := fun k_ => some k_ ≠ (.slice Ao33 t23007.length co33 : Value).ownBlock ∧ some k_ ≠ (.slice Ao30 t23011.length co30 : Value).ownBlock ∧ some k_ ≠ (.slice Ao32 t23015.length co32 : Value).ownBlock ∧ some k_ ≠ (.slice Ao36 t23020.length co36 : Value).ownBlock) (Kd.R_keptB (HO23006.out) hkp (fun k_ hk_ hs_ => by first | exact (hk_.1.1.2) hs_ | (with_reducible first | exact absurd hs_ hk_.1 | exact absurd hs_ hk_.2 | exact absurd hs_ hk_.1.1 | exact absurd hs_ hk_.1.2 | exact absurd hs_ hk_.2.1 | exact absurd hs_ hk_.2.2 | exact absurd hs_ hk_.1.1.1 | exact absurd hs_ hk_.1.1.2 | exact absurd hs_ hk_.1.2.1 | exact absurd hs_ hk_.1.2.2 | exact absurd hs_ hk_.2.1.1 | exact absurd hs_ hk_.2.1.2 | exact absurd hs_ hk_.2.2.1 | exact absurd hs_ hk_.2.2.2 | exact absurd hs_ hk_.1.1.1.1 | exact absurd hs_ hk_.1.1.1.2 | exact absurd hs_ hk_.1.1.2.1 | exact absurd hs_ hk_.1.1.2.2 | exact absurd hs_ hk_.1.2.1.1 | exact absurd hs_ hk_.1.2.1.2 | exact absurd hs_ hk_.1.2.2.1 | exact absurd hs_ hk_.1.2.2.2 | exact absurd hs_ hk_.2.1.1.1 | exact absurd hs_ hk_.2.1.1.2 | exact absurd hs_ hk_.2.1.2.1 | exact absurd hs_ hk_.2.1.2.2 | exact absurd hs_ hk_.2.2.1.1 | exact absurd hs_ hk_.2.2.1.2 | exact absurd hs_ hk_.2.2.2.1 | exact absurd hs_ hk_.2.2.2.2))) (fun k_ hk_ => by first | exact ⟨hk_.1.1.1.1.2, hk_.1.1.1.2, hk_.1.1.2, hk_.1.2⟩ | (refine ⟨?_, ?_, ?_, ?_⟩ <;> with_reducible first | exact hk_.1 | exact hk_.2 | exact hk_.1.1 | exact hk_.1.2 | exact hk_.2.1 | exact hk_.2.2 | exact hk_.1.1.1 | exact hk_.1.1.2 | exact hk_.1.2.1 | exact hk_.1.2.2 | exact hk_.2.1.1 | exact hk_.2.1.2 | exact hk_.2.2.1 | exact hk_.2.2.2 | exact hk_.1.1.1.1 | exact hk_.1.1.1.2 | exact hk_.1.1.2.1 | exact hk_.1.1.2.2 | exact hk_.1.2.1.1 | exact hk_.1.2.1.2 | exact hk_.1.2.2.1 | exact hk_.1.2.2.2 | exact hk_.2.1.1.1 | exact hk_.2.1.1.2 | exact hk_.2.1.2.1 | exact hk_.2.1.2.2 | exact hk_.2.2.1.1 | exact hk_.2.2.1.2 | exact hk_.2.2.2.1 | exact hk_.2.2.2.2))); replace HO23009 := aQ (Kd.R_mono (ok' := fun k_ => some k_ ≠ (.slice Ao23 t23004.length co23 : Value).ownBlock ∧ some k_ ≠ (.slice Ao30 t23011.length co30 : Value).ownBlock ∧ some k_ ≠ (.slice Ao32 t23015.length co32 : Value).ownBlock ∧ some k_ ≠ (.slice Ao36 t23020.length co36 : Value).ownBlock) (Kd.R_keptB (HO23009.out) hkp (fun k_ hk_ hs_ => by first | exact (hk_.1.1.2) hs_ | (with_reducible first | exact absurd hs_ hk_.1 | exact absurd hs_ hk_.2 | exact absurd hs_ hk_.1.1 | exact absurd hs_ hk_.1.2 | exact absurd hs_ hk_.2.1 | exact absurd hs_ hk_.2.2 | exact absurd hs_ hk_.1.1.1 | exact absurd hs_ hk_.1.1.2 | exact absurd hs_ hk_.1.2.1 | exact absurd hs_ hk_.1.2.2 | exact absurd hs_ hk_.2.1.1 | exact absurd hs_ hk_.2.1.2 | exact absurd hs_ hk_.2.2.1 | exact absurd hs_ hk_.2.2.2 | exact absurd hs_ hk_.1.1.1.1 | exact absurd hs_ hk_.1.1.1.2 | exact absurd hs_ hk_.1.1.2.1 | exact absurd hs_ hk_.1.1.2.2 | exact absurd hs_ hk_.1.2.1.1 | exact absurd hs_ hk_.1.2.1.2 | exact absurd hs_ hk_.1.2.2.1 | exact absurd hs_ hk_.1.2.2.2 | exact absurd hs_ hk_.2.1.1.1 | exact absurd hs_ hk_.2.1.1.2 | exact absurd hs_ hk_.2.1.2.1 | exact absurd hs_ hk_.2.1.2.2 | exact absurd hs_ hk_.2.2.1.1 | exact absurd hs_ hk_.2.2.1.2 | exact absurd hs_ hk_.2.2.2.1 | exact absurd hs_ hk_.2.2.2.2))) (fun k_ hk_ => by first | exact ⟨hk_.1.1.1.1.2, hk_.1.1.1.2, hk_.1.1.2, hk_.1.2⟩ | (refine ⟨?_, ?_, ?_, ?_⟩ <;> with_reducible first | exact hk_.1 | exact hk_.2 | exact hk_.1.1 | exact hk_.1.2 | exact hk_.2.1 | exact hk_.2.2 | exact hk_.1.1.1 | exact hk_.1.1.2 | exact hk_.1.2.1 | exact hk_.1.2.2 | exact hk_.2.1.1 | exact hk_.2.1.2 | exact hk_.2.2.1 | exact hk_.2.2.2 | exact hk_.1.1.1.1 | exact hk_.1.1.1.2 | exact hk_.1.1.2.1 | exact hk_.1.1.2.2 | exact hk_.1.2.1.1 | exact hk_.1.2.1.2 | exact hk_.1.2.2.1 | exact hk_.1.2.2.2 | exact hk_.2.1.1.1 | exact hk_.2.1.1.2 | exact hk_.2.1.2.1 | exact hk_.2.1.2.2 | exact hk_.2.2.1.1 | exact hk_.2.2.1.2 | exact hk_.2.2.2.1 | exact hk_.2.2.2.2))); replace BK23014 := aQ (blk_kept (by (with_reducible repeat (first | refine blk_drewN ?_ _ | refine blk_drew ?_ | refine blk_alloc ?_ _)); exact BK23014.out) hkp (fun hs_ => (fun e_ => (Kd.R_ne HO23013.out BK23014.out (by decide)) e_) hs_)); replace HO23013 := aQ (Kd.R_reok rfl hy0 (fun k_ e_ => HO23013.out.1 k_ e_)); replace HO23017 := aQ (Kd.R_mono (ok' := fun k_ => some k_ ≠ (.slice Ao23 t23004.length co23 : Value).ownBlock ∧ some k_ ≠ (.slice Ao33 t23007.length co33 : Value).ownBlock ∧ some k_ ≠ (.slice Ao30 t23011.length co30 : Value).ownBlock ∧ some k_ ≠ (.slice Ao36 t23020.length co36 : Value).ownBlock) (Kd.R_keptB (HO23017.out) hkp (fun k_ hk_ hs_ => by first | exact (hk_.1.2) hs_ | (with_reducible first | exact absurd hs_ hk_.1 | exact absurd hs_ hk_.2 | exact absurd hs_ hk_.1.1 | exact absurd hs_ hk_.1.2 | exact absurd hs_ hk_.2.1 | exact absurd hs_ hk_.2.2 | exact absurd hs_ hk_.1.1.1 | exact absurd hs_ hk_.1.1.2 | exact absurd hs_ hk_.1.2.1 | exact absurd hs_ hk_.1.2.2 | exact absurd hs_ hk_.2.1.1 | exact absurd hs_ hk_.2.1.2 | exact absurd hs_ hk_.2.2.1 | exact absurd hs_ hk_.2.2.2 | exact absurd hs_ hk_.1.1.1.1 | exact absurd hs_ hk_.1.1.1.2 | exact absurd hs_ hk_.1.1.2.1 | exact absurd hs_ hk_.1.1.2.2 | exact absurd hs_ hk_.1.2.1.1 | exact absurd hs_ hk_.1.2.1.2 | exact absurd hs_ hk_.1.2.2.1 | exact absurd hs_ hk_.1.2.2.2 | exact absurd hs_ hk_.2.1.1.1 | exact absurd hs_ hk_.2.1.1.2 | exact absurd hs_ hk_.2.1.2.1 | exact absurd hs_ hk_.2.1.2.2 | exact absurd hs_ hk_.2.2.1.1 | exact absurd hs_ hk_.2.2.1.2 | exact absurd hs_ hk_.2.2.2.1 | exact absurd hs_ hk_.2.2.2.2))) (fun k_ hk_ => by first | exact ⟨hk_.1.1.1.1.2, hk_.1.1.1.2, hk_.1.1.2, hk_.1.2⟩ | (refine ⟨?_, ?_, ?_, ?_⟩ <;> with_reducible first | exact hk_.1 | exact hk_.2 | exact hk_.1.1 | exact hk_.1.2 | exact hk_.2.1 | exact hk_.2.2 | exact hk_.1.1.1 | exact hk_.1.1.2 | exact hk_.1.2.1 | exact hk_.1.2.2 | exact hk_.2.1.1 | exact hk_.2.1.2 | exact hk_.2.2.1 | exact hk_.2.2.2 | exact hk_.1.1.1.1 | exact hk_.1.1.1.2 | exact hk_.1.1.2.1 | exact hk_.1.1.2.2 | exact hk_.1.2.1.1 | exact hk_.1.2.1.2 | exact hk_.1.2.2.1 | exact hk_.1.2.2.2 | exact hk_.2.1.1.1 | exact hk_.2.1.1.2 | exact hk_.2.1.2.1 | exact hk_.2.1.2.2 | exact hk_.2.2.1.1 | exact hk_.2.2.1.2 | exact hk_.2.2.2.1 | exact hk_.2.2.2.2))); replace HO23022 := aQ (Kd.R_mono (ok' := fun k_ => some k_ ≠ (.slice Ao23 t23004.length co23 : Value).ownBlock ∧ some k_ ≠ (.slice Ao33 t23007.length co33 : Value).ownBlock ∧ some k_ ≠ (.slice Ao30 t23011.length co30 : Value).ownBlock ∧ some k_ ≠ (.slice Ao32 t23015.length co32 : Value).ownBlock) (Kd.R_keptB (HO23022.out) hkp (fun k_ hk_ hs_ => by first | exact (hk_.1.2) hs_ | (with_reducible first | exact absurd hs_ hk_.1 | exact absurd hs_ hk_.2 | exact absurd hs_ hk_.1.1 | exact absurd hs_ hk_.1.2 | exact absurd hs_ hk_.2.1 | exact absurd hs_ hk_.2.2 | exact absurd hs_ hk_.1.1.1 | exact absurd hs_ hk_.1.1.2 | exact absurd hs_ hk_.1.2.1 | exact absurd hs_ hk_.1.2.2 | exact absurd hs_ hk_.2.1.1 | exact absurd hs_ hk_.2.1.2 | exact absurd hs_ hk_.2.2.1 | exact absurd hs_ hk_.2.2.2 | exact absurd hs_ hk_.1.1.1.1 | exact absurd hs_ hk_.1.1.1.2 | exact absurd hs_ hk_.1.1.2.1 | exact absurd hs_ hk_.1.1.2.2 | exact absurd hs_ hk_.1.2.1.1 | exact absurd hs_ hk_.1.2.1.2 | exact absurd hs_ hk_.1.2.2.1 | exact absurd hs_ hk_.1.2.2.2 | exact absurd hs_ hk_.2.1.1.1 | exact absurd hs_ hk_.2.1.1.2 | exact absurd hs_ hk_.2.1.2.1 | exact absurd hs_ hk_.2.1.2.2 | exact absurd hs_ hk_.2.2.1.1 | exact absurd hs_ hk_.2.2.1.2 | exact absurd hs_ hk_.2.2.2.1 | exact absurd hs_ hk_.2.2.2.2))) (fun k_ hk_ => by first | exact ⟨hk_.1.1.1.1.2, hk_.1.1.1.2, hk_.1.1.2, hk_.1.2⟩ | (refine ⟨?_, ?_, ?_, ?_⟩ <;> with_reducible first | exact hk_.1 | exact hk_.2 | exact hk_.1.1 | exact hk_.1.2 | exact hk_.2.1 | exact hk_.2.2 | exact hk_.1.1.1 | exact hk_.1.1.2 | exact hk_.1.2.1 | exact hk_.1.2.2 | exact hk_.2.1.1 | exact hk_.2.1.2 | exact hk_.2.2.1 | exact hk_.2.2.2 | exact hk_.1.1.1.1 | exact hk_.1.1.1.2 | exact hk_.1.1.2.1 | exact hk_.1.1.2.2 | exact hk_.1.2.1.1 | exact hk_.1.2.1.2 | exact hk_.1.2.2.1 | exact hk_.1.2.2.2 | exact hk_.2.1.1.1 | exact hk_.2.1.1.2 | exact hk_.2.1.2.1 | exact hk_.2.1.2.2 | exact hk_.2.2.1.1 | exact hk_.2.2.1.2 | exact hk_.2.2.2.1 | exact hk_.2.2.2.2))); replace HB := aQ (hb); (try clear hb); (try clear hkp); (try clear hy0)))
    (try simp only [Act.put, List.setIfInBounds_toArray, List.set_cons_zero, List.set_cons_succ])
    go_cut [42] (fun v42 wc => ∃ (kq : Nat) (x42_16 : Bool), v42 = .bool x42_16 ∧ Aside0 (laws_FnExactSignatureOf.j0 kq t23007 t23015 x42_16 a0_0 l0_1 = some true) ∧ Aside0 (kq ≤ k) ∧ Aside0 (Kd.R (Kd.int .i64) 3 wc w.heap.size (fun k_ => some k_ ≠ ((.slice Ao32 t23015.length co32) : Value).ownBlock ∧ some k_ ≠ ((.slice Ao30 t23011.length co30) : Value).ownBlock) (.slice Ao33 t23007.length co33) t23007) ∧ Aside0 (Kd.R (Kd.int .i64) 3 wc w.heap.size (fun k_ => some k_ ≠ ((.slice Ao33 t23007.length co33) : Value).ownBlock ∧ some k_ ≠ ((.slice Ao30 t23011.length co30) : Value).ownBlock) (.slice Ao32 t23015.length co32) t23015) ∧ Aside0 (Kd.R (Kd.int .i64) 3 wc w.heap.size (fun k_ => some k_ ≠ ((.slice Ao33 t23007.length co33) : Value).ownBlock ∧ some k_ ≠ ((.slice Ao32 t23015.length co32) : Value).ownBlock) (.slice Ao30 t23011.length co30) t23025) ∧ Aside0 (wc.heap[gb23001]? = some (.cells #[.int .i64 a0_0, (.slice A0_1 l0_1.length c0_1)] 24 (0, 0))) ∧ Aside0 (wc.heap[gb23014]? = some (.cells #[.int .i64 t23010, (.slice Ao30 t23011.length co30)] 28 (0, 0))) ∧ Aside0 (Below w.heap.size w wc))
    case first =>
     have H := HC17.out
     clear HC17
     by_cases c40 : t23024 < 0
     ·rw [if_pos c40] at H
      have c40b0 : decide (t23024 < 0) = true := decide_eq_true c40
      clear c40
      (first | rw [c40b0] | (simp only [i64_w, i32_w]; rw [c40b0]) | skip)
      have H' := aQ H
      clear H
      go_wp2
      go_meet
      case rel => exact ⟨_, (true), (by first | rfl | (simp; done) | (simp [*]; done)), H', ⟨by first | omega | exact Nat.le_refl _⟩, ⟨by (with_reducible repeat (first | apply Kd.R_alloc | apply Kd.R_drewN | apply Kd.R_drew)); exact Kd.R_mono HO23009.out (fun _ hk => by first | exact ⟨hk.2.2.1, hk.2.1⟩ | (refine ⟨?_, ?_⟩ <;> with_reducible first | exact hk.1 | exact hk.2 | exact hk.1.1 | exact hk.1.2 | exact hk.2.1 | exact hk.2.2 | exact hk.1.1.1 | exact hk.1.1.2 | exact hk.1.2.1 | exact hk.1.2.2 | exact hk.2.1.1 | exact hk.2.1.2 | exact hk.2.2.1 | exact hk.2.2.2 | exact hk.1.1.1.1 | exact hk.1.1.1.2 | exact hk.1.1.2.1 | exact hk.1.1.2.2 | exact hk.1.2.1.1 | exact hk.1.2.1.2 | exact hk.1.2.2.1 | exact hk.1.2.2.2 | exact hk.2.1.1.1 | exact hk.2.1.1.2 | exact hk.2.1.2.1 | exact hk.2.1.2.2 | exact hk.2.2.1.1 | exact hk.2.2.1.2 | exact hk.2.2.2.1 | exact hk.2.2.2.2))⟩, ⟨by (with_reducible repeat (first | apply Kd.R_alloc | apply Kd.R_drewN | apply Kd.R_drew)); exact Kd.R_mono HO23017.out (fun _ hk => by first | exact ⟨hk.2.1, hk.2.2.1⟩ | (refine ⟨?_, ?_⟩ <;> with_reducible first | exact hk.1 | exact hk.2 | exact hk.1.1 | exact hk.1.2 | exact hk.2.1 | exact hk.2.2 | exact hk.1.1.1 | exact hk.1.1.2 | exact hk.1.2.1 | exact hk.1.2.2 | exact hk.2.1.1 | exact hk.2.1.2 | exact hk.2.2.1 | exact hk.2.2.2 | exact hk.1.1.1.1 | exact hk.1.1.1.2 | exact hk.1.1.2.1 | exact hk.1.1.2.2 | exact hk.1.2.1.1 | exact hk.1.2.1.2 | exact hk.1.2.2.1 | exact hk.1.2.2.2 | exact hk.2.1.1.1 | exact hk.2.1.1.2 | exact hk.2.1.2.1 | exact hk.2.1.2.2 | exact hk.2.2.1.1 | exact hk.2.2.1.2 | exact hk.2.2.2.1 | exact hk.2.2.2.2))⟩, ⟨by (with_reducible repeat (first | apply Kd.R_alloc | apply Kd.R_drewN | apply Kd.R_drew)); exact Kd.R_mono HO23013.out (fun _ hk => by first | exact ⟨hk.1.1.2, hk.1.2⟩ | (refine ⟨?_, ?_⟩ <;> with_reducible first | exact hk.1 | exact hk.2 | exact hk.1.1 | exact hk.1.2 | exact hk.2.1 | exact hk.2.2 | exact hk.1.1.1 | exact hk.1.1.2 | exact hk.1.2.1 | exact hk.1.2.2 | exact hk.2.1.1 | exact hk.2.1.2 | exact hk.2.2.1 | exact hk.2.2.2 | exact hk.1.1.1.1 | exact hk.1.1.1.2 | exact hk.1.1.2.1 | exact hk.1.1.2.2 | exact hk.1.2.1.1 | exact hk.1.2.1.2 | exact hk.1.2.2.1 | exact hk.1.2.2.2 | exact hk.2.1.1.1 | exact hk.2.1.1.2 | exact hk.2.1.2.1 | exact hk.2.1.2.2 | exact hk.2.2.1.1 | exact hk.2.2.1.2 | exact hk.2.2.2.1 | exact hk.2.2.2.2))⟩, ⟨by (with_reducible repeat (first | refine blk_drewN ?_ _ | refine blk_drew ?_ | refine blk_alloc ?_ _)); exact BK23001.out⟩, ⟨by (with_reducible repeat (first | refine blk_drewN ?_ _ | refine blk_drew ?_ | refine blk_alloc ?_ _)); exact BK23014.out⟩, ⟨by repeat (first | (with_reducible first | exact HB.out | apply below_alloc | apply pw_below_drewN | apply below_drew1 | refine below_set ?_ GE23001.out | refine below_set ?_ GE23014.out) | exact HB.out)⟩⟩
     ·rw [if_neg c40] at H
      have c40b0 : decide (t23024 < 0) = false := decide_eq_false c40
      clear c40
      (first | rw [c40b0] | (simp only [i64_w, i32_w]; rw [c40b0]) | skip)
      replace H := Option.bind_eq_some_iff.mp H
      obtain ⟨t23026, A410, H⟩ := H
      replace H : (laws_FnExactSignatureOf.j0 k t23007 t23015 (!t23026) a0_0 l0_1) = some true := H
      have A41 := aQ A410
      clear A410
      have H' := aQ H
      clear H
      go_wp2_with (first | (go_at_call 37; (with_reducible refine (laws_eqIntS.calls k _ _ t23015 _ _ t23007 t23026 _ ?side1 ?side2 ?side3 ?side4 A41.out).mono ?_); (case side1 => repeat (first | exact (Kd.R_reads' HO23017.out).2.2 | (with_reducible refine Kd.C_alloc ?_ _) | (with_reducible refine Kd.C_drewN ?_ _) | (with_reducible refine Kd.C_drew ?_))); (case side2 => exact (Kd.R_reads' HO23017.out).2.1); (case side3 => repeat (first | exact (Kd.R_reads' HO23009.out).2.2 | (with_reducible refine Kd.C_alloc ?_ _) | (with_reducible refine Kd.C_drewN ?_ _) | (with_reducible refine Kd.C_drew ?_))); (case side4 => exact (Kd.R_reads' HO23009.out).2.1); rintro e w' ⟨rfl, ⟨nd, rfl⟩⟩))
      go_meet
      case rel => exact ⟨_, (!t23026), (by first | rfl | (simp; done) | (simp [*]; done)), H', ⟨by first | omega | exact Nat.le_refl _⟩, ⟨by (with_reducible repeat (first | apply Kd.R_alloc | apply Kd.R_drewN | apply Kd.R_drew)); exact Kd.R_mono HO23009.out (fun _ hk => by first | exact ⟨hk.2.2.1, hk.2.1⟩ | (refine ⟨?_, ?_⟩ <;> with_reducible first | exact hk.1 | exact hk.2 | exact hk.1.1 | exact hk.1.2 | exact hk.2.1 | exact hk.2.2 | exact hk.1.1.1 | exact hk.1.1.2 | exact hk.1.2.1 | exact hk.1.2.2 | exact hk.2.1.1 | exact hk.2.1.2 | exact hk.2.2.1 | exact hk.2.2.2 | exact hk.1.1.1.1 | exact hk.1.1.1.2 | exact hk.1.1.2.1 | exact hk.1.1.2.2 | exact hk.1.2.1.1 | exact hk.1.2.1.2 | exact hk.1.2.2.1 | exact hk.1.2.2.2 | exact hk.2.1.1.1 | exact hk.2.1.1.2 | exact hk.2.1.2.1 | exact hk.2.1.2.2 | exact hk.2.2.1.1 | exact hk.2.2.1.2 | exact hk.2.2.2.1 | exact hk.2.2.2.2))⟩, ⟨by (with_reducible repeat (first | apply Kd.R_alloc | apply Kd.R_drewN | apply Kd.R_drew)); exact Kd.R_mono HO23017.out (fun _ hk => by first | exact ⟨hk.2.1, hk.2.2.1⟩ | (refine ⟨?_, ?_⟩ <;> with_reducible first | exact hk.1 | exact hk.2 | exact hk.1.1 | exact hk.1.2 | exact hk.2.1 | exact hk.2.2 | exact hk.1.1.1 | exact hk.1.1.2 | exact hk.1.2.1 | exact hk.1.2.2 | exact hk.2.1.1 | exact hk.2.1.2 | exact hk.2.2.1 | exact hk.2.2.2 | exact hk.1.1.1.1 | exact hk.1.1.1.2 | exact hk.1.1.2.1 | exact hk.1.1.2.2 | exact hk.1.2.1.1 | exact hk.1.2.1.2 | exact hk.1.2.2.1 | exact hk.1.2.2.2 | exact hk.2.1.1.1 | exact hk.2.1.1.2 | exact hk.2.1.2.1 | exact hk.2.1.2.2 | exact hk.2.2.1.1 | exact hk.2.2.1.2 | exact hk.2.2.2.1 | exact hk.2.2.2.2))⟩, ⟨by (with_reducible repeat (first | apply Kd.R_alloc | apply Kd.R_drewN | apply Kd.R_drew)); exact Kd.R_mono HO23013.out (fun _ hk => by first | exact ⟨hk.1.1.2, hk.1.2⟩ | (refine ⟨?_, ?_⟩ <;> with_reducible first | exact hk.1 | exact hk.2 | exact hk.1.1 | exact hk.1.2 | exact hk.2.1 | exact hk.2.2 | exact hk.1.1.1 | exact hk.1.1.2 | exact hk.1.2.1 | exact hk.1.2.2 | exact hk.2.1.1 | exact hk.2.1.2 | exact hk.2.2.1 | exact hk.2.2.2 | exact hk.1.1.1.1 | exact hk.1.1.1.2 | exact hk.1.1.2.1 | exact hk.1.1.2.2 | exact hk.1.2.1.1 | exact hk.1.2.1.2 | exact hk.1.2.2.1 | exact hk.1.2.2.2 | exact hk.2.1.1.1 | exact hk.2.1.1.2 | exact hk.2.1.2.1 | exact hk.2.1.2.2 | exact hk.2.2.1.1 | exact hk.2.2.1.2 | exact hk.2.2.2.1 | exact hk.2.2.2.2))⟩, ⟨by (with_reducible repeat (first | refine blk_drewN ?_ _ | refine blk_drew ?_ | refine blk_alloc ?_ _)); exact BK23001.out⟩, ⟨by (with_reducible repeat (first | refine blk_drewN ?_ _ | refine blk_drew ?_ | refine blk_alloc ?_ _)); exact BK23014.out⟩, ⟨by repeat (first | (with_reducible first | exact HB.out | apply below_alloc | apply pw_below_drewN | apply below_drew1 | refine below_set ?_ GE23001.out | refine below_set ?_ GE23014.out) | exact HB.out)⟩⟩
    case rest =>
     clear HC17
     try clear c1
     try clear c2
     try clear p2
     try clear c3
     try clear c3b0
     try clear c4
     try clear c8
     try clear c12
     try clear c15
     try clear c22
     try clear c28
     try clear c33
     try clear c35
     try clear c37
     try clear c38
     try clear c39
     try clear c40
     try clear c40b0
     try clear hcz19_0
     try clear hcz19_1
     try clear hcz21_0
     try clear hcz21_1
     try clear hcz25_0
     try clear hcz25_1
     try clear hcz29_0
     try clear hcz29_1
     try clear hcz38_0
     try clear hcz38_1
     try clear hcz5_0
     try clear hcz5_1
     try clear hfz19_0
     try clear hfz19_1
     try clear hfz21_0
     try clear hfz21_1
     try clear hfz25_0
     try clear hfz25_1
     try clear hfz29_0
     try clear hfz29_1
     try clear hfz38_0
     try clear hfz38_1
     try clear hfz5_0
     try clear hfz5_1
     obtain ⟨kq, x42_16, rfl, HA, HJ16, HO_4, HO_6, HO_23015001, BK23001, BK23014, HB⟩ := hcut
     have hl23015001_16 := (Kd.R_reads' HO_23015001.out).1
     rw [hl23015001_16] at HO_23015001
     (try simp only [hl23015001_16])
     (try simp only [hl23015001_16] at BK23001)
     (try simp only [hl23015001_16] at BK23014)
     (try simp only [hl23015001_16] at HO_4)
     (try simp only [hl23015001_16] at HO_6)
     cases kq with
     | zero => exact absurd HA.out (by simp [laws_FnExactSignatureOf.j0])
     | succ kj16 =>
      have H := HA.out
      clear HA
      simp only [laws_FnExactSignatureOf.j0] at H
      by_cases c42 : x42_16 = true
      ·subst c42
       have H1 : (some false) = some true := by rw [if_pos rfl] at H; exact H
       clear H
       have H := H1
       clear H1
       exact absurd (Option.some.inj H) (by decide)
      ·replace c42 := Bool.eq_false_iff.mpr c42
       subst c42
       have H1 : ((laws_markIntS.f kj16 t23015 1).bind fun bt23027 => ((laws_heldIntS.f kj16 bt23027.2 1).bind fun t23029 => (if t23029 < 0 then (some false) else (if t23029 = bt23027.1 then ((laws_toMatroid.f kj16 a0_0 l0_1).bind fun bt23030 => ((impl_SignatureOf.f kj16 bt23030.1 bt23030.2).bind fun t23034 => ((laws_eqIntS.f kj16 t23034 t23007).bind fun t23037 => (if t23037 = true then ((laws_heldIntS.f kj16 bt23027.2 1).bind fun t23038 => (if t23038 < 0 then (some false) else (if t23038 = bt23027.1 then (some true) else (some false)))) else (some false))))) else (some false))))) = some true := by rw [if_neg (show ¬ (false = true) by decide)] at H; exact H
       clear H
       have H := H1
       clear H1
       replace H := Option.bind_eq_some_iff.mp H
       obtain ⟨⟨t23027, t23028⟩, A430, H⟩ := H
       replace H : ((laws_heldIntS.f kj16 t23028 1).bind fun t23029 => (if t23029 < 0 then (some false) else (if t23029 = t23027 then ((laws_toMatroid.f kj16 a0_0 l0_1).bind fun bt23030 => ((impl_SignatureOf.f kj16 bt23030.1 bt23030.2).bind fun t23034 => ((laws_eqIntS.f kj16 t23034 t23007).bind fun t23037 => (if t23037 = true then ((laws_heldIntS.f kj16 t23028 1).bind fun t23038 => (if t23038 < 0 then (some false) else (if t23038 = t23027 then (some true) else (some false)))) else (some false))))) else (some false)))) = some true := H
       have A43 := aQ A430
       clear A430
       replace H := Option.bind_eq_some_iff.mp H
       obtain ⟨t23029, A440, H⟩ := H
       replace H : (if t23029 < 0 then (some false) else (if t23029 = t23027 then ((laws_toMatroid.f kj16 a0_0 l0_1).bind fun bt23030 => ((impl_SignatureOf.f kj16 bt23030.1 bt23030.2).bind fun t23034 => ((laws_eqIntS.f kj16 t23034 t23007).bind fun t23037 => (if t23037 = true then ((laws_heldIntS.f kj16 t23028 1).bind fun t23038 => (if t23038 < 0 then (some false) else (if t23038 = t23027 then (some true) else (some false)))) else (some false))))) else (some false))) = some true := H
       have A44 := aQ A440
       clear A440
       by_cases c45 : t23029 < 0
       ·rw [if_pos c45] at H
        have c45b0 : decide (t23029 < 0) = true := decide_eq_true c45
        clear c45
        exact absurd (Option.some.inj H) (by decide)
       ·rw [if_neg c45] at H
        have c45b0 : decide (t23029 < 0) = false := decide_eq_false c45
        clear c45
        by_cases c47 : t23029 = t23027
        ·rw [if_pos c47] at H
         have c47b0 : (t23029 == t23027) = true := beq_iff_eq.mpr c47
         have c47b1 : (t23029 != t23027) = false := bne_eq_false_iff_eq.mpr c47
         clear c47
         replace H := Option.bind_eq_some_iff.mp H
         obtain ⟨⟨t23030, t23031⟩, A480, H⟩ := H
         replace H : ((impl_SignatureOf.f kj16 t23030 t23031).bind fun t23034 => ((laws_eqIntS.f kj16 t23034 t23007).bind fun t23037 => (if t23037 = true then ((laws_heldIntS.f kj16 t23028 1).bind fun t23038 => (if t23038 < 0 then (some false) else (if t23038 = t23027 then (some true) else (some false)))) else (some false)))) = some true := H
         have A48 := aQ A480
         clear A480
         replace H := Option.bind_eq_some_iff.mp H
         obtain ⟨t23034, A490, H⟩ := H
         replace H : ((laws_eqIntS.f kj16 t23034 t23007).bind fun t23037 => (if t23037 = true then ((laws_heldIntS.f kj16 t23028 1).bind fun t23038 => (if t23038 < 0 then (some false) else (if t23038 = t23027 then (some true) else (some false)))) else (some false))) = some true := H
         have A49 := aQ A490
         clear A490
         replace H := Option.bind_eq_some_iff.mp H
         obtain ⟨t23037, A500, H⟩ := H
         replace H : (if t23037 = true then ((laws_heldIntS.f kj16 t23028 1).bind fun t23038 => (if t23038 < 0 then (some false) else (if t23038 = t23027 then (some true) else (some false)))) else (some false)) = some true := H
         have A50 := aQ A500
         clear A500
         by_cases c51 : t23037 = true
         ·subst c51
          have H1 : ((laws_heldIntS.f kj16 t23028 1).bind fun t23038 => (if t23038 < 0 then (some false) else (if t23038 = t23027 then (some true) else (some false)))) = some true := by rw [if_pos rfl] at H; exact H
          clear H
          have H := H1
          clear H1
          replace H := Option.bind_eq_some_iff.mp H
          obtain ⟨t23038, A520, H⟩ := H
          replace H : (if t23038 < 0 then (some false) else (if t23038 = t23027 then (some true) else (some false))) = some true := H
          have A52 := aQ A520
          clear A520
          by_cases c53 : t23038 < 0
          ·rw [if_pos c53] at H
           have c53b0 : decide (t23038 < 0) = true := decide_eq_true c53
           clear c53
           exact absurd (Option.some.inj H) (by decide)
          ·rw [if_neg c53] at H
           have c53b0 : decide (t23038 < 0) = false := decide_eq_false c53
           clear c53
           by_cases c61 : t23038 = t23027
           ·rw [if_pos c61] at H
            have c61b0 : (t23038 == t23027) = true := beq_iff_eq.mpr c61
            have c61b1 : (t23038 != t23027) = false := bne_eq_false_iff_eq.mpr c61
            clear c61
            clear H
            go_wp2_with (first | ((with_reducible refine gate_callee (f := 40) rfl ?_); refine goesL_ (some 45) rfl rfl Try.func40 (by kernel_rfl) rfl #[.slice Ao32 t23015.length co32, .int .i64 1] rfl (by (try simp only [List.map_toArray, List.map_cons, List.map_nil]); first | done | rfl | (simp only [List.length_drop, List.length_take]; rfl)) ?_; (with_reducible refine (laws_markIntS.calls kj16 (fun k_ => some k_ = (.slice Ao32 t23015.length co32 : Value).ownBlock) (.slice Ao32 t23015.length co32) t23015 1 t23027 t23028 w _ ?side1 ?side2 A43.out).mono ?_); (case side1 => repeat (first | (with_reducible first | exact HB.out | apply below_alloc | apply pw_below_drewN | apply below_drew1 | refine below_set ?_ GE23001.out | refine below_set ?_ GE23014.out) | exact HB.out)); (case side2 => exact Kd.R_tight rfl HO_6.out); rintro e w62 ⟨rfl, hy0, hb, hkp⟩; refine ⟨_, rfl, ?_⟩; replace HO_4 := aQ (Kd.R_mono (ok' := fun k_ => some k_ ≠ (.slice Ao32 t23015.length co32 : Value).ownBlock ∧ some k_ ≠ (.slice Ao30 t23025.length co30 : Value).ownBlock) (Kd.R_keptB (HO_4.out) hkp (fun k_ hk_ hs_ => by first | exact (hk_.1) hs_ | (with_reducible first | exact absurd hs_ hk_.1 | exact absurd hs_ hk_.2 | exact absurd hs_ hk_.1.1 | exact absurd hs_ hk_.1.2 | exact absurd hs_ hk_.2.1 | exact absurd hs_ hk_.2.2 | exact absurd hs_ hk_.1.1.1 | exact absurd hs_ hk_.1.1.2 | exact absurd hs_ hk_.1.2.1 | exact absurd hs_ hk_.1.2.2 | exact absurd hs_ hk_.2.1.1 | exact absurd hs_ hk_.2.1.2 | exact absurd hs_ hk_.2.2.1 | exact absurd hs_ hk_.2.2.2 | exact absurd hs_ hk_.1.1.1.1 | exact absurd hs_ hk_.1.1.1.2 | exact absurd hs_ hk_.1.1.2.1 | exact absurd hs_ hk_.1.1.2.2 | exact absurd hs_ hk_.1.2.1.1 | exact absurd hs_ hk_.1.2.1.2 | exact absurd hs_ hk_.1.2.2.1 | exact absurd hs_ hk_.1.2.2.2 | exact absurd hs_ hk_.2.1.1.1 | exact absurd hs_ hk_.2.1.1.2 | exact absurd hs_ hk_.2.1.2.1 | exact absurd hs_ hk_.2.1.2.2 | exact absurd hs_ hk_.2.2.1.1 | exact absurd hs_ hk_.2.2.1.2 | exact absurd hs_ hk_.2.2.2.1 | exact absurd hs_ hk_.2.2.2.2))) (fun k_ hk_ => by first | exact ⟨hk_.1.1, hk_.1.2⟩ | (refine ⟨?_, ?_⟩ <;> with_reducible first | exact hk_.1 | exact hk_.2 | exact hk_.1.1 | exact hk_.1.2 | exact hk_.2.1 | exact hk_.2.2 | exact hk_.1.1.1 | exact hk_.1.1.2 | exact hk_.1.2.1 | exact hk_.1.2.2 | exact hk_.2.1.1 | exact hk_.2.1.2 | exact hk_.2.2.1 | exact hk_.2.2.2 | exact hk_.1.1.1.1 | exact hk_.1.1.1.2 | exact hk_.1.1.2.1 | exact hk_.1.1.2.2 | exact hk_.1.2.1.1 | exact hk_.1.2.1.2 | exact hk_.1.2.2.1 | exact hk_.1.2.2.2 | exact hk_.2.1.1.1 | exact hk_.2.1.1.2 | exact hk_.2.1.2.1 | exact hk_.2.1.2.2 | exact hk_.2.2.1.1 | exact hk_.2.2.1.2 | exact hk_.2.2.2.1 | exact hk_.2.2.2.2))); replace HO_23015001 := aQ (Kd.R_mono (ok' := fun k_ => some k_ ≠ (.slice Ao33 t23007.length co33 : Value).ownBlock ∧ some k_ ≠ (.slice Ao32 t23015.length co32 : Value).ownBlock) (Kd.R_keptB (HO_23015001.out) hkp (fun k_ hk_ hs_ => by first | exact (hk_.2) hs_ | (with_reducible first | exact absurd hs_ hk_.1 | exact absurd hs_ hk_.2 | exact absurd hs_ hk_.1.1 | exact absurd hs_ hk_.1.2 | exact absurd hs_ hk_.2.1 | exact absurd hs_ hk_.2.2 | exact absurd hs_ hk_.1.1.1 | exact absurd hs_ hk_.1.1.2 | exact absurd hs_ hk_.1.2.1 | exact absurd hs_ hk_.1.2.2 | exact absurd hs_ hk_.2.1.1 | exact absurd hs_ hk_.2.1.2 | exact absurd hs_ hk_.2.2.1 | exact absurd hs_ hk_.2.2.2 | exact absurd hs_ hk_.1.1.1.1 | exact absurd hs_ hk_.1.1.1.2 | exact absurd hs_ hk_.1.1.2.1 | exact absurd hs_ hk_.1.1.2.2 | exact absurd hs_ hk_.1.2.1.1 | exact absurd hs_ hk_.1.2.1.2 | exact absurd hs_ hk_.1.2.2.1 | exact absurd hs_ hk_.1.2.2.2 | exact absurd hs_ hk_.2.1.1.1 | exact absurd hs_ hk_.2.1.1.2 | exact absurd hs_ hk_.2.1.2.1 | exact absurd hs_ hk_.2.1.2.2 | exact absurd hs_ hk_.2.2.1.1 | exact absurd hs_ hk_.2.2.1.2 | exact absurd hs_ hk_.2.2.2.1 | exact absurd hs_ hk_.2.2.2.2))) (fun k_ hk_ => by first | exact ⟨hk_.1.1, hk_.1.2⟩ | (refine ⟨?_, ?_⟩ <;> with_reducible first | exact hk_.1 | exact hk_.2 | exact hk_.1.1 | exact hk_.1.2 | exact hk_.2.1 | exact hk_.2.2 | exact hk_.1.1.1 | exact hk_.1.1.2 | exact hk_.1.2.1 | exact hk_.1.2.2 | exact hk_.2.1.1 | exact hk_.2.1.2 | exact hk_.2.2.1 | exact hk_.2.2.2 | exact hk_.1.1.1.1 | exact hk_.1.1.1.2 | exact hk_.1.1.2.1 | exact hk_.1.1.2.2 | exact hk_.1.2.1.1 | exact hk_.1.2.1.2 | exact hk_.1.2.2.1 | exact hk_.1.2.2.2 | exact hk_.2.1.1.1 | exact hk_.2.1.1.2 | exact hk_.2.1.2.1 | exact hk_.2.1.2.2 | exact hk_.2.2.1.1 | exact hk_.2.2.1.2 | exact hk_.2.2.2.1 | exact hk_.2.2.2.2))); replace BK23001 := aQ (blk_kept (by (with_reducible repeat (first | refine blk_drewN ?_ _ | refine blk_drew ?_ | refine blk_alloc ?_ _)); exact BK23001.out) hkp (fun hs_ => (fun e_ => (Kd.R_ne HO_6.out BK23001.out (by decide)) e_) hs_)); replace BK23014 := aQ (blk_kept (by (with_reducible repeat (first | refine blk_drewN ?_ _ | refine blk_drew ?_ | refine blk_alloc ?_ _)); exact BK23014.out) hkp (fun hs_ => (fun e_ => (Kd.R_ne HO_6.out BK23014.out (by decide)) e_) hs_)); replace HO_6 := aQ (Kd.R_reok rfl hy0 (fun k_ e_ => HO_6.out.1 k_ e_)); replace HB := aQ (hb); (try clear hb); (try clear hkp); (try clear hy0)) | ((with_reducible refine gate_callee (f := 41) rfl ?_); refine goesL_ (some 48) rfl rfl Try.func41 (by kernel_rfl) rfl #[.slice Ao32 t23028.length co32, .int .i64 1] rfl (by (try simp only [List.map_toArray, List.map_cons, List.map_nil]); first | done | (rw [show t23028.length = t23015.length from (Kd.R_reads' HO_6.out).1.symm] <;> rfl) | rfl | (simp only [List.length_drop, List.length_take]; rfl)) ?_; (with_reducible refine (laws_heldIntS.calls kj16 _ _ t23028 1 t23029 _ ?side1 ?side2 A44.out).mono ?_); (case side1 => repeat (first | exact (Kd.R_reads' HO_6.out).2.2 | (with_reducible refine Kd.C_alloc ?_ _) | (with_reducible refine Kd.C_drewN ?_ _) | (with_reducible refine Kd.C_drew ?_))); (case side2 => rw [show t23028.length = t23015.length from (Kd.R_reads' HO_6.out).1.symm]; exact (Kd.R_reads' HO_6.out).2.1); rintro e w' ⟨rfl, ⟨nd, rfl⟩⟩; refine ⟨_, rfl, ?_⟩; have hnb63 := NB23001_23014.out; have hnc63 := NB23014_23001.out; have hcz64_0 : w62.cell? ⟨gb23001, 0, none⟩ = some (.int .i64 a0_0) := (blk_cell BK23001.out 0).trans rfl; have hcz64_1 : w62.cell? ⟨gb23001, 1, none⟩ = some (.slice A0_1 l0_1.length c0_1) := (blk_cell BK23001.out 1).trans rfl; have hfz64_0 := blk_frozen BK23001.out 0; have hfz64_1 := blk_frozen BK23001.out 1) | ((with_reducible refine gate_callee (f := 35) rfl ?_); refine goesL_ (some 55) rfl rfl Try.func35 (by kernel_rfl) rfl #[.agg #[.int .i64 a0_0, .slice A0_1 l0_1.length c0_1]] rfl (by (try simp only [List.map_toArray, List.map_cons, List.map_nil]); first | done | rfl | (simp only [List.length_drop, List.length_take]; rfl)) ?_; (with_reducible refine (laws_toMatroid.calls kj16 a0_0 _ _ l0_1 t23030 t23031 _ ?side1 ?side2 A48.out).mono ?_); (case side1 => repeat (first | exact (Kd.C_below HR0_1.out (by repeat (first | (with_reducible first | exact HB.out | apply below_alloc | apply pw_below_drewN | apply below_drew1 | refine below_set ?_ GE23001.out | refine below_set ?_ GE23014.out) | exact HB.out))) | (with_reducible refine Kd.C_alloc ?_ _) | (with_reducible refine Kd.C_drewN ?_ _) | (with_reducible refine Kd.C_drew ?_))); (case side2 => exact HC0_1.out); rintro e w65 ⟨v23032, rfl, ho0, hb⟩; refine ⟨_, rfl, ?_⟩; have HO23033 := aQ (Kd.R_lower (Kd.R_new' (Kd.R_new' (Kd.R_new' ho0 (Kd.R_lt (by (with_reducible repeat (first | apply Kd.R_alloc | apply Kd.R_drewN | apply Kd.R_drew)); exact HO_4.out))) (Kd.R_lt (by (with_reducible repeat (first | apply Kd.R_alloc | apply Kd.R_drewN | apply Kd.R_drew)); exact HO_6.out))) (Kd.R_lt (by (with_reducible repeat (first | apply Kd.R_alloc | apply Kd.R_drewN | apply Kd.R_drew)); exact HO_23015001.out))) (below_size (by repeat (first | (with_reducible first | exact HB.out | apply below_alloc | apply pw_below_drewN | apply below_drew1 | refine below_set ?_ GE23001.out | refine below_set ?_ GE23014.out) | exact HB.out)))); replace HO_4 := aQ (Kd.R_elder' (by (with_reducible repeat (first | apply Kd.R_alloc | apply Kd.R_drewN | apply Kd.R_drew)); exact HO_4.out) (Kd.R_base ho0) hb); replace HO_6 := aQ (Kd.R_elder' (by (with_reducible repeat (first | apply Kd.R_alloc | apply Kd.R_drewN | apply Kd.R_drew)); exact HO_6.out) (Kd.R_base ho0) hb); replace HO_23015001 := aQ (Kd.R_elder' (by (with_reducible repeat (first | apply Kd.R_alloc | apply Kd.R_drewN | apply Kd.R_drew)); exact HO_23015001.out) (Kd.R_base ho0) hb); replace BK23001 := aQ (blk_below (g := gb23001) (o := .cells #[.int .i64 a0_0, .slice A0_1 l0_1.length c0_1] 24 (0, 0)) (by (with_reducible repeat (first | refine blk_drewN ?_ _ | refine blk_drew ?_ | refine blk_alloc ?_ _)); exact BK23001.out) hb); replace BK23014 := aQ (blk_below (g := gb23014) (o := .cells #[.int .i64 t23010, .slice Ao30 t23025.length co30] 28 (0, 0)) (by (with_reducible repeat (first | refine blk_drewN ?_ _ | refine blk_drew ?_ | refine blk_alloc ?_ _)); exact BK23014.out) hb); replace HB := aQ (below_step (by repeat (first | (with_reducible first | exact HB.out | apply below_alloc | apply pw_below_drewN | apply below_drew1 | refine below_set ?_ GE23001.out | refine below_set ?_ GE23014.out) | exact HB.out)) hb); (try clear hb); (try clear hb2); (try clear hk); (try clear hi); (try clear ho0); obtain ⟨Ao66, co66, eo66⟩ := Kd.R_slice HO23033.out; subst eo66) | ((with_reducible refine gate_callee (f := 81) rfl ?_); refine goesL_ (some 56) rfl rfl Try.func81 (by kernel_rfl) rfl #[.agg #[.int .i64 t23030, .slice Ao66 t23031.length co66]] rfl (by (try simp only [List.map_toArray, List.map_cons, List.map_nil]); first | done | rfl | (simp only [List.length_drop, List.length_take]; rfl)) ?_; (with_reducible refine (impl_SignatureOf.calls kj16 t23030 _ _ t23031 t23034 _ ?side1 ?side2 A49.out).mono ?_); (case side1 => repeat (first | exact (Kd.R_reads' HO23033.out).2.2 | (with_reducible refine Kd.C_alloc ?_ _) | (with_reducible refine Kd.C_drewN ?_ _) | (with_reducible refine Kd.C_drew ?_))); (case side2 => exact (Kd.R_reads' HO23033.out).2.1); rintro e w67 ⟨v23035, rfl, ho0, hb⟩; refine ⟨_, rfl, ?_⟩; have HO23036 := aQ (Kd.R_lower (Kd.R_new' (Kd.R_new' (Kd.R_new' (Kd.R_new' ho0 (Kd.R_lt (by (with_reducible repeat (first | apply Kd.R_alloc | apply Kd.R_drewN | apply Kd.R_drew)); exact HO_4.out))) (Kd.R_lt (by (with_reducible repeat (first | apply Kd.R_alloc | apply Kd.R_drewN | apply Kd.R_drew)); exact HO_6.out))) (Kd.R_lt (by (with_reducible repeat (first | apply Kd.R_alloc | apply Kd.R_drewN | apply Kd.R_drew)); exact HO_23015001.out))) (Kd.R_lt (by (with_reducible repeat (first | apply Kd.R_alloc | apply Kd.R_drewN | apply Kd.R_drew)); exact HO23033.out))) (below_size (by repeat (first | (with_reducible first | exact HB.out | apply below_alloc | apply pw_below_drewN | apply below_drew1 | refine below_set ?_ GE23001.out | refine below_set ?_ GE23014.out) | exact HB.out)))); replace HO_4 := aQ (Kd.R_elder' (by (with_reducible repeat (first | apply Kd.R_alloc | apply Kd.R_drewN | apply Kd.R_drew)); exact HO_4.out) (Kd.R_base ho0) hb); replace HO_6 := aQ (Kd.R_elder' (by (with_reducible repeat (first | apply Kd.R_alloc | apply Kd.R_drewN | apply Kd.R_drew)); exact HO_6.out) (Kd.R_base ho0) hb); replace HO_23015001 := aQ (Kd.R_elder' (by (with_reducible repeat (first | apply Kd.R_alloc | apply Kd.R_drewN | apply Kd.R_drew)); exact HO_23015001.out) (Kd.R_base ho0) hb); replace HO23033 := aQ (Kd.R_elder' (by (with_reducible repeat (first | apply Kd.R_alloc | apply Kd.R_drewN | apply Kd.R_drew)); exact HO23033.out) (Kd.R_base ho0) hb); replace BK23001 := aQ (blk_below (g := gb23001) (o := .cells #[.int .i64 a0_0, .slice A0_1 l0_1.length c0_1] 24 (0, 0)) (by (with_reducible repeat (first | refine blk_drewN ?_ _ | refine blk_drew ?_ | refine blk_alloc ?_ _)); exact BK23001.out) hb); replace BK23014 := aQ (blk_below (g := gb23014) (o := .cells #[.int .i64 t23010, .slice Ao30 t23025.length co30] 28 (0, 0)) (by (with_reducible repeat (first | refine blk_drewN ?_ _ | refine blk_drew ?_ | refine blk_alloc ?_ _)); exact BK23014.out) hb); replace HB := aQ (below_step (by repeat (first | (with_reducible first | exact HB.out | apply below_alloc | apply pw_below_drewN | apply below_drew1 | refine below_set ?_ GE23001.out | refine below_set ?_ GE23014.out) | exact HB.out)) hb); (try clear hb); (try clear hb2); (try clear hk); (try clear hi); (try clear ho0); obtain ⟨Ao68, co68, eo68⟩ := Kd.R_slice HO23036.out; subst eo68) | ((with_reducible refine gate_callee (f := 37) rfl ?_); refine goesL_ (some 59) rfl rfl Try.func37 (by kernel_rfl) rfl #[.slice Ao68 t23034.length co68, .slice Ao33 t23007.length co33] rfl (by (try simp only [List.map_toArray, List.map_cons, List.map_nil]); first | done | rfl | (simp only [List.length_drop, List.length_take]; rfl)) ?_; (with_reducible refine (laws_eqIntS.calls kj16 _ _ t23034 _ _ t23007 true _ ?side1 ?side2 ?side3 ?side4 A50.out).mono ?_); (case side1 => repeat (first | exact (Kd.R_reads' HO23036.out).2.2 | (with_reducible refine Kd.C_alloc ?_ _) | (with_reducible refine Kd.C_drewN ?_ _) | (with_reducible refine Kd.C_drew ?_))); (case side2 => exact (Kd.R_reads' HO23036.out).2.1); (case side3 => repeat (first | exact (Kd.R_reads' HO_4.out).2.2 | (with_reducible refine Kd.C_alloc ?_ _) | (with_reducible refine Kd.C_drewN ?_ _) | (with_reducible refine Kd.C_drew ?_))); (case side4 => exact (Kd.R_reads' HO_4.out).2.1); rintro e w' ⟨rfl, ⟨nd, rfl⟩⟩; refine ⟨_, rfl, ?_⟩) | ((with_reducible refine gate_callee (f := 41) rfl ?_); refine goesL_ (some 63) rfl rfl Try.func41 (by kernel_rfl) rfl #[.slice Ao32 t23028.length co32, .int .i64 1] rfl (by (try simp only [List.map_toArray, List.map_cons, List.map_nil]); first | done | (rw [show t23028.length = t23015.length from (Kd.R_reads' HO_6.out).1.symm] <;> rfl) | rfl | (simp only [List.length_drop, List.length_take]; rfl)) ?_; (with_reducible refine (laws_heldIntS.calls kj16 _ _ t23028 1 t23038 _ ?side1 ?side2 A52.out).mono ?_); (case side1 => repeat (first | exact (Kd.R_reads' HO_6.out).2.2 | (with_reducible refine Kd.C_alloc ?_ _) | (with_reducible refine Kd.C_drewN ?_ _) | (with_reducible refine Kd.C_drew ?_))); (case side2 => rw [show t23028.length = t23015.length from (Kd.R_reads' HO_6.out).1.symm]; exact (Kd.R_reads' HO_6.out).2.1); rintro e w' ⟨rfl, ⟨nd, rfl⟩⟩; refine ⟨_, rfl, ?_⟩))
            go_ret
            exact ⟨by first | rfl | (simp [errW_none, errW_some] <;> rfl) | (simp [*, errW_none, errW_some] <;> rfl), by repeat (first | (with_reducible first | exact HB.out | apply below_alloc | apply pw_below_drewN | apply below_drew1 | refine below_set ?_ GE23001.out | refine below_set ?_ GE23014.out) | exact HB.out)⟩
           ·rw [if_neg c61] at H
            have c61b0 : (t23038 == t23027) = false := beq_eq_false_iff_ne.mpr c61
            have c61b1 : (t23038 != t23027) = true := bne_iff_ne.mpr c61
            exact absurd (Option.some.inj H) (by decide)
         ·replace c51 := Bool.eq_false_iff.mpr c51
          subst c51
          have H1 : (some false) = some true := by rw [if_neg (show ¬ (false = true) by decide)] at H; exact H
          clear H
          have H := H1
          clear H1
          exact absurd (Option.some.inj H) (by decide)
        ·rw [if_neg c47] at H
         have c47b0 : (t23029 == t23027) = false := beq_eq_false_iff_ne.mpr c47
         have c47b1 : (t23029 != t23027) = true := bne_iff_ne.mpr c47
         exact absurd (Option.some.inj H) (by decide)
   ·replace c15 := Bool.eq_false_iff.mpr c15
    subst c15
    have H1 : (some false) = some true := by rw [if_neg (show ¬ (false = true) by decide)] at H; exact H
    clear H
    have H := H1
    clear H1
    exact absurd (Option.some.inj H) (by decide)
  ·replace c12 := Bool.eq_false_iff.mpr c12
   subst c12
   have H1 : (some false) = some true := by rw [if_neg (show ¬ (false = true) by decide)] at H; exact H
   clear H
   have H := H1
   clear H1
   exact absurd (Option.some.inj H) (by decide)
end Go.Proofs.Ytinoamehdhgpgaa.A
