/- The machine side of the law FnExactFromSets, laid by a program of this work over the kit's print and contracts by hand: Go functions as Lean functions, and proofs that calls come to what these tell. Conditions: those in each theorem. -/
import Derived.Test.YtagncnjllpebjaaMFnExactFromSets0
import Derived.Test.YtagncnjllpebjaaMFnExactFromSetsq0
import Derived.Test.YtagncnjllpebjaaMFnExactFromSets1
import Derived.Test.YtagncnjllpebjaaMFnExactFromSets2
import Derived.Test.YtagncnjllpebjaaMFnExactFromSets3
namespace Go.Proofs.Ytagncnjllpebjaa.A
open Go.RowKit Go.Proofs.YtagncnjllpebjaaW.PrintWords Go.Proofs.YtagncnjllpebjaaW.PrintLast Go.Proofs.YtagncnjllpebjaaW.PrintMore Go.Proofs.Ytagncnjllpebjaa.Z
attribute [local go_sem] max2_int min2_int max_two min_two max_three min_three max_four min_four   -- for this text's walks alone
set_option linter.unusedVariables false
set_option linter.unusedSimpArgs false

/-! ### slices_Sort_int_int: function 180 (by hand) -/
def laysSort_ren : Go.Shelf.Ren := ⟨fun | 189 => 180 | 125 => 167 | 257 => 196 | 128 => 191 | 129 => 192 | 294 => 203 | 295 => 204 | 296 => 205 | 297 => 206 | 298 => 207 | 299 => 208 | 216 => 209 | 300 => 210 | 301 => 211 | 328 => 214 | 329 => 198 | 330 => 199 | 331 => 215 | 332 => 216 | 215 => 182 | 343 => 217 | n => n, fun | 28 => 22 | 3 => 3 | 46 => 69 | 0 => 0 | 51 => 111 | 53 => 113 | 4 => 4 | 183 => 119 | 182 => 118 | 131 => 43 | 5 => 5 | 9 => 9 | 218 => 128 | 222 => 132 | 228 => 139 | 229 => 140 | n => n, fun | n => n⟩
theorem laysSort : Go.Proofs.Lays.n189 Try.prog laysSort_ren := {
 mixed := by kernel_rfl
 f125 := Try.func167.trans (congrArg some (by kernel_rfl))
 f128 := Try.func191.trans (congrArg some (by kernel_rfl))
 f129 := Try.func192.trans (congrArg some (by kernel_rfl))
 f189 := Try.func180.trans (congrArg some (by kernel_rfl))
 f215 := Try.func182.trans (congrArg some (by kernel_rfl))
 f216 := Try.func209.trans (congrArg some (by kernel_rfl))
 f257 := Try.func196.trans (congrArg some (by kernel_rfl))
 f294 := Try.func203.trans (congrArg some (by kernel_rfl))
 f295 := Try.func204.trans (congrArg some (by kernel_rfl))
 f296 := Try.func205.trans (congrArg some (by kernel_rfl))
 f297 := Try.func206.trans (congrArg some (by kernel_rfl))
 f298 := Try.func207.trans (congrArg some (by kernel_rfl))
 f299 := Try.func208.trans (congrArg some (by kernel_rfl))
 f300 := Try.func210.trans (congrArg some (by kernel_rfl))
 f301 := Try.func211.trans (congrArg some (by kernel_rfl))
 f328 := Try.func214.trans (congrArg some (by kernel_rfl))
 f329 := Try.func198.trans (congrArg some (by kernel_rfl))
 f330 := Try.func199.trans (congrArg some (by kernel_rfl))
 f331 := Try.func215.trans (congrArg some (by kernel_rfl))
 f332 := Try.func216.trans (congrArg some (by kernel_rfl))
 f343 := Try.func217.trans (congrArg some (by kernel_rfl))
 t0 := Try.underlying0
 a0 := Try.isAgg0
 z0 := Try.sizeOf0
 v0 := Try.zeroValue0
 t3 := Try.underlying3
 a3 := Try.isAgg3
 z3 := Try.sizeOf3
 v3 := Try.zeroValue3
 t4 := Try.underlying4
 a4 := Try.isAgg4
 z4 := Try.sizeOf4
 v4 := Try.zeroValue4
 t5 := Try.underlying5
 a5 := Try.isAgg5
 z5 := Try.sizeOf5
 v5 := Try.zeroValue5
 t9 := Try.underlying9
 a9 := Try.isAgg9
 z9 := Try.sizeOf9
 v9 := Try.zeroValue9
 t28 := Try.underlying22
 a28 := Try.isAgg22
 z28 := Try.sizeOf22
 v28 := Try.zeroValue22
 t46 := Try.underlying69
 a46 := Try.isAgg69
 z46 := Try.sizeOf69
 v46 := Try.zeroValue69
 t51 := Try.underlying111
 a51 := Try.isAgg111
 z51 := Try.sizeOf111
 v51 := Try.zeroValue111
 t53 := Try.underlying113
 a53 := Try.isAgg113
 z53 := Try.sizeOf113
 v53 := Try.zeroValue113
 t131 := Try.underlying43
 a131 := Try.isAgg43
 z131 := Try.sizeOf43
 v131 := Try.zeroValue43
 t182 := Try.underlying118
 a182 := Try.isAgg118
 z182 := Try.sizeOf118
 v182 := Try.zeroValue118
 t183 := Try.underlying119
 a183 := Try.isAgg119
 z183 := Try.sizeOf119
 v183 := Try.zeroValue119
 t218 := Try.underlying128
 a218 := Try.isAgg128
 z218 := Try.sizeOf128
 v218 := Try.zeroValue128
 t222 := Try.underlying132
 a222 := Try.isAgg132
 z222 := Try.sizeOf132
 v222 := Try.zeroValue132
 t228 := Try.underlying139
 a228 := Try.isAgg139
 z228 := Try.sizeOf139
 v228 := Try.zeroValue139
 t229 := Try.underlying140
 a229 := Try.isAgg140
 z229 := Try.sizeOf140
 v229 := Try.zeroValue140 }

set_option maxHeartbeats 2000000 in
theorem sortOwn_walk (A : Option Addr) (c : Nat) (xs : List Int) (base : Nat) (ok : Nat → Prop) (w : World)
  (h : Kd.R (Kd.int .i64) 3 w base ok (.slice A xs.length c) xs) (hb : base ≤ w.heap.size) (hl : xs.length < 17592186044416) :
  Calls Try.prog 180 #[.slice A xs.length c] w fun e w' => e = .returned (.tuple #[]) ∧ Kd.R (Kd.int .i64) 3 w' base ok (.slice A xs.length c) (xs.mergeSort fun x y => decide (x ≤ y)) ∧ Below base w w' := by
 rcases R_where h with ⟨rfl, rfl⟩ | ⟨g, rfl, hg, hlt, hc⟩
 ·refine (Any.slices_Sort_int_none laysSort none c w).mono ?_
  rintro e w' ⟨rfl, rfl⟩
  exact ⟨rfl, by simpa using h, Below.refl _ _⟩
 ·refine (Any.slices_Sort_int laysSort g 0 c xs w (R_holds h) hlt (by omega)).mono ?_
  rintro e w' ⟨rfl, n, os, rfl⟩
  have hy := List.length_mergeSort (le := fun (x y : Int) => decide (x ≤ y)) xs
  refine ⟨rfl, ?_, below_put (Below.refl _ _) hg hb n _ os⟩
  have := R_put h hy n os
  rwa [hy] at this
/-! ### slices_Compact_int_int: function 181 (by hand) -/
def laysCompact_ren : Go.Shelf.Ren := ⟨fun | 20 => 181 | n => n, fun | 22 => 22 | 3 => 3 | 4 => 4 | 0 => 0 | n => n, fun | n => n⟩
theorem laysCompact : Go.Proofs.Lays2.n20 Try.prog laysCompact_ren := {
 mixed := by kernel_rfl
 f20 := Try.func181.trans (congrArg some (by kernel_rfl))
 t0 := Try.underlying0
 a0 := Try.isAgg0
 z0 := Try.sizeOf0
 v0 := Try.zeroValue0
 t3 := Try.underlying3
 a3 := Try.isAgg3
 z3 := Try.sizeOf3
 v3 := Try.zeroValue3
 t4 := Try.underlying4
 a4 := Try.isAgg4
 z4 := Try.sizeOf4
 v4 := Try.zeroValue4
 t22 := Try.underlying22
 a22 := Try.isAgg22
 z22 := Try.sizeOf22
 v22 := Try.zeroValue22
 i3 := by kernel_rfl }

set_option maxHeartbeats 2000000 in
theorem compactOwn_walk (A : Option Addr) (c : Nat) (xs : List Int) (base : Nat) (ok : Nat → Prop) (w : World)
  (h : Kd.R (Kd.int .i64) 3 w base ok (.slice A xs.length c) xs) (hb : base ≤ w.heap.size) (hl : xs.length < 17592186044416) :
  Calls Try.prog 181 #[.slice A xs.length c] w fun e w' => e = .returned (.slice A (Lib.compact xs).length c) ∧ Kd.R (Kd.int .i64) 3 w' base ok (.slice A (Lib.compact xs).length c) (Lib.compact xs) ∧ Below base w w' := by
 rcases R_where h with ⟨rfl, rfl⟩ | ⟨g, rfl, hg, hlt, hc⟩
 ·refine (Any.slices_Compact_int_empty laysCompact none c w).mono ?_
  rintro e w' ⟨rfl, rfl⟩
  exact ⟨rfl, h, Below.refl _ _⟩
 ·refine (Any.slices_Compact_int laysCompact g 0 c xs w (R_holds h) (by omega) hc).mono ?_
  rintro e w' ⟨rfl, n, rfl⟩
  refine ⟨rfl, ?_, below_put' (Below.refl _ _) hg hb n _⟩
  have hlen := compact_len xs
  have hy : (Lib.compact xs ++ List.replicate (xs.length - (Lib.compact xs).length) 0).length = xs.length := by
   rw [List.length_append, List.length_replicate]; omega
  have h1 := R_grown h hy n
  have h2 := Kd.R_take h1 (m := (Lib.compact xs).length) (by rw [List.length_append]; omega)
  rwa [List.take_left] at h2
/-! ### impl_SortSets: function 160 (by hand) -/
def impl_SortSets.f (l : List Int) : Option (List Int) := if l.length < 17592186044416 then some (sortC l) else none
set_option maxHeartbeats 4000000 in
set_option maxRecDepth 100000 in
theorem impl_SortSets.calls (A0 : Option Addr) (c0 : Nat) (l0 : List Int) (r : List Int) (w : World) (hr0 : Kd.C (Kd.int .i64) w A0 l0.length l0) (hc0 : l0.length ≤ c0) (h : impl_SortSets.f l0 = some r) :
  Calls Try.prog 160 #[.slice A0 l0.length c0] w fun e w' => ∃ v0_ : Value, e = .returned (v0_) ∧ Kd.R (Kd.int .i64) 3 w' w.heap.size (fun _ => True) v0_ r ∧ Below w.heap.size w w' := by
 unfold impl_SortSets.f at h
 by_cases hlt : l0.length < 17592186044416
 ·rw [if_pos hlt] at h
  simp only [Option.some.injEq] at h
  subst h
  have HR := aQ hr0
  have HLM := aQ hlt
  have HB := aQ (Below.refl w.heap.size w)
  clear hr0 hc0 hlt
  go_enter Try.func160, Try.ntmps160
  go_wp2_with (first | ((with_reducible refine gate_dst (N := 4) rfl ?_); refine Kd.R_lit (Kd.int .i64) _ 3 ?hg (N := 4) ?hd (xs := ([] : List Int)) (inner := []) (ok := fun _ => True) (okp := fun _ => True) ?hr ?hp (fun _ hk => hk) trivial (Below.refl _ _) (Nat.le_refl _) (by simp) ?_; (case hd => rfl); (case hg => rfl); (case hr => first | (go_simp; done) | (go_simp; rfl)); (case hp => exact (Reps.none _ _)); intro v9_ w2 ho3 hb hg_ hnew_; clear hg_ hnew_; have HO := aQ (Kd.R_lower ho3 (below_size (by repeat (first | (with_reducible first | exact HB.out | apply below_alloc | apply pw_below_drewN | apply below_drew1) | exact HB.out)))); replace HB := aQ (below_step (by repeat (first | (with_reducible first | exact HB.out | apply below_alloc | apply pw_below_drewN | apply below_drew1) | exact HB.out)) hb); clear hb ho3) | ((with_reducible refine gate_builtin (b := .append) (xs := #[.tmp 4, .tmp 5]) rfl ?_); at_builtin; refine Kd.R_append_rows (Kd.int .i64) (w0 := w) w.heap.size rfl (.tmp 4) (.tmp 5) 22 3 (.int .i64 0) 8 rfl Try.underlying22 info3 rfl (by decide) (by omega) v9_ ([] : List Int) l0 _ _ _ (fun _ => True) (fun _ => False) rfl rfl ?aO ?aR (fun _ _ h => h) (fun _ h => h.elim) ?aF ?aB ?aS ?aL ?_; (case aR => repeat (first | exact (Kd.C_below HR.out HB.out) | (with_reducible refine Kd.C_alloc ?_ _) | (with_reducible refine Kd.C_drewN ?_ _) | (with_reducible refine Kd.C_drew ?_))); (case aB => exact (by repeat (first | (with_reducible first | exact HB.out | apply below_alloc | apply pw_below_drewN | apply below_drew1) | exact HB.out))); (case aF => exact (fun _ _ => trivial)); (case aO => exact (by (with_reducible repeat (first | apply Kd.R_alloc | apply Kd.R_drewN | apply Kd.R_drew)); exact HO.out)); (case aS => exact (below_size (by repeat (first | (with_reducible first | exact HB.out | apply below_alloc | apply pw_below_drewN | apply below_drew1) | exact HB.out)))); (case aL => have := HLM.out; simp only [List.length_nil]; omega); intro v8_ w8 ho hb hg hat; rw [List.nil_append] at ho; replace HB := aQ (hb); replace HO := aQ (ho); clear ho hb hg hat; obtain ⟨AO, cO, eO⟩ := Kd.R_slice HO.out; subst eO))
  refine (sortOwn_walk AO cO l0 w.heap.size (fun _ => True) _ (by (with_reducible repeat (first | apply Kd.R_alloc | apply Kd.R_drewN | apply Kd.R_drew)); exact HO.out) (below_size (by repeat (first | (with_reducible first | exact HB.out | apply below_alloc | apply pw_below_drewN | apply below_drew1) | exact HB.out))) HLM.out).mono ?_
  rintro e w9_ ⟨rfl, ho, hb⟩
  have n0_ := aQ (Below.trans (by repeat (first | (with_reducible first | exact HB.out | apply below_alloc | apply pw_below_drewN | apply below_drew1) | exact HB.out)) hb)
  have hlen := List.length_mergeSort (le := fun (x y : Int) => decide (x ≤ y)) l0
  generalize hys : (l0.mergeSort fun x y => decide (x ≤ y)) = ys at ho hlen
  have HY := aQ hys
  have HOY := aQ ho
  have HLY := aQ hlen
  clear HB HO ho hb hys hlen
  have HB := n0_
  clear n0_
  go_wp2_with fail
  rw [← HLY.out]
  refine (compactOwn_walk AO cO ys w.heap.size (fun _ => True) _ (by (with_reducible repeat (first | apply Kd.R_alloc | apply Kd.R_drewN | apply Kd.R_drew)); rw [HLY.out]; exact HOY.out) (below_size (by repeat (first | (with_reducible first | exact HB.out | apply below_alloc | apply pw_below_drewN | apply below_drew1) | exact HB.out))) (by rw [HLY.out]; exact HLM.out)).mono ?_
  rintro e w9_ ⟨rfl, ho, hb⟩
  have n0_ := aQ (Below.trans (by repeat (first | (with_reducible first | exact HB.out | apply below_alloc | apply pw_below_drewN | apply below_drew1) | exact HB.out)) hb)
  have HO := aQ ho
  clear HB HOY ho hb
  have HB := n0_
  clear n0_
  go_wp2
  go_ret
  exact ⟨_, rfl, by unfold sortC; rw [HY.out]; (with_reducible repeat (first | apply Kd.R_alloc | apply Kd.R_drewN | apply Kd.R_drew)); exact HO.out, by repeat (first | (with_reducible first | exact HB.out | apply below_alloc | apply pw_below_drewN | apply below_drew1) | exact HB.out)⟩
 ·rw [if_neg hlt] at h; cases h
end Go.Proofs.Ytagncnjllpebjaa.A
namespace Go.Proofs.Ytagncnjllpebjaa.A
open Go.RowKit Go.Proofs.YtagncnjllpebjaaW.PrintWords Go.Proofs.YtagncnjllpebjaaW.PrintLast Go.Proofs.YtagncnjllpebjaaW.PrintMore
attribute [local go_sem] max2_int min2_int max_two min_two max_three min_three max_four min_four   -- for this text's walks alone
set_option linter.unusedVariables false
set_option linter.unusedSimpArgs false

/-! ### impl_areSets: function 177 -/
def impl_areSets.l0 : Nat → List Int → Int → Int → Option (Bool)
 | 0, _, _, _ => none
 | k + 1, x5, x6, x7 => if x7 < x6 then (if 0 ≤ x7 then (if x7 < (x5.length : Int) then ((impl_isAny.f (rd x5 x7)).bind fun t178002 => (if t178002 = true then (impl_areSets.l0 k x5 x6 (wrap64 (x7 + 1))) else (some false))) else (none)) else (none)) else (some true)
def impl_areSets.f (k : Nat) (l0 : List Int) : Option (Bool) := impl_areSets.l0 k l0 (l0.length : Int) 0
theorem impl_areSets.mono_l : ∀ k, (∀ y0 y1 y2, LeO (impl_areSets.l0 k y0 y1 y2) (impl_areSets.l0 (k + 1) y0 y1 y2))
 | 0 => fun _ _ _ r h => by simp [impl_areSets.l0] at h
 | k + 1 => by
  have ih0 := impl_areSets.mono_l k
  ·intro y0 y1 y2
   unfold impl_areSets.l0
   repeat' first
   | (with_reducible exact ih0 _ _ _)
   | (with_reducible exact LeO.refl _)
   | (with_reducible exact LeO.none _)
   | (with_reducible refine LeO.ite ?_ ?_)
   | (with_reducible refine LeO.bind ?_ (fun _ => ?_))
   | exact ih0 _ _ _
   | exact LeO.none _
   | refine LeO.ite ?_ ?_
   | refine LeO.bind ?_ (fun _ => ?_)
theorem impl_areSets.mono : ∀ a0 k, LeO (impl_areSets.f k a0) (impl_areSets.f (k + 1) a0) := by
 intro a0 k
 have ih0 := impl_areSets.mono_l k
 unfold impl_areSets.f
 repeat' first
   | (with_reducible exact ih0 _ _ _)
   | (with_reducible exact LeO.refl _)
   | (with_reducible exact LeO.none _)
   | (with_reducible refine LeO.ite ?_ ?_)
   | (with_reducible refine LeO.bind ?_ (fun _ => ?_))
   | exact ih0 _ _ _
   | exact LeO.none _
   | refine LeO.ite ?_ ?_
   | refine LeO.bind ?_ (fun _ => ?_)
set_option maxHeartbeats 8000000 in
set_option maxRecDepth 100000 in
theorem impl_areSets.calls (k : Nat) (A0 : Option Addr) (c0 : Nat) (l0 : List Int) (r : Bool) (w : World) (hr0 : Kd.C (Kd.int .i64) w A0 l0.length l0) (hc0 : l0.length ≤ c0) (h : impl_areSets.f k l0 = some r) :
  Calls Try.prog 177 #[.slice A0 l0.length c0] w fun e w' => e = .returned (.bool r) ∧ Drawn0 w w' := by
 have HR0 := aQ hr0
 have HC0 := aQ hc0
 clear hr0 hc0
 have H : (impl_areSets.l0 k l0 (l0.length : Int) 0) = some r := h
 clear h
 have H' := aQ H
 clear H
 go_enter Try.func177, Try.ntmps177
 go_wp2
 go_loopg [7] k (fun kq v7 w' => ∃ (x7_1 : Int), v7 = .int .i64 x7_1 ∧ Aside0 (impl_areSets.l0 kq l0 (l0.length : Int) x7_1 = some r) ∧ Aside0 (kq ≤ k) ∧ Drawn0 w w')
 case atStart => exact ⟨(0), (by first | rfl | (simp; done) | (simp [*]; done)), H', ⟨Nat.le_refl _⟩, by repeat (first | exact Drawn0.refl _ | apply Drawn0.step)⟩
 case round =>
  clear H'
  try clear c1
  obtain ⟨x7_1, rfl, HA, HK1, ⟨m1, rfl⟩⟩ := hrel
  cases gk with
  | zero => exact absurd HA.out (by simp [impl_areSets.l0])
  | succ k1 =>
   have H := HA.out
   clear HA
   simp only [impl_areSets.l0] at H
   by_cases c2 : x7_1 < (l0.length : Int)
   ·rw [if_pos c2] at H
    have c2b0 : decide (x7_1 < (l0.length : Int)) = true := decide_eq_true c2
    clear c2
    by_cases c3 : 0 ≤ x7_1
    ·rw [if_pos c3] at H
     have c3b0 : decide (0 ≤ x7_1) = true := decide_eq_true c3
     clear c3
     by_cases c4 : x7_1 < (l0.length : Int)
     ·rw [if_pos c4] at H
      have c4b0 : decide (x7_1 < (l0.length : Int)) = true := decide_eq_true c4
      clear c4
      replace H := Option.bind_eq_some_iff.mp H
      obtain ⟨t178002, A50, H⟩ := H
      replace H : (if t178002 = true then (impl_areSets.l0 k1 l0 (l0.length : Int) (wrap64 (x7_1 + 1))) else (some false)) = some r := H
      have A5 := aQ A50
      clear A50
      by_cases c6 : t178002 = true
      ·subst c6
       have H1 : (impl_areSets.l0 k1 l0 (l0.length : Int) (wrap64 (x7_1 + 1))) = some r := by rw [if_pos rfl] at H; exact H
       clear H
       have H := H1
       clear H1
       have H' := aQ H
       clear H
       have p178001 : 0 ≤ (x7_1 : Int) := of_decide_eq_true (by first | (with_reducible assumption) | assumption)
       have q178001 : x7_1 < (l0.length : Int) := of_decide_eq_true (by first | (with_reducible assumption) | assumption)
       obtain ⟨ad178001, e178001, hx178001_0⟩ := Kd.at_int HR0.out x7_1 p178001 q178001
       cases e178001
       replace p178001 := eq_true p178001
       replace q178001 := eq_true q178001
       go_wp2_with (first | ((with_reducible refine gate_callee (f := 133) rfl ?_); refine goesL_ (some 12) rfl rfl Try.func133 (by kernel_rfl) rfl #[.int .i64 (rd l0 x7_1)] rfl (by (try simp only [List.map_toArray, List.map_cons, List.map_nil]); first | done | rfl | (simp only [List.length_drop, List.length_take]; rfl)) ?_; (with_reducible refine (impl_isAny.calls (rd l0 x7_1) true _ A5.out).mono ?_); rintro e w' ⟨rfl, ⟨nd, rfl⟩⟩; refine ⟨_, rfl, ?_⟩))
       go_roundg k1
       case measure => have := HK1.out; omega
       case rel => exact ⟨(wrap64 (x7_1 + 1)), (by first | rfl | (simp; done) | (simp [*]; done)), H', ⟨by have := HK1.out; omega⟩, by repeat (first | exact Drawn0.refl _ | apply Drawn0.step)⟩
      ·replace c6 := Bool.eq_false_iff.mpr c6
       subst c6
       have H1 : (some false) = some r := by rw [if_neg (show ¬ (false = true) by decide)] at H; exact H
       clear H
       have H := H1
       clear H1
       obtain rfl := Option.some.inj H
       have p178001 : 0 ≤ (x7_1 : Int) := of_decide_eq_true (by first | (with_reducible assumption) | assumption)
       have q178001 : x7_1 < (l0.length : Int) := of_decide_eq_true (by first | (with_reducible assumption) | assumption)
       obtain ⟨ad178001, e178001, hx178001_0⟩ := Kd.at_int HR0.out x7_1 p178001 q178001
       cases e178001
       replace p178001 := eq_true p178001
       replace q178001 := eq_true q178001
       go_wp2_with (first | ((with_reducible refine gate_callee (f := 133) rfl ?_); refine goesL_ (some 12) rfl rfl Try.func133 (by kernel_rfl) rfl #[.int .i64 (rd l0 x7_1)] rfl (by (try simp only [List.map_toArray, List.map_cons, List.map_nil]); first | done | rfl | (simp only [List.length_drop, List.length_take]; rfl)) ?_; (with_reducible refine (impl_isAny.calls (rd l0 x7_1) false _ A5.out).mono ?_); rintro e w' ⟨rfl, ⟨nd, rfl⟩⟩; refine ⟨_, rfl, ?_⟩))
       go_ret
       exact ⟨by first | rfl | (simp; done) | (simp [*]; done), by repeat (first | exact Drawn0.refl _ | apply Drawn0.step)⟩
     ·rw [if_neg c4] at H
      exact absurd H (by simp)
    ·rw [if_neg c3] at H
     exact absurd H (by simp)
   ·rw [if_neg c2] at H
    have c2b0 : decide (x7_1 < (l0.length : Int)) = false := decide_eq_false c2
    clear c2
    obtain rfl := Option.some.inj H
    go_wp2
    go_ret
    exact ⟨by first | rfl | (simp; done) | (simp [*]; done), by repeat (first | exact Drawn0.refl _ | apply Drawn0.step)⟩
end Go.Proofs.Ytagncnjllpebjaa.A
namespace Go.Proofs.Ytagncnjllpebjaa.A
open Go.RowKit Go.Proofs.YtagncnjllpebjaaW.PrintWords Go.Proofs.YtagncnjllpebjaaW.PrintLast Go.Proofs.YtagncnjllpebjaaW.PrintMore Go.Proofs.Ytagncnjllpebjaa.Z
attribute [local go_sem] max2_int min2_int max_two min_two max_three min_three max_four min_four   -- for this text's walks alone
set_option linter.unusedVariables false
set_option linter.unusedSimpArgs false

/-! ### impl_MaximalSets: function 155 (by hand) -/
/-- Does t speak against s? -/
def impl_MaximalSets.c (s t : Int) : Option Bool := if t = s then some false else impl_IsSubset.f s t
def impl_MaximalSets.p (l : List Int) (s : Int) : Option Bool := (anyO (fun t => impl_MaximalSets.c s t) l).bind fun b => some (!b)
def impl_MaximalSets.f (k : Nat) (l : List Int) : Option (List Int) := (impl_areSets.f k l).bind fun t => if t = true then (impl_SortSets.f l).bind fun ys => filterO (fun s => impl_MaximalSets.p l s) ys else some []
theorem impl_MaximalSets.mono : ∀ a0 k, LeO (impl_MaximalSets.f k a0) (impl_MaximalSets.f (k + 1) a0) := by
 intro a0 k
 unfold impl_MaximalSets.f
 exact LeO.bind (impl_areSets.mono _ _) (fun t => LeO.ite (LeO.refl _) (LeO.refl _))
set_option maxHeartbeats 4000000 in
set_option maxRecDepth 100000 in
theorem MaximalSets1_walk (s t : Int) (b : Bool) (gs : Nat) (w : World) (hs : w.heap[gs]? = some (.cells #[.int .i64 s] 3 (0, 0))) (h : impl_MaximalSets.c s t = some b) :
  Calls Try.prog 178 #[.int .i64 t, .pointer (some ⟨gs, 0, none⟩)] w fun e w' => e = .returned (.bool b) ∧ Below w.heap.size w w' := by
 unfold impl_MaximalSets.c at h
 have hcs : w.cell? ⟨gs, 0, none⟩ = some (.int .i64 s) := (blk_cell hs 0).trans rfl
 clear hs
 by_cases hne : t = s
 ·rw [if_pos hne] at h
  simp only [Option.some.injEq] at h
  subst h
  subst hne
  go_enter Try.func178, Try.ntmps178
  go_wp2
  go_ret
  exact ⟨by first | rfl | (simp; done) | (simp [*]; done), by repeat (first | exact Below.refl _ _ | apply pw_below_drewN | apply below_drew1)⟩
 ·rw [if_neg hne] at h
  have HT := Lib.hid h
  have e1 : (t == s) = false := beq_eq_false_iff_ne.2 hne
  have e2 : (t != s) = true := bne_iff_ne.2 hne
  clear h
  go_enter Try.func178, Try.ntmps178
  go_wp2_with (first | (go_at_call 135; (with_reducible refine (impl_IsSubset.calls _ _ b _ HT.out).mono ?_); rintro e w' ⟨rfl, ⟨nd, rfl⟩⟩))
  go_ret
  exact ⟨by first | rfl | (simp; done) | (simp [*]; done), by repeat (first | exact Below.refl _ _ | apply pw_below_drewN | apply below_drew1)⟩
set_option maxHeartbeats 4000000 in
set_option maxRecDepth 100000 in
theorem impl_MaximalSets.calls (k : Nat) (A0 : Option Addr) (c0 : Nat) (l0 : List Int) (r : List Int) (w : World) (hr0 : Kd.C (Kd.int .i64) w A0 l0.length l0) (hc0 : l0.length ≤ c0) (h : impl_MaximalSets.f k l0 = some r) :
  Calls Try.prog 155 #[.slice A0 l0.length c0] w fun e w' => ∃ v0_ : Value, e = .returned (v0_) ∧ Kd.R (Kd.int .i64) 3 w' w.heap.size (fun _ => True) v0_ r ∧ Below w.heap.size w w' := by
 have HR := aQ hr0
 have HC := aQ hc0
 have HB := aQ (Below.refl w.heap.size w)
 clear hr0 hc0
 have EG := aQ (show ∀ args w, (callFunc 178 args).run Try.prog w = .ok (.enter 178 args) w from runs_of Try.func178 (by kernel_rfl) rfl)
 unfold impl_MaximalSets.f at h
 obtain ⟨t, hT, h⟩ := Option.bind_eq_some_iff.1 h
 have HT := aQ hT
 clear hT
 by_cases c3 : t = true
 ·subst c3
  rw [if_pos rfl] at h
  obtain ⟨ys, hY, h⟩ := Option.bind_eq_some_iff.1 h
  have hyl : ys.length < 17592186044416 := by
   unfold impl_SortSets.f at hY
   by_cases hc : l0.length < 17592186044416
   ·rw [if_pos hc, Option.some.injEq] at hY; subst hY; have := sortC_len l0; omega
   ·rw [if_neg hc] at hY; cases hY
  have HY := aQ hY
  have HI := Lib.hid h
  have HYL := aQ hyl
  clear hY h hyl
  go_enter Try.func155, Try.ntmps155
  go_wp2_with (first | ((with_reducible refine gate_dst (N := 6) rfl ?_); refine Kd.R_lit (Kd.int .i64) _ 3 ?hg (N := 6) ?hd (xs := ([] : List Int)) (inner := []) (ok := fun _ => True) (okp := fun _ => True) ?hr ?hp (fun _ hk => hk) trivial (Below.refl _ _) (Nat.le_refl _) (by simp) ?_; (case hd => rfl); (case hg => rfl); (case hr => first | (go_simp; done) | (go_simp; rfl)); (case hp => exact (Reps.none _ _)); intro v9_ w2 ho3 hb hg_ hnew_; clear hg_ hnew_; have HO := aQ (Kd.R_lower ho3 (below_size (by repeat (first | (with_reducible first | exact HB.out | apply below_alloc | apply pw_below_drewN | apply below_drew1) | exact HB.out)))); replace HB := aQ (below_step (by repeat (first | (with_reducible first | exact HB.out | apply below_alloc | apply pw_below_drewN | apply below_drew1) | exact HB.out)) hb); clear hb ho3) | (go_at_call 177; (with_reducible refine (impl_areSets.calls k _ _ l0 true _ ?side1 ?side2 HT.out).mono ?_); (case side1 => repeat (first | exact (Kd.C_below HR.out (by repeat (first | (with_reducible first | exact HB.out | apply below_alloc | apply pw_below_drewN | apply below_drew1) | exact HB.out))) | (with_reducible refine Kd.C_alloc ?_ _) | (with_reducible refine Kd.C_drewN ?_ _) | (with_reducible refine Kd.C_drew ?_))); (case side2 => exact HC.out); rintro e w' ⟨rfl, ⟨nd, rfl⟩⟩) | (go_at_call 160; (with_reducible refine (impl_SortSets.calls _ _ l0 ys _ ?side1 ?side2 HY.out).mono ?_); (case side1 => repeat (first | exact (Kd.C_below HR.out (by repeat (first | (with_reducible first | exact HB.out | apply below_alloc | apply pw_below_drewN | apply below_drew1) | exact HB.out))) | (with_reducible refine Kd.C_alloc ?_ _) | (with_reducible refine Kd.C_drewN ?_ _) | (with_reducible refine Kd.C_drew ?_))); (case side2 => exact HC.out); rintro e w3_ ⟨v_, rfl, ho_, hb⟩; have HP := aQ (Kd.R_lower (R_apart2 ho_ (by (with_reducible repeat (first | apply Kd.R_alloc | apply Kd.R_drewN | apply Kd.R_drew)); exact HO.out)) (below_size (by repeat (first | (with_reducible first | exact HB.out | apply below_alloc | apply pw_below_drewN | apply below_drew1) | exact HB.out)))); replace HO := aQ (Kd.R_below (R_apart (by (with_reducible repeat (first | apply Kd.R_alloc | apply Kd.R_drewN | apply Kd.R_drew)); exact HO.out) ho_) hb); replace HB := aQ (below_step (by repeat (first | (with_reducible first | exact HB.out | apply below_alloc | apply pw_below_drewN | apply below_drew1) | exact HB.out)) hb); clear ho_ hb; obtain ⟨AP, cP, eP⟩ := Kd.R_slice HP.out; subst eP))
  go_loopg [3, 13] ys.length (fun gg v3 v13 wr => ∃ (x : Int) (acc rest : List Int), v13 = .int .i64 x ∧ Aside0 (0 ≤ x ∧ x ≤ (ys.length : Int)) ∧ Aside0 (ys.length - x.toNat ≤ gg) ∧ Aside0 (acc.length ≤ x.toNat) ∧ Aside0 (filterO (fun s => impl_MaximalSets.p l0 s) (ys.drop x.toNat) = some rest) ∧ Aside0 (acc ++ rest = r) ∧ Aside0 (Kd.R (Kd.int .i64) 3 wr w.heap.size (fun k_ => some k_ ≠ ((.slice AP ys.length cP : Value)).ownBlock) v3 acc) ∧ Aside0 (Kd.R (Kd.int .i64) 3 wr w.heap.size (fun k_ => some k_ ≠ (v3 : Value).ownBlock) (.slice AP ys.length cP) ys) ∧ Aside0 (Below w.heap.size w wr))
  case atStart => exact ⟨0, [], r, rfl, ⟨by omega⟩, ⟨by omega⟩, ⟨by simp⟩, ⟨HI.out⟩, ⟨rfl⟩, ⟨by (with_reducible repeat (first | apply Kd.R_alloc | apply Kd.R_drewN | apply Kd.R_drew)); exact HO.out⟩, ⟨by (with_reducible repeat (first | apply Kd.R_alloc | apply Kd.R_drewN | apply Kd.R_drew)); exact HP.out⟩, ⟨(by repeat (first | (with_reducible first | exact HB.out | apply below_alloc | apply pw_below_drewN | apply below_drew1) | exact HB.out))⟩⟩
  case round =>
   clear HI HO HP HB
   obtain ⟨x, acc, rest, rfl, HX, HG, HA, HI, HE, HO, HP, HB⟩ := hrel
   by_cases hlt : x < (ys.length : Int)
   ·have p1 : 0 ≤ x := HX.out.1
    have l1 : decide (x < (ys.length : Int)) = true := decide_eq_true hlt
    obtain ⟨ad, ea, hx⟩ := Kd.at_int ((Kd.R_reads' HP.out).2.2) x p1 hlt
    cases ea
    have hI := HI.out
    rw [int_drop ys x p1 hlt] at hI
    simp only [filterO] at hI
    obtain ⟨b, hgb, hI⟩ := Option.bind_eq_some_iff.1 hI
    obtain ⟨zs, hzs, hI⟩ := Option.bind_eq_some_iff.1 hI
    unfold impl_MaximalSets.p at hgb
    obtain ⟨tb, hA, hgb⟩ := Option.bind_eq_some_iff.1 hgb
    simp only [Option.some.injEq] at hgb
    subst hgb
    have HTA := Lib.hid hA
    have HZ := Lib.hid hzs
    have HK := Lib.hid hI
    have E1 := Lib.hid (wrap64_of (n := x + 1) (by omega) (by have := HYL.out; omega))
    have Q1 := aQ hlt
    clear HI hA hzs hI
    replace p1 := eq_true p1
    replace hlt := eq_true hlt
    go_wp2_with (first | ((with_reducible refine gate_dst (N := 5) rfl ?_); refine box_event ?hg (N := 5) ?hd (cs := #[.int .i64 0]) (t := 3) ?hr ?_; (case hd => rfl); (case hg => rfl); (case hr => first | (go_simp; done) | (go_simp; rfl)); intro gs hg w1_ hbox hb; have n_HO := aQ (Kd.R_below (Kd.R_elderB (by (with_reducible repeat (first | apply Kd.R_alloc | apply Kd.R_drewN | apply Kd.R_drew)); exact HO.out) gs (by rw [hg]; exact Nat.le_refl _)) hb); have n_HP := aQ (Kd.R_below (Kd.R_elderB (by (with_reducible repeat (first | apply Kd.R_alloc | apply Kd.R_drewN | apply Kd.R_drew)); exact HP.out) gs (by rw [hg]; exact Nat.le_refl _)) hb); have n_HB := aQ (below_step (by repeat (first | (with_reducible first | exact HB.out | apply below_alloc | apply pw_below_drewN | apply below_drew1) | exact HB.out)) hb); have GBS := aQ ((by rw [hg]; exact below_size (by repeat (first | (with_reducible first | exact HB.out | apply below_alloc | apply pw_below_drewN | apply below_drew1) | exact HB.out))) : w.heap.size ≤ gs); clear HO HP HB; have HO := n_HO; have HP := n_HP; have HB := n_HB; have BS := aQ hbox; clear n_HO n_HP n_HB; clear hb hbox hg; have zBS : w1_.cell? ⟨gs, 0, none⟩ = some (.int .i64 0) := (blk_cell BS.out 0).trans rfl; have fBS := blk_frozen BS.out 0))
    (with_reducible refine (ContainsFunc_walk (fun t => impl_MaximalSets.c (rd ys x) t) 178 _ EG.out _ _ l0 tb _ (Kd.C_below HR.out (by repeat (first | (with_reducible first | exact HB.out | apply below_alloc | apply pw_below_drewN | apply below_drew1 | refine below_set ?_ GBS.out) | exact HB.out))) HTA.out (fun W t_ b_ hb hg => calls_of_args (by simp) (MaximalSets1_walk (rd ys x) t_ b_ gs W (blk_below (g := gs) (o := .cells #[.int .i64 (rd ys x)] 3 (0, 0)) (by (with_reducible repeat (first | refine blk_drewN ?_ _ | refine blk_drew ?_ | refine blk_alloc ?_ _)); refine blk_put (cs := #[.int .i64 0]) ?_ 0 _ rfl; (with_reducible repeat (first | refine blk_drewN ?_ _ | refine blk_drew ?_ | refine blk_alloc ?_ _)); exact BS.out) hb) hg))).mono ?_)
    rintro e w9_ ⟨rfl, hb⟩
    have n_HO := aQ (Kd.R_below (Kd.R_mono (Kd.R_far (p := ⟨gs, 0, none⟩) (by (with_reducible repeat (first | apply Kd.R_alloc | apply Kd.R_drewN | apply Kd.R_drew)); exact HO.out) (fun k_ (hk : _ ∧ k_ ≠ gs) => hk.2) (.int .i64 (rd ys x))) (fun k_ (hk : _ ∧ k_ ≠ gs) => hk.1)) hb)
    have n_HP := aQ (Kd.R_below (Kd.R_mono (Kd.R_far (p := ⟨gs, 0, none⟩) (by (with_reducible repeat (first | apply Kd.R_alloc | apply Kd.R_drewN | apply Kd.R_drew)); exact HP.out) (fun k_ (hk : _ ∧ k_ ≠ gs) => hk.2) (.int .i64 (rd ys x))) (fun k_ (hk : _ ∧ k_ ≠ gs) => hk.1)) hb)
    have n_BS := aQ (blk_below (g := gs) (o := .cells #[.int .i64 (rd ys x)] 3 (0, 0)) (by (with_reducible repeat (first | refine blk_drewN ?_ _ | refine blk_drew ?_ | refine blk_alloc ?_ _)); refine blk_put (cs := #[.int .i64 0]) ?_ 0 _ rfl; (with_reducible repeat (first | refine blk_drewN ?_ _ | refine blk_drew ?_ | refine blk_alloc ?_ _)); exact BS.out) hb)
    have n_HB := aQ (below_step (by repeat (first | (with_reducible first | exact HB.out | apply below_alloc | apply pw_below_drewN | apply below_drew1 | refine below_set ?_ GBS.out) | exact HB.out)) hb)
    clear HO HP HB BS hb HTA zBS fBS
    have HO := n_HO
    have HP := n_HP
    have HB := n_HB
    have BS := n_BS
    clear n_HO n_HP n_HB n_BS
    have zBS : w9_.cell? ⟨gs, 0, none⟩ = some (.int .i64 (rd ys x)) := (blk_cell BS.out 0).trans rfl
    try clear hx
    have hc := HK.out
    clear HK
    cases tb with
    | false =>
     rw [if_pos (by decide)] at hc
     simp only [Option.some.injEq] at hc
     have HR2 := Lib.hid hc
     have HLM := aQ (show acc.length < 17592186044416 by have := HA.out; have := HX.out; have := Q1.out; have := HYL.out; omega)
     clear hc
     go_wp2_with (first | ((with_reducible refine gate_builtin (b := .append) (xs := #[.tmp 21, .tmp 23]) rfl ?_); at_builtin; refine Kd.R_append (Kd.int .i64) (w0 := w) w.heap.size rfl (.tmp 21) (.tmp 23) 22 3 (.int .i64 0) 8 rfl Try.underlying22 info3 rfl (by decide) (by omega) u3 acc (rd ys x) [.int .i64 (rd ys x)] (fun k_ => some k_ ≠ ((.slice (some ad) ys.length cP : Value)).ownBlock) (fun _ => False) rfl rfl ?aP (fun _ hk => hk.elim) ?aF ?aO ?aB ?aS ?aL ?_; (case aP => exact rfl); (case aB => exact (by repeat (first | (with_reducible first | exact HB.out | apply below_alloc | apply pw_below_drewN | apply below_drew1) | exact HB.out))); (case aF => exact (fun k_ hk => Kd.fresh' (Kd.R_lt (by (with_reducible repeat (first | apply Kd.R_alloc | apply Kd.R_drewN | apply Kd.R_drew)); exact HP.out)) k_ hk)); (case aO => exact (by (with_reducible repeat (first | apply Kd.R_alloc | apply Kd.R_drewN | apply Kd.R_drew)); exact HO.out)); (case aS => exact (below_size (by repeat (first | (with_reducible first | exact HB.out | apply below_alloc | apply pw_below_drewN | apply below_drew1) | exact HB.out)))); (case aL => have := HLM.out; omega); intro v8_ w8 ho hb hg hat; have n0_ := aQ (Kd.R_after (ok := (fun _ => True)) (by (with_reducible repeat (first | apply Kd.R_alloc | apply Kd.R_drewN | apply Kd.R_drew)); exact Kd.R_mono HP.out (fun _ hk => ⟨trivial, hk⟩)) hg hat); have n1_ := aQ hb; have n2_ := aQ ho; clear HB; clear HO; clear HP; have HP := aQ (Kd.R_mono n0_.out (fun _ hk => hk.2)); have HB := n1_; have HO := n2_; clear n0_ n1_ n2_; clear ho hb hg hat))
     go_roundg (ys.length - (x + 1).toNat)
     case measure => have := HG.out; have := HX.out; have := Q1.out; omega
     case rel =>
      refine ⟨x + 1, acc ++ [rd ys x], zs, by rw [E1.out], ⟨by have := HX.out; have := Q1.out; omega⟩, ⟨Nat.le_refl _⟩, ⟨by rw [List.length_append, List.length_singleton]; have := HA.out; have := HX.out; omega⟩, ⟨HZ.out⟩, ⟨by rw [List.append_assoc]; have h1 := HR2.out; have h2 := HE.out; rw [← h1] at h2; exact h2⟩, ⟨by (with_reducible repeat (first | apply Kd.R_alloc | apply Kd.R_drewN | apply Kd.R_drew)); exact HO.out⟩, ⟨by (with_reducible repeat (first | apply Kd.R_alloc | apply Kd.R_drewN | apply Kd.R_drew)); exact HP.out⟩, ⟨(by repeat (first | (with_reducible first | exact HB.out | apply below_alloc | apply pw_below_drewN | apply below_drew1) | exact HB.out))⟩⟩
    | true =>
     rw [if_neg (by decide)] at hc
     simp only [Option.some.injEq] at hc
     have HR2 := Lib.hid hc
     clear hc
     go_wp2
     go_roundg (ys.length - (x + 1).toNat)
     case measure => have := HG.out; have := HX.out; have := Q1.out; omega
     case rel =>
      refine ⟨x + 1, acc, zs, by rw [E1.out], ⟨by have := HX.out; have := Q1.out; omega⟩, ⟨Nat.le_refl _⟩, ⟨by have := HA.out; have := HX.out; omega⟩, ⟨HZ.out⟩, ⟨by have h1 := HR2.out; have h2 := HE.out; rw [← h1] at h2; exact h2⟩, ⟨by (with_reducible repeat (first | apply Kd.R_alloc | apply Kd.R_drewN | apply Kd.R_drew)); exact HO.out⟩, ⟨by (with_reducible repeat (first | apply Kd.R_alloc | apply Kd.R_drewN | apply Kd.R_drew)); exact HP.out⟩, ⟨(by repeat (first | (with_reducible first | exact HB.out | apply below_alloc | apply pw_below_drewN | apply below_drew1) | exact HB.out))⟩⟩
   ·have l1 : decide (x < (ys.length : Int)) = false := decide_eq_false hlt
    have hI := HI.out
    rw [int_drop_end ys x hlt] at hI
    simp only [filterO, Option.some.injEq] at hI
    have hE := HE.out
    rw [← hI, List.append_nil] at hE
    subst hE
    clear HI hI hlt HE
    go_wp2
    go_ret
    exact ⟨_, by first | rfl | (simp; done) | (simp [*]; done), by (with_reducible repeat (first | apply Kd.R_alloc | apply Kd.R_drewN | apply Kd.R_drew)); exact Kd.R_mono HO.out (fun _ _ => trivial), (by repeat (first | (with_reducible first | exact HB.out | apply below_alloc | apply pw_below_drewN | apply below_drew1) | exact HB.out))⟩
 ·have c4 := Bool.eq_false_iff.mpr c3
  subst c4
  clear c3
  rw [if_neg (by decide)] at h
  simp only [Option.some.injEq] at h
  subst h
  go_enter Try.func155, Try.ntmps155
  go_wp2_with (first | ((with_reducible refine gate_dst (N := 6) rfl ?_); refine Kd.R_lit (Kd.int .i64) _ 3 ?hg (N := 6) ?hd (xs := ([] : List Int)) (inner := []) (ok := fun _ => True) (okp := fun _ => True) ?hr ?hp (fun _ hk => hk) trivial (Below.refl _ _) (Nat.le_refl _) (by simp) ?_; (case hd => rfl); (case hg => rfl); (case hr => first | (go_simp; done) | (go_simp; rfl)); (case hp => exact (Reps.none _ _)); intro v9_ w2 ho3 hb hg_ hnew_; clear hg_ hnew_; have HO := aQ (Kd.R_lower ho3 (below_size (by repeat (first | (with_reducible first | exact HB.out | apply below_alloc | apply pw_below_drewN | apply below_drew1) | exact HB.out)))); replace HB := aQ (below_step (by repeat (first | (with_reducible first | exact HB.out | apply below_alloc | apply pw_below_drewN | apply below_drew1) | exact HB.out)) hb); clear hb ho3) | (go_at_call 177; (with_reducible refine (impl_areSets.calls k _ _ l0 false _ ?side1 ?side2 HT.out).mono ?_); (case side1 => repeat (first | exact (Kd.C_below HR.out (by repeat (first | (with_reducible first | exact HB.out | apply below_alloc | apply pw_below_drewN | apply below_drew1) | exact HB.out))) | (with_reducible refine Kd.C_alloc ?_ _) | (with_reducible refine Kd.C_drewN ?_ _) | (with_reducible refine Kd.C_drew ?_))); (case side2 => exact HC.out); rintro e w' ⟨rfl, ⟨nd, rfl⟩⟩))
  go_ret
  exact ⟨_, by first | rfl | (simp; done) | (simp [*]; done), Kd.R_nil _ _ _ _ _, (by repeat (first | (with_reducible first | exact HB.out | apply below_alloc | apply pw_below_drewN | apply below_drew1) | exact HB.out))⟩
end Go.Proofs.Ytagncnjllpebjaa.A
namespace Go.Proofs.Ytagncnjllpebjaa.A
open Go.RowKit Go.Proofs.YtagncnjllpebjaaW.PrintWords Go.Proofs.YtagncnjllpebjaaW.PrintLast Go.Proofs.YtagncnjllpebjaaW.PrintMore
attribute [local go_sem] max2_int min2_int max_two min_two max_three min_three max_four min_four   -- for this text's walks alone
set_option linter.unusedVariables false
set_option linter.unusedSimpArgs false

/-! ### impl_fromIndependent: function 105 -/
def impl_fromIndependent.f (k : Nat) (a0 : Int) (l1 : List Int) : Option (Int × List Int × Bool) := (impl_MaximalSets.f k l1).bind fun t106002 => ((impl_IsMatroid.f k a0 t106002).bind fun t106006 => (if t106006 = true then (some (a0, t106002, true)) else (some (0, ([] : List Int), false))))
theorem impl_fromIndependent.mono : ∀ a0 a1 k, LeO (impl_fromIndependent.f k a0 a1) (impl_fromIndependent.f (k + 1) a0 a1) := by
 intro a0 a1 k
 unfold impl_fromIndependent.f
 repeat' first
   | (with_reducible exact impl_IsMatroid.mono _ _ _)
   | (with_reducible exact impl_MaximalSets.mono _ _)
   | (with_reducible exact LeO.refl _)
   | (with_reducible exact LeO.none _)
   | (with_reducible refine LeO.ite ?_ ?_)
   | (with_reducible refine LeO.bind ?_ (fun _ => ?_))
   | exact impl_IsMatroid.mono _ _ _
   | exact impl_MaximalSets.mono _ _
   | exact LeO.none _
   | refine LeO.ite ?_ ?_
   | refine LeO.bind ?_ (fun _ => ?_)
set_option maxHeartbeats 8000000 in
set_option maxRecDepth 100000 in
theorem impl_fromIndependent.calls (k : Nat) (a0 : Int) (A1 : Option Addr) (c1 : Nat) (l1 : List Int) (r1 : Int) (r2 : List Int) (r3 : Bool) (w : World) (hr1 : Kd.C (Kd.int .i64) w A1 l1.length l1) (hc1 : l1.length ≤ c1) (h : impl_fromIndependent.f k a0 l1 = some (r1, r2, r3)) :
  Calls Try.prog 105 #[.int .i64 a0, .slice A1 l1.length c1] w fun e w' => ∃ v1_ : Value, e = .returned (.tuple #[.agg #[.int .i64 r1, v1_], .bool r3]) ∧ Kd.R (Kd.int .i64) 3 w' w.heap.size (fun _ => True) v1_ r2 ∧ Below w.heap.size w w' := by
 have hu26 := Try.underlying26
 have HR1 := aQ hr1
 have HC1 := aQ hc1
 clear hr1 hc1
 have HB := aQ (Below.refl w.heap.size w)
 have H : ((impl_MaximalSets.f k l1).bind fun t106002 => ((impl_IsMatroid.f k a0 t106002).bind fun t106006 => (if t106006 = true then (some (a0, t106002, true)) else (some (0, ([] : List Int), false))))) = some (r1, r2, r3) := h
 clear h
 replace H := Option.bind_eq_some_iff.mp H
 obtain ⟨t106002, A30, H⟩ := H
 replace H : ((impl_IsMatroid.f k a0 t106002).bind fun t106006 => (if t106006 = true then (some (a0, t106002, true)) else (some (0, ([] : List Int), false)))) = some (r1, r2, r3) := H
 have A3 := aQ A30
 clear A30
 replace H := Option.bind_eq_some_iff.mp H
 obtain ⟨t106006, A40, H⟩ := H
 replace H : (if t106006 = true then (some (a0, t106002, true)) else (some (0, ([] : List Int), false))) = some (r1, r2, r3) := H
 have A4 := aQ A40
 clear A40
 by_cases c5 : t106006 = true
 ·subst c5
  have H1 : (some (a0, t106002, true)) = some (r1, r2, r3) := by rw [if_pos rfl] at H; exact H
  clear H
  have H := H1
  clear H1
  simp only [Option.some.injEq, Prod.mk.injEq] at H
  obtain ⟨rfl, rfl, rfl⟩ := H
  go_enter Try.func105, Try.ntmps105
  go_wp2_with (first | ((with_reducible refine gate_dst (N := 4) rfl ?_); refine box_event ?hg (N := 4) ?hd (cs := #[.int .i64 0, .slice none 0 0]) (t := 26) ?hr ?_; (case hd => rfl); (case hg => rfl); (case hr => first | (go_simp; done) | (go_simp; rfl)); intro gb106001 hg w6 hbox hb; have BK106001 := aQ (hbox); have GW106001 := aQ ((by rw [hg]; exact (below_size (by repeat (first | (with_reducible first | exact HB.out | apply below_alloc | apply pw_below_drewN | apply below_drew1) | exact HB.out))) : w.heap.size ≤ gb106001)); have GE106001 := aQ ((by rw [hg]; exact (below_size (by repeat (first | (with_reducible first | exact HB.out | apply below_alloc | apply pw_below_drewN | apply below_drew1) | exact HB.out))) : w.heap.size ≤ gb106001)); replace HB := aQ (below_step (by repeat (first | (with_reducible first | exact HB.out | apply below_alloc | apply pw_below_drewN | apply below_drew1) | exact HB.out)) hb); clear hb hbox hg) | ((with_reducible refine gate_callee (f := 155) rfl ?_); refine goesL_ (some 9) rfl rfl Try.func155 (by kernel_rfl) rfl #[.slice A1 l1.length c1] rfl (by (try simp only [List.map_toArray, List.map_cons, List.map_nil]); first | done | rfl | (simp only [List.length_drop, List.length_take]; rfl)) ?_; (with_reducible refine (impl_MaximalSets.calls k _ _ l1 t106002 _ ?side1 ?side2 A3.out).mono ?_); (case side1 => repeat (first | exact (Kd.C_below HR1.out HB.out) | (with_reducible refine Kd.C_alloc ?_ _) | (with_reducible refine Kd.C_drewN ?_ _) | (with_reducible refine Kd.C_drew ?_))); (case side2 => exact HC1.out); rintro e w7 ⟨v106003, rfl, ho0, hb⟩; refine ⟨_, rfl, ?_⟩; have HO106004 := aQ (Kd.R_lower ho0 (below_size (by repeat (first | (with_reducible first | exact HB.out | apply below_alloc | apply pw_below_drewN | apply below_drew1 | refine below_set ?_ GE106001.out) | exact HB.out)))); replace BK106001 := aQ (blk_below (g := gb106001) (o := .cells #[.int .i64 0, .slice none 0 0] 26 (0, 0)) (by (with_reducible repeat (first | refine blk_drewN ?_ _ | refine blk_drew ?_ | refine blk_alloc ?_ _)); exact BK106001.out) hb); replace HB := aQ (below_step (by repeat (first | (with_reducible first | exact HB.out | apply below_alloc | apply pw_below_drewN | apply below_drew1 | refine below_set ?_ GE106001.out) | exact HB.out)) hb); (try clear hb); (try clear hb2); (try clear hk); (try clear hi); (try clear ho0); obtain ⟨Ao8, co8, eo8⟩ := Kd.R_slice HO106004.out; subst eo8) | ((with_reducible refine gate_dst (N := 6) rfl ?_); refine box_event ?hg (N := 6) ?hd (cs := #[.int .i64 0, .slice none 0 0]) (t := 26) ?hr ?_; (case hd => rfl); (case hg => rfl); (case hr => first | (go_simp; done) | (go_simp; rfl)); intro gb106005 hg w9 hbox hb; replace HO106004 := aQ (Kd.R_below (by (with_reducible repeat (first | apply Kd.R_alloc | apply Kd.R_drewN | apply Kd.R_drew)); exact HO106004.out) hb); have BK106005 := aQ (hbox); have GW106005 := aQ ((by rw [hg]; exact (below_size (by repeat (first | (with_reducible first | exact HB.out | apply below_alloc | apply pw_below_drewN | apply below_drew1 | refine below_set ?_ GE106001.out) | exact HB.out))) : w.heap.size ≤ gb106005)); have GE106005 := aQ ((by rw [hg]; exact (below_size (by repeat (first | (with_reducible first | exact HB.out | apply below_alloc | apply pw_below_drewN | apply below_drew1 | refine below_set ?_ GE106001.out) | exact HB.out))) : w.heap.size ≤ gb106005)); replace HB := aQ (below_step (by repeat (first | (with_reducible first | exact HB.out | apply below_alloc | apply pw_below_drewN | apply below_drew1 | refine below_set ?_ GE106001.out) | exact HB.out)) hb); have NB106001_106005 := aQ ((by rw [hg]; exact Nat.ne_of_lt (blk_lt (g := gb106001) (o := .cells #[.int .i64 0, .slice none 0 0] 26 (0, 0)) (by (with_reducible repeat (first | refine blk_drewN ?_ _ | refine blk_drew ?_ | refine blk_alloc ?_ _)); exact BK106001.out)) : gb106001 ≠ gb106005)); have NB106005_106001 := aQ ((by rw [hg]; exact Nat.ne_of_gt (blk_lt (g := gb106001) (o := .cells #[.int .i64 0, .slice none 0 0] 26 (0, 0)) (by (with_reducible repeat (first | refine blk_drewN ?_ _ | refine blk_drew ?_ | refine blk_alloc ?_ _)); exact BK106001.out)) : gb106005 ≠ gb106001)); replace BK106001 := aQ (blk_below (g := gb106001) (o := .cells #[.int .i64 0, .slice none 0 0] 26 (0, 0)) (by (with_reducible repeat (first | refine blk_drewN ?_ _ | refine blk_drew ?_ | refine blk_alloc ?_ _)); exact BK106001.out) hb); clear hb hbox hg; have hnb10 := NB106005_106001.out; have hnc10 := NB106001_106005.out; have hcz11_0 : w9.cell? ⟨gb106005, 0, none⟩ = some (.int .i64 0) := (blk_cell BK106005.out 0).trans rfl; have hcz11_1 : w9.cell? ⟨gb106005, 1, none⟩ = some (.slice none 0 0) := (blk_cell BK106005.out 1).trans rfl; have hfz11_0 := blk_frozen BK106005.out 0; have hfz11_1 := blk_frozen BK106005.out 1) | ((with_reducible refine gate_callee (f := 60) rfl ?_); refine goesL_ (some 12) rfl rfl Try.func60 (by kernel_rfl) rfl #[.agg #[.int .i64 a0, .slice Ao8 t106002.length co8]] rfl (by (try simp only [List.map_toArray, List.map_cons, List.map_nil]); first | done | rfl | (simp only [List.length_drop, List.length_take]; rfl)) ?_; (with_reducible refine (impl_IsMatroid.calls k a0 _ _ t106002 true _ ?side1 ?side2 A4.out).mono ?_); (case side1 => refine (Kd.R_reads' (e := 3) (base := w.heap.size) (ok := fun k_ => True) (n := t106002.length) (c := co8) ?_).2.2; exact (by (with_reducible repeat (first | apply Kd.R_alloc | apply Kd.R_drewN | apply Kd.R_drew)); exact (Kd.R_mono (Kd.R_far (p := ⟨gb106005, 1, none⟩) (Kd.R_far (p := ⟨gb106005, 0, none⟩) (Kd.R_types HO106004.out BK106005.out (by decide)) (fun _ hk => hk.2) (.int .i64 a0)) (fun _ hk => hk.2) (.slice Ao8 t106002.length co8)) (fun _ h_ => h_.1)))); (case side2 => exact (Kd.R_reads' HO106004.out).2.1); rintro e w12 ⟨rfl, hb⟩; refine ⟨_, rfl, ?_⟩; replace HO106004 := aQ (Kd.R_below (by (with_reducible repeat (first | apply Kd.R_alloc | apply Kd.R_drewN | apply Kd.R_drew)); exact (Kd.R_mono (Kd.R_far (p := ⟨gb106005, 1, none⟩) (Kd.R_far (p := ⟨gb106005, 0, none⟩) (Kd.R_types HO106004.out BK106005.out (by decide)) (fun _ hk => hk.2) (.int .i64 a0)) (fun _ hk => hk.2) (.slice Ao8 t106002.length co8)) (fun _ h_ => h_.1))) hb); replace BK106001 := aQ (blk_below (g := gb106001) (o := .cells #[.int .i64 0, .slice none 0 0] 26 (0, 0)) (by (with_reducible repeat (first | refine blk_drewN ?_ _ | refine blk_drew ?_ | refine blk_alloc ?_ _)); refine blk_far ?_ NB106001_106005.out _; (with_reducible repeat (first | refine blk_drewN ?_ _ | refine blk_drew ?_ | refine blk_alloc ?_ _)); refine blk_far ?_ NB106001_106005.out _; (with_reducible repeat (first | refine blk_drewN ?_ _ | refine blk_drew ?_ | refine blk_alloc ?_ _)); exact BK106001.out) hb); replace BK106005 := aQ (blk_below (g := gb106005) (o := .cells #[.int .i64 a0, .slice Ao8 t106002.length co8] 26 (0, 0)) (by (with_reducible repeat (first | refine blk_drewN ?_ _ | refine blk_drew ?_ | refine blk_alloc ?_ _)); refine blk_put (cs := #[.int .i64 a0, .slice none 0 0]) ?_ 1 _ rfl; (with_reducible repeat (first | refine blk_drewN ?_ _ | refine blk_drew ?_ | refine blk_alloc ?_ _)); refine blk_put (cs := #[.int .i64 0, .slice none 0 0]) ?_ 0 _ rfl; (with_reducible repeat (first | refine blk_drewN ?_ _ | refine blk_drew ?_ | refine blk_alloc ?_ _)); exact BK106005.out) hb); replace HB := aQ (below_step (by repeat (first | (with_reducible first | exact HB.out | apply below_alloc | apply pw_below_drewN | apply below_drew1 | refine below_set ?_ GE106001.out | refine below_set ?_ GE106005.out) | exact HB.out)) hb); (try clear hb); (try clear hb2); (try clear hk); (try clear hi); have hcz13_0 : w12.cell? ⟨gb106005, 0, none⟩ = some (.int .i64 a0) := (blk_cell BK106005.out 0).trans rfl; have hcz13_1 : w12.cell? ⟨gb106005, 1, none⟩ = some (.slice Ao8 t106002.length co8) := (blk_cell BK106005.out 1).trans rfl; have hfz13_0 := blk_frozen BK106005.out 0; have hfz13_1 := blk_frozen BK106005.out 1; have hcz14_0 : w12.cell? ⟨gb106001, 0, none⟩ = some (.int .i64 0) := (blk_cell BK106001.out 0).trans rfl; have hcz14_1 : w12.cell? ⟨gb106001, 1, none⟩ = some (.slice none 0 0) := (blk_cell BK106001.out 1).trans rfl; have hfz14_0 := blk_frozen BK106001.out 0; have hfz14_1 := blk_frozen BK106001.out 1))
  refine bodyPost_ret (results_ct rfl _ _ gb106001 26 #[.int .i64 a0, .slice Ao8 t106002.length co8] (0, 0) _ rfl (by (with_reducible repeat (first | refine blk_drewN ?_ _ | refine blk_drew ?_ | refine blk_alloc ?_ _)); refine blk_put (cs := #[.int .i64 a0, .slice none 0 0]) ?_ 1 _ rfl; (with_reducible repeat (first | refine blk_drewN ?_ _ | refine blk_drew ?_ | refine blk_alloc ?_ _)); refine blk_put (cs := #[.int .i64 0, .slice none 0 0]) ?_ 0 _ rfl; (with_reducible repeat (first | refine blk_drewN ?_ _ | refine blk_drew ?_ | refine blk_alloc ?_ _)); exact BK106001.out) Try.underlying26 rfl (by kernel_rfl)) rfl ?_
  exact ⟨_, by first | rfl | (simp [errW_none, errW_some] <;> rfl) | (simp [*, errW_none, errW_some] <;> rfl), by (with_reducible repeat (first | apply Kd.R_alloc | apply Kd.R_drewN | apply Kd.R_drew)); exact Kd.R_mono (Kd.R_far (p := ⟨gb106001, 1, none⟩) (Kd.R_far (p := ⟨gb106001, 0, none⟩) (Kd.R_types HO106004.out BK106001.out (by decide)) (fun _ hk => hk.2) (.int .i64 a0)) (fun _ hk => hk.2) (.slice Ao8 t106002.length co8)) (fun _ hk => trivial), by repeat (first | (with_reducible first | exact HB.out | apply below_alloc | apply pw_below_drewN | apply below_drew1 | refine below_set ?_ GE106001.out | refine below_set ?_ GE106005.out) | exact HB.out)⟩
 ·replace c5 := Bool.eq_false_iff.mpr c5
  subst c5
  have H1 : (some (0, ([] : List Int), false)) = some (r1, r2, r3) := by rw [if_neg (show ¬ (false = true) by decide)] at H; exact H
  clear H
  have H := H1
  clear H1
  simp only [Option.some.injEq, Prod.mk.injEq] at H
  obtain ⟨rfl, rfl, rfl⟩ := H
  go_enter Try.func105, Try.ntmps105
  go_wp2_with (first | ((with_reducible refine gate_dst (N := 4) rfl ?_); refine box_event ?hg (N := 4) ?hd (cs := #[.int .i64 0, .slice none 0 0]) (t := 26) ?hr ?_; (case hd => rfl); (case hg => rfl); (case hr => first | (go_simp; done) | (go_simp; rfl)); intro gb106001 hg w15 hbox hb; have BK106001 := aQ (hbox); have GW106001 := aQ ((by rw [hg]; exact (below_size (by repeat (first | (with_reducible first | exact HB.out | apply below_alloc | apply pw_below_drewN | apply below_drew1) | exact HB.out))) : w.heap.size ≤ gb106001)); have GE106001 := aQ ((by rw [hg]; exact (below_size (by repeat (first | (with_reducible first | exact HB.out | apply below_alloc | apply pw_below_drewN | apply below_drew1) | exact HB.out))) : w.heap.size ≤ gb106001)); replace HB := aQ (below_step (by repeat (first | (with_reducible first | exact HB.out | apply below_alloc | apply pw_below_drewN | apply below_drew1) | exact HB.out)) hb); clear hb hbox hg) | ((with_reducible refine gate_callee (f := 155) rfl ?_); refine goesL_ (some 9) rfl rfl Try.func155 (by kernel_rfl) rfl #[.slice A1 l1.length c1] rfl (by (try simp only [List.map_toArray, List.map_cons, List.map_nil]); first | done | rfl | (simp only [List.length_drop, List.length_take]; rfl)) ?_; (with_reducible refine (impl_MaximalSets.calls k _ _ l1 t106002 _ ?side1 ?side2 A3.out).mono ?_); (case side1 => repeat (first | exact (Kd.C_below HR1.out HB.out) | (with_reducible refine Kd.C_alloc ?_ _) | (with_reducible refine Kd.C_drewN ?_ _) | (with_reducible refine Kd.C_drew ?_))); (case side2 => exact HC1.out); rintro e w16 ⟨v106003, rfl, ho0, hb⟩; refine ⟨_, rfl, ?_⟩; have HO106004 := aQ (Kd.R_lower ho0 (below_size (by repeat (first | (with_reducible first | exact HB.out | apply below_alloc | apply pw_below_drewN | apply below_drew1 | refine below_set ?_ GE106001.out) | exact HB.out)))); replace BK106001 := aQ (blk_below (g := gb106001) (o := .cells #[.int .i64 0, .slice none 0 0] 26 (0, 0)) (by (with_reducible repeat (first | refine blk_drewN ?_ _ | refine blk_drew ?_ | refine blk_alloc ?_ _)); exact BK106001.out) hb); replace HB := aQ (below_step (by repeat (first | (with_reducible first | exact HB.out | apply below_alloc | apply pw_below_drewN | apply below_drew1 | refine below_set ?_ GE106001.out) | exact HB.out)) hb); (try clear hb); (try clear hb2); (try clear hk); (try clear hi); (try clear ho0); obtain ⟨Ao17, co17, eo17⟩ := Kd.R_slice HO106004.out; subst eo17) | ((with_reducible refine gate_dst (N := 6) rfl ?_); refine box_event ?hg (N := 6) ?hd (cs := #[.int .i64 0, .slice none 0 0]) (t := 26) ?hr ?_; (case hd => rfl); (case hg => rfl); (case hr => first | (go_simp; done) | (go_simp; rfl)); intro gb106005 hg w18 hbox hb; replace HO106004 := aQ (Kd.R_below (by (with_reducible repeat (first | apply Kd.R_alloc | apply Kd.R_drewN | apply Kd.R_drew)); exact HO106004.out) hb); have BK106005 := aQ (hbox); have GW106005 := aQ ((by rw [hg]; exact (below_size (by repeat (first | (with_reducible first | exact HB.out | apply below_alloc | apply pw_below_drewN | apply below_drew1 | refine below_set ?_ GE106001.out) | exact HB.out))) : w.heap.size ≤ gb106005)); have GE106005 := aQ ((by rw [hg]; exact (below_size (by repeat (first | (with_reducible first | exact HB.out | apply below_alloc | apply pw_below_drewN | apply below_drew1 | refine below_set ?_ GE106001.out) | exact HB.out))) : w.heap.size ≤ gb106005)); replace HB := aQ (below_step (by repeat (first | (with_reducible first | exact HB.out | apply below_alloc | apply pw_below_drewN | apply below_drew1 | refine below_set ?_ GE106001.out) | exact HB.out)) hb); have NB106001_106005 := aQ ((by rw [hg]; exact Nat.ne_of_lt (blk_lt (g := gb106001) (o := .cells #[.int .i64 0, .slice none 0 0] 26 (0, 0)) (by (with_reducible repeat (first | refine blk_drewN ?_ _ | refine blk_drew ?_ | refine blk_alloc ?_ _)); exact BK106001.out)) : gb106001 ≠ gb106005)); have NB106005_106001 := aQ ((by rw [hg]; exact Nat.ne_of_gt (blk_lt (g := gb106001) (o := .cells #[.int .i64 0, .slice none 0 0] 26 (0, 0)) (by (with_reducible repeat (first | refine blk_drewN ?_ _ | refine blk_drew ?_ | refine blk_alloc ?_ _)); exact BK106001.out)) : gb106005 ≠ gb106001)); replace BK106001 := aQ (blk_below (g := gb106001) (o := .cells #[.int .i64 0, .slice none 0 0] 26 (0, 0)) (by (with_reducible repeat (first | refine blk_drewN ?_ _ | refine blk_drew ?_ | refine blk_alloc ?_ _)); exact BK106001.out) hb); clear hb hbox hg; have hnb19 := NB106005_106001.out; have hnc19 := NB106001_106005.out; have hcz20_0 : w18.cell? ⟨gb106005, 0, none⟩ = some (.int .i64 0) := (blk_cell BK106005.out 0).trans rfl; have hcz20_1 : w18.cell? ⟨gb106005, 1, none⟩ = some (.slice none 0 0) := (blk_cell BK106005.out 1).trans rfl; have hfz20_0 := blk_frozen BK106005.out 0; have hfz20_1 := blk_frozen BK106005.out 1) | ((with_reducible refine gate_callee (f := 60) rfl ?_); refine goesL_ (some 12) rfl rfl Try.func60 (by kernel_rfl) rfl #[.agg #[.int .i64 a0, .slice Ao17 t106002.length co17]] rfl (by (try simp only [List.map_toArray, List.map_cons, List.map_nil]); first | done | rfl | (simp only [List.length_drop, List.length_take]; rfl)) ?_; (with_reducible refine (impl_IsMatroid.calls k a0 _ _ t106002 false _ ?side1 ?side2 A4.out).mono ?_); (case side1 => refine (Kd.R_reads' (e := 3) (base := w.heap.size) (ok := fun k_ => True) (n := t106002.length) (c := co17) ?_).2.2; exact (by (with_reducible repeat (first | apply Kd.R_alloc | apply Kd.R_drewN | apply Kd.R_drew)); exact (Kd.R_mono (Kd.R_far (p := ⟨gb106005, 1, none⟩) (Kd.R_far (p := ⟨gb106005, 0, none⟩) (Kd.R_types HO106004.out BK106005.out (by decide)) (fun _ hk => hk.2) (.int .i64 a0)) (fun _ hk => hk.2) (.slice Ao17 t106002.length co17)) (fun _ h_ => h_.1)))); (case side2 => exact (Kd.R_reads' HO106004.out).2.1); rintro e w21 ⟨rfl, hb⟩; refine ⟨_, rfl, ?_⟩; replace HO106004 := aQ (Kd.R_below (by (with_reducible repeat (first | apply Kd.R_alloc | apply Kd.R_drewN | apply Kd.R_drew)); exact (Kd.R_mono (Kd.R_far (p := ⟨gb106005, 1, none⟩) (Kd.R_far (p := ⟨gb106005, 0, none⟩) (Kd.R_types HO106004.out BK106005.out (by decide)) (fun _ hk => hk.2) (.int .i64 a0)) (fun _ hk => hk.2) (.slice Ao17 t106002.length co17)) (fun _ h_ => h_.1))) hb); replace BK106001 := aQ (blk_below (g := gb106001) (o := .cells #[.int .i64 0, .slice none 0 0] 26 (0, 0)) (by (with_reducible repeat (first | refine blk_drewN ?_ _ | refine blk_drew ?_ | refine blk_alloc ?_ _)); refine blk_far ?_ NB106001_106005.out _; (with_reducible repeat (first | refine blk_drewN ?_ _ | refine blk_drew ?_ | refine blk_alloc ?_ _)); refine blk_far ?_ NB106001_106005.out _; (with_reducible repeat (first | refine blk_drewN ?_ _ | refine blk_drew ?_ | refine blk_alloc ?_ _)); exact BK106001.out) hb); replace BK106005 := aQ (blk_below (g := gb106005) (o := .cells #[.int .i64 a0, .slice Ao17 t106002.length co17] 26 (0, 0)) (by (with_reducible repeat (first | refine blk_drewN ?_ _ | refine blk_drew ?_ | refine blk_alloc ?_ _)); refine blk_put (cs := #[.int .i64 a0, .slice none 0 0]) ?_ 1 _ rfl; (with_reducible repeat (first | refine blk_drewN ?_ _ | refine blk_drew ?_ | refine blk_alloc ?_ _)); refine blk_put (cs := #[.int .i64 0, .slice none 0 0]) ?_ 0 _ rfl; (with_reducible repeat (first | refine blk_drewN ?_ _ | refine blk_drew ?_ | refine blk_alloc ?_ _)); exact BK106005.out) hb); replace HB := aQ (below_step (by repeat (first | (with_reducible first | exact HB.out | apply below_alloc | apply pw_below_drewN | apply below_drew1 | refine below_set ?_ GE106001.out | refine below_set ?_ GE106005.out) | exact HB.out)) hb); (try clear hb); (try clear hb2); (try clear hk); (try clear hi); have hcz22_0 : w21.cell? ⟨gb106001, 0, none⟩ = some (.int .i64 0) := (blk_cell BK106001.out 0).trans rfl; have hcz22_1 : w21.cell? ⟨gb106001, 1, none⟩ = some (.slice none 0 0) := (blk_cell BK106001.out 1).trans rfl; have hfz22_0 := blk_frozen BK106001.out 0; have hfz22_1 := blk_frozen BK106001.out 1))
  refine bodyPost_ret (results_ct rfl _ _ gb106001 26 #[.int .i64 0, .slice none 0 0] (0, 0) _ rfl (by (with_reducible repeat (first | refine blk_drewN ?_ _ | refine blk_drew ?_ | refine blk_alloc ?_ _)); refine blk_put (cs := #[.int .i64 0, .slice none 0 0]) ?_ 1 _ rfl; (with_reducible repeat (first | refine blk_drewN ?_ _ | refine blk_drew ?_ | refine blk_alloc ?_ _)); refine blk_put (cs := #[.int .i64 0, .slice none 0 0]) ?_ 0 _ rfl; (with_reducible repeat (first | refine blk_drewN ?_ _ | refine blk_drew ?_ | refine blk_alloc ?_ _)); exact BK106001.out) Try.underlying26 rfl (by kernel_rfl)) rfl ?_
  exact ⟨_, by first | rfl | (simp [errW_none, errW_some] <;> rfl) | (simp [*, errW_none, errW_some] <;> rfl), by first | exact Kd.R_nil _ _ _ _ _ | exact Kd.N_nil _ _ _ _ _ | exact Kd.V_nil _ _ _ _ _ | exact Kd.Q_nil _ _ _ _ _ | exact Kd.S_nil _ _ _ _ _, by repeat (first | (with_reducible first | exact HB.out | apply below_alloc | apply pw_below_drewN | apply below_drew1 | refine below_set ?_ GE106001.out | refine below_set ?_ GE106005.out) | exact HB.out)⟩
/-! ### impl_assign: function 157 -/
mutual
def impl_assign.l0 : Nat → List Int → List Int → List Int → List Int → Int → Int → Option (List Int × Bool)
 | 0, _, _, _, _, _, _ => none
 | k + 1, x0, x1, x2, x18, x19, x20 => if x20 < x19 then (if 0 ≤ x20 then (if x20 < (x18.length : Int) then ((slices_Contains_int_int.f k x2 x20).bind fun t158002 => (if t158002 = true then (impl_assign.j1 k x0 x1 x2 x20 x18 x19 x20 true) else (if 0 ≤ (x2.length : Int) then (if (x2.length : Int) < (x1.length : Int) then ((impl_HasElement.f (rd x18 x20) (rd x1 (x2.length : Int))).bind fun t158004 => (impl_assign.j1 k x0 x1 x2 x20 x18 x19 x20 (!t158004))) else (none)) else (none)))) else (none)) else (none)) else (some (([] : List Int), false))
def impl_assign.j1 : Nat → List Int → List Int → List Int → Int → List Int → Int → Int → Bool → Option (List Int × Bool)
 | 0, _, _, _, _, _, _, _, _ => none
 | k + 1, x0, x1, x2, x8, x18, x19, x20, x37 => if x37 = true then (impl_assign.l0 k x0 x1 x2 x18 x19 (wrap64 (x20 + 1))) else ((some (([] : List Int) : List Int)).bind fun y158005 => (if y158005.length + x2.length < 17592186044416 then ((some (y158005 ++ x2 : List Int)).bind fun y158008 => (if y158008.length < 17592186044416 then ((impl_assign.f k x0 x1 (y158008 ++ [x8])).bind fun bt158014 => (if bt158014.2 = true then (some (bt158014.1, true)) else (impl_assign.l0 k x0 x1 x2 x18 x19 (wrap64 (x20 + 1))))) else (none))) else (none)))
def impl_assign.f : Nat → List Int → List Int → List Int → Option (List Int × Bool)
 | 0, _, _, _ => none
 | k + 1, l0, l1, l2 => if (l2.length : Int) = (l1.length : Int) then (some (l2, true)) else (impl_assign.l0 k l0 l1 l2 l0 (l0.length : Int) 0)
end
theorem impl_assign.mono_l : ∀ k, (∀ y0 y1 y2, LeO (impl_assign.f k y0 y1 y2) (impl_assign.f (k + 1) y0 y1 y2)) ∧ (∀ y0 y1 y2 y3 y4 y5, LeO (impl_assign.l0 k y0 y1 y2 y3 y4 y5) (impl_assign.l0 (k + 1) y0 y1 y2 y3 y4 y5)) ∧ (∀ y0 y1 y2 y3 y4 y5 y6 y7, LeO (impl_assign.j1 k y0 y1 y2 y3 y4 y5 y6 y7) (impl_assign.j1 (k + 1) y0 y1 y2 y3 y4 y5 y6 y7))
 | 0 => ⟨fun _ _ _ r h => by simp [impl_assign.f] at h, fun _ _ _ _ _ _ r h => by simp [impl_assign.l0] at h, fun _ _ _ _ _ _ _ _ r h => by simp [impl_assign.j1] at h⟩
 | k + 1 => by
  obtain ⟨ih0, ih1, ih2⟩ := impl_assign.mono_l k
  refine ⟨?_, ?_, ?_⟩
  ·intro y0 y1 y2
   unfold impl_assign.f
   repeat' first
   | (with_reducible exact ih0 _ _ _)
   | (with_reducible exact ih1 _ _ _ _ _ _)
   | (with_reducible exact ih2 _ _ _ _ _ _ _ _)
   | (with_reducible exact slices_Contains_int_int.mono _ _ _)
   | (with_reducible exact LeO.refl _)
   | (with_reducible exact LeO.none _)
   | (with_reducible refine LeO.ite ?_ ?_)
   | (with_reducible refine LeO.bind ?_ (fun _ => ?_))
   | exact ih0 _ _ _
   | exact ih1 _ _ _ _ _ _
   | exact ih2 _ _ _ _ _ _ _ _
   | exact slices_Contains_int_int.mono _ _ _
   | exact LeO.none _
   | refine LeO.ite ?_ ?_
   | refine LeO.bind ?_ (fun _ => ?_)
  ·intro y0 y1 y2 y3 y4 y5
   unfold impl_assign.l0
   repeat' first
   | (with_reducible exact ih0 _ _ _)
   | (with_reducible exact ih1 _ _ _ _ _ _)
   | (with_reducible exact ih2 _ _ _ _ _ _ _ _)
   | (with_reducible exact slices_Contains_int_int.mono _ _ _)
   | (with_reducible exact LeO.refl _)
   | (with_reducible exact LeO.none _)
   | (with_reducible refine LeO.ite ?_ ?_)
   | (with_reducible refine LeO.bind ?_ (fun _ => ?_))
   | exact ih0 _ _ _
   | exact ih1 _ _ _ _ _ _
   | exact ih2 _ _ _ _ _ _ _ _
   | exact slices_Contains_int_int.mono _ _ _
   | exact LeO.none _
   | refine LeO.ite ?_ ?_
   | refine LeO.bind ?_ (fun _ => ?_)
  ·intro y0 y1 y2 y3 y4 y5 y6 y7
   unfold impl_assign.j1
   repeat' first
   | (with_reducible exact ih0 _ _ _)
   | (with_reducible exact ih1 _ _ _ _ _ _)
   | (with_reducible exact ih2 _ _ _ _ _ _ _ _)
   | (with_reducible exact slices_Contains_int_int.mono _ _ _)
   | (with_reducible exact LeO.refl _)
   | (with_reducible exact LeO.none _)
   | (with_reducible refine LeO.ite ?_ ?_)
   | (with_reducible refine LeO.bind ?_ (fun _ => ?_))
   | exact ih0 _ _ _
   | exact ih1 _ _ _ _ _ _
   | exact ih2 _ _ _ _ _ _ _ _
   | exact slices_Contains_int_int.mono _ _ _
   | exact LeO.none _
   | refine LeO.ite ?_ ?_
   | refine LeO.bind ?_ (fun _ => ?_)
theorem impl_assign.mono : ∀ a0 a1 a2 k, LeO (impl_assign.f k a0 a1 a2) (impl_assign.f (k + 1) a0 a1 a2) := by
 intro a0 a1 a2 k
 obtain ⟨ih0, ih1, ih2⟩ := impl_assign.mono_l k
 exact ih0 a0 a1 a2
set_option maxHeartbeats 8000000 in
set_option maxRecDepth 100000 in
theorem impl_assign.calls (k : Nat) : ∀ (A0 : Option Addr) (c0 : Nat) (l0 : List Int) (A1 : Option Addr) (c1 : Nat) (l1 : List Int) (P2_ : Nat → Prop) (u9000_ : Value) (l2 : List Int) (r1 : List Int) (r2 : Bool) (w0 w : World) (hB : Below w0.heap.size w0 w) (hr0 : ∀ W_, Kept w W_ (fun k_ => P2_ k_) → Kd.C (Kd.int .i64) W_ A0 l0.length l0) (hc0 : l0.length ≤ c0) (hr1 : ∀ W_, Kept w W_ (fun k_ => P2_ k_) → Kd.C (Kd.int .i64) W_ A1 l1.length l1) (hc1 : l1.length ≤ c1) (ho2 : Kd.R (Kd.int .i64) 3 w w0.heap.size P2_ u9000_ l2) (h : impl_assign.f k l0 l1 l2 = some (r1, r2)),
  Calls Try.prog 157 #[.slice A0 l0.length c0, .slice A1 l1.length c1, u9000_] w fun e w' => ∃ v0_ : Value, e = .returned (.tuple #[v0_, .bool r2]) ∧ Kd.R (Kd.int .i64) 3 w' w0.heap.size (fun k_ => (P2_ k_ ∨ w.heap.size ≤ k_)) v0_ r1 ∧ Below w0.heap.size w0 w' ∧ Kept w w' (fun k_ => P2_ k_) := by
 induction k using Nat.strongRecOn with
 | _ k ih =>
 intro A0 c0 l0 A1 c1 l1 P2_ u9000_ l2 r1 r2 w0 w hB hr0 hc0 hr1 hc1 ho2 h
 cases k with
 | zero => exact absurd h (by simp [impl_assign.f])
 | succ k =>
 simp only [impl_assign.f] at h
 have HR0 := aQ hr0
 have HC0 := aQ hc0
 clear hr0 hc0
 have HR1 := aQ hr1
 have HC1 := aQ hc1
 clear hr1 hc1
 have HO2 := aQ (show Kd.R (Kd.int .i64) 3 w w0.heap.size (fun k_ => (P2_ k_ ∨ w.heap.size ≤ k_)) u9000_ l2 from Kd.R_mono ho2 (fun k_ hk => (.inl hk)))
 have HK := aQ (Kept.refl w (fun k_ => P2_ k_))
 have HW0 := aQ hB.size
 have HB := aQ hB
 clear hB
 have H : (if (l2.length : Int) = (l1.length : Int) then (some (l2, true)) else (impl_assign.l0 k l0 l1 l2 l0 (l0.length : Int) 0)) = some (r1, r2) := h
 clear h
 by_cases c4 : (l2.length : Int) = (l1.length : Int)
 ·rw [if_pos c4] at H
  have c4b0 : ((l2.length : Int) == (l1.length : Int)) = true := beq_iff_eq.mpr c4
  have c4b1 : ((l2.length : Int) != (l1.length : Int)) = false := bne_eq_false_iff_eq.mpr c4
  have c4b2 : (l2.length == l1.length) = true := by first | simpa using c4 | (simp at c4 ⊢; omega)
  clear c4
  simp only [Option.some.injEq, Prod.mk.injEq] at H
  obtain ⟨rfl, rfl⟩ := H
  obtain ⟨Ao5, co5, eo5⟩ := Kd.R_slice HO2.out
  subst eo5
  go_enter Try.func157, Try.ntmps157
  go_wp2
  go_ret2
  exact ⟨_, by first | rfl | (simp [errW_none, errW_some] <;> rfl) | (simp [*, errW_none, errW_some] <;> rfl), by (with_reducible repeat (first | apply Kd.R_alloc | apply Kd.R_drewN | apply Kd.R_drew)); exact HO2.out, by repeat (first | (with_reducible first | exact HB.out | apply below_alloc | apply pw_below_drewN | apply below_drew1) | exact HB.out), by repeat (first | (with_reducible first | exact HK.out | apply Kept.alloc | apply Kept.drewN | apply Kept.drew) | exact HK.out)⟩
 ·rw [if_neg c4] at H
  have c4b0 : ((l2.length : Int) == (l1.length : Int)) = false := beq_eq_false_iff_ne.mpr c4
  have c4b1 : ((l2.length : Int) != (l1.length : Int)) = true := bne_iff_ne.mpr c4
  have c4b2 : (l2.length == l1.length) = false := by first | simpa using c4 | (simp at c4 ⊢; omega)
  have H' := aQ H
  clear H
  obtain ⟨Ao6, co6, eo6⟩ := Kd.R_slice HO2.out
  subst eo6
  go_enter Try.func157, Try.ntmps157
  go_wp2
  go_loopg [20] k (fun kq v20 w' => ∃ (x20_1 : Int), v20 = .int .i64 x20_1 ∧ Aside0 (impl_assign.l0 kq l0 l1 l2 l0 (l0.length : Int) x20_1 = some (r1, r2)) ∧ Aside0 (kq ≤ k) ∧ Aside0 (Kd.R (Kd.int .i64) 3 w' w0.heap.size (fun k_ => (P2_ k_ ∨ w.heap.size ≤ k_)) (.slice Ao6 l2.length co6) l2) ∧ Aside0 (Kept w w' (fun k_ => P2_ k_)) ∧ Aside0 (Below w0.heap.size w0 w'))
  case atStart => exact ⟨(0), (by first | rfl | (simp; done) | (simp [*]; done)), H', ⟨Nat.le_refl _⟩, ⟨by (with_reducible repeat (first | apply Kd.R_alloc | apply Kd.R_drewN | apply Kd.R_drew)); exact HO2.out⟩, ⟨by repeat (first | (with_reducible first | exact HK.out | apply Kept.alloc | apply Kept.drewN | apply Kept.drew) | exact HK.out)⟩, ⟨by repeat (first | (with_reducible first | exact HB.out | apply below_alloc | apply pw_below_drewN | apply below_drew1) | exact HB.out)⟩⟩
  case round =>
   clear H'
   try clear c1
   try clear p2
   try clear c4
   try clear c4b0
   try clear c4b1
   try clear c4b2
   obtain ⟨x20_1, rfl, HA, HK1, HO_2, HK, HB⟩ := hrel
   cases gk with
   | zero => exact absurd HA.out (by simp [impl_assign.l0])
   | succ k1 =>
    have H := HA.out
    clear HA
    simp only [impl_assign.l0] at H
    by_cases c7 : x20_1 < (l0.length : Int)
    ·rw [if_pos c7] at H
     have c7b0 : decide (x20_1 < (l0.length : Int)) = true := decide_eq_true c7
     clear c7
     by_cases c8 : 0 ≤ x20_1
     ·rw [if_pos c8] at H
      have c8b0 : decide (0 ≤ x20_1) = true := decide_eq_true c8
      clear c8
      by_cases c9 : x20_1 < (l0.length : Int)
      ·rw [if_pos c9] at H
       have c9b0 : decide (x20_1 < (l0.length : Int)) = true := decide_eq_true c9
       clear c9
       have HC10 := aQ H
       clear H
       have p158001 : 0 ≤ (x20_1 : Int) := of_decide_eq_true (by first | (with_reducible assumption) | assumption)
       have q158001 : x20_1 < (l0.length : Int) := of_decide_eq_true (by first | (with_reducible assumption) | assumption)
       obtain ⟨ad158001, e158001, hx158001_0⟩ := Kd.at_int (Kd.C_kept_now HR0.out HK.out) x20_1 p158001 q158001
       cases e158001
       replace p158001 := eq_true p158001
       replace q158001 := eq_true q158001
       go_upto_region 6 with (fail)
       go_cut [37] (fun v37 wc => ∃ (kq : Nat) (x37_9 : Bool), v37 = .bool x37_9 ∧ Aside0 (impl_assign.j1 kq l0 l1 l2 x20_1 l0 (l0.length : Int) x20_1 x37_9 = some (r1, r2)) ∧ Aside0 (kq ≤ k1) ∧ Aside0 (Kd.R (Kd.int .i64) 3 wc w0.heap.size (fun k_ => (P2_ k_ ∨ w.heap.size ≤ k_)) (.slice Ao6 l2.length co6) l2) ∧ Aside0 (Kept w wc (fun k_ => P2_ k_)) ∧ Aside0 (Below w0.heap.size w0 wc))
       case first =>
        have H := HC10.out
        clear HC10
        replace H := Option.bind_eq_some_iff.mp H
        obtain ⟨t158002, A110, H⟩ := H
        replace H : (if t158002 = true then (impl_assign.j1 k1 l0 l1 l2 x20_1 l0 (l0.length : Int) x20_1 true) else (if 0 ≤ (l2.length : Int) then (if (l2.length : Int) < (l1.length : Int) then ((impl_HasElement.f (rd l0 x20_1) (rd l1 (l2.length : Int))).bind fun t158004 => (impl_assign.j1 k1 l0 l1 l2 x20_1 l0 (l0.length : Int) x20_1 (!t158004))) else (none)) else (none))) = some (r1, r2) := H
        have A11 := aQ A110
        clear A110
        by_cases c12 : t158002 = true
        ·subst c12
         have H1 : (impl_assign.j1 k1 l0 l1 l2 x20_1 l0 (l0.length : Int) x20_1 true) = some (r1, r2) := by rw [if_pos rfl] at H; exact H
         clear H
         have H := H1
         clear H1
         have H' := aQ H
         clear H
         go_wp2_with (first | ((with_reducible refine gate_callee (f := 152) rfl ?_); refine goesL_ (some 27) rfl rfl Try.func152 (by kernel_rfl) rfl #[.slice Ao6 l2.length co6, .int .i64 x20_1] rfl (by (try simp only [List.map_toArray, List.map_cons, List.map_nil]); first | done | rfl | (simp only [List.length_drop, List.length_take]; rfl)) ?_; (with_reducible refine (slices_Contains_int_int.calls k1 _ _ l2 x20_1 true _ ?side1 ?side2 A11.out).mono ?_); (case side1 => repeat (first | exact (Kd.R_reads' HO_2.out).2.2 | (with_reducible refine Kd.C_alloc ?_ _) | (with_reducible refine Kd.C_drewN ?_ _) | (with_reducible refine Kd.C_drew ?_))); (case side2 => exact (Kd.R_reads' HO_2.out).2.1); rintro e w' ⟨rfl, ⟨nd, rfl⟩⟩; refine ⟨_, rfl, ?_⟩))
         go_meet
         case rel => exact ⟨_, (true), (by first | rfl | (simp; done) | (simp [*]; done)), H', ⟨by have := HK1.out; first | omega | exact Nat.le_refl _⟩, ⟨by (with_reducible repeat (first | apply Kd.R_alloc | apply Kd.R_drewN | apply Kd.R_drew)); exact HO_2.out⟩, ⟨by repeat (first | (with_reducible first | exact HK.out | apply Kept.alloc | apply Kept.drewN | apply Kept.drew) | exact HK.out)⟩, ⟨by repeat (first | (with_reducible first | exact HB.out | apply below_alloc | apply pw_below_drewN | apply below_drew1) | exact HB.out)⟩⟩
        ·replace c12 := Bool.eq_false_iff.mpr c12
         subst c12
         have H1 : (if 0 ≤ (l2.length : Int) then (if (l2.length : Int) < (l1.length : Int) then ((impl_HasElement.f (rd l0 x20_1) (rd l1 (l2.length : Int))).bind fun t158004 => (impl_assign.j1 k1 l0 l1 l2 x20_1 l0 (l0.length : Int) x20_1 (!t158004))) else (none)) else (none)) = some (r1, r2) := by rw [if_neg (show ¬ (false = true) by decide)] at H; exact H
         clear H
         have H := H1
         clear H1
         by_cases c13 : 0 ≤ (l2.length : Int)
         ·rw [if_pos c13] at H
          have c13b0 : decide (0 ≤ (l2.length : Int)) = true := decide_eq_true c13
          have c13b1 : decide (0 ≤ l2.length) = true := decide_eq_true (by omega)
          clear c13
          (first | rw [c13b0] | (simp only [i64_w, i32_w]; rw [c13b0]) | skip)
          by_cases c14 : (l2.length : Int) < (l1.length : Int)
          ·rw [if_pos c14] at H
           have c14b0 : decide ((l2.length : Int) < (l1.length : Int)) = true := decide_eq_true c14
           have c14b1 : decide (l2.length < l1.length) = true := decide_eq_true (Int.ofNat_lt.mp c14)
           clear c14
           replace H := Option.bind_eq_some_iff.mp H
           obtain ⟨t158004, A150, H⟩ := H
           replace H : (impl_assign.j1 k1 l0 l1 l2 x20_1 l0 (l0.length : Int) x20_1 (!t158004)) = some (r1, r2) := H
           have A15 := aQ A150
           clear A150
           have H' := aQ H
           clear H
           go_wp2_with (first | ((with_reducible refine gate_callee (f := 152) rfl ?_); refine goesL_ (some 27) rfl rfl Try.func152 (by kernel_rfl) rfl #[.slice Ao6 l2.length co6, .int .i64 x20_1] rfl (by (try simp only [List.map_toArray, List.map_cons, List.map_nil]); first | done | rfl | (simp only [List.length_drop, List.length_take]; rfl)) ?_; (with_reducible refine (slices_Contains_int_int.calls k1 _ _ l2 x20_1 false _ ?side1 ?side2 A11.out).mono ?_); (case side1 => repeat (first | exact (Kd.R_reads' HO_2.out).2.2 | (with_reducible refine Kd.C_alloc ?_ _) | (with_reducible refine Kd.C_drewN ?_ _) | (with_reducible refine Kd.C_drew ?_))); (case side2 => exact (Kd.R_reads' HO_2.out).2.1); rintro e w' ⟨rfl, ⟨nd, rfl⟩⟩; refine ⟨_, rfl, ?_⟩; have p158003 : 0 ≤ ((l2.length : Int) : Int) := of_decide_eq_true (by first | (with_reducible assumption) | assumption); have q158003 : (l2.length : Int) < (l1.length : Int) := of_decide_eq_true (by first | (with_reducible assumption) | assumption); obtain ⟨ad158003, e158003, hx158003_0⟩ := Kd.at_int (Kd.C_kept_now HR1.out HK.out) (l2.length : Int) p158003 q158003; cases e158003; (try simp only [Go.IntWalk.toNatUp] at hx158003_0); replace p158003 := eq_true p158003; replace q158003 := eq_true q158003) | (go_at_call 72; (with_reducible refine (impl_HasElement.calls (rd l0 x20_1) (rd l1 (l2.length : Int)) t158004 _ A15.out).mono ?_); rintro e w' ⟨rfl, ⟨nd, rfl⟩⟩))
           go_meet
           case rel => exact ⟨_, (!t158004), (by first | rfl | (simp; done) | (simp [*]; done)), H', ⟨by have := HK1.out; first | omega | exact Nat.le_refl _⟩, ⟨by (with_reducible repeat (first | apply Kd.R_alloc | apply Kd.R_drewN | apply Kd.R_drew)); exact HO_2.out⟩, ⟨by repeat (first | (with_reducible first | exact HK.out | apply Kept.alloc | apply Kept.drewN | apply Kept.drew) | exact HK.out)⟩, ⟨by repeat (first | (with_reducible first | exact HB.out | apply below_alloc | apply pw_below_drewN | apply below_drew1) | exact HB.out)⟩⟩
          ·rw [if_neg c14] at H
           exact absurd H (by simp)
         ·rw [if_neg c13] at H
          exact absurd H (by simp)
       case rest =>
        clear HC10
        try clear c1
        try clear p1
        try clear q1
        try clear hx1
        try clear p2
        try clear c4
        try clear c4b0
        try clear c4b1
        try clear c4b2
        try clear c7
        try clear c7b0
        try clear c8
        try clear c8b0
        try clear c9
        try clear c9b0
        try clear c12
        try clear c13
        try clear c13b0
        try clear c13b1
        try clear c14
        try clear c14b0
        try clear c14b1
        try clear c15
        try clear p15
        try clear q15
        try clear hx15
        try clear hx158001_0
        try clear hx158003_0
        try clear p158001
        try clear p158003
        try clear p2
        try clear q158001
        try clear q158003
        obtain ⟨kq, x37_9, rfl, HA, HJ9, HO_2, HK, HB⟩ := hcut
        cases kq with
        | zero => exact absurd HA.out (by simp [impl_assign.j1])
        | succ kj9 =>
         have H := HA.out
         clear HA
         simp only [impl_assign.j1] at H
         by_cases c16 : x37_9 = true
         ·subst c16
          have H1 : (impl_assign.l0 kj9 l0 l1 l2 l0 (l0.length : Int) (wrap64 (x20_1 + 1))) = some (r1, r2) := by rw [if_pos rfl] at H; exact H
          clear H
          have H := H1
          clear H1
          have H' := aQ H
          clear H
          go_wp2
          go_roundg kj9
          case measure => have := HK1.out; have := HJ9.out; omega
          case rel => exact ⟨(wrap64 (x20_1 + 1)), (by first | rfl | (simp; done) | (simp [*]; done)), H', ⟨by have := HK1.out; have := HJ9.out; omega⟩, ⟨by (with_reducible repeat (first | apply Kd.R_alloc | apply Kd.R_drewN | apply Kd.R_drew)); exact HO_2.out⟩, ⟨by repeat (first | (with_reducible first | exact HK.out | apply Kept.alloc | apply Kept.drewN | apply Kept.drew) | exact HK.out)⟩, ⟨by repeat (first | (with_reducible first | exact HB.out | apply below_alloc | apply pw_below_drewN | apply below_drew1) | exact HB.out)⟩⟩
         ·replace c16 := Bool.eq_false_iff.mpr c16
          subst c16
          have H1 : ((some (([] : List Int) : List Int)).bind fun y158005 => (if y158005.length + l2.length < 17592186044416 then ((some (y158005 ++ l2 : List Int)).bind fun y158008 => (if y158008.length < 17592186044416 then ((impl_assign.f kj9 l0 l1 (y158008 ++ [x20_1])).bind fun bt158014 => (if bt158014.2 = true then (some (bt158014.1, true)) else (impl_assign.l0 kj9 l0 l1 l2 l0 (l0.length : Int) (wrap64 (x20_1 + 1))))) else (none))) else (none))) = some (r1, r2) := by rw [if_neg (show ¬ (false = true) by decide)] at H; exact H
          clear H
          have H := H1
          clear H1
          obtain ⟨y158005, hy158005⟩ : ∃ y_ : List Int, y_ = (([] : List Int)) := ⟨_, rfl⟩
          replace H : (if y158005.length + l2.length < 17592186044416 then ((some (y158005 ++ l2 : List Int)).bind fun y158008 => (if y158008.length < 17592186044416 then ((impl_assign.f kj9 l0 l1 (y158008 ++ [x20_1])).bind fun bt158014 => (if bt158014.2 = true then (some (bt158014.1, true)) else (impl_assign.l0 kj9 l0 l1 l2 l0 (l0.length : Int) (wrap64 (x20_1 + 1))))) else (none))) else (none)) = some (r1, r2) := by first | (rw [hy158005]; with_reducible exact H) | (have H2_ := (Option.bind_some _ _).symm.trans H; rw [hy158005]; with_reducible exact H2_) | (have H2_ := (Option.bind_some _ _).symm.trans H; with_reducible exact H2_) | with_reducible exact H | (rw [hy158005]; exact H) | exact H
          have Ny158005 := aQ hy158005
          clear hy158005
          by_cases c17 : y158005.length + l2.length < 17592186044416
          ·rw [if_pos c17] at H
           have LMc17 := aQ c17
           clear c17
           obtain ⟨y158008, hy158008⟩ : ∃ y_ : List Int, y_ = (y158005 ++ l2) := ⟨_, rfl⟩
           replace H : (if y158008.length < 17592186044416 then ((impl_assign.f kj9 l0 l1 (y158008 ++ [x20_1])).bind fun bt158014 => (if bt158014.2 = true then (some (bt158014.1, true)) else (impl_assign.l0 kj9 l0 l1 l2 l0 (l0.length : Int) (wrap64 (x20_1 + 1))))) else (none)) = some (r1, r2) := by first | (rw [hy158008]; with_reducible exact H) | (have H2_ := (Option.bind_some _ _).symm.trans H; rw [hy158008]; with_reducible exact H2_) | (have H2_ := (Option.bind_some _ _).symm.trans H; with_reducible exact H2_) | with_reducible exact H | (rw [hy158008]; exact H) | exact H
           have Ny158008 := aQ hy158008
           clear hy158008
           by_cases c18 : y158008.length < 17592186044416
           ·rw [if_pos c18] at H
            have LMc18 := aQ c18
            clear c18
            obtain ⟨y158011, hy158011⟩ : ∃ y_ : List Int, y_ = (y158008 ++ [x20_1]) := ⟨_, rfl⟩
            replace H : ((impl_assign.f kj9 l0 l1 y158011).bind fun bt158014 => (if bt158014.2 = true then (some (bt158014.1, true)) else (impl_assign.l0 kj9 l0 l1 l2 l0 (l0.length : Int) (wrap64 (x20_1 + 1))))) = some (r1, r2) := by first | (rw [hy158011]; with_reducible exact H) | (have H2_ := (Option.bind_some _ _).symm.trans H; rw [hy158011]; with_reducible exact H2_) | (have H2_ := (Option.bind_some _ _).symm.trans H; with_reducible exact H2_) | with_reducible exact H | (rw [hy158011]; exact H) | exact H
            have Ny158011 := aQ hy158011
            clear hy158011
            replace H := Option.bind_eq_some_iff.mp H
            obtain ⟨⟨t158014, t158017⟩, A190, H⟩ := H
            replace H : (if t158017 = true then (some (t158014, true)) else (impl_assign.l0 kj9 l0 l1 l2 l0 (l0.length : Int) (wrap64 (x20_1 + 1)))) = some (r1, r2) := H
            have A19 := aQ A190
            clear A190
            by_cases c20 : t158017 = true
            ·subst c20
             have H1 : (some (t158014, true)) = some (r1, r2) := by rw [if_pos rfl] at H; exact H
             clear H
             have H := H1
             clear H1
             simp only [Option.some.injEq, Prod.mk.injEq] at H
             obtain ⟨rfl, rfl⟩ := H
             go_wp2_with (first | ((with_reducible refine gate_dst (N := 41) rfl ?_); (try (refine gate_guard (by rfl) ?_; dsimp only)); refine Kd.R_lit (Kd.int .i64) _ 3 ?hg (N := 41) ?hd (xs := ([] : List Int)) (inner := []) (ok := fun _ => True) (okp := fun _ => True) ?hr ?hp (fun _ hk => hk) trivial (Below.refl _ _) (Nat.le_refl _) (by simp) ?_; (case hd => rfl); (case hg => rfl); (case hr => first | (go_simp; done) | (go_simp; rfl)); (case hp => exact (Reps.none _ _)); intro v158006 w21 ho22 hb hg_ hnew_; clear hg_ hnew_; (first | rw [← Ny158005.out] at ho22 | (simp only [Int.reduceToNat] at ho22; rw [← Ny158005.out] at ho22)); have HO158007 := aQ (Kd.R_lower (Kd.R_new' (Kd.R_newM (M := fun k_ => (P2_ k_ ∨ w.heap.size ≤ k_)) ho22 (by first | exact HK.out.1 | exact (show Kept w _ (fun k_ => P2_ k_) from by repeat (first | (with_reducible first | exact HK.out | apply Kept.alloc | apply Kept.drewN | apply Kept.drew) | exact HK.out)).1) (fun k_ h_ => .inr h_)) (Kd.R_lt (by (with_reducible repeat (first | apply Kd.R_alloc | apply Kd.R_drewN | apply Kd.R_drew)); exact HO_2.out))) (below_size (by repeat (first | (with_reducible first | exact HB.out | apply below_alloc | apply pw_below_drewN | apply below_drew1) | exact HB.out)))); replace HO_2 := aQ (Kd.R_elder' (by (with_reducible repeat (first | apply Kd.R_alloc | apply Kd.R_drewN | apply Kd.R_drew)); exact HO_2.out) (Kd.R_base ho22) hb); replace HK := aQ (Kept.below (S := (fun k_ => P2_ k_)) (by repeat (first | (with_reducible first | exact HK.out | apply Kept.alloc | apply Kept.drewN | apply Kept.drew) | exact HK.out)) hb); replace HB := aQ (below_step (by repeat (first | (with_reducible first | exact HB.out | apply below_alloc | apply pw_below_drewN | apply below_drew1) | exact HB.out)) hb); clear hb ho22) | ((with_reducible refine gate_builtin (b := .append) (xs := #[.tmp 41, .tmp 42]) rfl ?_); (try (refine gate_guard (by rfl) ?_; dsimp only)); at_builtin; refine Kd.R_append_rows (Kd.int .i64) (w0 := w0) w0.heap.size rfl (.tmp 41) (.tmp 42) 22 3 (.int .i64 0) 8 rfl Try.underlying22 info3 rfl (by decide) (by omega) v158006 y158005 l2 _ _ _ (fun k_ => (P2_ k_ ∨ w.heap.size ≤ k_) ∧ some k_ ≠ (.slice Ao6 l2.length co6 : Value).ownBlock) (fun _ => False) rfl rfl ?aO ?aR (fun _ _ h => h) (fun _ h => h.elim) ?aF ?aB ?aS ?aL ?_; (case aR => repeat (first | exact (Kd.R_reads' HO_2.out).2.2 | (with_reducible refine Kd.C_alloc ?_ _) | (with_reducible refine Kd.C_drewN ?_ _) | (with_reducible refine Kd.C_drew ?_))); (case aB => exact (by repeat (first | (with_reducible first | exact HB.out | apply below_alloc | apply pw_below_drewN | apply below_drew1) | exact HB.out))); (case aF => exact (fun k_ hk => ⟨(.inr (Nat.le_trans (by first | exact HK.out.1 | exact (show Kept w _ (fun k_ => P2_ k_) from by repeat (first | (with_reducible first | exact HK.out | apply Kept.alloc | apply Kept.drewN | apply Kept.drew) | exact HK.out)).1) hk)), Kd.fresh' (Kd.R_lt (by (with_reducible repeat (first | apply Kd.R_alloc | apply Kd.R_drewN | apply Kd.R_drew)); exact HO_2.out)) k_ hk⟩)); (case aO => exact (by (with_reducible repeat (first | apply Kd.R_alloc | apply Kd.R_drewN | apply Kd.R_drew)); exact Kd.R_mono HO158007.out (fun _ hk => ⟨hk.1.1, hk.2⟩))); (case aS => exact (below_size (by repeat (first | (with_reducible first | exact HB.out | apply below_alloc | apply pw_below_drewN | apply below_drew1) | exact HB.out)))); (case aL => have := LMc17.out; omega); intro v158009 w23 ho hb hg hat; rw [← Ny158008.out] at ho; replace HO_2 := aQ (Kd.R_after (ok := (fun k_ => (P2_ k_ ∨ w.heap.size ≤ k_))) (by (with_reducible repeat (first | apply Kd.R_alloc | apply Kd.R_drewN | apply Kd.R_drew)); exact HO_2.out) hg hat); replace HB := aQ (hb); replace HK := aQ (Kept.of_grown (S := (fun k_ => P2_ k_)) hg (by repeat (first | (with_reducible first | exact HK.out | apply Kept.alloc | apply Kept.drewN | apply Kept.drew) | exact HK.out)) (fun k_ e_ => (HO158007.out.1 k_ e_).1.1)); have HO158010 := aQ (ho); clear HO158007; clear ho hb hg hat) | ((with_reducible refine gate_builtin (b := .append) (xs := #[.tmp 43, .tmp 45]) rfl ?_); (try (refine gate_guard (by rfl) ?_; dsimp only)); at_builtin; refine Kd.R_append (Kd.int .i64) (w0 := w0) w0.heap.size rfl (.tmp 43) (.tmp 45) 22 3 (.int .i64 0) 8 rfl Try.underlying22 info3 rfl (by decide) (by omega) v158009 y158008 x20_1 [.int .i64 x20_1] (fun k_ => (P2_ k_ ∨ w.heap.size ≤ k_) ∧ some k_ ≠ (.slice Ao6 l2.length co6 : Value).ownBlock) (fun _ => False) rfl rfl ?aP (fun _ hk => hk.elim) ?aF ?aO ?aB ?aS ?aL ?_; (case aP => exact rfl); (case aB => exact (by repeat (first | (with_reducible first | exact HB.out | apply below_alloc | apply pw_below_drewN | apply below_drew1) | exact HB.out))); (case aF => exact (fun k_ hk => ⟨(.inr (Nat.le_trans (by first | exact HK.out.1 | exact (show Kept w _ (fun k_ => P2_ k_) from by repeat (first | (with_reducible first | exact HK.out | apply Kept.alloc | apply Kept.drewN | apply Kept.drew) | exact HK.out)).1) hk)), Kd.fresh' (Kd.R_lt (by (with_reducible repeat (first | apply Kd.R_alloc | apply Kd.R_drewN | apply Kd.R_drew)); exact HO_2.out)) k_ hk⟩)); (case aO => exact (by (with_reducible repeat (first | apply Kd.R_alloc | apply Kd.R_drewN | apply Kd.R_drew)); exact HO158010.out)); (case aS => exact (below_size (by repeat (first | (with_reducible first | exact HB.out | apply below_alloc | apply pw_below_drewN | apply below_drew1) | exact HB.out)))); (case aL => have := LMc18.out; omega); intro v158012 w24 ho hb hg hat; rw [← Ny158011.out] at ho; replace HO_2 := aQ (Kd.R_after (ok := (fun k_ => (P2_ k_ ∨ w.heap.size ≤ k_))) (by (with_reducible repeat (first | apply Kd.R_alloc | apply Kd.R_drewN | apply Kd.R_drew)); exact HO_2.out) hg hat); replace HB := aQ (hb); replace HK := aQ (Kept.of_grown (S := (fun k_ => P2_ k_)) hg (by repeat (first | (with_reducible first | exact HK.out | apply Kept.alloc | apply Kept.drewN | apply Kept.drew) | exact HK.out)) (fun k_ e_ => (HO158010.out.1 k_ e_).1)); have HO158013 := aQ (ho); clear HO158010; clear ho hb hg hat; obtain ⟨Ao25, co25, eo25⟩ := Kd.R_slice HO158013.out; subst eo25) | ((with_reducible refine gate_callee (f := 157) rfl ?_); refine goesL_ (some 47) rfl rfl Try.func157 (by kernel_rfl) rfl #[.slice (some ad158001) l0.length c0, .slice A1 l1.length c1, .slice Ao25 y158011.length co25] rfl (by (try simp only [List.map_toArray, List.map_cons, List.map_nil]); first | done | rfl | (simp only [List.length_drop, List.length_take]; rfl)) ?_; (with_reducible refine (ih kj9 (by have := HK1.out; have := HJ9.out; omega) _ _ l0 _ _ l1 (fun k_ => some k_ = (.slice Ao25 y158011.length co25 : Value).ownBlock) (.slice Ao25 y158011.length co25) y158011 t158014 true w0 _ ?side1 ?side2 ?side3 ?side4 ?side5 ?side6 A19.out).mono ?_); (case side1 => repeat (first | (with_reducible first | exact HB.out | apply below_alloc | apply pw_below_drewN | apply below_drew1) | exact HB.out)); (case side2 => exact Kd.C_kept_call HR0.out (by repeat (first | (with_reducible first | exact HK.out | apply Kept.alloc | apply Kept.drewN | apply Kept.drew) | exact HK.out)) (fun k_ hs_ => (fun e_ => (HO158013.out.1 k_ e_.symm).1) hs_)); (case side3 => exact HC0.out); (case side4 => exact Kd.C_kept_call HR1.out (by repeat (first | (with_reducible first | exact HK.out | apply Kept.alloc | apply Kept.drewN | apply Kept.drew) | exact HK.out)) (fun k_ hs_ => (fun e_ => (HO158013.out.1 k_ e_.symm).1) hs_)); (case side5 => exact HC1.out); (case side6 => exact Kd.R_tight rfl HO158013.out); rintro e w26 ⟨v158015, rfl, ho0, hb, hkp⟩; refine ⟨_, rfl, ?_⟩; have HO158016 := aQ (Kd.R_mono (ok' := fun k_ => (P2_ k_ ∨ w.heap.size ≤ k_) ∧ some k_ ≠ (.slice Ao6 l2.length co6 : Value).ownBlock) ho0 (fun k_ hk_ => ⟨Or.elim hk_ (fun hs_ => (HO158013.out.1 k_ (hs_).symm).1) (fun hn_ => (.inr (Nat.le_trans (by first | exact HK.out.1 | exact (show Kept w _ (fun k_ => P2_ k_) from by repeat (first | (with_reducible first | exact HK.out | apply Kept.alloc | apply Kept.drewN | apply Kept.drew) | exact HK.out)).1) hn_))), Or.elim hk_ (fun hs_ => fun e_ => (((HO_2.out).1 k_ e_.symm).2) hs_) (fun hn_ => (Kd.fresh' (Kd.R_lt (by (with_reducible repeat (first | apply Kd.R_alloc | apply Kd.R_drewN | apply Kd.R_drew)); exact HO_2.out)) k_ hn_))⟩)); replace HO_2 := aQ (Kd.R_mono (ok' := fun k_ => (P2_ k_ ∨ w.heap.size ≤ k_) ∧ some k_ ≠ (v158015 : Value).ownBlock) (Kd.R_keptB (HO_2.out) hkp (fun k_ hk_ hs_ => (hk_.2) hs_)) (fun k_ hk_ => ⟨hk_.1.1, fun e_ => Or.elim (ho0.1 k_ e_.symm) (fun hs_ => hk_.2.1 hs_) (fun hn_ => Nat.not_le.2 hk_.2.2 hn_)⟩)); replace HK := aQ (Kept.then_ (S := (fun k_ => P2_ k_)) (by repeat (first | (with_reducible first | exact HK.out | apply Kept.alloc | apply Kept.drewN | apply Kept.drew) | exact HK.out)) hkp (fun k_ hs_ => (fun e_ => (HO158013.out.1 k_ e_.symm).1) hs_)); replace HB := aQ (hb); clear HO158013; (try clear hb); (try clear hkp); (try clear ho0)))
             go_ret2
             exact ⟨_, by first | rfl | (simp [errW_none, errW_some] <;> rfl) | (simp [*, errW_none, errW_some] <;> rfl), by (with_reducible repeat (first | apply Kd.R_alloc | apply Kd.R_drewN | apply Kd.R_drew)); exact Kd.R_mono HO158016.out (fun _ hk => hk.1), by repeat (first | (with_reducible first | exact HB.out | apply below_alloc | apply pw_below_drewN | apply below_drew1) | exact HB.out), by repeat (first | (with_reducible first | exact HK.out | apply Kept.alloc | apply Kept.drewN | apply Kept.drew) | exact HK.out)⟩
            ·replace c20 := Bool.eq_false_iff.mpr c20
             subst c20
             have H1 : (impl_assign.l0 kj9 l0 l1 l2 l0 (l0.length : Int) (wrap64 (x20_1 + 1))) = some (r1, r2) := by rw [if_neg (show ¬ (false = true) by decide)] at H; exact H
             clear H
             have H := H1
             clear H1
             have H' := aQ H
             clear H
             go_wp2_with (first | ((with_reducible refine gate_dst (N := 41) rfl ?_); (try (refine gate_guard (by rfl) ?_; dsimp only)); refine Kd.R_lit (Kd.int .i64) _ 3 ?hg (N := 41) ?hd (xs := ([] : List Int)) (inner := []) (ok := fun _ => True) (okp := fun _ => True) ?hr ?hp (fun _ hk => hk) trivial (Below.refl _ _) (Nat.le_refl _) (by simp) ?_; (case hd => rfl); (case hg => rfl); (case hr => first | (go_simp; done) | (go_simp; rfl)); (case hp => exact (Reps.none _ _)); intro v158006 w27 ho28 hb hg_ hnew_; clear hg_ hnew_; (first | rw [← Ny158005.out] at ho28 | (simp only [Int.reduceToNat] at ho28; rw [← Ny158005.out] at ho28)); have HO158007 := aQ (Kd.R_lower (Kd.R_new' (Kd.R_newM (M := fun k_ => (P2_ k_ ∨ w.heap.size ≤ k_)) ho28 (by first | exact HK.out.1 | exact (show Kept w _ (fun k_ => P2_ k_) from by repeat (first | (with_reducible first | exact HK.out | apply Kept.alloc | apply Kept.drewN | apply Kept.drew) | exact HK.out)).1) (fun k_ h_ => .inr h_)) (Kd.R_lt (by (with_reducible repeat (first | apply Kd.R_alloc | apply Kd.R_drewN | apply Kd.R_drew)); exact HO_2.out))) (below_size (by repeat (first | (with_reducible first | exact HB.out | apply below_alloc | apply pw_below_drewN | apply below_drew1) | exact HB.out)))); replace HO_2 := aQ (Kd.R_elder' (by (with_reducible repeat (first | apply Kd.R_alloc | apply Kd.R_drewN | apply Kd.R_drew)); exact HO_2.out) (Kd.R_base ho28) hb); replace HK := aQ (Kept.below (S := (fun k_ => P2_ k_)) (by repeat (first | (with_reducible first | exact HK.out | apply Kept.alloc | apply Kept.drewN | apply Kept.drew) | exact HK.out)) hb); replace HB := aQ (below_step (by repeat (first | (with_reducible first | exact HB.out | apply below_alloc | apply pw_below_drewN | apply below_drew1) | exact HB.out)) hb); clear hb ho28) | ((with_reducible refine gate_builtin (b := .append) (xs := #[.tmp 41, .tmp 42]) rfl ?_); (try (refine gate_guard (by rfl) ?_; dsimp only)); at_builtin; refine Kd.R_append_rows (Kd.int .i64) (w0 := w0) w0.heap.size rfl (.tmp 41) (.tmp 42) 22 3 (.int .i64 0) 8 rfl Try.underlying22 info3 rfl (by decide) (by omega) v158006 y158005 l2 _ _ _ (fun k_ => (P2_ k_ ∨ w.heap.size ≤ k_) ∧ some k_ ≠ (.slice Ao6 l2.length co6 : Value).ownBlock) (fun _ => False) rfl rfl ?aO ?aR (fun _ _ h => h) (fun _ h => h.elim) ?aF ?aB ?aS ?aL ?_; (case aR => repeat (first | exact (Kd.R_reads' HO_2.out).2.2 | (with_reducible refine Kd.C_alloc ?_ _) | (with_reducible refine Kd.C_drewN ?_ _) | (with_reducible refine Kd.C_drew ?_))); (case aB => exact (by repeat (first | (with_reducible first | exact HB.out | apply below_alloc | apply pw_below_drewN | apply below_drew1) | exact HB.out))); (case aF => exact (fun k_ hk => ⟨(.inr (Nat.le_trans (by first | exact HK.out.1 | exact (show Kept w _ (fun k_ => P2_ k_) from by repeat (first | (with_reducible first | exact HK.out | apply Kept.alloc | apply Kept.drewN | apply Kept.drew) | exact HK.out)).1) hk)), Kd.fresh' (Kd.R_lt (by (with_reducible repeat (first | apply Kd.R_alloc | apply Kd.R_drewN | apply Kd.R_drew)); exact HO_2.out)) k_ hk⟩)); (case aO => exact (by (with_reducible repeat (first | apply Kd.R_alloc | apply Kd.R_drewN | apply Kd.R_drew)); exact Kd.R_mono HO158007.out (fun _ hk => ⟨hk.1.1, hk.2⟩))); (case aS => exact (below_size (by repeat (first | (with_reducible first | exact HB.out | apply below_alloc | apply pw_below_drewN | apply below_drew1) | exact HB.out)))); (case aL => have := LMc17.out; omega); intro v158009 w29 ho hb hg hat; rw [← Ny158008.out] at ho; replace HO_2 := aQ (Kd.R_after (ok := (fun k_ => (P2_ k_ ∨ w.heap.size ≤ k_))) (by (with_reducible repeat (first | apply Kd.R_alloc | apply Kd.R_drewN | apply Kd.R_drew)); exact HO_2.out) hg hat); replace HB := aQ (hb); replace HK := aQ (Kept.of_grown (S := (fun k_ => P2_ k_)) hg (by repeat (first | (with_reducible first | exact HK.out | apply Kept.alloc | apply Kept.drewN | apply Kept.drew) | exact HK.out)) (fun k_ e_ => (HO158007.out.1 k_ e_).1.1)); have HO158010 := aQ (ho); clear HO158007; clear ho hb hg hat) | ((with_reducible refine gate_builtin (b := .append) (xs := #[.tmp 43, .tmp 45]) rfl ?_); (try (refine gate_guard (by rfl) ?_; dsimp only)); at_builtin; refine Kd.R_append (Kd.int .i64) (w0 := w0) w0.heap.size rfl (.tmp 43) (.tmp 45) 22 3 (.int .i64 0) 8 rfl Try.underlying22 info3 rfl (by decide) (by omega) v158009 y158008 x20_1 [.int .i64 x20_1] (fun k_ => (P2_ k_ ∨ w.heap.size ≤ k_) ∧ some k_ ≠ (.slice Ao6 l2.length co6 : Value).ownBlock) (fun _ => False) rfl rfl ?aP (fun _ hk => hk.elim) ?aF ?aO ?aB ?aS ?aL ?_; (case aP => exact rfl); (case aB => exact (by repeat (first | (with_reducible first | exact HB.out | apply below_alloc | apply pw_below_drewN | apply below_drew1) | exact HB.out))); (case aF => exact (fun k_ hk => ⟨(.inr (Nat.le_trans (by first | exact HK.out.1 | exact (show Kept w _ (fun k_ => P2_ k_) from by repeat (first | (with_reducible first | exact HK.out | apply Kept.alloc | apply Kept.drewN | apply Kept.drew) | exact HK.out)).1) hk)), Kd.fresh' (Kd.R_lt (by (with_reducible repeat (first | apply Kd.R_alloc | apply Kd.R_drewN | apply Kd.R_drew)); exact HO_2.out)) k_ hk⟩)); (case aO => exact (by (with_reducible repeat (first | apply Kd.R_alloc | apply Kd.R_drewN | apply Kd.R_drew)); exact HO158010.out)); (case aS => exact (below_size (by repeat (first | (with_reducible first | exact HB.out | apply below_alloc | apply pw_below_drewN | apply below_drew1) | exact HB.out)))); (case aL => have := LMc18.out; omega); intro v158012 w30 ho hb hg hat; rw [← Ny158011.out] at ho; replace HO_2 := aQ (Kd.R_after (ok := (fun k_ => (P2_ k_ ∨ w.heap.size ≤ k_))) (by (with_reducible repeat (first | apply Kd.R_alloc | apply Kd.R_drewN | apply Kd.R_drew)); exact HO_2.out) hg hat); replace HB := aQ (hb); replace HK := aQ (Kept.of_grown (S := (fun k_ => P2_ k_)) hg (by repeat (first | (with_reducible first | exact HK.out | apply Kept.alloc | apply Kept.drewN | apply Kept.drew) | exact HK.out)) (fun k_ e_ => (HO158010.out.1 k_ e_).1)); have HO158013 := aQ (ho); clear HO158010; clear ho hb hg hat; obtain ⟨Ao31, co31, eo31⟩ := Kd.R_slice HO158013.out; subst eo31) | ((with_reducible refine gate_callee (f := 157) rfl ?_); refine goesL_ (some 47) rfl rfl Try.func157 (by kernel_rfl) rfl #[.slice (some ad158001) l0.length c0, .slice A1 l1.length c1, .slice Ao31 y158011.length co31] rfl (by (try simp only [List.map_toArray, List.map_cons, List.map_nil]); first | done | rfl | (simp only [List.length_drop, List.length_take]; rfl)) ?_; (with_reducible refine (ih kj9 (by have := HK1.out; have := HJ9.out; omega) _ _ l0 _ _ l1 (fun k_ => some k_ = (.slice Ao31 y158011.length co31 : Value).ownBlock) (.slice Ao31 y158011.length co31) y158011 t158014 false w0 _ ?side1 ?side2 ?side3 ?side4 ?side5 ?side6 A19.out).mono ?_); (case side1 => repeat (first | (with_reducible first | exact HB.out | apply below_alloc | apply pw_below_drewN | apply below_drew1) | exact HB.out)); (case side2 => exact Kd.C_kept_call HR0.out (by repeat (first | (with_reducible first | exact HK.out | apply Kept.alloc | apply Kept.drewN | apply Kept.drew) | exact HK.out)) (fun k_ hs_ => (fun e_ => (HO158013.out.1 k_ e_.symm).1) hs_)); (case side3 => exact HC0.out); (case side4 => exact Kd.C_kept_call HR1.out (by repeat (first | (with_reducible first | exact HK.out | apply Kept.alloc | apply Kept.drewN | apply Kept.drew) | exact HK.out)) (fun k_ hs_ => (fun e_ => (HO158013.out.1 k_ e_.symm).1) hs_)); (case side5 => exact HC1.out); (case side6 => exact Kd.R_tight rfl HO158013.out); rintro e w32 ⟨v158015, rfl, ho0, hb, hkp⟩; refine ⟨_, rfl, ?_⟩; have HO158016 := aQ (Kd.R_mono (ok' := fun k_ => (P2_ k_ ∨ w.heap.size ≤ k_) ∧ some k_ ≠ (.slice Ao6 l2.length co6 : Value).ownBlock) ho0 (fun k_ hk_ => ⟨Or.elim hk_ (fun hs_ => (HO158013.out.1 k_ (hs_).symm).1) (fun hn_ => (.inr (Nat.le_trans (by first | exact HK.out.1 | exact (show Kept w _ (fun k_ => P2_ k_) from by repeat (first | (with_reducible first | exact HK.out | apply Kept.alloc | apply Kept.drewN | apply Kept.drew) | exact HK.out)).1) hn_))), Or.elim hk_ (fun hs_ => fun e_ => (((HO_2.out).1 k_ e_.symm).2) hs_) (fun hn_ => (Kd.fresh' (Kd.R_lt (by (with_reducible repeat (first | apply Kd.R_alloc | apply Kd.R_drewN | apply Kd.R_drew)); exact HO_2.out)) k_ hn_))⟩)); replace HO_2 := aQ (Kd.R_mono (ok' := fun k_ => (P2_ k_ ∨ w.heap.size ≤ k_) ∧ some k_ ≠ (v158015 : Value).ownBlock) (Kd.R_keptB (HO_2.out) hkp (fun k_ hk_ hs_ => (hk_.2) hs_)) (fun k_ hk_ => ⟨hk_.1.1, fun e_ => Or.elim (ho0.1 k_ e_.symm) (fun hs_ => hk_.2.1 hs_) (fun hn_ => Nat.not_le.2 hk_.2.2 hn_)⟩)); replace HK := aQ (Kept.then_ (S := (fun k_ => P2_ k_)) (by repeat (first | (with_reducible first | exact HK.out | apply Kept.alloc | apply Kept.drewN | apply Kept.drew) | exact HK.out)) hkp (fun k_ hs_ => (fun e_ => (HO158013.out.1 k_ e_.symm).1) hs_)); replace HB := aQ (hb); clear HO158013; (try clear hb); (try clear hkp); (try clear ho0)))
             go_roundg kj9
             case measure => have := HK1.out; have := HJ9.out; omega
             case rel => exact ⟨(wrap64 (x20_1 + 1)), (by first | rfl | (simp; done) | (simp [*]; done)), H', ⟨by have := HK1.out; have := HJ9.out; omega⟩, ⟨by (with_reducible repeat (first | apply Kd.R_alloc | apply Kd.R_drewN | apply Kd.R_drew)); exact Kd.R_mono HO_2.out (fun _ hk => hk.1)⟩, ⟨by repeat (first | (with_reducible first | exact HK.out | apply Kept.alloc | apply Kept.drewN | apply Kept.drew) | exact HK.out)⟩, ⟨by repeat (first | (with_reducible first | exact HB.out | apply below_alloc | apply pw_below_drewN | apply below_drew1) | exact HB.out)⟩⟩
           ·rw [if_neg c18] at H
            exact absurd H (by simp)
          ·rw [if_neg c17] at H
           exact absurd H (by simp)
      ·rw [if_neg c9] at H
       exact absurd H (by simp)
     ·rw [if_neg c8] at H
      exact absurd H (by simp)
    ·rw [if_neg c7] at H
     have c7b0 : decide (x20_1 < (l0.length : Int)) = false := decide_eq_false c7
     clear c7
     simp only [Option.some.injEq, Prod.mk.injEq] at H
     obtain ⟨rfl, rfl⟩ := H
     go_wp2
     go_ret2
     exact ⟨_, by first | rfl | (simp [errW_none, errW_some] <;> rfl) | (simp [*, errW_none, errW_some] <;> rfl), by first | exact Kd.R_nil _ _ _ _ _ | exact Kd.N_nil _ _ _ _ _ | exact Kd.V_nil _ _ _ _ _ | exact Kd.Q_nil _ _ _ _ _ | exact Kd.S_nil _ _ _ _ _, by repeat (first | (with_reducible first | exact HB.out | apply below_alloc | apply pw_below_drewN | apply below_drew1) | exact HB.out), by repeat (first | (with_reducible first | exact HK.out | apply Kept.alloc | apply Kept.drewN | apply Kept.drew) | exact HK.out)⟩
/-! ### impl_AssignmentOf: function 107 -/
def impl_AssignmentOf.j0 : Nat → List Int → Int → Bool → Option (List Int × Bool)
 | 0, _, _, _ => none
 | k + 1, x1, x2, x17 => if x17 = true then (some (([] : List Int), false)) else ((impl_ElementsOf.f k x2).bind fun t108003 => ((impl_assign.f k x1 t108003 ([] : List Int)).bind fun bt108006 => (some (bt108006.1, bt108006.2))))
def impl_AssignmentOf.f (k : Nat) (a0 : Int) (l1 : List Int) (a2 : Int) : Option (List Int × Bool) := (impl_AreLists.f k a0 l1).bind fun t108001 => (if t108001 = true then ((impl_IsSet.f a0 a2).bind fun t108002 => (impl_AssignmentOf.j0 k l1 a2 (!t108002))) else (impl_AssignmentOf.j0 k l1 a2 true))
theorem impl_AssignmentOf.mono_l : ∀ k, (∀ y0 y1 y2, LeO (impl_AssignmentOf.j0 k y0 y1 y2) (impl_AssignmentOf.j0 (k + 1) y0 y1 y2))
 | 0 => fun _ _ _ r h => by simp [impl_AssignmentOf.j0] at h
 | k + 1 => by
  have ih0 := impl_AssignmentOf.mono_l k
  ·intro y0 y1 y2
   unfold impl_AssignmentOf.j0
   repeat' first
   | (with_reducible exact ih0 _ _ _)
   | (with_reducible exact impl_AreLists.mono _ _ _)
   | (with_reducible exact impl_ElementsOf.mono _ _)
   | (with_reducible exact impl_assign.mono _ _ _ _)
   | (with_reducible exact LeO.refl _)
   | (with_reducible exact LeO.none _)
   | (with_reducible refine LeO.ite ?_ ?_)
   | (with_reducible refine LeO.bind ?_ (fun _ => ?_))
   | exact ih0 _ _ _
   | exact impl_AreLists.mono _ _ _
   | exact impl_ElementsOf.mono _ _
   | exact impl_assign.mono _ _ _ _
   | exact LeO.none _
   | refine LeO.ite ?_ ?_
   | refine LeO.bind ?_ (fun _ => ?_)
theorem impl_AssignmentOf.mono : ∀ a0 a1 a2 k, LeO (impl_AssignmentOf.f k a0 a1 a2) (impl_AssignmentOf.f (k + 1) a0 a1 a2) := by
 intro a0 a1 a2 k
 have ih0 := impl_AssignmentOf.mono_l k
 unfold impl_AssignmentOf.f
 repeat' first
   | (with_reducible exact ih0 _ _ _)
   | (with_reducible exact impl_AreLists.mono _ _ _)
   | (with_reducible exact impl_ElementsOf.mono _ _)
   | (with_reducible exact impl_assign.mono _ _ _ _)
   | (with_reducible exact LeO.refl _)
   | (with_reducible exact LeO.none _)
   | (with_reducible refine LeO.ite ?_ ?_)
   | (with_reducible refine LeO.bind ?_ (fun _ => ?_))
   | exact ih0 _ _ _
   | exact impl_AreLists.mono _ _ _
   | exact impl_ElementsOf.mono _ _
   | exact impl_assign.mono _ _ _ _
   | exact LeO.none _
   | refine LeO.ite ?_ ?_
   | refine LeO.bind ?_ (fun _ => ?_)
set_option maxHeartbeats 8000000 in
set_option maxRecDepth 100000 in
theorem impl_AssignmentOf.calls (k : Nat) (a0 : Int) (A1 : Option Addr) (c1 : Nat) (l1 : List Int) (a2 : Int) (r1 : List Int) (r2 : Bool) (w : World) (hr1 : Kd.C (Kd.int .i64) w A1 l1.length l1) (hc1 : l1.length ≤ c1) (h : impl_AssignmentOf.f k a0 l1 a2 = some (r1, r2)) :
  Calls Try.prog 107 #[.int .i64 a0, .slice A1 l1.length c1, .int .i64 a2] w fun e w' => ∃ v0_ : Value, e = .returned (.tuple #[v0_, .bool r2]) ∧ Kd.R (Kd.int .i64) 3 w' w.heap.size (fun _ => True) v0_ r1 ∧ Below w.heap.size w w' := by
 have HR1 := aQ hr1
 have HC1 := aQ hc1
 clear hr1 hc1
 have HB := aQ (Below.refl w.heap.size w)
 have H : ((impl_AreLists.f k a0 l1).bind fun t108001 => (if t108001 = true then ((impl_IsSet.f a0 a2).bind fun t108002 => (impl_AssignmentOf.j0 k l1 a2 (!t108002))) else (impl_AssignmentOf.j0 k l1 a2 true))) = some (r1, r2) := h
 clear h
 have HC4 := aQ H
 clear H
 go_enter Try.func107, Try.ntmps107
 go_upto_region 1 with (fail)
 go_cut [17] (fun v17 wc => ∃ (kq : Nat) (x17_3 : Bool), v17 = .bool x17_3 ∧ Aside0 (impl_AssignmentOf.j0 kq l1 a2 x17_3 = some (r1, r2)) ∧ Aside0 (kq ≤ k) ∧ Aside0 (Below w.heap.size w wc))
 case first =>
  have H := HC4.out
  clear HC4
  replace H := Option.bind_eq_some_iff.mp H
  obtain ⟨t108001, A50, H⟩ := H
  replace H : (if t108001 = true then ((impl_IsSet.f a0 a2).bind fun t108002 => (impl_AssignmentOf.j0 k l1 a2 (!t108002))) else (impl_AssignmentOf.j0 k l1 a2 true)) = some (r1, r2) := H
  have A5 := aQ A50
  clear A50
  by_cases c6 : t108001 = true
  ·subst c6
   have H1 : ((impl_IsSet.f a0 a2).bind fun t108002 => (impl_AssignmentOf.j0 k l1 a2 (!t108002))) = some (r1, r2) := by rw [if_pos rfl] at H; exact H
   clear H
   have H := H1
   clear H1
   replace H := Option.bind_eq_some_iff.mp H
   obtain ⟨t108002, A70, H⟩ := H
   replace H : (impl_AssignmentOf.j0 k l1 a2 (!t108002)) = some (r1, r2) := H
   have A7 := aQ A70
   clear A70
   have H' := aQ H
   clear H
   go_wp2_with (first | ((with_reducible refine gate_callee (f := 104) rfl ?_); refine goesL_ (some 10) rfl rfl Try.func104 (by kernel_rfl) rfl #[.int .i64 a0, .slice A1 l1.length c1] rfl (by (try simp only [List.map_toArray, List.map_cons, List.map_nil]); first | done | rfl | (simp only [List.length_drop, List.length_take]; rfl)) ?_; (with_reducible refine (impl_AreLists.calls k a0 _ _ l1 true _ ?side1 ?side2 A5.out).mono ?_); (case side1 => repeat (first | exact (Kd.C_below HR1.out HB.out) | (with_reducible refine Kd.C_alloc ?_ _) | (with_reducible refine Kd.C_drewN ?_ _) | (with_reducible refine Kd.C_drew ?_))); (case side2 => exact HC1.out); rintro e w' ⟨rfl, ⟨nd, rfl⟩⟩; refine ⟨_, rfl, ?_⟩) | (go_at_call 156; (with_reducible refine (impl_IsSet.calls a0 a2 t108002 _ A7.out).mono ?_); rintro e w' ⟨rfl, ⟨nd, rfl⟩⟩))
   go_meet
   case rel => exact ⟨_, (!t108002), (by first | rfl | (simp; done) | (simp [*]; done)), H', ⟨by first | omega | exact Nat.le_refl _⟩, ⟨by repeat (first | (with_reducible first | exact HB.out | apply below_alloc | apply pw_below_drewN | apply below_drew1) | exact HB.out)⟩⟩
  ·replace c6 := Bool.eq_false_iff.mpr c6
   subst c6
   have H1 : (impl_AssignmentOf.j0 k l1 a2 true) = some (r1, r2) := by rw [if_neg (show ¬ (false = true) by decide)] at H; exact H
   clear H
   have H := H1
   clear H1
   have H' := aQ H
   clear H
   go_wp2_with (first | ((with_reducible refine gate_callee (f := 104) rfl ?_); refine goesL_ (some 10) rfl rfl Try.func104 (by kernel_rfl) rfl #[.int .i64 a0, .slice A1 l1.length c1] rfl (by (try simp only [List.map_toArray, List.map_cons, List.map_nil]); first | done | rfl | (simp only [List.length_drop, List.length_take]; rfl)) ?_; (with_reducible refine (impl_AreLists.calls k a0 _ _ l1 false _ ?side1 ?side2 A5.out).mono ?_); (case side1 => repeat (first | exact (Kd.C_below HR1.out HB.out) | (with_reducible refine Kd.C_alloc ?_ _) | (with_reducible refine Kd.C_drewN ?_ _) | (with_reducible refine Kd.C_drew ?_))); (case side2 => exact HC1.out); rintro e w' ⟨rfl, ⟨nd, rfl⟩⟩; refine ⟨_, rfl, ?_⟩))
   go_meet
   case rel => exact ⟨_, (true), (by first | rfl | (simp; done) | (simp [*]; done)), H', ⟨by first | omega | exact Nat.le_refl _⟩, ⟨by repeat (first | (with_reducible first | exact HB.out | apply below_alloc | apply pw_below_drewN | apply below_drew1) | exact HB.out)⟩⟩
 case rest =>
  clear HC4
  try clear c1
  try clear p2
  try clear c6
  obtain ⟨kq, x17_3, rfl, HA, HJ3, HB⟩ := hcut
  cases kq with
  | zero => exact absurd HA.out (by simp [impl_AssignmentOf.j0])
  | succ kj3 =>
   have H := HA.out
   clear HA
   simp only [impl_AssignmentOf.j0] at H
   by_cases c8 : x17_3 = true
   ·subst c8
    have H1 : (some (([] : List Int), false)) = some (r1, r2) := by rw [if_pos rfl] at H; exact H
    clear H
    have H := H1
    clear H1
    simp only [Option.some.injEq, Prod.mk.injEq] at H
    obtain ⟨rfl, rfl⟩ := H
    go_wp2
    go_ret2
    exact ⟨_, by first | rfl | (simp [errW_none, errW_some] <;> rfl) | (simp [*, errW_none, errW_some] <;> rfl), by first | exact Kd.R_nil _ _ _ _ _ | exact Kd.N_nil _ _ _ _ _ | exact Kd.V_nil _ _ _ _ _ | exact Kd.Q_nil _ _ _ _ _ | exact Kd.S_nil _ _ _ _ _, by repeat (first | (with_reducible first | exact HB.out | apply below_alloc | apply pw_below_drewN | apply below_drew1) | exact HB.out)⟩
   ·replace c8 := Bool.eq_false_iff.mpr c8
    subst c8
    have H1 : ((impl_ElementsOf.f kj3 a2).bind fun t108003 => ((impl_assign.f kj3 l1 t108003 ([] : List Int)).bind fun bt108006 => (some (bt108006.1, bt108006.2)))) = some (r1, r2) := by rw [if_neg (show ¬ (false = true) by decide)] at H; exact H
    clear H
    have H := H1
    clear H1
    replace H := Option.bind_eq_some_iff.mp H
    obtain ⟨t108003, A90, H⟩ := H
    replace H : ((impl_assign.f kj3 l1 t108003 ([] : List Int)).bind fun bt108006 => (some (bt108006.1, bt108006.2))) = some (r1, r2) := H
    have A9 := aQ A90
    clear A90
    replace H := Option.bind_eq_some_iff.mp H
    obtain ⟨⟨t108006, t108009⟩, A100, H⟩ := H
    replace H : (some (t108006, t108009)) = some (r1, r2) := H
    have A10 := aQ A100
    clear A100
    simp only [Option.some.injEq, Prod.mk.injEq] at H
    obtain ⟨rfl, rfl⟩ := H
    go_wp2_with (first | ((with_reducible refine gate_callee (f := 146) rfl ?_); refine goesL_ (some 20) rfl rfl Try.func146 (by kernel_rfl) rfl #[.int .i64 a2] rfl (by (try simp only [List.map_toArray, List.map_cons, List.map_nil]); first | done | rfl | (simp only [List.length_drop, List.length_take]; rfl)) ?_; (with_reducible refine (impl_ElementsOf.calls kj3 a2 t108003 _ A9.out).mono ?_); rintro e w11 ⟨v108004, rfl, ho0, hb⟩; refine ⟨_, rfl, ?_⟩; have HO108005 := aQ (Kd.R_lower ho0 (below_size (by repeat (first | (with_reducible first | exact HB.out | apply below_alloc | apply pw_below_drewN | apply below_drew1) | exact HB.out)))); replace HB := aQ (below_step (by repeat (first | (with_reducible first | exact HB.out | apply below_alloc | apply pw_below_drewN | apply below_drew1) | exact HB.out)) hb); (try clear hb); (try clear hb2); (try clear hk); (try clear hi); (try clear ho0); obtain ⟨Ao12, co12, eo12⟩ := Kd.R_slice HO108005.out; subst eo12) | ((with_reducible refine gate_callee (f := 157) rfl ?_); refine goesL_ (some 21) rfl rfl Try.func157 (by kernel_rfl) rfl #[.slice A1 l1.length c1, .slice Ao12 t108003.length co12, .slice none 0 0] rfl (by (try simp only [List.map_toArray, List.map_cons, List.map_nil]); first | done | rfl | (simp only [List.length_drop, List.length_take]; rfl)) ?_; (refine (impl_assign.calls kj3 _ _ l1 _ _ t108003 (fun k_ => some k_ = (.slice none 0 0 : Value).ownBlock) (.slice none 0 0) ([] : List Int) t108006 t108009 w _ ?side1 ?side2 ?side3 ?side4 ?side5 ?side6 A10.out).mono ?_); (case side1 => repeat (first | (with_reducible first | exact HB.out | apply below_alloc | apply pw_below_drewN | apply below_drew1) | exact HB.out)); (case side2 => exact Kd.C_kept_came (Kd.heap_int .i64) HR1.out (by repeat (first | (with_reducible first | exact HB.out | apply below_alloc | apply pw_below_drewN | apply below_drew1) | exact HB.out)) (fun k_ hs_ => (fun e_ => by simp [Value.ownBlock] at e_) hs_)); (case side3 => exact HC1.out); (case side4 => exact Kd.C_kept_own (HO108005.out) (fun k_ hk_ hs_ => (fun e_ => by simp [Value.ownBlock] at e_) hs_)); (case side5 => exact (Kd.R_reads' HO108005.out).2.1); (case side6 => exact Kd.R_nil _ _ _ _ _); rintro e w13 ⟨v108007, rfl, ho0, hb, hkp⟩; refine ⟨_, rfl, ?_⟩; have HO108008 := aQ (Kd.R_mono (ok' := fun k_ => some k_ ≠ (.slice Ao12 t108003.length co12 : Value).ownBlock) ho0 (fun k_ hk_ => Or.elim hk_ (fun hs_ => absurd hs_ (by simp [Value.ownBlock])) (fun hn_ => (Kd.fresh' (Kd.R_lt (by (with_reducible repeat (first | apply Kd.R_alloc | apply Kd.R_drewN | apply Kd.R_drew)); exact HO108005.out)) k_ hn_)))); replace HO108005 := aQ (Kd.R_mono (ok' := fun k_ => some k_ ≠ (v108007 : Value).ownBlock) (Kd.R_keptB (HO108005.out) hkp (fun k_ hk_ hs_ => (fun e_ => by simp [Value.ownBlock] at e_) hs_)) (fun k_ hk_ => fun e_ => Or.elim (ho0.1 k_ e_.symm) (fun hs_ => hk_.2.1 hs_) (fun hn_ => Nat.not_le.2 hk_.2.2 hn_))); replace HB := aQ (hb); (try clear hb); (try clear hkp); (try clear ho0)))
    go_ret2
    exact ⟨_, by first | rfl | (simp [errW_none, errW_some] <;> rfl) | (simp [*, errW_none, errW_some] <;> rfl), by (with_reducible repeat (first | apply Kd.R_alloc | apply Kd.R_drewN | apply Kd.R_drew)); exact Kd.R_mono HO108008.out (fun _ hk => trivial), by repeat (first | (with_reducible first | exact HB.out | apply below_alloc | apply pw_below_drewN | apply below_drew1) | exact HB.out)⟩
end Go.Proofs.Ytagncnjllpebjaa.A
namespace Go.Proofs.Ytagncnjllpebjaa.A
open Go.RowKit Go.Proofs.YtagncnjllpebjaaW.PrintWords Go.Proofs.YtagncnjllpebjaaW.PrintLast Go.Proofs.YtagncnjllpebjaaW.PrintMore Go.Proofs.Ytagncnjllpebjaa.Z
attribute [local go_sem] max2_int min2_int max_two min_two max_three min_three max_four min_four   -- for this text's walks alone
set_option linter.unusedVariables false
set_option linter.unusedSimpArgs false

/-! ### impl_FromSets: function 42 (by hand) -/
def impl_FromSets.c (k : Nat) (n : Int) (l : List Int) (s : Int) : Option Bool := (impl_AssignmentOf.f k n l s).bind fun b => some b.2
theorem impl_FromSets.c_mono (n : Int) (l : List Int) (s : Int) (k : Nat) : LeO (impl_FromSets.c k n l s) (impl_FromSets.c (k + 1) n l s) := by
 unfold impl_FromSets.c
 exact LeO.bind (impl_AssignmentOf.mono _ _ _ _) (fun t => LeO.refl _)
def impl_FromSets.f (k : Nat) (a0 : Int) (l1 : List Int) : Option (Int × List Int) := (impl_AreLists.f k a0 l1).bind fun t => if t = true then (impl_FullSet.f a0).bind fun m => if 0 ≤ m ∧ m ≤ 1000 then (setsO (fun s => impl_FromSets.c k a0 l1 s) m).bind fun y => (impl_fromIndependent.f k a0 y).bind fun b => some (b.1, b.2.1) else none else some (0, ([] : List Int))
theorem impl_FromSets.mono : ∀ a0 a1 k, LeO (impl_FromSets.f k a0 a1) (impl_FromSets.f (k + 1) a0 a1) := by
 intro a0 a1 k
 unfold impl_FromSets.f
 exact LeO.bind (impl_AreLists.mono _ _ _) (fun t => LeO.ite (LeO.bind (LeO.refl _) (fun m => LeO.ite (LeO.bind (LeO_setsO (fun s => impl_FromSets.c_mono a0 a1 s k) m) (fun y => LeO.bind (impl_fromIndependent.mono _ _ _) (fun b => LeO.refl _))) (LeO.none _))) (LeO.refl _))
set_option maxHeartbeats 4000000 in
set_option maxRecDepth 100000 in
theorem FromSets1_walk (k : Nat) (n : Int) (A : Option Addr) (c : Nat) (l : List Int) (s : Int) (b : Bool) (gn gs : Nat) (w : World)
  (hr : Kd.C (Kd.int .i64) w A l.length l) (hc : l.length ≤ c)
  (hn : w.heap[gn]? = some (.cells #[.int .i64 n] 3 (0, 0))) (hs : w.heap[gs]? = some (.cells #[.slice A l.length c] 22 (0, 0))) (h : impl_FromSets.c k n l s = some b) :
  Calls Try.prog 106 #[.int .i64 s, .pointer (some ⟨gn, 0, none⟩), .pointer (some ⟨gs, 0, none⟩)] w fun e w' => e = .returned (.bool b) ∧ Below w.heap.size w w' := by
 unfold impl_FromSets.c at h
 obtain ⟨⟨t1, t2⟩, hT, h⟩ := Option.bind_eq_some_iff.1 h
 simp only [Option.some.injEq] at h
 subst h
 have hcn : w.cell? ⟨gn, 0, none⟩ = some (.int .i64 n) := (blk_cell hn 0).trans rfl
 have hcs : w.cell? ⟨gs, 0, none⟩ = some (.slice A l.length c) := (blk_cell hs 0).trans rfl
 have HT := Lib.hid hT
 have HR := Lib.hid hr
 have HC := Lib.hid hc
 clear hn hs hr hc hT
 go_enter Try.func106, Try.ntmps106
 go_wp2_with (first | (go_at_call 107; (with_reducible refine (impl_AssignmentOf.calls k n _ _ l s t1 t2 _ ?side1 ?side2 HT.out).mono ?_); (case side1 => exact HR.out); (case side2 => exact HC.out); rintro e w1_ ⟨v_, rfl, ho_, hb⟩; have HB := aQ hb; clear hb ho_))
 go_ret
 exact ⟨by first | rfl | (simp; done) | (simp [*]; done), HB.out⟩
set_option maxHeartbeats 4000000 in
set_option maxRecDepth 100000 in
theorem impl_FromSets.calls (k : Nat) (a0 : Int) (A1 : Option Addr) (c1 : Nat) (l1 : List Int) (r1 : Int) (r2 : List Int) (w : World) (hr1 : Kd.C (Kd.int .i64) w A1 l1.length l1) (hc1 : l1.length ≤ c1) (h : impl_FromSets.f k a0 l1 = some (r1, r2)) :
  Calls Try.prog 42 #[.int .i64 a0, .slice A1 l1.length c1] w fun e w' => ∃ v1_ : Value, e = .returned (.agg #[.int .i64 r1, v1_]) ∧ Kd.R (Kd.int .i64) 3 w' w.heap.size (fun _ => True) v1_ r2 ∧ Below w.heap.size w w' := by
 have hu2 := Try.underlying26
 have HR := aQ hr1
 have HC := aQ hc1
 have HB := aQ (Below.refl w.heap.size w)
 clear hr1 hc1
 have EG := aQ (show ∀ args w, (callFunc 106 args).run Try.prog w = .ok (.enter 106 args) w from runs_of Try.func106 (by kernel_rfl) rfl)
 unfold impl_FromSets.f at h
 obtain ⟨t, hT, h⟩ := Option.bind_eq_some_iff.1 h
 have HT := aQ hT
 clear hT
 by_cases c3 : t = true
 ·subst c3
  rw [if_pos rfl] at h
  obtain ⟨m, hF, h⟩ := Option.bind_eq_some_iff.1 h
  by_cases hm : 0 ≤ m ∧ m ≤ 1000
  ·rw [if_pos hm] at h
   obtain ⟨y, hS, h⟩ := Option.bind_eq_some_iff.1 h
   obtain ⟨⟨b1, b2, b3⟩, hI, h⟩ := Option.bind_eq_some_iff.1 h
   simp only [Option.some.injEq, Prod.mk.injEq] at h
   obtain ⟨rfl, rfl⟩ := h
   have HF := aQ hF
   have HM := aQ hm
   have HS := Lib.hid hS
   have HI := Lib.hid hI
   clear hF hm hS hI
   go_enter Try.func42, Try.ntmps42
   go_wp2_with (first | ((with_reducible refine gate_dst (N := 2) rfl ?_); refine box_event ?hg (N := 2) ?hd (cs := #[(.int .i64 a0)]) (t := 3) ?hr ?_; (case hd => rfl); (case hg => rfl); (case hr => first | (go_simp; done) | (go_simp; rfl)); intro gn hg w1_ hbox hb; have GBN := aQ ((by rw [hg]; exact below_size (by repeat (first | (with_reducible first | exact HB.out | apply below_alloc | apply pw_below_drewN | apply below_drew1) | exact HB.out))) : w.heap.size ≤ gn); replace HB := aQ (below_step (by repeat (first | (with_reducible first | exact HB.out | apply below_alloc | apply pw_below_drewN | apply below_drew1) | exact HB.out)) hb); have BN := aQ hbox; clear hb hbox hg; have zBN0 : w1_.cell? ⟨gn, 0, none⟩ = some (.int .i64 a0) := (blk_cell BN.out 0).trans rfl) | ((with_reducible refine gate_dst (N := 3) rfl ?_); refine box_event ?hg (N := 3) ?hd (cs := #[(.slice A1 l1.length c1)]) (t := 22) ?hr ?_; (case hd => rfl); (case hg => rfl); (case hr => first | (go_simp; done) | (go_simp; rfl)); intro gs hg w1_ hbox hb; have NBNBS := aQ ((by rw [hg]; exact Nat.ne_of_lt (blk_lt (g := gn) (o := .cells #[(.int .i64 a0)] 3 (0, 0)) (by (with_reducible repeat (first | refine blk_drewN ?_ _ | refine blk_drew ?_ | refine blk_alloc ?_ _)); exact BN.out))) : gn ≠ gs); have GBS := aQ ((by rw [hg]; exact below_size (by repeat (first | (with_reducible first | exact HB.out | apply below_alloc | apply pw_below_drewN | apply below_drew1 | refine below_set ?_ GBN.out) | exact HB.out))) : w.heap.size ≤ gs); have n_BN := aQ (blk_below (g := gn) (o := .cells #[(.int .i64 a0)] 3 (0, 0)) (by (with_reducible repeat (first | refine blk_drewN ?_ _ | refine blk_drew ?_ | refine blk_alloc ?_ _)); exact BN.out) hb); have n_HB := aQ (below_step (by repeat (first | (with_reducible first | exact HB.out | apply below_alloc | apply pw_below_drewN | apply below_drew1 | refine below_set ?_ GBN.out) | exact HB.out)) hb); clear HB; clear BN; have BN := n_BN; clear n_BN; have HB := n_HB; clear n_HB; have BS := aQ hbox; clear hb hbox hg; have zBN0 : w1_.cell? ⟨gn, 0, none⟩ = some (.int .i64 a0) := (blk_cell BN.out 0).trans rfl; have zBS0 : w1_.cell? ⟨gs, 0, none⟩ = some (.slice A1 l1.length c1) := (blk_cell BS.out 0).trans rfl) | ((with_reducible refine gate_dst (N := 4) rfl ?_); refine box_event ?hg (N := 4) ?hd (cs := #[(.int .i64 0), (.slice none 0 0)]) (t := 26) ?hr ?_; (case hd => rfl); (case hg => rfl); (case hr => first | (go_simp; done) | (go_simp; rfl)); intro gr hg w1_ hbox hb; have NBNBR := aQ ((by rw [hg]; exact Nat.ne_of_lt (blk_lt (g := gn) (o := .cells #[(.int .i64 a0)] 3 (0, 0)) (by (with_reducible repeat (first | refine blk_drewN ?_ _ | refine blk_drew ?_ | refine blk_alloc ?_ _)); exact BN.out))) : gn ≠ gr); have NBSBR := aQ ((by rw [hg]; exact Nat.ne_of_lt (blk_lt (g := gs) (o := .cells #[(.slice A1 l1.length c1)] 22 (0, 0)) (by (with_reducible repeat (first | refine blk_drewN ?_ _ | refine blk_drew ?_ | refine blk_alloc ?_ _)); exact BS.out))) : gs ≠ gr); have GBR := aQ ((by rw [hg]; exact below_size (by repeat (first | (with_reducible first | exact HB.out | apply below_alloc | apply pw_below_drewN | apply below_drew1 | refine below_set ?_ GBN.out | refine below_set ?_ GBS.out) | exact HB.out))) : w.heap.size ≤ gr); have n_BN := aQ (blk_below (g := gn) (o := .cells #[(.int .i64 a0)] 3 (0, 0)) (by (with_reducible repeat (first | refine blk_drewN ?_ _ | refine blk_drew ?_ | refine blk_alloc ?_ _)); exact BN.out) hb); have n_BS := aQ (blk_below (g := gs) (o := .cells #[(.slice A1 l1.length c1)] 22 (0, 0)) (by (with_reducible repeat (first | refine blk_drewN ?_ _ | refine blk_drew ?_ | refine blk_alloc ?_ _)); exact BS.out) hb); have n_HB := aQ (below_step (by repeat (first | (with_reducible first | exact HB.out | apply below_alloc | apply pw_below_drewN | apply below_drew1 | refine below_set ?_ GBN.out | refine below_set ?_ GBS.out) | exact HB.out)) hb); clear HB; clear BN; have BN := n_BN; clear n_BN; clear BS; have BS := n_BS; clear n_BS; have HB := n_HB; clear n_HB; have BR := aQ hbox; clear hb hbox hg; have zBN0 : w1_.cell? ⟨gn, 0, none⟩ = some (.int .i64 a0) := (blk_cell BN.out 0).trans rfl; have zBS0 : w1_.cell? ⟨gs, 0, none⟩ = some (.slice A1 l1.length c1) := (blk_cell BS.out 0).trans rfl; have zBR0 : w1_.cell? ⟨gr, 0, none⟩ = some (.int .i64 0) := (blk_cell BR.out 0).trans rfl; have zBR1 : w1_.cell? ⟨gr, 1, none⟩ = some (.slice none 0 0) := (blk_cell BR.out 1).trans rfl) | (go_at_call 104; (with_reducible refine (impl_AreLists.calls k a0 _ _ l1 true _ ?side1 ?side2 HT.out).mono ?_); (case side1 => repeat (first | exact (Kd.C_below HR.out (by repeat (first | (with_reducible first | exact HB.out | apply below_alloc | apply pw_below_drewN | apply below_drew1 | refine below_set ?_ GBN.out | refine below_set ?_ GBS.out | refine below_set ?_ GBR.out) | exact HB.out))) | exact HR.out)); (case side2 => exact HC.out); rintro e w2_ ⟨rfl, ⟨nd, rfl⟩⟩))
   have n_BN : Aside0 ((w1_.drewN nd).drew.heap[gn]? = some (.cells #[(.int .i64 a0)] 3 (0, 0))) := ⟨by (with_reducible repeat (first | refine blk_drewN ?_ _ | refine blk_drew ?_ | refine blk_alloc ?_ _)); exact BN.out⟩
   have n_BS : Aside0 ((w1_.drewN nd).drew.heap[gs]? = some (.cells #[(.slice A1 l1.length c1)] 22 (0, 0))) := ⟨by (with_reducible repeat (first | refine blk_drewN ?_ _ | refine blk_drew ?_ | refine blk_alloc ?_ _)); exact BS.out⟩
   have n_BR : Aside0 ((w1_.drewN nd).drew.heap[gr]? = some (.cells #[(.int .i64 0), (.slice none 0 0)] 26 (0, 0))) := ⟨by (with_reducible repeat (first | refine blk_drewN ?_ _ | refine blk_drew ?_ | refine blk_alloc ?_ _)); exact BR.out⟩
   have n_HB : Aside0 (Below w.heap.size w (w1_.drewN nd).drew) := ⟨(by repeat (first | (with_reducible first | exact HB.out | apply below_alloc | apply pw_below_drewN | apply below_drew1 | refine below_set ?_ GBN.out | refine below_set ?_ GBS.out | refine below_set ?_ GBR.out) | exact HB.out))⟩
   clear BN
   have BN := n_BN
   clear n_BN
   clear BS
   have BS := n_BS
   clear n_BS
   clear BR
   have BR := n_BR
   clear n_BR
   clear HB
   have HB := n_HB
   clear n_HB
   refine start_ (n := 11) (S := fun w' => w'.cell? ⟨gn, 0, none⟩ = some (.int .i64 a0)) (ds := []) #[false, false, false, false, false, false, false, false, false, false, false] (by kernel_rfl) rfl rfl (((blk_cell BN.out 0).trans rfl)) (fun hHeld => ?_)
   generalize (w1_.drewN nd).drew = wD_ at BN BS BR HB hHeld ⊢
   refine pure_ (i := 2) (N := some 15) (v := ?_) (a' := ?_) #[false, false, true, false, false, false, false, false, false, false, false] rfl rfl (by kernel_rfl) (fun _ _ _ h => h) (Or.inl ⟨by rfl, ?_⟩) ?_ ?_
   rotate_left
   ·intro w'
    go_simp
    with_reducible rfl
   rotate_left
   ·simp only [Act.put, List.setIfInBounds_toArray, List.set_cons_zero, List.set_cons_succ, i64_w, i32_w]
    rfl
   refine take_ (i := 0) (N := some 13) (v := ?_) (a' := ?_) #[true, false, true, false, false, false, false, false, false, false, false] rfl rfl (by kernel_rfl) (fun _ _ _ h => h) (Or.inl ⟨by rfl, ?_⟩) hHeld ?_ ?_
   rotate_left
   ·intro w' s0
    go_simp
    with_reducible rfl
   rotate_left
   ·simp only [Act.put, List.setIfInBounds_toArray, List.set_cons_zero, List.set_cons_succ, i64_w, i32_w]
    rfl
   refine take_ (i := 1) (N := some 14) (v := ?_) (a' := ?_) #[true, true, true, false, false, false, false, false, false, false, false] rfl rfl (by kernel_rfl) (fun _ _ _ h => h) (Or.inl ⟨by rfl, ?_⟩) hHeld ?_ ?_
   rotate_left
   ·intro w' s0
    go_simp
    with_reducible rfl
   rotate_left
   ·simp only [Act.put, List.setIfInBounds_toArray, List.set_cons_zero, List.set_cons_succ, i64_w, i32_w]
    rfl
   refine join_ (σ := Value × Value × Nat) 2 #[true, true, true, true, true, true, true, true, true, false, false] (fun s_ => [(16, s_.1), (17, .tuple #[.agg #[.int .i64 b1, s_.2.1], .bool b3]), (12, .tuple #[.agg #[.int .i64 b1, s_.2.1], .bool b3]), (18, .agg #[.int .i64 b1, s_.2.1]), (19, .bool b3), (5, .pointer (some ⟨s_.2.2, 0, none⟩))]) (fun s_ w' => (w'.cell? ⟨gn, 0, none⟩ = some (.int .i64 a0)) ∧ Kd.R (Kd.int .i64) 3 w' w.heap.size (fun _ => True) s_.2.1 b2 ∧ w'.heap[gr]? = some (.cells #[(.int .i64 0), (.slice none 0 0)] 26 (0, 0)) ∧ w'.heap[s_.2.2]? = some (.cells #[(.int .i64 0), (.slice none 0 0)] 26 (0, 0)) ∧ gr ≠ s_.2.2 ∧ gn ≠ s_.2.2 ∧ w.heap.size ≤ s_.2.2 ∧ Below w.heap.size w w' ∧ w'.heap[gn]? = some (.cells #[(.int .i64 a0)] 3 (0, 0))) ?_ ?_
   rotate_left
   ·intro hCont
    refine two_ (i := 3) (j := 8) (Ni := some 16) (Nj := some 5) #[true, true, true, true, false, false, false, false, false, false, false] #[true, true, true, false, false, false, false, false, true, false, false] rfl rfl rfl rfl (by kernel_rfl) (by decide) (by decide) (fun K hK => ?_) (fun K hK => ?_)
    ·skip
     refine goes_ Try.func62 (by kernel_rfl) rfl #[.int .i64 a0, .func (.func 106) #[] #[.pointer (some ⟨gn, 0, none⟩), .pointer (some ⟨gs, 0, none⟩)]] (by rfl) rfl rfl (by (try simp only [List.map_toArray, List.map_cons, List.map_nil]); first | done | rfl) ?_
     with_reducible refine (setsOf_walk (fun s => impl_FromSets.c k a0 l1 s) 106 _ EG.out a0 m y _ HF.out HM.out.1 HM.out.2 HS.out (fun W x b hb hg => calls_of_args (by simp) (FromSets1_walk k a0 A1 c1 l1 x b gn gs W (Kd.C_below (Kd.C_below HR.out (by repeat (first | (with_reducible first | exact HB.out | apply below_alloc | apply pw_below_drewN | apply below_drew1 | refine below_set ?_ GBN.out | refine below_set ?_ GBS.out | refine below_set ?_ GBR.out) | exact HB.out))) hb) HC.out (blk_below (g := gn) (o := .cells #[(.int .i64 a0)] 3 (0, 0)) (by (with_reducible repeat (first | refine blk_drewN ?_ _ | refine blk_drew ?_ | refine blk_alloc ?_ _)); exact BN.out) hb) (blk_below (g := gs) (o := .cells #[(.slice A1 l1.length c1)] 22 (0, 0)) (by (with_reducible repeat (first | refine blk_drewN ?_ _ | refine blk_drew ?_ | refine blk_alloc ?_ _)); exact BS.out) hb) hg))).mono ?_
     rintro e w3_ ⟨v_, rfl, ho_, hb⟩
     refine ⟨_, rfl, ?_⟩
     have m_HO := aQ (Kd.R_lower ho_ (below_size (by repeat (first | (with_reducible first | exact HB.out | apply below_alloc | apply pw_below_drewN | apply below_drew1 | refine below_set ?_ GBN.out | refine below_set ?_ GBS.out | refine below_set ?_ GBR.out) | exact HB.out))))
     have n_BN := aQ (blk_below (g := gn) (o := .cells #[(.int .i64 a0)] 3 (0, 0)) (by (with_reducible repeat (first | refine blk_drewN ?_ _ | refine blk_drew ?_ | refine blk_alloc ?_ _)); exact BN.out) hb)
     have n_BS := aQ (blk_below (g := gs) (o := .cells #[(.slice A1 l1.length c1)] 22 (0, 0)) (by (with_reducible repeat (first | refine blk_drewN ?_ _ | refine blk_drew ?_ | refine blk_alloc ?_ _)); exact BS.out) hb)
     have n_BR := aQ (blk_below (g := gr) (o := .cells #[(.int .i64 0), (.slice none 0 0)] 26 (0, 0)) (by (with_reducible repeat (first | refine blk_drewN ?_ _ | refine blk_drew ?_ | refine blk_alloc ?_ _)); exact BR.out) hb)
     have n_HB := aQ (below_step (by repeat (first | (with_reducible first | exact HB.out | apply below_alloc | apply pw_below_drewN | apply below_drew1 | refine below_set ?_ GBN.out | refine below_set ?_ GBS.out | refine below_set ?_ GBR.out) | exact HB.out)) hb)
     clear HB
     clear BN
     have BN := n_BN
     clear n_BN
     clear BS
     have BS := n_BS
     clear n_BS
     clear BR
     have BR := n_BR
     clear n_BR
     have HB := n_HB
     clear n_HB
     have HO := m_HO
     clear m_HO ho_
     obtain ⟨AHO, cHO, eHO⟩ := Kd.R_slice HO.out
     subst eHO
     clear hb
     refine hK.out _ _ (((blk_cell BN.out 0).trans rfl)) (fun hHeld => ?_)
     clear hK K
     refine norm_ (a' := ?_) ?_ ?_
     rotate_left
     ·show Act.put _ (some 16) _ = _
      simp only [Act.put, List.setIfInBounds_toArray, List.set_cons_zero, List.set_cons_succ, i64_w, i32_w]
      rfl
     refine two_ (i := 4) (j := 8) (Ni := some 17) (Nj := some 5) #[true, true, true, true, true, false, false, false, false, false, false] #[true, true, true, true, false, false, false, false, true, false, false] rfl rfl rfl rfl (by kernel_rfl) (by decide) (by decide) (fun K hK => ?_) (fun K hK => ?_)
     ·skip
      refine goes_ Try.func105 (by kernel_rfl) rfl #[.int .i64 a0, .slice AHO y.length cHO] (by rfl) rfl rfl (by (try simp only [List.map_toArray, List.map_cons, List.map_nil]); first | done | rfl) ?_
      with_reducible refine (impl_fromIndependent.calls k a0 _ _ y b1 b2 b3 _ ?side1 ?side2 HI.out).mono ?_
      (case side1 => repeat (first | exact (Kd.R_reads' HO.out).2.2 | (with_reducible refine Kd.C_alloc ?_ _) | (with_reducible refine Kd.C_drewN ?_ _) | (with_reducible refine Kd.C_drew ?_)))
      (case side2 => exact (Kd.R_reads' HO.out).2.1)
      rintro e w4_ ⟨v_, rfl, ho_, hb⟩
      refine ⟨_, rfl, ?_⟩
      have m_HP := aQ (Kd.R_lower ho_ (below_size (by repeat (first | (with_reducible first | exact HB.out | apply below_alloc | apply pw_below_drewN | apply below_drew1 | refine below_set ?_ GBN.out | refine below_set ?_ GBS.out | refine below_set ?_ GBR.out) | exact HB.out))))
      have n_BN := aQ (blk_below (g := gn) (o := .cells #[(.int .i64 a0)] 3 (0, 0)) (by (with_reducible repeat (first | refine blk_drewN ?_ _ | refine blk_drew ?_ | refine blk_alloc ?_ _)); exact BN.out) hb)
      have n_BS := aQ (blk_below (g := gs) (o := .cells #[(.slice A1 l1.length c1)] 22 (0, 0)) (by (with_reducible repeat (first | refine blk_drewN ?_ _ | refine blk_drew ?_ | refine blk_alloc ?_ _)); exact BS.out) hb)
      have n_BR := aQ (blk_below (g := gr) (o := .cells #[(.int .i64 0), (.slice none 0 0)] 26 (0, 0)) (by (with_reducible repeat (first | refine blk_drewN ?_ _ | refine blk_drew ?_ | refine blk_alloc ?_ _)); exact BR.out) hb)
      have n_HO := aQ (Kd.R_below (by (with_reducible repeat (first | apply Kd.R_alloc | apply Kd.R_drewN | apply Kd.R_drew)); exact HO.out) hb)
      have n_HB := aQ (below_step (by repeat (first | (with_reducible first | exact HB.out | apply below_alloc | apply pw_below_drewN | apply below_drew1 | refine below_set ?_ GBN.out | refine below_set ?_ GBS.out | refine below_set ?_ GBR.out) | exact HB.out)) hb)
      clear HB
      clear BN
      have BN := n_BN
      clear n_BN
      clear BS
      have BS := n_BS
      clear n_BS
      clear BR
      have BR := n_BR
      clear n_BR
      clear HO
      have HO := n_HO
      clear n_HO
      have HB := n_HB
      clear n_HB
      have HP := m_HP
      clear m_HP ho_
      obtain ⟨AHP, cHP, eHP⟩ := Kd.R_slice HP.out
      subst eHP
      clear hb
      refine hK.out _ _ (((blk_cell BN.out 0).trans rfl)) (fun hHeld => ?_)
      clear hK K
      refine norm_ (a' := ?_) ?_ ?_
      rotate_left
      ·show Act.put _ (some 17) _ = _
       simp only [Act.put, List.setIfInBounds_toArray, List.set_cons_zero, List.set_cons_succ, i64_w, i32_w]
       rfl
      refine pure_ (i := 5) (N := some 12) (v := ?_) (a' := ?_) #[true, true, true, true, true, true, false, false, false, false, false] rfl rfl (by kernel_rfl) (fun _ _ _ h => h) (Or.inl ⟨by rfl, ?_⟩) ?_ ?_
      rotate_left
      ·intro w'
       go_simp
       with_reducible rfl
      rotate_left
      ·simp only [Act.put, List.setIfInBounds_toArray, List.set_cons_zero, List.set_cons_succ, i64_w, i32_w]
       rfl
      refine pure_ (i := 6) (N := some 18) (v := ?_) (a' := ?_) #[true, true, true, true, true, true, true, false, false, false, false] rfl rfl (by kernel_rfl) (fun _ _ _ h => h) (Or.inl ⟨by rfl, ?_⟩) ?_ ?_
      rotate_left
      ·intro w'
       go_simp
       with_reducible rfl
      rotate_left
      ·simp only [Act.put, List.setIfInBounds_toArray, List.set_cons_zero, List.set_cons_succ, i64_w, i32_w]
       rfl
      refine pure_ (i := 7) (N := some 19) (v := ?_) (a' := ?_) #[true, true, true, true, true, true, true, true, false, false, false] rfl rfl (by kernel_rfl) (fun _ _ _ h => h) (Or.inl ⟨by rfl, ?_⟩) ?_ ?_
      rotate_left
      ·intro w'
       go_simp
       with_reducible rfl
      rotate_left
      ·simp only [Act.put, List.setIfInBounds_toArray, List.set_cons_zero, List.set_cons_succ, i64_w, i32_w]
       rfl
      refine one_ (i := 8) (N := some 5) #[true, true, true, true, true, true, true, true, true, false, false] rfl rfl (by kernel_rfl) (by decide) (fun K hK => ?_)
      refine box_step ?hg (N := 5) ?hd (cs := #[(.int .i64 0), (.slice none 0 0)]) (t := 26) ?hr ?_; (case hd => rfl); (case hg => rfl); (case hr => first | (go_simp; done) | (go_simp; rfl))
      intro gm hg w8_ hbox hb
      have NBNBM := aQ ((by rw [hg]; exact Nat.ne_of_lt (blk_lt (g := gn) (o := .cells #[(.int .i64 a0)] 3 (0, 0)) (by (with_reducible repeat (first | refine blk_drewN ?_ _ | refine blk_drew ?_ | refine blk_alloc ?_ _)); exact BN.out))) : gn ≠ gm)
      have NBSBM := aQ ((by rw [hg]; exact Nat.ne_of_lt (blk_lt (g := gs) (o := .cells #[(.slice A1 l1.length c1)] 22 (0, 0)) (by (with_reducible repeat (first | refine blk_drewN ?_ _ | refine blk_drew ?_ | refine blk_alloc ?_ _)); exact BS.out))) : gs ≠ gm)
      have NBRBM := aQ ((by rw [hg]; exact Nat.ne_of_lt (blk_lt (g := gr) (o := .cells #[(.int .i64 0), (.slice none 0 0)] 26 (0, 0)) (by (with_reducible repeat (first | refine blk_drewN ?_ _ | refine blk_drew ?_ | refine blk_alloc ?_ _)); exact BR.out))) : gr ≠ gm)
      have GBM := aQ ((by rw [hg]; exact below_size (by repeat (first | (with_reducible first | exact HB.out | apply below_alloc | apply pw_below_drewN | apply below_drew1 | refine below_set ?_ GBN.out | refine below_set ?_ GBS.out | refine below_set ?_ GBR.out) | exact HB.out))) : w.heap.size ≤ gm)
      have n_BN := aQ (blk_below (g := gn) (o := .cells #[(.int .i64 a0)] 3 (0, 0)) (by (with_reducible repeat (first | refine blk_drewN ?_ _ | refine blk_drew ?_ | refine blk_alloc ?_ _)); exact BN.out) hb)
      have n_BS := aQ (blk_below (g := gs) (o := .cells #[(.slice A1 l1.length c1)] 22 (0, 0)) (by (with_reducible repeat (first | refine blk_drewN ?_ _ | refine blk_drew ?_ | refine blk_alloc ?_ _)); exact BS.out) hb)
      have n_BR := aQ (blk_below (g := gr) (o := .cells #[(.int .i64 0), (.slice none 0 0)] 26 (0, 0)) (by (with_reducible repeat (first | refine blk_drewN ?_ _ | refine blk_drew ?_ | refine blk_alloc ?_ _)); exact BR.out) hb)
      have n_HO := aQ (Kd.R_below (by (with_reducible repeat (first | apply Kd.R_alloc | apply Kd.R_drewN | apply Kd.R_drew)); exact HO.out) hb)
      have n_HP := aQ (Kd.R_below (by (with_reducible repeat (first | apply Kd.R_alloc | apply Kd.R_drewN | apply Kd.R_drew)); exact HP.out) hb)
      have n_HB := aQ (below_step (by repeat (first | (with_reducible first | exact HB.out | apply below_alloc | apply pw_below_drewN | apply below_drew1 | refine below_set ?_ GBN.out | refine below_set ?_ GBS.out | refine below_set ?_ GBR.out) | exact HB.out)) hb)
      clear HB
      clear BN
      have BN := n_BN
      clear n_BN
      clear BS
      have BS := n_BS
      clear n_BS
      clear BR
      have BR := n_BR
      clear n_BR
      clear HO
      have HO := n_HO
      clear n_HO
      clear HP
      have HP := n_HP
      clear n_HP
      have HB := n_HB
      clear n_HB
      have BM := aQ hbox
      clear hb hbox hg
      refine hK.out _ _ (((blk_cell BN.out 0).trans rfl)) (fun hHeld => ?_)
      clear hK K
      refine norm_ (a' := ?_) ?_ ?_
      rotate_left
      ·show Act.put _ (some 5) _ = _
       simp only [Act.put, List.setIfInBounds_toArray, List.set_cons_zero, List.set_cons_succ, i64_w, i32_w]
       rfl
      exact norm_ (by simp only [putAll, Act.put, List.setIfInBounds_toArray, List.set_cons_zero, List.set_cons_succ]) (hCont (.slice AHO y.length cHO, .slice AHP b2.length cHP, gm) _ ⟨hHeld, (by (with_reducible repeat (first | apply Kd.R_alloc | apply Kd.R_drewN | apply Kd.R_drew)); exact HP.out), (by (with_reducible repeat (first | refine blk_drewN ?_ _ | refine blk_drew ?_ | refine blk_alloc ?_ _)); exact BR.out), (by (with_reducible repeat (first | refine blk_drewN ?_ _ | refine blk_drew ?_ | refine blk_alloc ?_ _)); exact BM.out), NBRBM.out, NBNBM.out, GBM.out, (by repeat (first | (with_reducible first | exact HB.out | apply below_alloc | apply pw_below_drewN | apply below_drew1 | refine below_set ?_ GBN.out | refine below_set ?_ GBS.out | refine below_set ?_ GBR.out | refine below_set ?_ GBM.out) | exact HB.out)), (by (with_reducible repeat (first | refine blk_drewN ?_ _ | refine blk_drew ?_ | refine blk_alloc ?_ _)); exact BN.out)⟩)
     ·skip
      refine box_step ?hg (N := 5) ?hd (cs := #[(.int .i64 0), (.slice none 0 0)]) (t := 26) ?hr ?_; (case hd => rfl); (case hg => rfl); (case hr => first | (go_simp; done) | (go_simp; rfl))
      intro gm hg w8_ hbox hb
      have NBNBM := aQ ((by rw [hg]; exact Nat.ne_of_lt (blk_lt (g := gn) (o := .cells #[(.int .i64 a0)] 3 (0, 0)) (by (with_reducible repeat (first | refine blk_drewN ?_ _ | refine blk_drew ?_ | refine blk_alloc ?_ _)); exact BN.out))) : gn ≠ gm)
      have NBSBM := aQ ((by rw [hg]; exact Nat.ne_of_lt (blk_lt (g := gs) (o := .cells #[(.slice A1 l1.length c1)] 22 (0, 0)) (by (with_reducible repeat (first | refine blk_drewN ?_ _ | refine blk_drew ?_ | refine blk_alloc ?_ _)); exact BS.out))) : gs ≠ gm)
      have NBRBM := aQ ((by rw [hg]; exact Nat.ne_of_lt (blk_lt (g := gr) (o := .cells #[(.int .i64 0), (.slice none 0 0)] 26 (0, 0)) (by (with_reducible repeat (first | refine blk_drewN ?_ _ | refine blk_drew ?_ | refine blk_alloc ?_ _)); exact BR.out))) : gr ≠ gm)
      have GBM := aQ ((by rw [hg]; exact below_size (by repeat (first | (with_reducible first | exact HB.out | apply below_alloc | apply pw_below_drewN | apply below_drew1 | refine below_set ?_ GBN.out | refine below_set ?_ GBS.out | refine below_set ?_ GBR.out) | exact HB.out))) : w.heap.size ≤ gm)
      have n_BN := aQ (blk_below (g := gn) (o := .cells #[(.int .i64 a0)] 3 (0, 0)) (by (with_reducible repeat (first | refine blk_drewN ?_ _ | refine blk_drew ?_ | refine blk_alloc ?_ _)); exact BN.out) hb)
      have n_BS := aQ (blk_below (g := gs) (o := .cells #[(.slice A1 l1.length c1)] 22 (0, 0)) (by (with_reducible repeat (first | refine blk_drewN ?_ _ | refine blk_drew ?_ | refine blk_alloc ?_ _)); exact BS.out) hb)
      have n_BR := aQ (blk_below (g := gr) (o := .cells #[(.int .i64 0), (.slice none 0 0)] 26 (0, 0)) (by (with_reducible repeat (first | refine blk_drewN ?_ _ | refine blk_drew ?_ | refine blk_alloc ?_ _)); exact BR.out) hb)
      have n_HO := aQ (Kd.R_below (by (with_reducible repeat (first | apply Kd.R_alloc | apply Kd.R_drewN | apply Kd.R_drew)); exact HO.out) hb)
      have n_HB := aQ (below_step (by repeat (first | (with_reducible first | exact HB.out | apply below_alloc | apply pw_below_drewN | apply below_drew1 | refine below_set ?_ GBN.out | refine below_set ?_ GBS.out | refine below_set ?_ GBR.out) | exact HB.out)) hb)
      clear HB
      clear BN
      have BN := n_BN
      clear n_BN
      clear BS
      have BS := n_BS
      clear n_BS
      clear BR
      have BR := n_BR
      clear n_BR
      clear HO
      have HO := n_HO
      clear n_HO
      have HB := n_HB
      clear n_HB
      have BM := aQ hbox
      clear hb hbox hg
      refine hK.out _ _ (((blk_cell BN.out 0).trans rfl)) (fun hHeld => ?_)
      clear hK K
      refine norm_ (a' := ?_) ?_ ?_
      rotate_left
      ·show Act.put _ (some 5) _ = _
       simp only [Act.put, List.setIfInBounds_toArray, List.set_cons_zero, List.set_cons_succ, i64_w, i32_w]
       rfl
      refine one_ (i := 4) (N := some 17) #[true, true, true, true, true, false, false, false, true, false, false] rfl rfl (by kernel_rfl) (by decide) (fun K hK => ?_)
      refine goes_ Try.func105 (by kernel_rfl) rfl #[.int .i64 a0, .slice AHO y.length cHO] (by rfl) rfl rfl (by (try simp only [List.map_toArray, List.map_cons, List.map_nil]); first | done | rfl) ?_
      with_reducible refine (impl_fromIndependent.calls k a0 _ _ y b1 b2 b3 _ ?side1 ?side2 HI.out).mono ?_
      (case side1 => repeat (first | exact (Kd.R_reads' HO.out).2.2 | (with_reducible refine Kd.C_alloc ?_ _) | (with_reducible refine Kd.C_drewN ?_ _) | (with_reducible refine Kd.C_drew ?_)))
      (case side2 => exact (Kd.R_reads' HO.out).2.1)
      rintro e w4_ ⟨v_, rfl, ho_, hb⟩
      refine ⟨_, rfl, ?_⟩
      have m_HP := aQ (Kd.R_lower ho_ (below_size (by repeat (first | (with_reducible first | exact HB.out | apply below_alloc | apply pw_below_drewN | apply below_drew1 | refine below_set ?_ GBN.out | refine below_set ?_ GBS.out | refine below_set ?_ GBR.out | refine below_set ?_ GBM.out) | exact HB.out))))
      have n_BN := aQ (blk_below (g := gn) (o := .cells #[(.int .i64 a0)] 3 (0, 0)) (by (with_reducible repeat (first | refine blk_drewN ?_ _ | refine blk_drew ?_ | refine blk_alloc ?_ _)); exact BN.out) hb)
      have n_BS := aQ (blk_below (g := gs) (o := .cells #[(.slice A1 l1.length c1)] 22 (0, 0)) (by (with_reducible repeat (first | refine blk_drewN ?_ _ | refine blk_drew ?_ | refine blk_alloc ?_ _)); exact BS.out) hb)
      have n_BR := aQ (blk_below (g := gr) (o := .cells #[(.int .i64 0), (.slice none 0 0)] 26 (0, 0)) (by (with_reducible repeat (first | refine blk_drewN ?_ _ | refine blk_drew ?_ | refine blk_alloc ?_ _)); exact BR.out) hb)
      have n_BM := aQ (blk_below (g := gm) (o := .cells #[(.int .i64 0), (.slice none 0 0)] 26 (0, 0)) (by (with_reducible repeat (first | refine blk_drewN ?_ _ | refine blk_drew ?_ | refine blk_alloc ?_ _)); exact BM.out) hb)
      have n_HO := aQ (Kd.R_below (by (with_reducible repeat (first | apply Kd.R_alloc | apply Kd.R_drewN | apply Kd.R_drew)); exact HO.out) hb)
      have n_HB := aQ (below_step (by repeat (first | (with_reducible first | exact HB.out | apply below_alloc | apply pw_below_drewN | apply below_drew1 | refine below_set ?_ GBN.out | refine below_set ?_ GBS.out | refine below_set ?_ GBR.out | refine below_set ?_ GBM.out) | exact HB.out)) hb)
      clear HB
      clear BN
      have BN := n_BN
      clear n_BN
      clear BS
      have BS := n_BS
      clear n_BS
      clear BR
      have BR := n_BR
      clear n_BR
      clear BM
      have BM := n_BM
      clear n_BM
      clear HO
      have HO := n_HO
      clear n_HO
      have HB := n_HB
      clear n_HB
      have HP := m_HP
      clear m_HP ho_
      obtain ⟨AHP, cHP, eHP⟩ := Kd.R_slice HP.out
      subst eHP
      clear hb
      refine hK.out _ _ (((blk_cell BN.out 0).trans rfl)) (fun hHeld => ?_)
      clear hK K
      refine norm_ (a' := ?_) ?_ ?_
      rotate_left
      ·show Act.put _ (some 17) _ = _
       simp only [Act.put, List.setIfInBounds_toArray, List.set_cons_zero, List.set_cons_succ, i64_w, i32_w]
       rfl
      refine pure_ (i := 5) (N := some 12) (v := ?_) (a' := ?_) #[true, true, true, true, true, true, false, false, true, false, false] rfl rfl (by kernel_rfl) (fun _ _ _ h => h) (Or.inl ⟨by rfl, ?_⟩) ?_ ?_
      rotate_left
      ·intro w'
       go_simp
       with_reducible rfl
      rotate_left
      ·simp only [Act.put, List.setIfInBounds_toArray, List.set_cons_zero, List.set_cons_succ, i64_w, i32_w]
       rfl
      refine pure_ (i := 6) (N := some 18) (v := ?_) (a' := ?_) #[true, true, true, true, true, true, true, false, true, false, false] rfl rfl (by kernel_rfl) (fun _ _ _ h => h) (Or.inl ⟨by rfl, ?_⟩) ?_ ?_
      rotate_left
      ·intro w'
       go_simp
       with_reducible rfl
      rotate_left
      ·simp only [Act.put, List.setIfInBounds_toArray, List.set_cons_zero, List.set_cons_succ, i64_w, i32_w]
       rfl
      refine pure_ (i := 7) (N := some 19) (v := ?_) (a' := ?_) #[true, true, true, true, true, true, true, true, true, false, false] rfl rfl (by kernel_rfl) (fun _ _ _ h => h) (Or.inl ⟨by rfl, ?_⟩) ?_ ?_
      rotate_left
      ·intro w'
       go_simp
       with_reducible rfl
      rotate_left
      ·simp only [Act.put, List.setIfInBounds_toArray, List.set_cons_zero, List.set_cons_succ, i64_w, i32_w]
       rfl
      exact norm_ (by simp only [putAll, Act.put, List.setIfInBounds_toArray, List.set_cons_zero, List.set_cons_succ]) (hCont (.slice AHO y.length cHO, .slice AHP b2.length cHP, gm) _ ⟨hHeld, (by (with_reducible repeat (first | apply Kd.R_alloc | apply Kd.R_drewN | apply Kd.R_drew)); exact HP.out), (by (with_reducible repeat (first | refine blk_drewN ?_ _ | refine blk_drew ?_ | refine blk_alloc ?_ _)); exact BR.out), (by (with_reducible repeat (first | refine blk_drewN ?_ _ | refine blk_drew ?_ | refine blk_alloc ?_ _)); exact BM.out), NBRBM.out, NBNBM.out, GBM.out, (by repeat (first | (with_reducible first | exact HB.out | apply below_alloc | apply pw_below_drewN | apply below_drew1 | refine below_set ?_ GBN.out | refine below_set ?_ GBS.out | refine below_set ?_ GBR.out | refine below_set ?_ GBM.out) | exact HB.out)), (by (with_reducible repeat (first | refine blk_drewN ?_ _ | refine blk_drew ?_ | refine blk_alloc ?_ _)); exact BN.out)⟩)
    ·skip
     refine box_step ?hg (N := 5) ?hd (cs := #[(.int .i64 0), (.slice none 0 0)]) (t := 26) ?hr ?_; (case hd => rfl); (case hg => rfl); (case hr => first | (go_simp; done) | (go_simp; rfl))
     intro gm hg w8_ hbox hb
     have NBNBM := aQ ((by rw [hg]; exact Nat.ne_of_lt (blk_lt (g := gn) (o := .cells #[(.int .i64 a0)] 3 (0, 0)) (by (with_reducible repeat (first | refine blk_drewN ?_ _ | refine blk_drew ?_ | refine blk_alloc ?_ _)); exact BN.out))) : gn ≠ gm)
     have NBSBM := aQ ((by rw [hg]; exact Nat.ne_of_lt (blk_lt (g := gs) (o := .cells #[(.slice A1 l1.length c1)] 22 (0, 0)) (by (with_reducible repeat (first | refine blk_drewN ?_ _ | refine blk_drew ?_ | refine blk_alloc ?_ _)); exact BS.out))) : gs ≠ gm)
     have NBRBM := aQ ((by rw [hg]; exact Nat.ne_of_lt (blk_lt (g := gr) (o := .cells #[(.int .i64 0), (.slice none 0 0)] 26 (0, 0)) (by (with_reducible repeat (first | refine blk_drewN ?_ _ | refine blk_drew ?_ | refine blk_alloc ?_ _)); exact BR.out))) : gr ≠ gm)
     have GBM := aQ ((by rw [hg]; exact below_size (by repeat (first | (with_reducible first | exact HB.out | apply below_alloc | apply pw_below_drewN | apply below_drew1 | refine below_set ?_ GBN.out | refine below_set ?_ GBS.out | refine below_set ?_ GBR.out) | exact HB.out))) : w.heap.size ≤ gm)
     have n_BN := aQ (blk_below (g := gn) (o := .cells #[(.int .i64 a0)] 3 (0, 0)) (by (with_reducible repeat (first | refine blk_drewN ?_ _ | refine blk_drew ?_ | refine blk_alloc ?_ _)); exact BN.out) hb)
     have n_BS := aQ (blk_below (g := gs) (o := .cells #[(.slice A1 l1.length c1)] 22 (0, 0)) (by (with_reducible repeat (first | refine blk_drewN ?_ _ | refine blk_drew ?_ | refine blk_alloc ?_ _)); exact BS.out) hb)
     have n_BR := aQ (blk_below (g := gr) (o := .cells #[(.int .i64 0), (.slice none 0 0)] 26 (0, 0)) (by (with_reducible repeat (first | refine blk_drewN ?_ _ | refine blk_drew ?_ | refine blk_alloc ?_ _)); exact BR.out) hb)
     have n_HB := aQ (below_step (by repeat (first | (with_reducible first | exact HB.out | apply below_alloc | apply pw_below_drewN | apply below_drew1 | refine below_set ?_ GBN.out | refine below_set ?_ GBS.out | refine below_set ?_ GBR.out) | exact HB.out)) hb)
     clear HB
     clear BN
     have BN := n_BN
     clear n_BN
     clear BS
     have BS := n_BS
     clear n_BS
     clear BR
     have BR := n_BR
     clear n_BR
     have HB := n_HB
     clear n_HB
     have BM := aQ hbox
     clear hb hbox hg
     refine hK.out _ _ (((blk_cell BN.out 0).trans rfl)) (fun hHeld => ?_)
     clear hK K
     refine norm_ (a' := ?_) ?_ ?_
     rotate_left
     ·show Act.put _ (some 5) _ = _
      simp only [Act.put, List.setIfInBounds_toArray, List.set_cons_zero, List.set_cons_succ, i64_w, i32_w]
      rfl
     refine one_ (i := 3) (N := some 16) #[true, true, true, true, false, false, false, false, true, false, false] rfl rfl (by kernel_rfl) (by decide) (fun K hK => ?_)
     refine goes_ Try.func62 (by kernel_rfl) rfl #[.int .i64 a0, .func (.func 106) #[] #[.pointer (some ⟨gn, 0, none⟩), .pointer (some ⟨gs, 0, none⟩)]] (by rfl) rfl rfl (by (try simp only [List.map_toArray, List.map_cons, List.map_nil]); first | done | rfl) ?_
     with_reducible refine (setsOf_walk (fun s => impl_FromSets.c k a0 l1 s) 106 _ EG.out a0 m y _ HF.out HM.out.1 HM.out.2 HS.out (fun W x b hb hg => calls_of_args (by simp) (FromSets1_walk k a0 A1 c1 l1 x b gn gs W (Kd.C_below (Kd.C_below HR.out (by repeat (first | (with_reducible first | exact HB.out | apply below_alloc | apply pw_below_drewN | apply below_drew1 | refine below_set ?_ GBN.out | refine below_set ?_ GBS.out | refine below_set ?_ GBR.out | refine below_set ?_ GBM.out) | exact HB.out))) hb) HC.out (blk_below (g := gn) (o := .cells #[(.int .i64 a0)] 3 (0, 0)) (by (with_reducible repeat (first | refine blk_drewN ?_ _ | refine blk_drew ?_ | refine blk_alloc ?_ _)); exact BN.out) hb) (blk_below (g := gs) (o := .cells #[(.slice A1 l1.length c1)] 22 (0, 0)) (by (with_reducible repeat (first | refine blk_drewN ?_ _ | refine blk_drew ?_ | refine blk_alloc ?_ _)); exact BS.out) hb) hg))).mono ?_
     rintro e w3_ ⟨v_, rfl, ho_, hb⟩
     refine ⟨_, rfl, ?_⟩
     have m_HO := aQ (Kd.R_lower ho_ (below_size (by repeat (first | (with_reducible first | exact HB.out | apply below_alloc | apply pw_below_drewN | apply below_drew1 | refine below_set ?_ GBN.out | refine below_set ?_ GBS.out | refine below_set ?_ GBR.out | refine below_set ?_ GBM.out) | exact HB.out))))
     have n_BN := aQ (blk_below (g := gn) (o := .cells #[(.int .i64 a0)] 3 (0, 0)) (by (with_reducible repeat (first | refine blk_drewN ?_ _ | refine blk_drew ?_ | refine blk_alloc ?_ _)); exact BN.out) hb)
     have n_BS := aQ (blk_below (g := gs) (o := .cells #[(.slice A1 l1.length c1)] 22 (0, 0)) (by (with_reducible repeat (first | refine blk_drewN ?_ _ | refine blk_drew ?_ | refine blk_alloc ?_ _)); exact BS.out) hb)
     have n_BR := aQ (blk_below (g := gr) (o := .cells #[(.int .i64 0), (.slice none 0 0)] 26 (0, 0)) (by (with_reducible repeat (first | refine blk_drewN ?_ _ | refine blk_drew ?_ | refine blk_alloc ?_ _)); exact BR.out) hb)
     have n_BM := aQ (blk_below (g := gm) (o := .cells #[(.int .i64 0), (.slice none 0 0)] 26 (0, 0)) (by (with_reducible repeat (first | refine blk_drewN ?_ _ | refine blk_drew ?_ | refine blk_alloc ?_ _)); exact BM.out) hb)
     have n_HB := aQ (below_step (by repeat (first | (with_reducible first | exact HB.out | apply below_alloc | apply pw_below_drewN | apply below_drew1 | refine below_set ?_ GBN.out | refine below_set ?_ GBS.out | refine below_set ?_ GBR.out | refine below_set ?_ GBM.out) | exact HB.out)) hb)
     clear HB
     clear BN
     have BN := n_BN
     clear n_BN
     clear BS
     have BS := n_BS
     clear n_BS
     clear BR
     have BR := n_BR
     clear n_BR
     clear BM
     have BM := n_BM
     clear n_BM
     have HB := n_HB
     clear n_HB
     have HO := m_HO
     clear m_HO ho_
     obtain ⟨AHO, cHO, eHO⟩ := Kd.R_slice HO.out
     subst eHO
     clear hb
     refine hK.out _ _ (((blk_cell BN.out 0).trans rfl)) (fun hHeld => ?_)
     clear hK K
     refine norm_ (a' := ?_) ?_ ?_
     rotate_left
     ·show Act.put _ (some 16) _ = _
      simp only [Act.put, List.setIfInBounds_toArray, List.set_cons_zero, List.set_cons_succ, i64_w, i32_w]
      rfl
     refine one_ (i := 4) (N := some 17) #[true, true, true, true, true, false, false, false, true, false, false] rfl rfl (by kernel_rfl) (by decide) (fun K hK => ?_)
     refine goes_ Try.func105 (by kernel_rfl) rfl #[.int .i64 a0, .slice AHO y.length cHO] (by rfl) rfl rfl (by (try simp only [List.map_toArray, List.map_cons, List.map_nil]); first | done | rfl) ?_
     with_reducible refine (impl_fromIndependent.calls k a0 _ _ y b1 b2 b3 _ ?side1 ?side2 HI.out).mono ?_
     (case side1 => repeat (first | exact (Kd.R_reads' HO.out).2.2 | (with_reducible refine Kd.C_alloc ?_ _) | (with_reducible refine Kd.C_drewN ?_ _) | (with_reducible refine Kd.C_drew ?_)))
     (case side2 => exact (Kd.R_reads' HO.out).2.1)
     rintro e w4_ ⟨v_, rfl, ho_, hb⟩
     refine ⟨_, rfl, ?_⟩
     have m_HP := aQ (Kd.R_lower ho_ (below_size (by repeat (first | (with_reducible first | exact HB.out | apply below_alloc | apply pw_below_drewN | apply below_drew1 | refine below_set ?_ GBN.out | refine below_set ?_ GBS.out | refine below_set ?_ GBR.out | refine below_set ?_ GBM.out) | exact HB.out))))
     have n_BN := aQ (blk_below (g := gn) (o := .cells #[(.int .i64 a0)] 3 (0, 0)) (by (with_reducible repeat (first | refine blk_drewN ?_ _ | refine blk_drew ?_ | refine blk_alloc ?_ _)); exact BN.out) hb)
     have n_BS := aQ (blk_below (g := gs) (o := .cells #[(.slice A1 l1.length c1)] 22 (0, 0)) (by (with_reducible repeat (first | refine blk_drewN ?_ _ | refine blk_drew ?_ | refine blk_alloc ?_ _)); exact BS.out) hb)
     have n_BR := aQ (blk_below (g := gr) (o := .cells #[(.int .i64 0), (.slice none 0 0)] 26 (0, 0)) (by (with_reducible repeat (first | refine blk_drewN ?_ _ | refine blk_drew ?_ | refine blk_alloc ?_ _)); exact BR.out) hb)
     have n_BM := aQ (blk_below (g := gm) (o := .cells #[(.int .i64 0), (.slice none 0 0)] 26 (0, 0)) (by (with_reducible repeat (first | refine blk_drewN ?_ _ | refine blk_drew ?_ | refine blk_alloc ?_ _)); exact BM.out) hb)
     have n_HO := aQ (Kd.R_below (by (with_reducible repeat (first | apply Kd.R_alloc | apply Kd.R_drewN | apply Kd.R_drew)); exact HO.out) hb)
     have n_HB := aQ (below_step (by repeat (first | (with_reducible first | exact HB.out | apply below_alloc | apply pw_below_drewN | apply below_drew1 | refine below_set ?_ GBN.out | refine below_set ?_ GBS.out | refine below_set ?_ GBR.out | refine below_set ?_ GBM.out) | exact HB.out)) hb)
     clear HB
     clear BN
     have BN := n_BN
     clear n_BN
     clear BS
     have BS := n_BS
     clear n_BS
     clear BR
     have BR := n_BR
     clear n_BR
     clear BM
     have BM := n_BM
     clear n_BM
     clear HO
     have HO := n_HO
     clear n_HO
     have HB := n_HB
     clear n_HB
     have HP := m_HP
     clear m_HP ho_
     obtain ⟨AHP, cHP, eHP⟩ := Kd.R_slice HP.out
     subst eHP
     clear hb
     refine hK.out _ _ (((blk_cell BN.out 0).trans rfl)) (fun hHeld => ?_)
     clear hK K
     refine norm_ (a' := ?_) ?_ ?_
     rotate_left
     ·show Act.put _ (some 17) _ = _
      simp only [Act.put, List.setIfInBounds_toArray, List.set_cons_zero, List.set_cons_succ, i64_w, i32_w]
      rfl
     refine pure_ (i := 5) (N := some 12) (v := ?_) (a' := ?_) #[true, true, true, true, true, true, false, false, true, false, false] rfl rfl (by kernel_rfl) (fun _ _ _ h => h) (Or.inl ⟨by rfl, ?_⟩) ?_ ?_
     rotate_left
     ·intro w'
      go_simp
      with_reducible rfl
     rotate_left
     ·simp only [Act.put, List.setIfInBounds_toArray, List.set_cons_zero, List.set_cons_succ, i64_w, i32_w]
      rfl
     refine pure_ (i := 6) (N := some 18) (v := ?_) (a' := ?_) #[true, true, true, true, true, true, true, false, true, false, false] rfl rfl (by kernel_rfl) (fun _ _ _ h => h) (Or.inl ⟨by rfl, ?_⟩) ?_ ?_
     rotate_left
     ·intro w'
      go_simp
      with_reducible rfl
     rotate_left
     ·simp only [Act.put, List.setIfInBounds_toArray, List.set_cons_zero, List.set_cons_succ, i64_w, i32_w]
      rfl
     refine pure_ (i := 7) (N := some 19) (v := ?_) (a' := ?_) #[true, true, true, true, true, true, true, true, true, false, false] rfl rfl (by kernel_rfl) (fun _ _ _ h => h) (Or.inl ⟨by rfl, ?_⟩) ?_ ?_
     rotate_left
     ·intro w'
      go_simp
      with_reducible rfl
     rotate_left
     ·simp only [Act.put, List.setIfInBounds_toArray, List.set_cons_zero, List.set_cons_succ, i64_w, i32_w]
      rfl
     exact norm_ (by simp only [putAll, Act.put, List.setIfInBounds_toArray, List.set_cons_zero, List.set_cons_succ]) (hCont (.slice AHO y.length cHO, .slice AHP b2.length cHP, gm) _ ⟨hHeld, (by (with_reducible repeat (first | apply Kd.R_alloc | apply Kd.R_drewN | apply Kd.R_drew)); exact HP.out), (by (with_reducible repeat (first | refine blk_drewN ?_ _ | refine blk_drew ?_ | refine blk_alloc ?_ _)); exact BR.out), (by (with_reducible repeat (first | refine blk_drewN ?_ _ | refine blk_drew ?_ | refine blk_alloc ?_ _)); exact BM.out), NBRBM.out, NBNBM.out, GBM.out, (by repeat (first | (with_reducible first | exact HB.out | apply below_alloc | apply pw_below_drewN | apply below_drew1 | refine below_set ?_ GBN.out | refine below_set ?_ GBS.out | refine below_set ?_ GBR.out | refine below_set ?_ GBM.out) | exact HB.out)), (by (with_reducible repeat (first | refine blk_drewN ?_ _ | refine blk_drew ?_ | refine blk_alloc ?_ _)); exact BN.out)⟩)
   rintro ⟨v16_, vP_, gm⟩ wF_ ⟨hS_, h0_, h1_, h2_, h3_, h4_, h5_, h6_, h7_⟩
   clear BR BN BS HB hHeld
   have HP := aQ h0_
   have BR := aQ h1_
   have BM := aQ h2_
   have NBRBM := aQ h3_
   have NBNBM := aQ h4_
   have GBM := aQ h5_
   have HB := aQ h6_
   have BN := aQ h7_
   have hHeld : wF_.cell? ⟨gn, 0, none⟩ = some (.int .i64 a0) := hS_
   clear hS_ h0_ h1_ h2_ h3_ h4_ h5_ h6_ h7_
   dsimp only at HP BM NBRBM NBNBM GBM
   obtain ⟨AHP, cHP, eHP⟩ := Kd.R_slice HP.out
   subst eHP
   refine norm_ (a' := ?_) ?_ ?_
   rotate_left
   ·simp only [putAll, Act.put, List.setIfInBounds_toArray, List.set_cons_zero, List.set_cons_succ]
    rfl
   refine one_ (i := 9) (N := none) #[true, true, true, true, true, true, true, true, true, true, false] rfl rfl (by kernel_rfl) (by decide) (fun K hK => ?_)
   have hs9_0 : wF_.cell? ⟨gm, 0, none⟩ = some (.int .i64 0) := (blk_cell BM.out 0).trans rfl
   have hfs9_0 := blk_frozen BM.out 0
   have hs9_1 : wF_.cell? ⟨gm, 1, none⟩ = some (.slice none 0 0) := (blk_cell BM.out 1).trans rfl
   have hfs9_1 := blk_frozen BM.out 1
   have hns9_BN := NBNBM.out
   have hms9_BN := Ne.symm NBNBM.out
   have hns9_BR := NBRBM.out
   have hms9_BR := Ne.symm NBRBM.out
   refine skip_ (w1 := ?_) (by rfl) rfl ?_ ?_
   rotate_left
   ·go_simp
    rfl
   refine hK.out _ _ (((cell_far (p := ⟨gm, _, none⟩) NBNBM.out _).trans ((cell_far (p := ⟨gm, _, none⟩) NBNBM.out _).trans hHeld))) (fun hHeld => ?_)
   clear hK K
   refine pure_ (i := 10) (N := some 6) (v := ?_) (a' := ?_) #[true, true, true, true, true, true, true, true, true, true, true] rfl rfl (by kernel_rfl) (fun _ _ _ h => h) (Or.inl ⟨by rfl, ?_⟩) ?_ ?_
   rotate_left
   ·intro w'
    go_simp
    with_reducible rfl
   rotate_left
   ·simp only [Act.put, List.setIfInBounds_toArray, List.set_cons_zero, List.set_cons_succ, i64_w, i32_w]
    rfl
   refine done_ (by kernel_rfl) ?_
   have zeBR0 : wF_.cell? ⟨gr, 0, none⟩ = some (.int .i64 0) := (blk_cell BR.out 0).trans rfl
   have zeBR1 : wF_.cell? ⟨gr, 1, none⟩ = some (.slice none 0 0) := (blk_cell BR.out 1).trans rfl
   have zeBM0 : wF_.cell? ⟨gm, 0, none⟩ = some (.int .i64 0) := (blk_cell BM.out 0).trans rfl
   have zeBM1 : wF_.cell? ⟨gm, 1, none⟩ = some (.slice none 0 0) := (blk_cell BM.out 1).trans rfl
   have hf0BR := blk_frozen BR.out 0
   have hf1BR := blk_frozen BR.out 1
   have hf0BM := blk_frozen BM.out 0
   have hf1BM := blk_frozen BM.out 1
   have hne1 := NBRBM.out
   have hne2 := Ne.symm NBRBM.out
   go_wp2
   refine bodyPost_ret (results_cell_row rfl _ _ gr 26 #[(.int .i64 b1), (.slice AHP b2.length cHP)] (0, 0) _ rfl (by (with_reducible repeat (first | refine blk_drewN ?_ _ | refine blk_drew ?_ | refine blk_alloc ?_ _)); refine blk_put (cs := #[(.int .i64 b1), .slice none 0 0]) ?_ 1 _ rfl; (with_reducible repeat (first | refine blk_drewN ?_ _ | refine blk_drew ?_ | refine blk_alloc ?_ _)); refine blk_put (cs := #[(.int .i64 0), (.slice none 0 0)]) ?_ 0 _ rfl; (with_reducible repeat (first | refine blk_drewN ?_ _ | refine blk_drew ?_ | refine blk_alloc ?_ _)); refine blk_far (p := ⟨gm, 1, none⟩) ?_ NBRBM.out _; (with_reducible repeat (first | refine blk_drewN ?_ _ | refine blk_drew ?_ | refine blk_alloc ?_ _)); refine blk_far (p := ⟨gm, 0, none⟩) ?_ NBRBM.out _; (with_reducible repeat (first | refine blk_drewN ?_ _ | refine blk_drew ?_ | refine blk_alloc ?_ _)); exact BR.out) Try.underlying26 rfl (by kernel_rfl)) rfl ?_
   exact ⟨_, by first | rfl | (simp; done) | (simp [*]; done), by (with_reducible repeat (first | apply Kd.R_alloc | apply Kd.R_drewN | apply Kd.R_drew)); exact Kd.R_mono (Kd.R_far (p := ⟨gr, 1, none⟩) (Kd.R_far (p := ⟨gr, 0, none⟩) (Kd.R_far (p := ⟨gm, 1, none⟩) (Kd.R_far (p := ⟨gm, 0, none⟩) (Kd.R_types (Kd.R_types HP.out BR.out (by decide)) BM.out (by decide)) (fun _ hk => hk.2) _) (fun _ hk => hk.2) _) (fun _ hk => hk.1.2) _) (fun _ hk => hk.1.2) _) (fun _ hk => trivial), (by repeat (first | (with_reducible first | exact HB.out | apply below_alloc | apply pw_below_drewN | apply below_drew1 | refine below_set ?_ GBR.out | refine below_set ?_ GBM.out) | exact HB.out))⟩
  ·rw [if_neg hm] at h; cases h
 ·have c4 := Bool.eq_false_iff.mpr c3
  subst c4
  clear c3
  rw [if_neg (by decide)] at h
  simp only [Option.some.injEq, Prod.mk.injEq] at h
  obtain ⟨rfl, rfl⟩ := h
  go_enter Try.func42, Try.ntmps42
  go_wp2_with (first | ((with_reducible refine gate_dst (N := 2) rfl ?_); refine box_event ?hg (N := 2) ?hd (cs := #[(.int .i64 a0)]) (t := 3) ?hr ?_; (case hd => rfl); (case hg => rfl); (case hr => first | (go_simp; done) | (go_simp; rfl)); intro gn hg w1_ hbox hb; have GBN := aQ ((by rw [hg]; exact below_size (by repeat (first | (with_reducible first | exact HB.out | apply below_alloc | apply pw_below_drewN | apply below_drew1) | exact HB.out))) : w.heap.size ≤ gn); replace HB := aQ (below_step (by repeat (first | (with_reducible first | exact HB.out | apply below_alloc | apply pw_below_drewN | apply below_drew1) | exact HB.out)) hb); have BN := aQ hbox; clear hb hbox hg; have zBN0 : w1_.cell? ⟨gn, 0, none⟩ = some (.int .i64 a0) := (blk_cell BN.out 0).trans rfl) | ((with_reducible refine gate_dst (N := 3) rfl ?_); refine box_event ?hg (N := 3) ?hd (cs := #[(.slice A1 l1.length c1)]) (t := 22) ?hr ?_; (case hd => rfl); (case hg => rfl); (case hr => first | (go_simp; done) | (go_simp; rfl)); intro gs hg w1_ hbox hb; have NBNBS := aQ ((by rw [hg]; exact Nat.ne_of_lt (blk_lt (g := gn) (o := .cells #[(.int .i64 a0)] 3 (0, 0)) (by (with_reducible repeat (first | refine blk_drewN ?_ _ | refine blk_drew ?_ | refine blk_alloc ?_ _)); exact BN.out))) : gn ≠ gs); have GBS := aQ ((by rw [hg]; exact below_size (by repeat (first | (with_reducible first | exact HB.out | apply below_alloc | apply pw_below_drewN | apply below_drew1 | refine below_set ?_ GBN.out) | exact HB.out))) : w.heap.size ≤ gs); have n_BN := aQ (blk_below (g := gn) (o := .cells #[(.int .i64 a0)] 3 (0, 0)) (by (with_reducible repeat (first | refine blk_drewN ?_ _ | refine blk_drew ?_ | refine blk_alloc ?_ _)); exact BN.out) hb); have n_HB := aQ (below_step (by repeat (first | (with_reducible first | exact HB.out | apply below_alloc | apply pw_below_drewN | apply below_drew1 | refine below_set ?_ GBN.out) | exact HB.out)) hb); clear HB; clear BN; have BN := n_BN; clear n_BN; have HB := n_HB; clear n_HB; have BS := aQ hbox; clear hb hbox hg; have zBN0 : w1_.cell? ⟨gn, 0, none⟩ = some (.int .i64 a0) := (blk_cell BN.out 0).trans rfl; have zBS0 : w1_.cell? ⟨gs, 0, none⟩ = some (.slice A1 l1.length c1) := (blk_cell BS.out 0).trans rfl) | ((with_reducible refine gate_dst (N := 4) rfl ?_); refine box_event ?hg (N := 4) ?hd (cs := #[(.int .i64 0), (.slice none 0 0)]) (t := 26) ?hr ?_; (case hd => rfl); (case hg => rfl); (case hr => first | (go_simp; done) | (go_simp; rfl)); intro gr hg w1_ hbox hb; have NBNBR := aQ ((by rw [hg]; exact Nat.ne_of_lt (blk_lt (g := gn) (o := .cells #[(.int .i64 a0)] 3 (0, 0)) (by (with_reducible repeat (first | refine blk_drewN ?_ _ | refine blk_drew ?_ | refine blk_alloc ?_ _)); exact BN.out))) : gn ≠ gr); have NBSBR := aQ ((by rw [hg]; exact Nat.ne_of_lt (blk_lt (g := gs) (o := .cells #[(.slice A1 l1.length c1)] 22 (0, 0)) (by (with_reducible repeat (first | refine blk_drewN ?_ _ | refine blk_drew ?_ | refine blk_alloc ?_ _)); exact BS.out))) : gs ≠ gr); have GBR := aQ ((by rw [hg]; exact below_size (by repeat (first | (with_reducible first | exact HB.out | apply below_alloc | apply pw_below_drewN | apply below_drew1 | refine below_set ?_ GBN.out | refine below_set ?_ GBS.out) | exact HB.out))) : w.heap.size ≤ gr); have n_BN := aQ (blk_below (g := gn) (o := .cells #[(.int .i64 a0)] 3 (0, 0)) (by (with_reducible repeat (first | refine blk_drewN ?_ _ | refine blk_drew ?_ | refine blk_alloc ?_ _)); exact BN.out) hb); have n_BS := aQ (blk_below (g := gs) (o := .cells #[(.slice A1 l1.length c1)] 22 (0, 0)) (by (with_reducible repeat (first | refine blk_drewN ?_ _ | refine blk_drew ?_ | refine blk_alloc ?_ _)); exact BS.out) hb); have n_HB := aQ (below_step (by repeat (first | (with_reducible first | exact HB.out | apply below_alloc | apply pw_below_drewN | apply below_drew1 | refine below_set ?_ GBN.out | refine below_set ?_ GBS.out) | exact HB.out)) hb); clear HB; clear BN; have BN := n_BN; clear n_BN; clear BS; have BS := n_BS; clear n_BS; have HB := n_HB; clear n_HB; have BR := aQ hbox; clear hb hbox hg; have zBN0 : w1_.cell? ⟨gn, 0, none⟩ = some (.int .i64 a0) := (blk_cell BN.out 0).trans rfl; have zBS0 : w1_.cell? ⟨gs, 0, none⟩ = some (.slice A1 l1.length c1) := (blk_cell BS.out 0).trans rfl; have zBR0 : w1_.cell? ⟨gr, 0, none⟩ = some (.int .i64 0) := (blk_cell BR.out 0).trans rfl; have hf0BR := blk_frozen BR.out 0; have hf1BR := blk_frozen BR.out 1; have zBR1 : w1_.cell? ⟨gr, 1, none⟩ = some (.slice none 0 0) := (blk_cell BR.out 1).trans rfl) | (go_at_call 104; (with_reducible refine (impl_AreLists.calls k a0 _ _ l1 false _ ?side1 ?side2 HT.out).mono ?_); (case side1 => repeat (first | exact (Kd.C_below HR.out (by repeat (first | (with_reducible first | exact HB.out | apply below_alloc | apply pw_below_drewN | apply below_drew1 | refine below_set ?_ GBN.out | refine below_set ?_ GBS.out | refine below_set ?_ GBR.out) | exact HB.out))) | exact HR.out)); (case side2 => exact HC.out); rintro e w2_ ⟨rfl, ⟨nd, rfl⟩⟩))
  refine bodyPost_ret (results_cell_row rfl _ _ gr 26 #[(.int .i64 0), (.slice none 0 0)] (0, 0) _ rfl (by (with_reducible repeat (first | refine blk_drewN ?_ _ | refine blk_drew ?_ | refine blk_alloc ?_ _)); refine blk_put (cs := #[(.int .i64 0), (.slice none 0 0)]) ?_ 1 _ rfl; (with_reducible repeat (first | refine blk_drewN ?_ _ | refine blk_drew ?_ | refine blk_alloc ?_ _)); refine blk_put (cs := #[(.int .i64 0), (.slice none 0 0)]) ?_ 0 _ rfl; (with_reducible repeat (first | refine blk_drewN ?_ _ | refine blk_drew ?_ | refine blk_alloc ?_ _)); exact BR.out) Try.underlying26 rfl (by kernel_rfl)) rfl ?_
  exact ⟨_, by first | rfl | (simp; done) | (simp [*]; done), Kd.R_nil _ _ _ _ _, (by repeat (first | (with_reducible first | exact HB.out | apply below_alloc | apply pw_below_drewN | apply below_drew1 | refine below_set ?_ GBN.out | refine below_set ?_ GBS.out | refine below_set ?_ GBR.out) | exact HB.out))⟩
end Go.Proofs.Ytagncnjllpebjaa.A
