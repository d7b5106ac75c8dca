/- The machine side of the law FnExactPartitionMatroid, laid by a program of this work over the kit's print and contracts by hand: Go functions as Lean functions, and proofs that calls come to what these tell. Conditions: those in each theorem. -/
import Derived.Test.YtagncnjllpebjaaMFnExactPartitionMatroid0
import Derived.Test.YtagncnjllpebjaaMFnExactPartitionMatroidq0
import Derived.Test.YtagncnjllpebjaaMFnExactPartitionMatroid1
import Derived.Test.YtagncnjllpebjaaMFnExactPartitionMatroid4
namespace Go.Proofs.Ytagncnjllpebjaa.A
open Go.RowKit Go.Proofs.YtagncnjllpebjaaW.PrintWords Go.Proofs.YtagncnjllpebjaaW.PrintLast Go.Proofs.YtagncnjllpebjaaW.PrintMore Go.Proofs.Ytagncnjllpebjaa.Z
attribute [local go_sem] max2_int min2_int max_two min_two max_three min_three max_four min_four   -- for this text's walks alone
set_option linter.unusedVariables false
set_option linter.unusedSimpArgs false

/-! ### impl_PartitionMatroid: function 46 (by hand) -/
/-- Does s take no more than allowed of each of the sets? -/
def partC : List Int → List Int → Int → Option Bool
 | [], _, _ => some true
 | _ :: _, [], _ => none
 | x :: xs, y :: ys, s => (impl_CountOf.f (Go.bits .and .i64 s x)).bind fun q => if q > y then some false else partC xs ys s
/-- Has x nothing in common with each of the list? -/
def partJ (x : Int) : List Int → Bool
 | [] => true
 | t :: ts => if Go.bits .and .i64 t x ≠ 0 then false else partJ x ts
/-- Is no bound negative, and has no set anything in common with one before it? -/
def partK : List Int → List Int → List Int → Option Bool
 | _, [], _ => some true
 | _, _ :: _, [] => none
 | pre, x :: xs, y :: ys => if y < 0 then some false else if partJ x pre = true then partK (pre ++ [x]) xs ys else some false
def impl_PartitionMatroid.f (k : Nat) (a0 : Int) (l1 : List Int) (l2 : List Int) : Option (Int × List Int × Bool) := (impl_AreLists.f k a0 l1).bind fun t => if t = true then (if l2.length = l1.length then (partK [] l1 l2).bind fun b => if b = true then (impl_FullSet.f a0).bind fun m => if 0 ≤ m ∧ m ≤ 1000 then (setsO (fun s => partC l1 l2 s) m).bind fun y => (impl_fromIndependent.f k a0 y).bind fun b => some (b.1, b.2.1, b.2.2) else none else some (0, ([] : List Int), false) else some (0, ([] : List Int), false)) else some (0, ([] : List Int), false)
theorem impl_PartitionMatroid.mono : ∀ a0 a1 a2 k, LeO (impl_PartitionMatroid.f k a0 a1 a2) (impl_PartitionMatroid.f (k + 1) a0 a1 a2) := by
 intro a0 a1 a2 k
 unfold impl_PartitionMatroid.f
 exact LeO.bind (impl_AreLists.mono _ _ _) (fun t => LeO.ite (LeO.ite (LeO.bind (LeO.refl _) (fun b => LeO.ite (LeO.bind (LeO.refl _) (fun m => LeO.ite (LeO.bind (LeO.refl _) (fun y => LeO.bind (impl_fromIndependent.mono _ _ _) (fun b => LeO.refl _))) (LeO.none _))) (LeO.refl _))) (LeO.refl _)) (LeO.refl _))
theorem take_cons_int (l : List Int) (x : Int) (h0 : 0 ≤ x) (h1 : x < (l.length : Int)) : l.take (x + 1).toNat = l.take x.toNat ++ [rd l x] := by
 obtain ⟨i, rfl⟩ := Int.eq_ofNat_of_zero_le h0
 have hi : i < l.length := by omega
 rw [Int.toNat_natCast, show ((i : Int) + 1).toNat = i + 1 from by omega, take_snoc l i hi, rd_getElem l i hi]
theorem take_rd (l : List Int) (x j : Int) (h0 : 0 ≤ j) (h1 : j < x) (h2 : x ≤ (l.length : Int)) : rd (l.take x.toNat) j = rd l j := by
 obtain ⟨i, rfl⟩ := Int.eq_ofNat_of_zero_le h0
 rw [rd_getElem _ i (by rw [List.length_take]; omega), rd_getElem _ i (by omega), List.getElem_take]
set_option maxHeartbeats 4000000 in
set_option maxRecDepth 100000 in
theorem PartitionMatroid1_walk (A : Option Addr) (c : Nat) (l : List Int) (A' : Option Addr) (c' : Nat) (l' : List Int) (s : Int) (b : Bool) (gs gm : Nat) (w : World)
  (hr : Kd.C (Kd.int .i64) w A l.length l) (hr' : Kd.C (Kd.int .i64) w A' l'.length l') (hl : l'.length = l.length)
  (hs : w.heap[gs]? = some (.cells #[.slice A l.length c] 22 (0, 0))) (hm : w.heap[gm]? = some (.cells #[.slice A' l'.length c'] 22 (0, 0))) (h : partC l l' s = some b) :
  Calls Try.prog 115 #[.int .i64 s, .pointer (some ⟨gs, 0, none⟩), .pointer (some ⟨gm, 0, none⟩)] w fun e w' => e = .returned (.bool b) ∧ Below w.heap.size w w' := by
 have BS := aQ hs
 have BM := aQ hm
 have HR := aQ hr
 have HR2 := aQ hr'
 have HI0 := Lib.hid h
 have HB := aQ (Below.refl w.heap.size w)
 have hl63 : l.length ≤ 9223372036854775807 := hr.2.1
 have hcs : w.cell? ⟨gs, 0, none⟩ = some (.slice A l.length c) := (blk_cell hs 0).trans rfl
 clear hs hm hr hr' h
 go_enter Try.func115, Try.ntmps115
 go_wp2
 go_loopg [8] l.length (fun gg s8 wr => ∃ x : Int, s8 = .int .i64 x ∧ Aside0 (0 ≤ x ∧ x ≤ (l.length : Int)) ∧ Aside0 (l.length - x.toNat ≤ gg) ∧ Aside0 (partC (l.drop x.toNat) (l'.drop x.toNat) s = some b) ∧ Aside0 (Below w.heap.size w wr))
 case atStart => exact ⟨0, rfl, ⟨by omega⟩, ⟨by omega⟩, ⟨HI0.out⟩, ⟨(by repeat (first | (with_reducible first | exact HB.out | apply below_alloc | apply pw_below_drewN | apply below_drew1) | exact HB.out))⟩⟩
 case round =>
  clear HI0 hcs HB
  obtain ⟨x, rfl, HX, HG, HI, HB⟩ := hrel
  by_cases hlt : x < (l.length : Int)
  ·have p1 : 0 ≤ x := HX.out.1
   have hlt2 : x < (l'.length : Int) := by omega
   have l1 : decide (x < (l.length : Int)) = true := decide_eq_true hlt
   obtain ⟨ad, ea, hx⟩ := Kd.at_int HR.out x p1 hlt
   cases ea
   replace hx := (HB.out.cell (World.block_lt_of_cell? w _ hx)).trans hx
   obtain ⟨ad2, ea2, hy⟩ := Kd.at_int HR2.out x p1 hlt2
   cases ea2
   replace hy := (HB.out.cell (World.block_lt_of_cell? w _ hy)).trans hy
   have hI := HI.out
   rw [int_drop l x p1 hlt, int_drop l' x p1 hlt2] at hI
   simp only [partC] at hI
   obtain ⟨q, hq, hI⟩ := Option.bind_eq_some_iff.1 hI
   have HQ := Lib.hid hq
   have E1 := Lib.hid (wrap64_of (n := x + 1) (by omega) (by omega))
   have Q1 := aQ hlt
   clear HI hq
   replace p1 := eq_true p1
   replace hlt := eq_true hlt
   replace hlt2 := eq_true hlt2
   have zs : wr.cell? ⟨gs, 0, none⟩ = some (.slice (some ad) l.length c) := (blk_cell (blk_below BS.out HB.out) 0).trans rfl
   have zm : wr.cell? ⟨gm, 0, none⟩ = some (.slice (some ad2) l'.length c') := (blk_cell (blk_below BM.out HB.out) 0).trans rfl
   by_cases c5 : q > rd l' x
   ·rw [if_pos c5] at hI
    simp only [Option.some.injEq] at hI
    subst hI
    have l5 : decide (rd l' x < q) = true := decide_eq_true c5
    clear c5
    go_wp2
    go_quiet (first | (go_at_call 64; (with_reducible refine (impl_CountOf.calls _ q _ HQ.out).mono ?_); rintro e w' ⟨rfl, ⟨nd, rfl⟩⟩; (try first | exact ⟨rfl, _, World.drewN_drewN _ _ _⟩ | exact ⟨rfl, _, Eq.trans (World.drewN_drewN _ _ _) (congrArg (World.drewN _) (Nat.add_assoc _ _ _))⟩)))
    go_wp2
    go_ret
    exact ⟨by first | rfl | (simp; done) | (simp [*]; done), (by repeat (first | (with_reducible first | exact HB.out | apply below_alloc | apply pw_below_drewN | apply below_drew1) | exact HB.out))⟩
   ·rw [if_neg c5] at hI
    have HK := Lib.hid hI
    have l5 : decide (rd l' x < q) = false := decide_eq_false c5
    clear c5 hI
    go_wp2
    go_quiet (first | (go_at_call 64; (with_reducible refine (impl_CountOf.calls _ q _ HQ.out).mono ?_); rintro e w' ⟨rfl, ⟨nd, rfl⟩⟩; (try first | exact ⟨rfl, _, World.drewN_drewN _ _ _⟩ | exact ⟨rfl, _, Eq.trans (World.drewN_drewN _ _ _) (congrArg (World.drewN _) (Nat.add_assoc _ _ _))⟩)))
    go_wp2
    go_roundg (l.length - (x + 1).toNat)
    case measure => have := HG.out; have := HX.out; have := Q1.out; omega
    case rel => exact ⟨x + 1, by rw [E1.out], ⟨by have := HX.out; have := Q1.out; omega⟩, ⟨Nat.le_refl _⟩, ⟨HK.out⟩, ⟨(by repeat (first | (with_reducible first | exact HB.out | apply below_alloc | apply pw_below_drewN | apply below_drew1) | exact HB.out))⟩⟩
  ·have l1 : decide (x < (l.length : Int)) = false := decide_eq_false hlt
   have hI := HI.out
   rw [int_drop_end l x hlt] at hI
   simp only [partC, Option.some.injEq] at hI
   subst hI
   clear HI hlt
   go_wp2
   go_ret
   exact ⟨by first | rfl | (simp; done) | (simp [*]; done), (by repeat (first | (with_reducible first | exact HB.out | apply below_alloc | apply pw_below_drewN | apply below_drew1) | exact HB.out))⟩
set_option maxHeartbeats 4000000 in
set_option maxRecDepth 100000 in
theorem impl_PartitionMatroid.calls (k : Nat) (a0 : Int) (A1 : Option Addr) (c1 : Nat) (l1 : List Int) (A2 : Option Addr) (c2 : Nat) (l2 : List Int) (r1 : Int) (r2 : List Int) (r3 : Bool) (w : World) (hr1 : Kd.C (Kd.int .i64) w A1 l1.length l1) (hc1 : l1.length ≤ c1) (hr2 : Kd.C (Kd.int .i64) w A2 l2.length l2) (hc2 : l2.length ≤ c2) (h : impl_PartitionMatroid.f k a0 l1 l2 = some (r1, r2, r3)) :
  Calls Try.prog 46 #[.int .i64 a0, .slice A1 l1.length c1, .slice A2 l2.length c2] w fun e w' => ∃ v1_ : Value, e = .returned (.tuple #[.agg #[.int .i64 r1, v1_], .bool r3]) ∧ Kd.R (Kd.int .i64) 3 w' w.heap.size (fun _ => True) v1_ r2 ∧ Below w.heap.size w w' := by
 have hu2 := Try.underlying26
 have HR := aQ hr1
 have HC := aQ hc1
 have HR2 := aQ hr2
 have HL63 := aQ (show l1.length ≤ 9223372036854775807 from hr1.2.1)
 have HB := aQ (Below.refl w.heap.size w)
 clear hr1 hc1 hr2 hc2
 have EG := aQ (show ∀ args w, (callFunc 115 args).run Try.prog w = .ok (.enter 115 args) w from runs_of Try.func115 (by kernel_rfl) rfl)
 unfold impl_PartitionMatroid.f at h
 obtain ⟨t, hT, h⟩ := Option.bind_eq_some_iff.1 h
 have HT := aQ hT
 clear hT
 by_cases c3 : t = true
 ·subst c3
  rw [if_pos rfl] at h
  by_cases c4 : l2.length = l1.length
  ·rw [if_pos c4] at h
   obtain ⟨b, hK, h⟩ := Option.bind_eq_some_iff.1 h
   have HL := aQ c4
   have HK0 := aQ hK
   have HH := aQ h
   have l4 : ((l2.length : Int) != (l1.length : Int)) = false := by rw [c4]; simp
   clear c4 hK h
   go_enter Try.func46, Try.ntmps46
   go_wp2_with (first | ((with_reducible refine gate_dst (N := 4) rfl ?_); refine box_event ?hg (N := 4) ?hd (cs := #[(.slice A1 l1.length c1)]) (t := 22) ?hr ?_; (case hd => rfl); (case hg => rfl); (case hr => first | (go_simp; done) | (go_simp; rfl)); intro gs hg w1_ hbox hb; have GBS := aQ ((by rw [hg]; exact below_size (by repeat (first | (with_reducible first | exact HB.out | apply below_alloc | apply pw_below_drewN | apply below_drew1) | exact HB.out))) : w.heap.size ≤ gs); replace HB := aQ (below_step (by repeat (first | (with_reducible first | exact HB.out | apply below_alloc | apply pw_below_drewN | apply below_drew1) | exact HB.out)) hb); have BS := aQ hbox; clear hb hbox hg; have zBS0 : w1_.cell? ⟨gs, 0, none⟩ = some (.slice A1 l1.length c1) := (blk_cell BS.out 0).trans rfl) | ((with_reducible refine gate_dst (N := 5) rfl ?_); refine box_event ?hg (N := 5) ?hd (cs := #[(.slice A2 l2.length c2)]) (t := 22) ?hr ?_; (case hd => rfl); (case hg => rfl); (case hr => first | (go_simp; done) | (go_simp; rfl)); intro gm hg w1_ hbox hb; have NBSBM := aQ ((by rw [hg]; exact Nat.ne_of_lt (blk_lt (g := gs) (o := .cells #[(.slice A1 l1.length c1)] 22 (0, 0)) (by (with_reducible repeat (first | refine blk_drewN ?_ _ | refine blk_drew ?_ | refine blk_alloc ?_ _)); exact BS.out))) : gs ≠ gm); have GBM := aQ ((by rw [hg]; exact below_size (by repeat (first | (with_reducible first | exact HB.out | apply below_alloc | apply pw_below_drewN | apply below_drew1 | refine below_set ?_ GBS.out) | exact HB.out))) : w.heap.size ≤ gm); have n_BS := aQ (blk_below (g := gs) (o := .cells #[(.slice A1 l1.length c1)] 22 (0, 0)) (by (with_reducible repeat (first | refine blk_drewN ?_ _ | refine blk_drew ?_ | refine blk_alloc ?_ _)); exact BS.out) hb); have n_HB := aQ (below_step (by repeat (first | (with_reducible first | exact HB.out | apply below_alloc | apply pw_below_drewN | apply below_drew1 | refine below_set ?_ GBS.out) | exact HB.out)) hb); clear HB; clear BS; have BS := n_BS; clear n_BS; have HB := n_HB; clear n_HB; have BM := aQ hbox; clear hb hbox hg; have zBS0 : w1_.cell? ⟨gs, 0, none⟩ = some (.slice A1 l1.length c1) := (blk_cell BS.out 0).trans rfl; have zBM0 : w1_.cell? ⟨gm, 0, none⟩ = some (.slice A2 l2.length c2) := (blk_cell BM.out 0).trans rfl) | ((with_reducible refine gate_dst (N := 6) rfl ?_); refine box_event ?hg (N := 6) ?hd (cs := #[(.int .i64 0), (.slice none 0 0)]) (t := 26) ?hr ?_; (case hd => rfl); (case hg => rfl); (case hr => first | (go_simp; done) | (go_simp; rfl)); intro gr hg w1_ hbox hb; have NBSBR := aQ ((by rw [hg]; exact Nat.ne_of_lt (blk_lt (g := gs) (o := .cells #[(.slice A1 l1.length c1)] 22 (0, 0)) (by (with_reducible repeat (first | refine blk_drewN ?_ _ | refine blk_drew ?_ | refine blk_alloc ?_ _)); exact BS.out))) : gs ≠ gr); have NBMBR := aQ ((by rw [hg]; exact Nat.ne_of_lt (blk_lt (g := gm) (o := .cells #[(.slice A2 l2.length c2)] 22 (0, 0)) (by (with_reducible repeat (first | refine blk_drewN ?_ _ | refine blk_drew ?_ | refine blk_alloc ?_ _)); exact BM.out))) : gm ≠ gr); have GBR := aQ ((by rw [hg]; exact below_size (by repeat (first | (with_reducible first | exact HB.out | apply below_alloc | apply pw_below_drewN | apply below_drew1 | refine below_set ?_ GBS.out | refine below_set ?_ GBM.out) | exact HB.out))) : w.heap.size ≤ gr); have n_BS := aQ (blk_below (g := gs) (o := .cells #[(.slice A1 l1.length c1)] 22 (0, 0)) (by (with_reducible repeat (first | refine blk_drewN ?_ _ | refine blk_drew ?_ | refine blk_alloc ?_ _)); exact BS.out) hb); have n_BM := aQ (blk_below (g := gm) (o := .cells #[(.slice A2 l2.length c2)] 22 (0, 0)) (by (with_reducible repeat (first | refine blk_drewN ?_ _ | refine blk_drew ?_ | refine blk_alloc ?_ _)); exact BM.out) hb); have n_HB := aQ (below_step (by repeat (first | (with_reducible first | exact HB.out | apply below_alloc | apply pw_below_drewN | apply below_drew1 | refine below_set ?_ GBS.out | refine below_set ?_ GBM.out) | exact HB.out)) hb); clear HB; clear BS; have BS := n_BS; clear n_BS; clear BM; have BM := n_BM; clear n_BM; have HB := n_HB; clear n_HB; have BR := aQ hbox; clear hb hbox hg; have zBS0 : w1_.cell? ⟨gs, 0, none⟩ = some (.slice A1 l1.length c1) := (blk_cell BS.out 0).trans rfl; have zBM0 : w1_.cell? ⟨gm, 0, none⟩ = some (.slice A2 l2.length c2) := (blk_cell BM.out 0).trans rfl; have zBR0 : w1_.cell? ⟨gr, 0, none⟩ = some (.int .i64 0) := (blk_cell BR.out 0).trans rfl; have zBR1 : w1_.cell? ⟨gr, 1, none⟩ = some (.slice none 0 0) := (blk_cell BR.out 1).trans rfl; have hf0BR := blk_frozen BR.out 0; have hf1BR := blk_frozen BR.out 1) | (go_at_call 104; (with_reducible refine (impl_AreLists.calls k a0 _ _ l1 true _ ?side1 ?side2 HT.out).mono ?_); (case side1 => repeat (first | exact (Kd.C_below HR.out (by repeat (first | (with_reducible first | exact HB.out | apply below_alloc | apply pw_below_drewN | apply below_drew1 | refine below_set ?_ GBS.out | refine below_set ?_ GBM.out | refine below_set ?_ GBR.out) | exact HB.out))) | exact HR.out)); (case side2 => exact HC.out); rintro e w2_ ⟨rfl, ⟨nd, rfl⟩⟩))
   go_loopg [25] l1.length (fun gg s25 wr => ∃ x : Int, s25 = .int .i64 x ∧ Aside0 (0 ≤ x ∧ x ≤ (l1.length : Int)) ∧ Aside0 (l1.length - x.toNat ≤ gg) ∧ Aside0 (partK (l1.take x.toNat) (l1.drop x.toNat) (l2.drop x.toNat) = some b) ∧ Aside0 (wr.heap[gs]? = some (.cells #[(.slice A1 l1.length c1)] 22 (0, 0))) ∧ Aside0 (wr.heap[gm]? = some (.cells #[(.slice A2 l2.length c2)] 22 (0, 0))) ∧ Aside0 (wr.heap[gr]? = some (.cells #[(.int .i64 0), (.slice none 0 0)] 26 (0, 0))) ∧ Aside0 (Below w.heap.size w wr))
   case atStart => exact ⟨0, rfl, ⟨by omega⟩, ⟨by omega⟩, ⟨HK0.out⟩, ⟨by (with_reducible repeat (first | refine blk_drewN ?_ _ | refine blk_drew ?_ | refine blk_alloc ?_ _)); exact BS.out⟩, ⟨by (with_reducible repeat (first | refine blk_drewN ?_ _ | refine blk_drew ?_ | refine blk_alloc ?_ _)); exact BM.out⟩, ⟨by (with_reducible repeat (first | refine blk_drewN ?_ _ | refine blk_drew ?_ | refine blk_alloc ?_ _)); exact BR.out⟩, ⟨(by repeat (first | (with_reducible first | exact HB.out | apply below_alloc | apply pw_below_drewN | apply below_drew1 | refine below_set ?_ GBS.out | refine below_set ?_ GBM.out | refine below_set ?_ GBR.out) | exact HB.out))⟩⟩
   case round =>
    clear HK0
    try clear zBS0
    try clear zBM0
    try clear zBR0
    try clear zBR1
    try clear hf0BR
    try clear hf1BR
    try clear BS
    try clear BM
    try clear BR
    try clear HB
    obtain ⟨x, rfl, HX, HG, HI, BS, BM, BR, HB⟩ := hrel
    by_cases hlt : x < (l1.length : Int)
    ·have p1 : 0 ≤ x := HX.out.1
     have hlt2 : x < (l2.length : Int) := by have := HL.out; omega
     have l1_ : decide (x < (l1.length : Int)) = true := decide_eq_true hlt
     obtain ⟨ad, ea, hx⟩ := Kd.at_int HR.out x p1 hlt
     cases ea
     replace hx := (HB.out.cell (World.block_lt_of_cell? w _ hx)).trans hx
     obtain ⟨ad2, ea2, hy⟩ := Kd.at_int HR2.out x p1 hlt2
     cases ea2
     replace hy := (HB.out.cell (World.block_lt_of_cell? w _ hy)).trans hy
     have hI := HI.out
     rw [int_drop l1 x p1 hlt, int_drop l2 x p1 hlt2] at hI
     simp only [partK] at hI
     rw [← take_cons_int l1 x p1 hlt] at hI
     have E1 := Lib.hid (wrap64_of (n := x + 1) (by have := HL63.out; omega) (by have := HL63.out; omega))
     have Q1 := aQ hlt
     have P1 := aQ p1
     replace p1 := eq_true p1
     replace hlt := eq_true hlt
     replace hlt2 := eq_true hlt2
     clear HI
     have zBS0 : wr.cell? ⟨gs, 0, none⟩ = some (.slice (some ad) l1.length c1) := (blk_cell BS.out 0).trans rfl
     have zBM0 : wr.cell? ⟨gm, 0, none⟩ = some (.slice (some ad2) l2.length c2) := (blk_cell BM.out 0).trans rfl
     by_cases c5 : rd l2 x < 0
     ·rw [if_pos c5] at hI
      simp only [Option.some.injEq] at hI
      subst hI
      have l5 : decide (rd l2 x < 0) = true := decide_eq_true c5
      clear c5
      have hh := HH.out
      rw [if_neg (by decide)] at hh
      simp only [Option.some.injEq, Prod.mk.injEq] at hh
      obtain ⟨rfl, rfl, rfl⟩ := hh
      clear HH
      have zeBR0 : wr.cell? ⟨gr, 0, none⟩ = some (.int .i64 0) := (blk_cell BR.out 0).trans rfl
      have zeBR1 : wr.cell? ⟨gr, 1, none⟩ = some (.slice none 0 0) := (blk_cell BR.out 1).trans rfl
      have hf0BR := blk_frozen BR.out 0
      have hf1BR := blk_frozen BR.out 1
      go_wp2
      refine bodyPost_ret (results_ct rfl _ _ gr 26 #[(.int .i64 0), (.slice none 0 0)] (0, 0) _ rfl (by (with_reducible repeat (first | refine blk_drewN ?_ _ | refine blk_drew ?_ | refine blk_alloc ?_ _)); refine blk_put (cs := #[(.int .i64 0), (.slice none 0 0)]) ?_ 1 _ rfl; (with_reducible repeat (first | refine blk_drewN ?_ _ | refine blk_drew ?_ | refine blk_alloc ?_ _)); refine blk_put (cs := #[(.int .i64 0), (.slice none 0 0)]) ?_ 0 _ rfl; (with_reducible repeat (first | refine blk_drewN ?_ _ | refine blk_drew ?_ | refine blk_alloc ?_ _)); exact BR.out) Try.underlying26 rfl (by kernel_rfl)) rfl ?_
      exact ⟨_, by first | rfl | (simp; done) | (simp [*]; done), Kd.R_nil _ _ _ _ _, (by repeat (first | (with_reducible first | exact HB.out | apply below_alloc | apply pw_below_drewN | apply below_drew1 | refine below_set ?_ GBS.out | refine below_set ?_ GBM.out | refine below_set ?_ GBR.out) | exact HB.out))⟩
     ·rw [if_neg c5] at hI
      have l5 : decide (rd l2 x < 0) = false := decide_eq_false c5
      clear c5
      have HK := Lib.hid hI
      clear hI
      obtain ⟨i0, hi0, _, hsz0, _⟩ := info_parts info3
      have hcut := cut_to (P := Try.prog) 22 3 .i64 Try.underlying22 hi0 (some ad) l1.length c1 x P1.out (by have := Q1.out; omega) HC.out
      obtain ⟨v, hv⟩ : ∃ v : Bool, partJ (rd l1 x) (l1.take x.toNat) = v := ⟨_, rfl⟩
      have HV := aQ hv
      rw [hv] at HK
      clear hv
      go_wp2
      go_loopg [38] x.toNat (fun gg s38 wr => ∃ j : Int, s38 = .int .i64 j ∧ Aside0 (0 ≤ j ∧ j ≤ x) ∧ Aside0 (x.toNat - j.toNat ≤ gg) ∧ Aside0 (partJ (rd l1 x) ((l1.take x.toNat).drop j.toNat) = v) ∧ Aside0 (wr.heap[gs]? = some (.cells #[(.slice (some ad) l1.length c1)] 22 (0, 0))) ∧ Aside0 (wr.heap[gm]? = some (.cells #[(.slice (some ad2) l2.length c2)] 22 (0, 0))) ∧ Aside0 (wr.heap[gr]? = some (.cells #[(.int .i64 0), (.slice none 0 0)] 26 (0, 0))) ∧ Aside0 (Below w.heap.size w wr))
      case atStart => exact ⟨0, rfl, ⟨by have := P1.out; omega⟩, ⟨by omega⟩, ⟨HV.out⟩, ⟨by (with_reducible repeat (first | refine blk_drewN ?_ _ | refine blk_drew ?_ | refine blk_alloc ?_ _)); exact BS.out⟩, ⟨by (with_reducible repeat (first | refine blk_drewN ?_ _ | refine blk_drew ?_ | refine blk_alloc ?_ _)); exact BM.out⟩, ⟨by (with_reducible repeat (first | refine blk_drewN ?_ _ | refine blk_drew ?_ | refine blk_alloc ?_ _)); exact BR.out⟩, ⟨(by repeat (first | (with_reducible first | exact HB.out | apply below_alloc | apply pw_below_drewN | apply below_drew1 | refine below_set ?_ GBS.out | refine below_set ?_ GBM.out | refine below_set ?_ GBR.out) | exact HB.out))⟩⟩
      case round =>
       clear HV
       try clear zBS0
       try clear zBM0
       try clear hx
       try clear hy
       try clear hcut
       try clear BS
       try clear BM
       try clear BR
       try clear HB
       obtain ⟨j, rfl, HJ, HG2, HI2, BS, BM, BR, HB⟩ := hrel
       have hln : ((l1.take x.toNat).length : Int) = x := by have := P1.out; have := Q1.out; rw [List.length_take]; omega
       by_cases hlj : j < x
       ·have p2 : 0 ≤ j := HJ.out.1
        have l2_ : decide (j < x) = true := decide_eq_true hlj
        have l3_ : decide (j < max x 0) = true := decide_eq_true (by have := P1.out; omega)
        have hj1 : j < (l1.length : Int) := by have := Q1.out; omega
        have hj3 : j < max x 0 := by have := P1.out; omega
        obtain ⟨ad3, ea3, hz⟩ := Kd.at_int HR.out j p2 hj1
        obtain rfl : ad = ad3 := by injection ea3
        replace hz := (HB.out.cell (World.block_lt_of_cell? w _ hz)).trans hz
        obtain ⟨ad4, ea4, hx⟩ := Kd.at_int HR.out x P1.out Q1.out
        obtain rfl : ad = ad4 := by injection ea4
        replace hx := (HB.out.cell (World.block_lt_of_cell? w _ hx)).trans hx
        clear ea3 ea4
        have hI2 := HI2.out
        rw [int_drop _ j p2 (by rw [hln]; exact hlj), take_rd l1 x j p2 hlj (by have := Q1.out; omega)] at hI2
        simp only [partJ] at hI2
        have E2 := Lib.hid (wrap64_of (n := j + 1) (by have := HL63.out; have := Q1.out; omega) (by have := HL63.out; have := Q1.out; omega))
        have Q2 := aQ hlj
        have P2 := aQ p2
        replace p2 := eq_true p2
        replace hlj := eq_true hlj
        replace hj1 := eq_true hj1
        replace hj3 := eq_true hj3
        clear HI2 hln
        have zBS0 : wr.cell? ⟨gs, 0, none⟩ = some (.slice (some ad) l1.length c1) := (blk_cell BS.out 0).trans rfl
        have zBM0 : wr.cell? ⟨gm, 0, none⟩ = some (.slice (some ad2) l2.length c2) := (blk_cell BM.out 0).trans rfl
        by_cases c6 : Go.bits .and .i64 (rd l1 j) (rd l1 x) ≠ 0
        ·rw [if_pos c6] at hI2
         subst hI2
         have l6 : ((Go.bits .and .i64 (rd l1 j) (rd l1 x)) == 0) = false := by rw [Bool.eq_false_iff]; exact fun h_ => c6 (beq_iff_eq.1 h_)
         have l7 : ((Go.bits .and .i64 (rd l1 j) (rd l1 x)) != 0) = true := by rw [bne, l6]; rfl
         clear c6
         have hk := HK.out
         rw [if_neg (by decide)] at hk
         simp only [Option.some.injEq] at hk
         subst hk
         clear HK
         have hh := HH.out
         rw [if_neg (by decide)] at hh
         simp only [Option.some.injEq, Prod.mk.injEq] at hh
         obtain ⟨rfl, rfl, rfl⟩ := hh
         clear HH
         have zeBR0 : wr.cell? ⟨gr, 0, none⟩ = some (.int .i64 0) := (blk_cell BR.out 0).trans rfl
         have zeBR1 : wr.cell? ⟨gr, 1, none⟩ = some (.slice none 0 0) := (blk_cell BR.out 1).trans rfl
         have hf0BR := blk_frozen BR.out 0
         have hf1BR := blk_frozen BR.out 1
         go_wp2
         refine bodyPost_ret (results_ct rfl _ _ gr 26 #[(.int .i64 0), (.slice none 0 0)] (0, 0) _ rfl (by (with_reducible repeat (first | refine blk_drewN ?_ _ | refine blk_drew ?_ | refine blk_alloc ?_ _)); refine blk_put (cs := #[(.int .i64 0), (.slice none 0 0)]) ?_ 1 _ rfl; (with_reducible repeat (first | refine blk_drewN ?_ _ | refine blk_drew ?_ | refine blk_alloc ?_ _)); refine blk_put (cs := #[(.int .i64 0), (.slice none 0 0)]) ?_ 0 _ rfl; (with_reducible repeat (first | refine blk_drewN ?_ _ | refine blk_drew ?_ | refine blk_alloc ?_ _)); exact BR.out) Try.underlying26 rfl (by kernel_rfl)) rfl ?_
         exact ⟨_, by first | rfl | (simp; done) | (simp [*]; done), Kd.R_nil _ _ _ _ _, (by repeat (first | (with_reducible first | exact HB.out | apply below_alloc | apply pw_below_drewN | apply below_drew1 | refine below_set ?_ GBS.out | refine below_set ?_ GBM.out | refine below_set ?_ GBR.out) | exact HB.out))⟩
        ·rw [if_neg c6] at hI2
         have c7 := Classical.not_not.1 c6
         have l6 : ((Go.bits .and .i64 (rd l1 j) (rd l1 x)) == 0) = true := beq_iff_eq.2 c7
         have l7 : ((Go.bits .and .i64 (rd l1 j) (rd l1 x)) != 0) = false := by rw [bne, l6]; rfl
         clear c6 c7
         have HI3 := aQ hI2
         clear hI2
         go_wp2
         go_roundg (x.toNat - (j + 1).toNat)
         case measure => have := HG2.out; have := HJ.out; have := Q2.out; omega
         case rel => exact ⟨j + 1, by rw [E2.out], ⟨by have := HJ.out; have := Q2.out; omega⟩, ⟨Nat.le_refl _⟩, ⟨HI3.out⟩, ⟨by (with_reducible repeat (first | refine blk_drewN ?_ _ | refine blk_drew ?_ | refine blk_alloc ?_ _)); exact BS.out⟩, ⟨by (with_reducible repeat (first | refine blk_drewN ?_ _ | refine blk_drew ?_ | refine blk_alloc ?_ _)); exact BM.out⟩, ⟨by (with_reducible repeat (first | refine blk_drewN ?_ _ | refine blk_drew ?_ | refine blk_alloc ?_ _)); exact BR.out⟩, ⟨(by repeat (first | (with_reducible first | exact HB.out | apply below_alloc | apply pw_below_drewN | apply below_drew1 | refine below_set ?_ GBS.out | refine below_set ?_ GBM.out | refine below_set ?_ GBR.out) | exact HB.out))⟩⟩
       ·have l2_ : decide (j < x) = false := decide_eq_false hlj
        have l3_ : decide (j < max x 0) = false := decide_eq_false (by have := P1.out; omega)
        have hI2 := HI2.out
        rw [int_drop_end _ j (by rw [hln]; exact hlj)] at hI2
        simp only [partJ] at hI2
        subst hI2
        have hk := HK.out
        rw [if_pos rfl] at hk
        have HK2 := Lib.hid hk
        clear hk HK HI2 hln hlj
        have zBS0 : wr.cell? ⟨gs, 0, none⟩ = some (.slice (some ad) l1.length c1) := (blk_cell BS.out 0).trans rfl
        have zBM0 : wr.cell? ⟨gm, 0, none⟩ = some (.slice (some ad2) l2.length c2) := (blk_cell BM.out 0).trans rfl
        go_wp2
        go_roundg (l1.length - (x + 1).toNat)
        case measure => have := HG.out; have := HX.out; have := Q1.out; omega
        case rel => exact ⟨x + 1, by rw [E1.out], ⟨by have := HX.out; have := Q1.out; omega⟩, ⟨Nat.le_refl _⟩, ⟨HK2.out⟩, ⟨by (with_reducible repeat (first | refine blk_drewN ?_ _ | refine blk_drew ?_ | refine blk_alloc ?_ _)); exact BS.out⟩, ⟨by (with_reducible repeat (first | refine blk_drewN ?_ _ | refine blk_drew ?_ | refine blk_alloc ?_ _)); exact BM.out⟩, ⟨by (with_reducible repeat (first | refine blk_drewN ?_ _ | refine blk_drew ?_ | refine blk_alloc ?_ _)); exact BR.out⟩, ⟨(by repeat (first | (with_reducible first | exact HB.out | apply below_alloc | apply pw_below_drewN | apply below_drew1 | refine below_set ?_ GBS.out | refine below_set ?_ GBM.out | refine below_set ?_ GBR.out) | exact HB.out))⟩⟩
    ·have l1_ : decide (x < (l1.length : Int)) = false := decide_eq_false hlt
     have hI := HI.out
     rw [int_drop_end l1 x hlt] at hI
     simp only [partK, Option.some.injEq] at hI
     subst hI
     have h := HH.out
     clear HH HI hlt HX HG
     rw [if_pos rfl] at h
     obtain ⟨m, hF, h⟩ := Option.bind_eq_some_iff.1 h
     by_cases hm : 0 ≤ m ∧ m ≤ 1000
     ·rw [if_pos hm] at h
      obtain ⟨y, hS, h⟩ := Option.bind_eq_some_iff.1 h
      obtain ⟨⟨b1, b2, b3⟩, hI, h⟩ := Option.bind_eq_some_iff.1 h
      simp only [Option.some.injEq, Prod.mk.injEq] at h
      obtain ⟨rfl, rfl, rfl⟩ := h
      have HF := aQ hF
      have HM := aQ hm
      have HS := Lib.hid hS
      have HI := Lib.hid hI
      clear hF hm hS hI
      go_wp2_with (first | (go_at_call 62; (with_reducible refine (setsOf_walk (fun s => partC l1 l2 s) 115 _ EG.out a0 m y _ HF.out HM.out.1 HM.out.2 HS.out (fun W x b hb hg => calls_of_args (by simp) (PartitionMatroid1_walk A1 c1 l1 A2 c2 l2 x b gs gm W (Kd.C_below (Kd.C_below HR.out (by repeat (first | (with_reducible first | exact HB.out | apply below_alloc | apply pw_below_drewN | apply below_drew1 | refine below_set ?_ GBS.out | refine below_set ?_ GBM.out | refine below_set ?_ GBR.out) | exact HB.out))) hb) (Kd.C_below (Kd.C_below HR2.out (by repeat (first | (with_reducible first | exact HB.out | apply below_alloc | apply pw_below_drewN | apply below_drew1 | refine below_set ?_ GBS.out | refine below_set ?_ GBM.out | refine below_set ?_ GBR.out) | exact HB.out))) hb) HL.out (blk_below (g := gs) (o := .cells #[(.slice A1 l1.length c1)] 22 (0, 0)) (by (with_reducible repeat (first | refine blk_drewN ?_ _ | refine blk_drew ?_ | refine blk_alloc ?_ _)); exact BS.out) hb) (blk_below (g := gm) (o := .cells #[(.slice A2 l2.length c2)] 22 (0, 0)) (by (with_reducible repeat (first | refine blk_drewN ?_ _ | refine blk_drew ?_ | refine blk_alloc ?_ _)); exact BM.out) hb) hg))).mono ?_); rintro e w5_ ⟨v_, rfl, ho_, hb⟩; have m_HO := aQ (Kd.R_lower ho_ (below_size (by repeat (first | (with_reducible first | exact HB.out | apply below_alloc | apply pw_below_drewN | apply below_drew1 | refine below_set ?_ GBS.out | refine below_set ?_ GBM.out | refine below_set ?_ GBR.out) | exact HB.out)))); have n_BS := aQ (blk_below (g := gs) (o := .cells #[(.slice A1 l1.length c1)] 22 (0, 0)) (by (with_reducible repeat (first | refine blk_drewN ?_ _ | refine blk_drew ?_ | refine blk_alloc ?_ _)); exact BS.out) hb); have n_BM := aQ (blk_below (g := gm) (o := .cells #[(.slice A2 l2.length c2)] 22 (0, 0)) (by (with_reducible repeat (first | refine blk_drewN ?_ _ | refine blk_drew ?_ | refine blk_alloc ?_ _)); exact BM.out) hb); have n_BR := aQ (blk_below (g := gr) (o := .cells #[(.int .i64 0), (.slice none 0 0)] 26 (0, 0)) (by (with_reducible repeat (first | refine blk_drewN ?_ _ | refine blk_drew ?_ | refine blk_alloc ?_ _)); exact BR.out) hb); have n_HB := aQ (below_step (by repeat (first | (with_reducible first | exact HB.out | apply below_alloc | apply pw_below_drewN | apply below_drew1 | refine below_set ?_ GBS.out | refine below_set ?_ GBM.out | refine below_set ?_ GBR.out) | exact HB.out)) hb); clear HB; clear BS; have BS := n_BS; clear n_BS; clear BM; have BM := n_BM; clear n_BM; clear BR; have BR := n_BR; clear n_BR; have HB := n_HB; clear n_HB; have HO := m_HO; clear m_HO ho_; obtain ⟨AHO, cHO, eHO⟩ := Kd.R_slice HO.out; subst eHO; clear hb) | (go_at_call 105; (with_reducible refine (impl_fromIndependent.calls k a0 _ _ y b1 b2 b3 _ ?side1 ?side2 HI.out).mono ?_); (case side1 => repeat (first | exact (Kd.R_reads' HO.out).2.2 | (with_reducible refine Kd.C_alloc ?_ _) | (with_reducible refine Kd.C_drewN ?_ _) | (with_reducible refine Kd.C_drew ?_))); (case side2 => exact (Kd.R_reads' HO.out).2.1); rintro e w6_ ⟨v_, rfl, ho_, hb⟩; have m_HP := aQ (Kd.R_lower ho_ (below_size (by repeat (first | (with_reducible first | exact HB.out | apply below_alloc | apply pw_below_drewN | apply below_drew1 | refine below_set ?_ GBS.out | refine below_set ?_ GBM.out | refine below_set ?_ GBR.out) | exact HB.out)))); have n_BS := aQ (blk_below (g := gs) (o := .cells #[(.slice A1 l1.length c1)] 22 (0, 0)) (by (with_reducible repeat (first | refine blk_drewN ?_ _ | refine blk_drew ?_ | refine blk_alloc ?_ _)); exact BS.out) hb); have n_BM := aQ (blk_below (g := gm) (o := .cells #[(.slice A2 l2.length c2)] 22 (0, 0)) (by (with_reducible repeat (first | refine blk_drewN ?_ _ | refine blk_drew ?_ | refine blk_alloc ?_ _)); exact BM.out) hb); have n_BR := aQ (blk_below (g := gr) (o := .cells #[(.int .i64 0), (.slice none 0 0)] 26 (0, 0)) (by (with_reducible repeat (first | refine blk_drewN ?_ _ | refine blk_drew ?_ | refine blk_alloc ?_ _)); exact BR.out) hb); have n_HO := aQ (Kd.R_below (by (with_reducible repeat (first | apply Kd.R_alloc | apply Kd.R_drewN | apply Kd.R_drew)); exact HO.out) hb); have n_HB := aQ (below_step (by repeat (first | (with_reducible first | exact HB.out | apply below_alloc | apply pw_below_drewN | apply below_drew1 | refine below_set ?_ GBS.out | refine below_set ?_ GBM.out | refine below_set ?_ GBR.out) | exact HB.out)) hb); clear HB; clear BS; have BS := n_BS; clear n_BS; clear BM; have BM := n_BM; clear n_BM; clear BR; have BR := n_BR; clear n_BR; clear HO; have HO := n_HO; clear n_HO; have HB := n_HB; clear n_HB; have HP := m_HP; clear m_HP ho_; obtain ⟨AHP, cHP, eHP⟩ := Kd.R_slice HP.out; subst eHP; clear hb; have zeBR0 : w6_.cell? ⟨gr, 0, none⟩ = some (.int .i64 0) := (blk_cell BR.out 0).trans rfl; have zeBR1 : w6_.cell? ⟨gr, 1, none⟩ = some (.slice none 0 0) := (blk_cell BR.out 1).trans rfl; have hf0BR := blk_frozen BR.out 0; have hf1BR := blk_frozen BR.out 1))
      refine bodyPost_ret (results_ct rfl _ _ gr 26 #[(.int .i64 b1), (.slice AHP b2.length cHP)] (0, 0) _ rfl (by (with_reducible repeat (first | refine blk_drewN ?_ _ | refine blk_drew ?_ | refine blk_alloc ?_ _)); refine blk_put (cs := #[(.int .i64 b1), (.slice none 0 0)]) ?_ 1 _ rfl; (with_reducible repeat (first | refine blk_drewN ?_ _ | refine blk_drew ?_ | refine blk_alloc ?_ _)); refine blk_put (cs := #[(.int .i64 0), (.slice none 0 0)]) ?_ 0 _ rfl; (with_reducible repeat (first | refine blk_drewN ?_ _ | refine blk_drew ?_ | refine blk_alloc ?_ _)); exact BR.out) Try.underlying26 rfl (by kernel_rfl)) rfl ?_
      exact ⟨_, by first | rfl | (simp; done) | (simp [*]; done), by (with_reducible repeat (first | apply Kd.R_alloc | apply Kd.R_drewN | apply Kd.R_drew)); exact Kd.R_mono (Kd.R_far (p := ⟨gr, 1, none⟩) (Kd.R_far (p := ⟨gr, 0, none⟩) (Kd.R_types HP.out BR.out (by decide)) (fun _ hk => hk.2) _) (fun _ hk => hk.2) _) (fun _ hk => trivial), (by repeat (first | (with_reducible first | exact HB.out | apply below_alloc | apply pw_below_drewN | apply below_drew1 | refine below_set ?_ GBS.out | refine below_set ?_ GBM.out | refine below_set ?_ GBR.out) | exact HB.out))⟩
     ·rw [if_neg hm] at h; cases h
  ·rw [if_neg c4] at h
   simp only [Option.some.injEq, Prod.mk.injEq] at h
   obtain ⟨rfl, rfl, rfl⟩ := h
   have l4 : ((l2.length : Int) != (l1.length : Int)) = true := by rw [bne_iff_ne]; omega
   clear c4
   go_enter Try.func46, Try.ntmps46
   go_wp2_with (first | ((with_reducible refine gate_dst (N := 4) rfl ?_); refine box_event ?hg (N := 4) ?hd (cs := #[(.slice A1 l1.length c1)]) (t := 22) ?hr ?_; (case hd => rfl); (case hg => rfl); (case hr => first | (go_simp; done) | (go_simp; rfl)); intro gs hg w1_ hbox hb; have GBS := aQ ((by rw [hg]; exact below_size (by repeat (first | (with_reducible first | exact HB.out | apply below_alloc | apply pw_below_drewN | apply below_drew1) | exact HB.out))) : w.heap.size ≤ gs); replace HB := aQ (below_step (by repeat (first | (with_reducible first | exact HB.out | apply below_alloc | apply pw_below_drewN | apply below_drew1) | exact HB.out)) hb); have BS := aQ hbox; clear hb hbox hg; have zBS0 : w1_.cell? ⟨gs, 0, none⟩ = some (.slice A1 l1.length c1) := (blk_cell BS.out 0).trans rfl) | ((with_reducible refine gate_dst (N := 5) rfl ?_); refine box_event ?hg (N := 5) ?hd (cs := #[(.slice A2 l2.length c2)]) (t := 22) ?hr ?_; (case hd => rfl); (case hg => rfl); (case hr => first | (go_simp; done) | (go_simp; rfl)); intro gm hg w1_ hbox hb; have NBSBM := aQ ((by rw [hg]; exact Nat.ne_of_lt (blk_lt (g := gs) (o := .cells #[(.slice A1 l1.length c1)] 22 (0, 0)) (by (with_reducible repeat (first | refine blk_drewN ?_ _ | refine blk_drew ?_ | refine blk_alloc ?_ _)); exact BS.out))) : gs ≠ gm); have GBM := aQ ((by rw [hg]; exact below_size (by repeat (first | (with_reducible first | exact HB.out | apply below_alloc | apply pw_below_drewN | apply below_drew1 | refine below_set ?_ GBS.out) | exact HB.out))) : w.heap.size ≤ gm); have n_BS := aQ (blk_below (g := gs) (o := .cells #[(.slice A1 l1.length c1)] 22 (0, 0)) (by (with_reducible repeat (first | refine blk_drewN ?_ _ | refine blk_drew ?_ | refine blk_alloc ?_ _)); exact BS.out) hb); have n_HB := aQ (below_step (by repeat (first | (with_reducible first | exact HB.out | apply below_alloc | apply pw_below_drewN | apply below_drew1 | refine below_set ?_ GBS.out) | exact HB.out)) hb); clear HB; clear BS; have BS := n_BS; clear n_BS; have HB := n_HB; clear n_HB; have BM := aQ hbox; clear hb hbox hg; have zBS0 : w1_.cell? ⟨gs, 0, none⟩ = some (.slice A1 l1.length c1) := (blk_cell BS.out 0).trans rfl; have zBM0 : w1_.cell? ⟨gm, 0, none⟩ = some (.slice A2 l2.length c2) := (blk_cell BM.out 0).trans rfl) | ((with_reducible refine gate_dst (N := 6) rfl ?_); refine box_event ?hg (N := 6) ?hd (cs := #[(.int .i64 0), (.slice none 0 0)]) (t := 26) ?hr ?_; (case hd => rfl); (case hg => rfl); (case hr => first | (go_simp; done) | (go_simp; rfl)); intro gr hg w1_ hbox hb; have NBSBR := aQ ((by rw [hg]; exact Nat.ne_of_lt (blk_lt (g := gs) (o := .cells #[(.slice A1 l1.length c1)] 22 (0, 0)) (by (with_reducible repeat (first | refine blk_drewN ?_ _ | refine blk_drew ?_ | refine blk_alloc ?_ _)); exact BS.out))) : gs ≠ gr); have NBMBR := aQ ((by rw [hg]; exact Nat.ne_of_lt (blk_lt (g := gm) (o := .cells #[(.slice A2 l2.length c2)] 22 (0, 0)) (by (with_reducible repeat (first | refine blk_drewN ?_ _ | refine blk_drew ?_ | refine blk_alloc ?_ _)); exact BM.out))) : gm ≠ gr); have GBR := aQ ((by rw [hg]; exact below_size (by repeat (first | (with_reducible first | exact HB.out | apply below_alloc | apply pw_below_drewN | apply below_drew1 | refine below_set ?_ GBS.out | refine below_set ?_ GBM.out) | exact HB.out))) : w.heap.size ≤ gr); have n_BS := aQ (blk_below (g := gs) (o := .cells #[(.slice A1 l1.length c1)] 22 (0, 0)) (by (with_reducible repeat (first | refine blk_drewN ?_ _ | refine blk_drew ?_ | refine blk_alloc ?_ _)); exact BS.out) hb); have n_BM := aQ (blk_below (g := gm) (o := .cells #[(.slice A2 l2.length c2)] 22 (0, 0)) (by (with_reducible repeat (first | refine blk_drewN ?_ _ | refine blk_drew ?_ | refine blk_alloc ?_ _)); exact BM.out) hb); have n_HB := aQ (below_step (by repeat (first | (with_reducible first | exact HB.out | apply below_alloc | apply pw_below_drewN | apply below_drew1 | refine below_set ?_ GBS.out | refine below_set ?_ GBM.out) | exact HB.out)) hb); clear HB; clear BS; have BS := n_BS; clear n_BS; clear BM; have BM := n_BM; clear n_BM; have HB := n_HB; clear n_HB; have BR := aQ hbox; clear hb hbox hg; have zBS0 : w1_.cell? ⟨gs, 0, none⟩ = some (.slice A1 l1.length c1) := (blk_cell BS.out 0).trans rfl; have zBM0 : w1_.cell? ⟨gm, 0, none⟩ = some (.slice A2 l2.length c2) := (blk_cell BM.out 0).trans rfl; have zBR0 : w1_.cell? ⟨gr, 0, none⟩ = some (.int .i64 0) := (blk_cell BR.out 0).trans rfl; have zBR1 : w1_.cell? ⟨gr, 1, none⟩ = some (.slice none 0 0) := (blk_cell BR.out 1).trans rfl; have hf0BR := blk_frozen BR.out 0; have hf1BR := blk_frozen BR.out 1) | (go_at_call 104; (with_reducible refine (impl_AreLists.calls k a0 _ _ l1 true _ ?side1 ?side2 HT.out).mono ?_); (case side1 => repeat (first | exact (Kd.C_below HR.out (by repeat (first | (with_reducible first | exact HB.out | apply below_alloc | apply pw_below_drewN | apply below_drew1 | refine below_set ?_ GBS.out | refine below_set ?_ GBM.out | refine below_set ?_ GBR.out) | exact HB.out))) | exact HR.out)); (case side2 => exact HC.out); rintro e w2_ ⟨rfl, ⟨nd, rfl⟩⟩))
   refine bodyPost_ret (results_ct rfl _ _ gr 26 #[(.int .i64 0), (.slice none 0 0)] (0, 0) _ rfl (by (with_reducible repeat (first | refine blk_drewN ?_ _ | refine blk_drew ?_ | refine blk_alloc ?_ _)); refine blk_put (cs := #[(.int .i64 0), (.slice none 0 0)]) ?_ 1 _ rfl; (with_reducible repeat (first | refine blk_drewN ?_ _ | refine blk_drew ?_ | refine blk_alloc ?_ _)); refine blk_put (cs := #[(.int .i64 0), (.slice none 0 0)]) ?_ 0 _ rfl; (with_reducible repeat (first | refine blk_drewN ?_ _ | refine blk_drew ?_ | refine blk_alloc ?_ _)); exact BR.out) Try.underlying26 rfl (by kernel_rfl)) rfl ?_
   exact ⟨_, by first | rfl | (simp; done) | (simp [*]; done), Kd.R_nil _ _ _ _ _, (by repeat (first | (with_reducible first | exact HB.out | apply below_alloc | apply pw_below_drewN | apply below_drew1 | refine below_set ?_ GBS.out | refine below_set ?_ GBM.out | refine below_set ?_ GBR.out) | exact HB.out))⟩
 ·have c4 := Bool.eq_false_iff.mpr c3
  subst c4
  clear c3
  rw [if_neg (by decide)] at h
  simp only [Option.some.injEq, Prod.mk.injEq] at h
  obtain ⟨rfl, rfl, rfl⟩ := h
  go_enter Try.func46, Try.ntmps46
  go_wp2_with (first | ((with_reducible refine gate_dst (N := 4) rfl ?_); refine box_event ?hg (N := 4) ?hd (cs := #[(.slice A1 l1.length c1)]) (t := 22) ?hr ?_; (case hd => rfl); (case hg => rfl); (case hr => first | (go_simp; done) | (go_simp; rfl)); intro gs hg w1_ hbox hb; have GBS := aQ ((by rw [hg]; exact below_size (by repeat (first | (with_reducible first | exact HB.out | apply below_alloc | apply pw_below_drewN | apply below_drew1) | exact HB.out))) : w.heap.size ≤ gs); replace HB := aQ (below_step (by repeat (first | (with_reducible first | exact HB.out | apply below_alloc | apply pw_below_drewN | apply below_drew1) | exact HB.out)) hb); have BS := aQ hbox; clear hb hbox hg; have zBS0 : w1_.cell? ⟨gs, 0, none⟩ = some (.slice A1 l1.length c1) := (blk_cell BS.out 0).trans rfl) | ((with_reducible refine gate_dst (N := 5) rfl ?_); refine box_event ?hg (N := 5) ?hd (cs := #[(.slice A2 l2.length c2)]) (t := 22) ?hr ?_; (case hd => rfl); (case hg => rfl); (case hr => first | (go_simp; done) | (go_simp; rfl)); intro gm hg w1_ hbox hb; have NBSBM := aQ ((by rw [hg]; exact Nat.ne_of_lt (blk_lt (g := gs) (o := .cells #[(.slice A1 l1.length c1)] 22 (0, 0)) (by (with_reducible repeat (first | refine blk_drewN ?_ _ | refine blk_drew ?_ | refine blk_alloc ?_ _)); exact BS.out))) : gs ≠ gm); have GBM := aQ ((by rw [hg]; exact below_size (by repeat (first | (with_reducible first | exact HB.out | apply below_alloc | apply pw_below_drewN | apply below_drew1 | refine below_set ?_ GBS.out) | exact HB.out))) : w.heap.size ≤ gm); have n_BS := aQ (blk_below (g := gs) (o := .cells #[(.slice A1 l1.length c1)] 22 (0, 0)) (by (with_reducible repeat (first | refine blk_drewN ?_ _ | refine blk_drew ?_ | refine blk_alloc ?_ _)); exact BS.out) hb); have n_HB := aQ (below_step (by repeat (first | (with_reducible first | exact HB.out | apply below_alloc | apply pw_below_drewN | apply below_drew1 | refine below_set ?_ GBS.out) | exact HB.out)) hb); clear HB; clear BS; have BS := n_BS; clear n_BS; have HB := n_HB; clear n_HB; have BM := aQ hbox; clear hb hbox hg; have zBS0 : w1_.cell? ⟨gs, 0, none⟩ = some (.slice A1 l1.length c1) := (blk_cell BS.out 0).trans rfl; have zBM0 : w1_.cell? ⟨gm, 0, none⟩ = some (.slice A2 l2.length c2) := (blk_cell BM.out 0).trans rfl) | ((with_reducible refine gate_dst (N := 6) rfl ?_); refine box_event ?hg (N := 6) ?hd (cs := #[(.int .i64 0), (.slice none 0 0)]) (t := 26) ?hr ?_; (case hd => rfl); (case hg => rfl); (case hr => first | (go_simp; done) | (go_simp; rfl)); intro gr hg w1_ hbox hb; have NBSBR := aQ ((by rw [hg]; exact Nat.ne_of_lt (blk_lt (g := gs) (o := .cells #[(.slice A1 l1.length c1)] 22 (0, 0)) (by (with_reducible repeat (first | refine blk_drewN ?_ _ | refine blk_drew ?_ | refine blk_alloc ?_ _)); exact BS.out))) : gs ≠ gr); have NBMBR := aQ ((by rw [hg]; exact Nat.ne_of_lt (blk_lt (g := gm) (o := .cells #[(.slice A2 l2.length c2)] 22 (0, 0)) (by (with_reducible repeat (first | refine blk_drewN ?_ _ | refine blk_drew ?_ | refine blk_alloc ?_ _)); exact BM.out))) : gm ≠ gr); have GBR := aQ ((by rw [hg]; exact below_size (by repeat (first | (with_reducible first | exact HB.out | apply below_alloc | apply pw_below_drewN | apply below_drew1 | refine below_set ?_ GBS.out | refine below_set ?_ GBM.out) | exact HB.out))) : w.heap.size ≤ gr); have n_BS := aQ (blk_below (g := gs) (o := .cells #[(.slice A1 l1.length c1)] 22 (0, 0)) (by (with_reducible repeat (first | refine blk_drewN ?_ _ | refine blk_drew ?_ | refine blk_alloc ?_ _)); exact BS.out) hb); have n_BM := aQ (blk_below (g := gm) (o := .cells #[(.slice A2 l2.length c2)] 22 (0, 0)) (by (with_reducible repeat (first | refine blk_drewN ?_ _ | refine blk_drew ?_ | refine blk_alloc ?_ _)); exact BM.out) hb); have n_HB := aQ (below_step (by repeat (first | (with_reducible first | exact HB.out | apply below_alloc | apply pw_below_drewN | apply below_drew1 | refine below_set ?_ GBS.out | refine below_set ?_ GBM.out) | exact HB.out)) hb); clear HB; clear BS; have BS := n_BS; clear n_BS; clear BM; have BM := n_BM; clear n_BM; have HB := n_HB; clear n_HB; have BR := aQ hbox; clear hb hbox hg; have zBS0 : w1_.cell? ⟨gs, 0, none⟩ = some (.slice A1 l1.length c1) := (blk_cell BS.out 0).trans rfl; have zBM0 : w1_.cell? ⟨gm, 0, none⟩ = some (.slice A2 l2.length c2) := (blk_cell BM.out 0).trans rfl; have zBR0 : w1_.cell? ⟨gr, 0, none⟩ = some (.int .i64 0) := (blk_cell BR.out 0).trans rfl; have zBR1 : w1_.cell? ⟨gr, 1, none⟩ = some (.slice none 0 0) := (blk_cell BR.out 1).trans rfl; have hf0BR := blk_frozen BR.out 0; have hf1BR := blk_frozen BR.out 1) | (go_at_call 104; (with_reducible refine (impl_AreLists.calls k a0 _ _ l1 false _ ?side1 ?side2 HT.out).mono ?_); (case side1 => repeat (first | exact (Kd.C_below HR.out (by repeat (first | (with_reducible first | exact HB.out | apply below_alloc | apply pw_below_drewN | apply below_drew1 | refine below_set ?_ GBS.out | refine below_set ?_ GBM.out | refine below_set ?_ GBR.out) | exact HB.out))) | exact HR.out)); (case side2 => exact HC.out); rintro e w2_ ⟨rfl, ⟨nd, rfl⟩⟩))
  refine bodyPost_ret (results_ct rfl _ _ gr 26 #[(.int .i64 0), (.slice none 0 0)] (0, 0) _ rfl (by (with_reducible repeat (first | refine blk_drewN ?_ _ | refine blk_drew ?_ | refine blk_alloc ?_ _)); refine blk_put (cs := #[(.int .i64 0), (.slice none 0 0)]) ?_ 1 _ rfl; (with_reducible repeat (first | refine blk_drewN ?_ _ | refine blk_drew ?_ | refine blk_alloc ?_ _)); refine blk_put (cs := #[(.int .i64 0), (.slice none 0 0)]) ?_ 0 _ rfl; (with_reducible repeat (first | refine blk_drewN ?_ _ | refine blk_drew ?_ | refine blk_alloc ?_ _)); exact BR.out) Try.underlying26 rfl (by kernel_rfl)) rfl ?_
  exact ⟨_, by first | rfl | (simp; done) | (simp [*]; done), Kd.R_nil _ _ _ _ _, (by repeat (first | (with_reducible first | exact HB.out | apply below_alloc | apply pw_below_drewN | apply below_drew1 | refine below_set ?_ GBS.out | refine below_set ?_ GBM.out | refine below_set ?_ GBR.out) | exact HB.out))⟩
end Go.Proofs.Ytagncnjllpebjaa.A
