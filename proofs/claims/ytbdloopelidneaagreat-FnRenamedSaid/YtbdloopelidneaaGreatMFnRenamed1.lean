/- Machine side of the law FnRenamed: Go functions as Lean functions, and proofs that calls come to what these tell. Conditions: those in each theorem. -/
import Derived.Test.YtbdloopelidneaaGreatMFnRenamed0
import Derived.Test.YtbdloopelidneaaGreatMFnRenamedq0
set_option maxHeartbeats 8000000
set_option maxRecDepth 100000
namespace Go.Proofs.YtbdloopelidneaaGreat.A
open Go.RowKit Go.Proofs.YtbdloopelidneaaGreatW.PrintWords Go.Proofs.YtbdloopelidneaaGreatW.PrintLast Go.Proofs.YtbdloopelidneaaGreatW.PrintMore Tryz
attribute [local go_sem] cy ct cP cN b7 b9 cu cv
set_option linter.unusedVariables false
set_option linter.unusedSimpArgs false
def laws_big.f (l0 : List Int) : Option (Bool) := some (decide ((l0.length : Int) > 1048576))
theorem laws_big.n0 (A0 : Option Addr) (c0 : Nat) (l0 : List Int) (r : Bool) (w : World) (hr0 : Kd.C (Kd.int .u8) w A0 l0.length l0) (hc0 : l0.length ≤ c0) (h : laws_big.f l0 = some r) :
  CD Tryz.prog 5 #[.slice A0 l0.length c0] w (.bool r) := by
 have HR0 := aQ hr0; have HC0 := aQ hc0; clear hr0 hc0; have H : (some (decide ((l0.length : Int) > 1048576))) = some r := h; clear h; obtain rfl := oj H; go_enter func5, ntmps5; go_wp2
 go_ret
 exact ⟨rs_, rd_⟩
mutual
def aM.j0 : Nat → Bool → Int → List Int → Int → List Int → Option (Bool)
 | 0, _, _, _, _, _ => none
 | k + 1, x19, x15002000, x15002001, x15003000, x15003001 => if x19 = true then (some false) else (aM.l0 k 0 x15002000 x15002001 x15003000 x15003001)
def aM.l0 : Nat → Int → Int → List Int → Int → List Int → Option (Bool)
 | 0, _, _, _, _, _ => none
 | k + 1, x5, x15002000, x15002001, x15003000, x15003001 => if x5 < (x15002001.length : Int) then (if 0 ≤ x5 then (if x5 < (x15003001.length : Int) then (if (rd x15002001 x5) = (rd x15003001 x5) then (aM.l0 k (wrap64 (x5 + 1)) x15002000 x15002001 x15003000 x15003001) else (some false)) else (none)) else (none)) else (some true)
end
def aM.f (k : Nat) (a0_0 : Int) (l0_1 : List Int) (a1_0 : Int) (l1_1 : List Int) : Option (Bool) := if a0_0 = a1_0 then (aM.j0 k ((l0_1.length : Int) != (l1_1.length : Int)) a0_0 l0_1 a1_0 l1_1) else (aM.j0 k true a0_0 l0_1 a1_0 l1_1)
theorem aM.n0 (k : Nat) (a0_0 : Int) (A0_1 : Option Addr) (c0_1 : Nat) (l0_1 : List Int) (a1_0 : Int) (A1_1 : Option Addr) (c1_1 : Nat) (l1_1 : List Int) (r : Bool) (w : World) (hr0_1 : Kd.C (Kd.int .i64) w A0_1 l0_1.length l0_1) (hc0_1 : l0_1.length ≤ c0_1) (hr1_1 : Kd.C (Kd.int .i64) w A1_1 l1_1.length l1_1) (hc1_1 : l1_1.length ≤ c1_1) (h : aM.f k a0_0 l0_1 a1_0 l1_1 = some r) :
  CB Tryz.prog 14 #[.agg #[.int .i64 a0_0, .slice A0_1 l0_1.length c0_1], .agg #[.int .i64 a1_0, .slice A1_1 l1_1.length c1_1]] w (.bool r) := by
 have hu26 := underlying26; have HR0_1 := aQ hr0_1; have HC0_1 := aQ hc0_1; clear hr0_1 hc0_1; have HR1_1 := aQ hr1_1; have HC1_1 := aQ hc1_1; clear hr1_1 hc1_1; have HB := aQ (Below.refl w.heap.size w); have H := h; clear h; unfold aM.f at H; (try dsimp only at H); have HC3 := aQ H; clear H; go_enter func14, ntmps14; go_upto_region 1 with (first | ((with_reducible refine gate_dst (N := 2) rfl ?_); (try (refine bq (by rfl) ?_; dsimp only)); refine bx 2 #[.int .i64 a0_0, .slice A0_1 l0_1.length c0_1] 26 ?_; intro gbq0 hg w4 hbox hb; have BKq0 := aQ (hbox); have GEq0 := gB HB hg; replace HB := bs HB hb; clear hb hbox hg) | ((with_reducible refine gate_dst (N := 3) rfl ?_); (try (refine bq (by rfl) ?_; dsimp only)); refine bx 3 #[.int .i64 a1_0, .slice A1_1 l1_1.length c1_1] 26 ?_; intro gbq1 hg w5 hbox hb; have BKq1 := aQ (hbox); have GEq1 := gB HB hg; replace HB := bs HB hb; have NBq0_q1 := nl BKq0 hg; have NBq1_q0 := ng BKq0 hg; replace BKq0 := bb BKq0 hb; clear hb hbox hg))
 repeat (go_quiet (first | ((with_reducible refine gate_dst (N := 2) rfl ?_); (try (refine bq (by rfl) ?_; dsimp only)); refine bx 2 #[.int .i64 a0_0, .slice A0_1 l0_1.length c0_1] 26 ?_; intro gbq0 hg w4 hbox hb; have BKq0 := aQ (hbox); have GEq0 := gB HB hg; replace HB := bs HB hb; clear hb hbox hg) | ((with_reducible refine gate_dst (N := 3) rfl ?_); (try (refine bq (by rfl) ?_; dsimp only)); refine bx 3 #[.int .i64 a1_0, .slice A1_1 l1_1.length c1_1] 26 ?_; intro gbq1 hg w5 hbox hb; have BKq1 := aQ (hbox); have GEq1 := gB HB hg; replace HB := bs HB hb; have NBq0_q1 := nl BKq0 hg; have NBq1_q0 := ng BKq0 hg; replace BKq0 := bb BKq0 hb; clear hb hbox hg)); go_upto_region 1 with (first | ((with_reducible refine gate_dst (N := 2) rfl ?_); (try (refine bq (by rfl) ?_; dsimp only)); refine bx 2 #[.int .i64 a0_0, .slice A0_1 l0_1.length c0_1] 26 ?_; intro gbq0 hg w4 hbox hb; have BKq0 := aQ (hbox); have GEq0 := gB HB hg; replace HB := bs HB hb; clear hb hbox hg) | ((with_reducible refine gate_dst (N := 3) rfl ?_); (try (refine bq (by rfl) ?_; dsimp only)); refine bx 3 #[.int .i64 a1_0, .slice A1_1 l1_1.length c1_1] 26 ?_; intro gbq1 hg w5 hbox hb; have BKq1 := aQ (hbox); have GEq1 := gB HB hg; replace HB := bs HB hb; have NBq0_q1 := nl BKq0 hg; have NBq1_q0 := ng BKq0 hg; replace BKq0 := bb BKq0 hb; clear hb hbox hg)))
 (try simp only [Act.put, List.setIfInBounds_toArray, List.set_cons_zero, List.set_cons_succ]); go_cut [19] (fun v19 wc => ∃ (kq : Nat) (x19_2 : Bool), v19 = .bool x19_2 ∧ Aside0 (aM.j0 kq x19_2 a0_0 l0_1 a1_0 l1_1 = some r) ∧ Aside0 (kq ≤ k) ∧ Aside0 (wc.heap[gbq0]? = some (.cells #[.int .i64 a0_0, (.slice A0_1 l0_1.length c0_1)] 26 (0, 0))) ∧ Aside0 (wc.heap[gbq1]? = some (.cells #[.int .i64 a1_0, (.slice A1_1 l1_1.length c1_1)] 26 (0, 0))) ∧ Aside0 (Below w.heap.size w wc))
 case first =>
  have H := HC3.out; clear HC3; replace H := ckE H; obtain ⟨c6b0, c6b1, H⟩ | ⟨c6, c6b0, c6b1, H⟩ := H
  ·(first | rw [c6b0] | (simp only [i64_w, cJ]; rw [c6b0]) | skip); have H' := aQ H
   clear H; have := NBq0_q1.out; have := NBq1_q0.out; obtain ⟨_, _, _, _⟩ := cz2 BKq0; obtain ⟨_, _, _, _⟩ := cz2 BKq1; go_wp2
   repeat (go_quiet (fail); try go_wp2)
   go_meet
   case rel => exact ⟨_, (((l0_1.length : Int) != (l1_1.length : Int))), rs_, H', ⟨by first | omega | exact Nat.le_refl _⟩, ⟨ah BKq0⟩, ⟨ah BKq1⟩, ⟨aq HB GEq0 GEq1⟩⟩
  ·(first | rw [c6b0] | (simp only [i64_w, cJ]; rw [c6b0]) | skip); have H' := aQ H
   clear H; have := NBq0_q1.out; have := NBq1_q0.out; obtain ⟨_, _, _, _⟩ := cz2 BKq0; obtain ⟨_, _, _, _⟩ := cz2 BKq1; go_wp2
   repeat (go_quiet (fail); try go_wp2)
   go_meet
   case rel => exact ⟨_, (true), rs_, H', ⟨by first | omega | exact Nat.le_refl _⟩, ⟨ah BKq0⟩, ⟨ah BKq1⟩, ⟨aq HB GEq0 GEq1⟩⟩
 case rest =>
  clear HC3; obtain ⟨kq, x19_2, rfl, HA, HJ2, BKq0, BKq1, HB⟩ := hcut; cases kq with
  | zero => exact absurd HA.out (by simp [aM.j0])
  | succ kj2 =>
   have H := HA.out; clear HA; simp only [aM.j0] at H; replace H := ckB H; obtain ⟨rfl, H⟩ | ⟨rfl, H⟩ := H
   ·obtain rfl := oj H; go_wp2
    repeat (go_quiet (fail); try go_wp2)
    go_ret
    exact ⟨re_, aq HB GEq0 GEq1⟩
   ·have H' := aQ H; clear H; go_wp2
    repeat (go_quiet (fail); try go_wp2)
    go_loopg [5] kj2 (fun kq v5 w' => ∃ (x5_2 : Int), v5 = .int .i64 x5_2 ∧ Aside0 (aM.l0 kq x5_2 a0_0 l0_1 a1_0 l1_1 = some r) ∧ Aside0 (kq ≤ kj2) ∧ Aside0 (w'.heap[gbq0]? = some (.cells #[.int .i64 a0_0, (.slice A0_1 l0_1.length c0_1)] 26 (0, 0))) ∧ Aside0 (w'.heap[gbq1]? = some (.cells #[.int .i64 a1_0, (.slice A1_1 l1_1.length c1_1)] 26 (0, 0))) ∧ Aside0 (Below w.heap.size w w'))
    case atStart => exact ⟨(0), rs_, H', ⟨Nat.le_refl _⟩, ⟨ah BKq0⟩, ⟨ah BKq1⟩, ⟨aq HB GEq0 GEq1⟩⟩
    clear H'; try clear c13
    obtain ⟨x5_2, rfl, HA, HK2, BKq0, BKq1, HB⟩ := hrel; rcases gk with _ | k2
    ·exact absurd HA.out (by simp [aM.l0])
    have H := HA.out; clear HA; simp only [aM.l0] at H; replace H := ckD H; obtain ⟨c14b0, H⟩ | ⟨c14b0, H⟩ := H
    ·replace H := gdD H; obtain ⟨c15b0, H⟩ := H; replace H := gdD H; obtain ⟨c16b0, H⟩ := H; replace H := ckE H; obtain ⟨c17b0, c17b1, H⟩ | ⟨c17, c17b0, c17b1, H⟩ := H
     ·have H' := aQ H; clear H; have := NBq0_q1.out; have := NBq1_q0.out; obtain ⟨_, _, _, _⟩ := cz2 BKq0; have pq2 : 0 ≤ (x5_2 : Int) := of_decide_eq_true as_; have qq2 : x5_2 < (l0_1.length : Int) := of_decide_eq_true as_; obtain ⟨adq2, eq2, hxq2_0⟩ := Kd.o5 HR0_1.out x5_2 pq2 qq2; cases eq2; replace hxq2_0 := (HB.out.cell (World.block_lt_of_cell? w _ hxq2_0)).trans hxq2_0; replace pq2 := eq_true pq2; replace qq2 := eq_true qq2; obtain ⟨_, _, _, _⟩ := cz2 BKq1; have pq3 : 0 ≤ (x5_2 : Int) := of_decide_eq_true as_; have qq3 : x5_2 < (l1_1.length : Int) := of_decide_eq_true as_; obtain ⟨adq3, eq3, hxq3_0⟩ := Kd.o5 HR1_1.out x5_2 pq3 qq3; cases eq3; replace hxq3_0 := (HB.out.cell (World.block_lt_of_cell? w _ hxq3_0)).trans hxq3_0; replace pq3 := eq_true pq3; replace qq3 := eq_true qq3; go_wp2
      repeat (go_quiet (fail); try go_wp2)
      go_roundg k2
      case measure => have := HJ2.out; have := HK2.out; omega
      case rel => exact ⟨(wrap64 (x5_2 + 1)), rs_, H', ⟨by have := HJ2.out; have := HK2.out; omega⟩, ⟨ah BKq0⟩, ⟨ah BKq1⟩, ⟨aq HB GEq0 GEq1⟩⟩
     ·obtain rfl := oj H; have := NBq0_q1.out; have := NBq1_q0.out; obtain ⟨_, _, _, _⟩ := cz2 BKq0; have pq2 : 0 ≤ (x5_2 : Int) := of_decide_eq_true as_; have qq2 : x5_2 < (l0_1.length : Int) := of_decide_eq_true as_; obtain ⟨adq2, eq2, hxq2_0⟩ := Kd.o5 HR0_1.out x5_2 pq2 qq2; cases eq2; replace hxq2_0 := (HB.out.cell (World.block_lt_of_cell? w _ hxq2_0)).trans hxq2_0; replace pq2 := eq_true pq2; replace qq2 := eq_true qq2; obtain ⟨_, _, _, _⟩ := cz2 BKq1; have pq3 : 0 ≤ (x5_2 : Int) := of_decide_eq_true as_; have qq3 : x5_2 < (l1_1.length : Int) := of_decide_eq_true as_; obtain ⟨adq3, eq3, hxq3_0⟩ := Kd.o5 HR1_1.out x5_2 pq3 qq3; cases eq3; replace hxq3_0 := (HB.out.cell (World.block_lt_of_cell? w _ hxq3_0)).trans hxq3_0; replace pq3 := eq_true pq3; replace qq3 := eq_true qq3; go_wp2
      repeat (go_quiet (fail); try go_wp2)
      go_ret
      exact ⟨re_, aq HB GEq0 GEq1⟩
    ·obtain rfl := oj H; have := NBq0_q1.out; have := NBq1_q0.out; obtain ⟨_, _, _, _⟩ := cz2 BKq0; go_wp2
     repeat (go_quiet (fail); try go_wp2)
     go_ret
     exact ⟨re_, aq HB GEq0 GEq1⟩
def laws_sameInts.l0 : Nat → List Int → List Int → Int → Option (Bool)
 | 0, _, _, _ => none
 | k + 1, x0, x1, x5 => if x5 < (x0.length : Int) then (if 0 ≤ x5 then (if x5 < (x1.length : Int) then (if (rd x0 x5) = (rd x1 x5) then (laws_sameInts.l0 k x0 x1 (wrap64 (x5 + 1))) else (some false)) else (none)) else (none)) else (some true)
def laws_sameInts.f (k : Nat) (l0 : List Int) (l1 : List Int) : Option (Bool) := if (l0.length : Int) = (l1.length : Int) then (laws_sameInts.l0 k l0 l1 0) else (some false)
theorem laws_sameInts.n0 (k : Nat) (A0 : Option Addr) (c0 : Nat) (l0 : List Int) (A1 : Option Addr) (c1 : Nat) (l1 : List Int) (r : Bool) (w : World) (hr0 : Kd.C (Kd.int .i64) w A0 l0.length l0) (hc0 : l0.length ≤ c0) (hr1 : Kd.C (Kd.int .i64) w A1 l1.length l1) (hc1 : l1.length ≤ c1) (h : laws_sameInts.f k l0 l1 = some r) :
  CD Tryz.prog 15 #[.slice A0 l0.length c0, .slice A1 l1.length c1] w (.bool r) := by
 have HR0 := aQ hr0; have HC0 := aQ hc0; clear hr0 hc0; have HR1 := aQ hr1; have HC1 := aQ hc1; clear hr1 hc1; have H := h; clear h; unfold laws_sameInts.f at H; (try dsimp only at H); by_cases c3 : (l0.length : Int) = (l1.length : Int)
 ·rw [if_pos c3] at H; obtain ⟨c3b0, c3b1⟩ := eqT c3; have c3b2 : (l0.length == l1.length) = true := by first | simpa using c3 | (simp at c3 ⊢; omega)
  clear c3; have H' := aQ H; clear H; go_enter func15, ntmps15; go_wp2
  repeat (go_quiet (fail); try go_wp2)
  go_loopg [5] k (fun kq v5 w' => ∃ (x5_1 : Int), v5 = .int .i64 x5_1 ∧ Aside0 (laws_sameInts.l0 kq l0 l1 x5_1 = some r) ∧ Aside0 (kq ≤ k) ∧ Drawn0 w w')
  case atStart => exact ⟨(0), rs_, H', ⟨Nat.le_refl _⟩, rd_⟩
  clear H'; try clear c1
  try clear c3
  try clear c3b0
  try clear c3b1
  try clear c3b2
  obtain ⟨x5_1, rfl, HA, HK1, ⟨m1, rfl⟩⟩ := hrel; rcases gk with _ | k1
  ·exact absurd HA.out (by simp [laws_sameInts.l0])
  have H := HA.out; clear HA; simp only [laws_sameInts.l0] at H; replace H := ckD H; obtain ⟨c4b0, H⟩ | ⟨c4b0, H⟩ := H
  ·replace H := gdD H; obtain ⟨c5b0, H⟩ := H; replace H := gdD H; obtain ⟨c6b0, H⟩ := H; replace H := ckE H; obtain ⟨c7b0, c7b1, H⟩ | ⟨c7, c7b0, c7b1, H⟩ := H
   ·have H' := aQ H; clear H; have pq0 : 0 ≤ (x5_1 : Int) := of_decide_eq_true as_; have qq0 : x5_1 < (l0.length : Int) := of_decide_eq_true as_; obtain ⟨adq0, eq0, hxq0_0⟩ := Kd.o5 HR0.out x5_1 pq0 qq0; cases eq0; replace pq0 := eq_true pq0; replace qq0 := eq_true qq0; have pq1 : 0 ≤ (x5_1 : Int) := of_decide_eq_true as_; have qq1 : x5_1 < (l1.length : Int) := of_decide_eq_true as_; obtain ⟨adq1, eq1, hxq1_0⟩ := Kd.o5 HR1.out x5_1 pq1 qq1; cases eq1; replace pq1 := eq_true pq1; replace qq1 := eq_true qq1; go_wp2
    repeat (go_quiet (fail); try go_wp2)
    go_roundg k1
    case measure => exact omeg HK1
    case rel => exact ⟨(wrap64 (x5_1 + 1)), rs_, H', ⟨omeg HK1⟩, rd_⟩
   ·obtain rfl := oj H; have pq0 : 0 ≤ (x5_1 : Int) := of_decide_eq_true as_; have qq0 : x5_1 < (l0.length : Int) := of_decide_eq_true as_; obtain ⟨adq0, eq0, hxq0_0⟩ := Kd.o5 HR0.out x5_1 pq0 qq0; cases eq0; replace pq0 := eq_true pq0; replace qq0 := eq_true qq0; have pq1 : 0 ≤ (x5_1 : Int) := of_decide_eq_true as_; have qq1 : x5_1 < (l1.length : Int) := of_decide_eq_true as_; obtain ⟨adq1, eq1, hxq1_0⟩ := Kd.o5 HR1.out x5_1 pq1 qq1; cases eq1; replace pq1 := eq_true pq1; replace qq1 := eq_true qq1; go_wp2
    repeat (go_quiet (fail); try go_wp2)
    go_ret
    exact ⟨rs_, rd_⟩
  ·obtain rfl := oj H; go_wp2
   repeat (go_quiet (fail); try go_wp2)
   go_ret
   exact ⟨rs_, rd_⟩
 ·rw [if_neg c3] at H; obtain ⟨c3b0, c3b1⟩ := eqF c3; have c3b2 : (l0.length == l1.length) = false := by first | simpa using c3 | (simp at c3 ⊢; omega)
  obtain rfl := oj H; go_enter func15, ntmps15; go_wp2
  repeat (go_quiet (fail); try go_wp2)
  go_ret
  exact ⟨rs_, rd_⟩
def b3.f (a0 : Int) (a1 : Int) (a2 : Int) : Option (Bool) := if a0 ≥ a1 then (some (decide (a0 ≤ a2))) else (some false)
theorem b3.n0 (a0 : Int) (a1 : Int) (a2 : Int) (r : Bool) (w : World) (h : b3.f a0 a1 a2 = some r) :
  CD Tryz.prog 82 #[.int .i64 a0, .int .i64 a1, .int .i64 a2] w (.bool r) := by
 have H : (if a0 ≥ a1 then (some (decide (a0 ≤ a2))) else (some false)) = some r := h; clear h; replace H := ckD H; obtain ⟨c4b0, H⟩ | ⟨c4b0, H⟩ := H
 ·obtain rfl := oj H; go_enter func82, ntmps82; go_wp2
  go_ret
  exact ⟨rs_, rd_⟩
 ·obtain rfl := oj H; go_enter func82, ntmps82; go_wp2
  go_ret
  exact ⟨rs_, rd_⟩
def bg.f (a0 : Int) (a1 : Int) : Option (Bool) := (b3.f a0 0 8).bind fun tq0 => (if tq0 = true then (if 0 ≤ (IntKind.u64.wrap (a0)) then ((b3.f a1 0 (wrap64 ((shl .i64 1 (IntKind.u64.wrap (a0))) - 1))).bind fun tq1 => (some tq1)) else (none)) else (some false))
theorem bg.n0 (a0 : Int) (a1 : Int) (r : Bool) (w : World) (h : bg.f a0 a1 = some r) :
  CD Tryz.prog 81 #[.int .i64 a0, .int .i64 a1] w (.bool r) := by
 have H := h; clear h; unfold bg.f at H; (try dsimp only at H); replace H := bo H; obtain ⟨tq0, A3, H⟩ := H; replace H := ckB H; obtain ⟨rfl, H⟩ | ⟨rfl, H⟩ := H
 ·obtain ⟨ji5, hji5⟩ : ∃ j_ : Int, (IntKind.u64.wrap (a0)) = j_ := ⟨_, rfl⟩; (first | rw [hji5] at H | simp only [hji5] at H); (try rw [hji5] at A3); replace H := gdB H; obtain ⟨c6b0, c6b1, H⟩ := H; obtain ⟨ji7, hji7⟩ : ∃ j_ : Int, (shl .i64 1 (ji5)) = j_ := ⟨_, rfl⟩; (first | rw [hji7] at H | simp only [hji7] at H); (try rw [hji7] at A3); have hji7_ : (IntKind.i64.wrap (1 * 2 ^ min (ji5).toNat 64)) = ji7 := hji7; have hji7z : (ji5) ≤ 64 → (IntKind.i64.wrap (1 * 2 ^ (ji5).toNat)) = ji7 := dr hji7; have hji7u : (IntKind.i64.wrap (2 ^ min (ji5).toNat 64)) = ji7 := by have h_ := hji7_; rw [Int.one_mul] at h_; exact h_
  have hji7v : (ji5) ≤ 64 → (IntKind.i64.wrap (2 ^ (ji5).toNat)) = ji7 := fun hle_ => by have h_ := hji7z hle_; rw [Int.one_mul] at h_; exact h_
  have hji7y : (wrap64 (1 * 2 ^ min (ji5).toNat 64)) = ji7 := (i64_w _).symm.trans hji7_; have hji7x : (ji5) ≤ 64 → (wrap64 (1 * 2 ^ (ji5).toNat)) = ji7 := fun h_ => (i64_w _).symm.trans (hji7z h_)
  replace H := bo H; obtain ⟨tq1, A8, H⟩ := H; obtain rfl := oj H; go_enter func81, ntmps81; go_wp2_with (first | (refine gt 82 ?_; refine gcD (some 6) func82 (b3.n0 a0 0 8 true _ A3.out) ?_; intro nd) | (go_at_call 82; (with_reducible refine (b3.n0 a1 0 (wrap64 ((ji7) - 1)) tq1 _ A8.out).mono ?_); rintro e w' ⟨rfl, ⟨nd, rfl⟩⟩))
  go_ret
  exact ⟨by first | rfl | (simp; done) | (simp only [← hji5, ← hji7] <;> (first | rfl | simp)) | (simp [*]; done), rd_⟩
 ·obtain rfl := oj H; go_enter func81, ntmps81; go_wp2_with (first | (refine gt 82 ?_; refine gcD (some 6) func82 (b3.n0 a0 0 8 false _ A3.out) ?_; intro nd))
  go_ret
  exact ⟨rs_, rd_⟩
def aG.l0 : Nat → Int → List Int → Int → Option (Bool)
 | 0, _, _, _ => none
 | k + 1, x0, x1, x5 => if x5 < (x1.length : Int) then (if 0 ≤ x5 then ((bg.f x0 (rd x1 x5)).bind fun tq0 => (if tq0 = true then (if x5 > 0 then (if 0 ≤ (wrap64 (x5 - 1)) then (if (wrap64 (x5 - 1)) < (x1.length : Int) then (if (rd x1 (wrap64 (x5 - 1))) ≥ (rd x1 x5) then (some false) else (aG.l0 k x0 x1 (wrap64 (x5 + 1)))) else (none)) else (none)) else (aG.l0 k x0 x1 (wrap64 (x5 + 1)))) else (some false))) else (none)) else ((b3.f x0 0 8).bind fun tq1 => (some tq1))
def aG.f (k : Nat) (a0 : Int) (l1 : List Int) : Option (Bool) := aG.l0 k a0 l1 0
theorem aG.r7 : ∀ k, (∀ y0 y1 y2, LeO (aG.l0 k y0 y1 y2) (aG.l0 (k + 1) y0 y1 y2))
 | 0 => fun _ _ _ r h => by simp [aG.l0] at h
 | k + 1 => by
  have ih0 := aG.r7 k
  ·intro y0 y1 y2; unfold aG.l0; exact mn_
theorem aG.mono : ∀ a0 a1 k, LeO (aG.f k a0 a1) (aG.f (k + 1) a0 a1) := by
 intro a0 a1 k; have ih0 := aG.r7 k; unfold aG.f; exact mn_
theorem aG.n0 (k : Nat) (a0 : Int) (A1 : Option Addr) (c1 : Nat) (l1 : List Int) (r : Bool) (w : World) (hr1 : Kd.C (Kd.int .i64) w A1 l1.length l1) (hc1 : l1.length ≤ c1) (h : aG.f k a0 l1 = some r) :
  CD Tryz.prog 77 #[.int .i64 a0, .slice A1 l1.length c1] w (.bool r) := by
 have HR1 := aQ hr1; have HC1 := aQ hc1; clear hr1 hc1; have H : (aG.l0 k a0 l1 0) = some r := h; clear h; have H' := aQ H; clear H; go_enter func77, ntmps77; go_wp2
 repeat (go_quiet (fail); try go_wp2)
 go_loopg [5] k (fun kq v5 w' => ∃ (x5_1 : Int), v5 = .int .i64 x5_1 ∧ Aside0 (aG.l0 kq a0 l1 x5_1 = some r) ∧ Aside0 (kq ≤ k) ∧ Drawn0 w w')
 case atStart => exact ⟨(0), rs_, H', ⟨Nat.le_refl _⟩, rd_⟩
 clear H'; try clear c1
 obtain ⟨x5_1, rfl, HA, HK1, ⟨m1, rfl⟩⟩ := hrel; rcases gk with _ | k1
 ·exact absurd HA.out (by simp [aG.l0])
 have H := HA.out; clear HA; simp only [aG.l0] at H; replace H := ckD H; obtain ⟨c3b0, H⟩ | ⟨c3b0, H⟩ := H
 ·replace H := gdD H; obtain ⟨c4b0, H⟩ := H; replace H := bo H; obtain ⟨tq0, A5, H⟩ := H; replace H := ckB H; obtain ⟨rfl, H⟩ | ⟨rfl, H⟩ := H
  ·replace H := ckD H; obtain ⟨c7b0, H⟩ | ⟨c7b0, H⟩ := H
   ·obtain ⟨ji8, hji8⟩ : ∃ j_ : Int, (wrap64 (x5_1 - 1)) = j_ := ⟨_, rfl⟩; (first | rw [hji8] at H | simp only [hji8] at H); (try rw [hji8] at A5); have hji8w : (IntKind.i64.wrap (x5_1 - 1)) = ji8 := (i64_w _).trans hji8; replace H := gdD H; obtain ⟨c9b0, H⟩ := H; replace H := gdD H; obtain ⟨c10b0, H⟩ := H; replace H := ckD H; obtain ⟨c11b0, H⟩ | ⟨c11b0, H⟩ := H
    ·obtain rfl := oj H; have pq2 : 0 ≤ (x5_1 : Int) := of_decide_eq_true as_; have qq2 : x5_1 < (l1.length : Int) := of_decide_eq_true as_; obtain ⟨adq2, eq2, hxq2_0⟩ := Kd.o5 HR1.out x5_1 pq2 qq2; cases eq2; replace pq2 := eq_true pq2; replace qq2 := eq_true qq2; go_wp2_with (first | (go_at_call 81; (with_reducible refine (bg.n0 a0 (rd l1 x5_1) true _ A5.out).mono ?_); rintro e w' ⟨rfl, ⟨nd, rfl⟩⟩; (try exact dq_); obtain ⟨adq3, eq3, hxq3_0, pq3, qq3⟩ := aI HR1.out (ji8); obtain rfl : adq2 = adq3 := (by injection eq3); obtain ⟨adq4, eq4, hxq4_0, pq4, qq4⟩ := aI HR1.out x5_1; obtain rfl : adq2 = adq4 := (by injection eq4)))
     repeat (go_quiet (first | (go_at_call 81; (with_reducible refine (bg.n0 a0 (rd l1 x5_1) true _ A5.out).mono ?_); rintro e w' ⟨rfl, ⟨nd, rfl⟩⟩; (try exact dq_); obtain ⟨adq3, eq3, hxq3_0, pq3, qq3⟩ := aI HR1.out (ji8); obtain rfl : adq2 = adq3 := (by injection eq3); obtain ⟨adq4, eq4, hxq4_0, pq4, qq4⟩ := aI HR1.out x5_1; obtain rfl : adq2 = adq4 := (by injection eq4))); try go_wp2_with (first | (go_at_call 81; (with_reducible refine (bg.n0 a0 (rd l1 x5_1) true _ A5.out).mono ?_); rintro e w' ⟨rfl, ⟨nd, rfl⟩⟩; (try exact dq_); have pq3 : 0 ≤ ((ji8) : Int) := of_decide_eq_true as_; have qq3 : (ji8) < (l1.length : Int) := of_decide_eq_true as_; obtain ⟨adq3, eq3, hxq3_0⟩ := Kd.o5 HR1.out (ji8) pq3 qq3; obtain rfl : adq2 = adq3 := (by injection eq3); replace pq3 := eq_true pq3; replace qq3 := eq_true qq3; have pq4 : 0 ≤ (x5_1 : Int) := of_decide_eq_true as_; have qq4 : x5_1 < (l1.length : Int) := of_decide_eq_true as_; obtain ⟨adq4, eq4, hxq4_0⟩ := Kd.o5 HR1.out x5_1 pq4 qq4; obtain rfl : adq2 = adq4 := (by injection eq4); replace pq4 := eq_true pq4; replace qq4 := eq_true qq4)))
     go_ret
     exact ⟨by first | rfl | (simp; done) | (simp only [← hji8] <;> (first | rfl | simp)) | (simp [*]; done), rd_⟩
    ·have H' := aQ H; clear H; have pq2 : 0 ≤ (x5_1 : Int) := of_decide_eq_true as_; have qq2 : x5_1 < (l1.length : Int) := of_decide_eq_true as_; obtain ⟨adq2, eq2, hxq2_0⟩ := Kd.o5 HR1.out x5_1 pq2 qq2; cases eq2; replace pq2 := eq_true pq2; replace qq2 := eq_true qq2; go_wp2_with (first | (go_at_call 81; (with_reducible refine (bg.n0 a0 (rd l1 x5_1) true _ A5.out).mono ?_); rintro e w' ⟨rfl, ⟨nd, rfl⟩⟩; (try exact dq_); obtain ⟨adq3, eq3, hxq3_0, pq3, qq3⟩ := aI HR1.out (ji8); obtain rfl : adq2 = adq3 := (by injection eq3); obtain ⟨adq4, eq4, hxq4_0, pq4, qq4⟩ := aI HR1.out x5_1; obtain rfl : adq2 = adq4 := (by injection eq4)))
     repeat (go_quiet (first | (go_at_call 81; (with_reducible refine (bg.n0 a0 (rd l1 x5_1) true _ A5.out).mono ?_); rintro e w' ⟨rfl, ⟨nd, rfl⟩⟩; (try exact dq_); obtain ⟨adq3, eq3, hxq3_0, pq3, qq3⟩ := aI HR1.out (ji8); obtain rfl : adq2 = adq3 := (by injection eq3); obtain ⟨adq4, eq4, hxq4_0, pq4, qq4⟩ := aI HR1.out x5_1; obtain rfl : adq2 = adq4 := (by injection eq4))); try go_wp2_with (first | (go_at_call 81; (with_reducible refine (bg.n0 a0 (rd l1 x5_1) true _ A5.out).mono ?_); rintro e w' ⟨rfl, ⟨nd, rfl⟩⟩; (try exact dq_); have pq3 : 0 ≤ ((ji8) : Int) := of_decide_eq_true as_; have qq3 : (ji8) < (l1.length : Int) := of_decide_eq_true as_; obtain ⟨adq3, eq3, hxq3_0⟩ := Kd.o5 HR1.out (ji8) pq3 qq3; obtain rfl : adq2 = adq3 := (by injection eq3); replace pq3 := eq_true pq3; replace qq3 := eq_true qq3; have pq4 : 0 ≤ (x5_1 : Int) := of_decide_eq_true as_; have qq4 : x5_1 < (l1.length : Int) := of_decide_eq_true as_; obtain ⟨adq4, eq4, hxq4_0⟩ := Kd.o5 HR1.out x5_1 pq4 qq4; obtain rfl : adq2 = adq4 := (by injection eq4); replace pq4 := eq_true pq4; replace qq4 := eq_true qq4)))
     go_roundg k1
     case measure => exact omeg HK1
     case rel => exact ⟨(wrap64 (x5_1 + 1)), rs_, H', ⟨omeg HK1⟩, rd_⟩
   ·have H' := aQ H; clear H; have pq2 : 0 ≤ (x5_1 : Int) := of_decide_eq_true as_; have qq2 : x5_1 < (l1.length : Int) := of_decide_eq_true as_; obtain ⟨adq2, eq2, hxq2_0⟩ := Kd.o5 HR1.out x5_1 pq2 qq2; cases eq2; replace pq2 := eq_true pq2; replace qq2 := eq_true qq2; go_wp2_with (first | (go_at_call 81; (with_reducible refine (bg.n0 a0 (rd l1 x5_1) true _ A5.out).mono ?_); rintro e w' ⟨rfl, ⟨nd, rfl⟩⟩; (try exact dq_)))
    repeat (go_quiet (first | (go_at_call 81; (with_reducible refine (bg.n0 a0 (rd l1 x5_1) true _ A5.out).mono ?_); rintro e w' ⟨rfl, ⟨nd, rfl⟩⟩; (try exact dq_))); try go_wp2_with (first | (go_at_call 81; (with_reducible refine (bg.n0 a0 (rd l1 x5_1) true _ A5.out).mono ?_); rintro e w' ⟨rfl, ⟨nd, rfl⟩⟩; (try exact dq_))))
    go_roundg k1
    case measure => exact omeg HK1
    case rel => exact ⟨(wrap64 (x5_1 + 1)), rs_, H', ⟨omeg HK1⟩, rd_⟩
  ·obtain rfl := oj H; have pq2 : 0 ≤ (x5_1 : Int) := of_decide_eq_true as_; have qq2 : x5_1 < (l1.length : Int) := of_decide_eq_true as_; obtain ⟨adq2, eq2, hxq2_0⟩ := Kd.o5 HR1.out x5_1 pq2 qq2; cases eq2; replace pq2 := eq_true pq2; replace qq2 := eq_true qq2; go_wp2_with (first | (go_at_call 81; (with_reducible refine (bg.n0 a0 (rd l1 x5_1) false _ A5.out).mono ?_); rintro e w' ⟨rfl, ⟨nd, rfl⟩⟩; (try exact dq_)))
   repeat (go_quiet (first | (go_at_call 81; (with_reducible refine (bg.n0 a0 (rd l1 x5_1) false _ A5.out).mono ?_); rintro e w' ⟨rfl, ⟨nd, rfl⟩⟩; (try exact dq_))); try go_wp2_with (first | (go_at_call 81; (with_reducible refine (bg.n0 a0 (rd l1 x5_1) false _ A5.out).mono ?_); rintro e w' ⟨rfl, ⟨nd, rfl⟩⟩; (try exact dq_))))
   go_ret
   exact ⟨rs_, rd_⟩
 ·replace H := bo H; obtain ⟨tq1, A12, H⟩ := H; obtain rfl := oj H; go_wp2_with (first | (go_at_call 82; (with_reducible refine (b3.n0 a0 0 8 tq1 _ A12.out).mono ?_); rintro e w' ⟨rfl, ⟨nd, rfl⟩⟩; (try exact dq_)))
  repeat (go_quiet (first | (go_at_call 82; (with_reducible refine (b3.n0 a0 0 8 tq1 _ A12.out).mono ?_); rintro e w' ⟨rfl, ⟨nd, rfl⟩⟩; (try exact dq_))); try go_wp2_with (first | (go_at_call 82; (with_reducible refine (b3.n0 a0 0 8 tq1 _ A12.out).mono ?_); rintro e w' ⟨rfl, ⟨nd, rfl⟩⟩; (try exact dq_))))
  go_ret
  exact ⟨rs_, rd_⟩
def bA.f (a0 : Int) (a1 : Int) : Option (Bool) := if 0 ≤ (IntKind.u64.wrap (a1)) then (some ((Go.bits .and .i64 (shr .i64 a0 (IntKind.u64.wrap (a1))) 1) == 1)) else (none)
theorem bA.n0 (a0 : Int) (a1 : Int) (r : Bool) (w : World) (h : bA.f a0 a1 = some r) :
  CD Tryz.prog 73 #[.int .i64 a0, .int .i64 a1] w (.bool r) := by
 have H := h; clear h; unfold bA.f at H; (try dsimp only at H); obtain ⟨ji3, hji3⟩ : ∃ j_ : Int, (IntKind.u64.wrap (a1)) = j_ := ⟨_, rfl⟩; (first | rw [hji3] at H | simp only [hji3] at H); replace H := gdB H; obtain ⟨c4b0, c4b1, H⟩ := H; obtain ⟨ji5, hji5⟩ : ∃ j_ : Int, (shr .i64 a0 (ji3)) = j_ := ⟨_, rfl⟩; (first | rw [hji5] at H | simp only [hji5] at H); have hji5_ : (a0 / 2 ^ min (ji3).toNat 64) = ji5 := hji5; have hji5z : (ji3) ≤ 64 → (a0 / 2 ^ (ji3).toNat) = ji5 := fy hji5; obtain rfl := oj H; go_enter func73, ntmps73; go_wp2
 go_ret
 exact ⟨by first | rfl | (simp; done) | (simp only [← hji3, ← hji5] <;> (first | rfl | simp)) | (simp [*]; done), rd_⟩
def bn.l0 : Nat → List Int → Int → Int → Option (Bool)
 | 0, _, _, _ => none
 | k + 1, x0, x1, x5 => if x5 < (x0.length : Int) then (if 0 ≤ x5 then (if (rd x0 x5) = x1 then (some true) else (bn.l0 k x0 x1 (wrap64 (x5 + 1)))) else (none)) else (some false)
def bn.f (k : Nat) (l0 : List Int) (a1 : Int) : Option (Bool) := bn.l0 k l0 a1 0
theorem bn.r7 : ∀ k, (∀ y0 y1 y2, LeO (bn.l0 k y0 y1 y2) (bn.l0 (k + 1) y0 y1 y2))
 | 0 => fun _ _ _ r h => by simp [bn.l0] at h
 | k + 1 => by
  have ih0 := bn.r7 k
  ·intro y0 y1 y2; unfold bn.l0; exact mn_
theorem bn.mono : ∀ a0 a1 k, LeO (bn.f k a0 a1) (bn.f (k + 1) a0 a1) := by
 intro a0 a1 k; have ih0 := bn.r7 k; unfold bn.f; exact mn_
theorem bn.n0 (k : Nat) (A0 : Option Addr) (c0 : Nat) (l0 : List Int) (a1 : Int) (r : Bool) (w : World) (hr0 : Kd.C (Kd.int .i64) w A0 l0.length l0) (hc0 : l0.length ≤ c0) (h : bn.f k l0 a1 = some r) :
  CD Tryz.prog 57 #[.slice A0 l0.length c0, .int .i64 a1] w (.bool r) := by
 have HR0 := aQ hr0; have HC0 := aQ hc0; clear hr0 hc0; have H : (bn.l0 k l0 a1 0) = some r := h; clear h; have H' := aQ H; clear H; go_enter func57, ntmps57; go_wp2
 go_loopg [5] k (fun kq v5 w' => ∃ (x5_1 : Int), v5 = .int .i64 x5_1 ∧ Aside0 (bn.l0 kq l0 a1 x5_1 = some r) ∧ Aside0 (kq ≤ k) ∧ Drawn0 w w')
 case atStart => exact ⟨(0), rs_, H', ⟨Nat.le_refl _⟩, rd_⟩
 clear H'; obtain ⟨x5_1, rfl, HA, HK1, ⟨m1, rfl⟩⟩ := hrel; rcases gk with _ | k1
 ·exact absurd HA.out (by simp [bn.l0])
 have H := HA.out; clear HA; simp only [bn.l0] at H; replace H := ckD H; obtain ⟨c3b0, H⟩ | ⟨c3b0, H⟩ := H
 ·replace H := gdD H; obtain ⟨c4b0, H⟩ := H; replace H := ckE H; obtain ⟨c5b0, c5b1, H⟩ | ⟨c5, c5b0, c5b1, H⟩ := H
  ·obtain rfl := oj H; have pq0 : 0 ≤ (x5_1 : Int) := of_decide_eq_true as_; have qq0 : x5_1 < (l0.length : Int) := of_decide_eq_true as_; obtain ⟨adq0, eq0, hxq0_0⟩ := Kd.o5 HR0.out x5_1 pq0 qq0; cases eq0; replace pq0 := eq_true pq0; replace qq0 := eq_true qq0; go_wp2
   go_ret
   exact ⟨rs_, rd_⟩
  ·have H' := aQ H; clear H; have pq0 : 0 ≤ (x5_1 : Int) := of_decide_eq_true as_; have qq0 : x5_1 < (l0.length : Int) := of_decide_eq_true as_; obtain ⟨adq0, eq0, hxq0_0⟩ := Kd.o5 HR0.out x5_1 pq0 qq0; cases eq0; replace pq0 := eq_true pq0; replace qq0 := eq_true qq0; go_wp2
   go_roundg k1
   case measure => exact omeg HK1
   case rel => exact ⟨(wrap64 (x5_1 + 1)), rs_, H', ⟨omeg HK1⟩, rd_⟩
 ·obtain rfl := oj H; go_wp2
  go_ret
  exact ⟨rs_, rd_⟩
def aU.l0 : Nat → Int → Int → Int → Int → Int → List Int → Option (Bool)
 | 0, _, _, _, _, _, _ => none
 | k + 1, x1, x2, x3, x9, x124002000, x124002001 => if x9 < x124002000 then ((bA.f x2 x9).bind fun tq0 => (if tq0 = true then ((bA.f x1 x9).bind fun tq1 => (if tq1 = true then (aU.l0 k x1 x2 x3 (wrap64 (x9 + 1)) x124002000 x124002001) else (if 0 ≤ (IntKind.u64.wrap (x3)) then (if 0 ≤ (IntKind.u64.wrap (x9)) then ((bn.f k x124002001 (wrap64 ((wrap64 (x1 - (shl .i64 1 (IntKind.u64.wrap (x3))))) + (shl .i64 1 (IntKind.u64.wrap (x9)))))).bind fun tq2 => (if tq2 = true then (some true) else (aU.l0 k x1 x2 x3 (wrap64 (x9 + 1)) x124002000 x124002001))) else (none)) else (none)))) else (aU.l0 k x1 x2 x3 (wrap64 (x9 + 1)) x124002000 x124002001))) else (some false)
def aU.f (k : Nat) (a0_0 : Int) (l0_1 : List Int) (a1 : Int) (a2 : Int) (a3 : Int) : Option (Bool) := aU.l0 k a1 a2 a3 0 a0_0 l0_1
theorem aU.r7 : ∀ k, (∀ y0 y1 y2 y3 y4 y5, LeO (aU.l0 k y0 y1 y2 y3 y4 y5) (aU.l0 (k + 1) y0 y1 y2 y3 y4 y5))
 | 0 => fun _ _ _ _ _ _ r h => by simp [aU.l0] at h
 | k + 1 => by
  have ih0 := aU.r7 k
  ·intro y0 y1 y2 y3 y4 y5; unfold aU.l0
   repeat' first | (with_reducible first | exact ih0 _ _ _ _ _ _ | exact bn.mono _ _ _ | exact LeO.refl _ | exact LeO.none _ | refine LeO.ite ?_ ?_ | refine LeO.bind ?_ (fun _ => ?_)) | exact ih0 _ _ _ _ _ _ | exact LeO.none _ | refine LeO.ite ?_ ?_ | refine LeO.bind ?_ (fun _ => ?_)
theorem aU.mono : ∀ a0 a1 a2 a3 a4 k, LeO (aU.f k a0 a1 a2 a3 a4) (aU.f (k + 1) a0 a1 a2 a3 a4) := by
 intro a0 a1 a2 a3 a4 k; have ih0 := aU.r7 k; unfold aU.f
 repeat' first | (with_reducible first | exact ih0 _ _ _ _ _ _ | exact bn.mono _ _ _ | exact LeO.refl _ | exact LeO.none _ | refine LeO.ite ?_ ?_ | refine LeO.bind ?_ (fun _ => ?_)) | exact ih0 _ _ _ _ _ _ | exact LeO.none _ | refine LeO.ite ?_ ?_ | refine LeO.bind ?_ (fun _ => ?_)
theorem aU.n0 (k : Nat) (a0_0 : Int) (A0_1 : Option Addr) (c0_1 : Nat) (l0_1 : List Int) (a1 : Int) (a2 : Int) (a3 : Int) (r : Bool) (w : World) (hr0_1 : Kd.C (Kd.int .i64) w A0_1 l0_1.length l0_1) (hc0_1 : l0_1.length ≤ c0_1) (h : aU.f k a0_0 l0_1 a1 a2 a3 = some r) :
  CB Tryz.prog 123 #[.agg #[.int .i64 a0_0, .slice A0_1 l0_1.length c0_1], .int .i64 a1, .int .i64 a2, .int .i64 a3] w (.bool r) := by
 have hu26 := underlying26; have HR0_1 := aQ hr0_1; have HC0_1 := aQ hc0_1; clear hr0_1 hc0_1; have HB := aQ (Below.refl w.heap.size w); have H : (aU.l0 k a1 a2 a3 0 a0_0 l0_1) = some r := h; clear h; have H' := aQ H; clear H; go_enter func123, ntmps123; go_wp2_with (first | (refine bX 4 #[.int .i64 a0_0, .slice A0_1 l0_1.length c0_1] 26 ?_; intro gbq3 hg w5 BKq3 hb; have GEq3 := gB HB hg; replace HB := bs HB hb; clear hb hg))
 go_loopg [9] k (fun kq v9 w' => ∃ (x9_1 : Int), v9 = .int .i64 x9_1 ∧ Aside0 (aU.l0 kq a1 a2 a3 x9_1 a0_0 l0_1 = some r) ∧ Aside0 (kq ≤ k) ∧ Aside0 (w'.heap[gbq3]? = some (.cells #[.int .i64 a0_0, (.slice A0_1 l0_1.length c0_1)] 26 (0, 0))) ∧ Aside0 (Below w.heap.size w w'))
 case atStart => exact ⟨(0), rs_, H', ⟨Nat.le_refl _⟩, ⟨ah BKq3⟩, ⟨bv HB GEq3⟩⟩
 clear H'; obtain ⟨x9_1, rfl, HA, HK1, BKq3, HB⟩ := hrel; rcases gk with _ | k1
 ·exact absurd HA.out (by simp [aU.l0])
 have H := HA.out; clear HA; simp only [aU.l0] at H; replace H := ckD H; obtain ⟨c6b0, H⟩ | ⟨c6b0, H⟩ := H
 ·replace H := bo H; obtain ⟨tq0, A7, H⟩ := H; replace H := ckB H; obtain ⟨rfl, H⟩ | ⟨rfl, H⟩ := H
  ·replace H := bo H; obtain ⟨tq1, A9, H⟩ := H; replace H := ckB H; obtain ⟨rfl, H⟩ | ⟨rfl, H⟩ := H
   ·have H' := aQ H; clear H; obtain ⟨_, _, _, _⟩ := cz2 BKq3; go_wp2_with (first | ((with_reducible refine cf (f := 73) rfl ?_); refine gl (some 18) func73 #[.int .i64 a2, .int .i64 x9_1] ?_; (with_reducible refine (bA.n0 a2 x9_1 true _ A7.out).mono ?_); rintro e w' ⟨rfl, ⟨nd, rfl⟩⟩; refine ⟨_, rfl, ?_⟩) | (go_at_call 73; (with_reducible refine (bA.n0 a1 x9_1 true _ A9.out).mono ?_); rintro e w' ⟨rfl, ⟨nd, rfl⟩⟩))
    go_roundg k1
    case measure => exact omeg HK1
    case rel => exact ⟨(wrap64 (x9_1 + 1)), rs_, H', ⟨omeg HK1⟩, ⟨ah BKq3⟩, ⟨bv HB GEq3⟩⟩
   ·obtain ⟨ji12, hji12⟩ : ∃ j_ : Int, (IntKind.u64.wrap (a3)) = j_ := ⟨_, rfl⟩; (first | rw [hji12] at H | simp only [hji12] at H); (try rw [hji12] at A7); (try rw [hji12] at A9); replace H := gdB H; obtain ⟨c13b0, c13b1, H⟩ := H; obtain ⟨ji14, hji14⟩ : ∃ j_ : Int, (shl .i64 1 (ji12)) = j_ := ⟨_, rfl⟩; (first | rw [hji14] at H | simp only [hji14] at H); (try rw [hji14] at A7); (try rw [hji14] at A9); have hji14_ : (IntKind.i64.wrap (1 * 2 ^ min (ji12).toNat 64)) = ji14 := hji14; have hji14z : (ji12) ≤ 64 → (IntKind.i64.wrap (1 * 2 ^ (ji12).toNat)) = ji14 := dr hji14; have hji14u : (IntKind.i64.wrap (2 ^ min (ji12).toNat 64)) = ji14 := by have h_ := hji14_; rw [Int.one_mul] at h_; exact h_
    have hji14v : (ji12) ≤ 64 → (IntKind.i64.wrap (2 ^ (ji12).toNat)) = ji14 := fun hle_ => by have h_ := hji14z hle_; rw [Int.one_mul] at h_; exact h_
    have hji14y : (wrap64 (1 * 2 ^ min (ji12).toNat 64)) = ji14 := (i64_w _).symm.trans hji14_; have hji14x : (ji12) ≤ 64 → (wrap64 (1 * 2 ^ (ji12).toNat)) = ji14 := fun h_ => (i64_w _).symm.trans (hji14z h_)
    obtain ⟨ji15, hji15⟩ : ∃ j_ : Int, (IntKind.u64.wrap (x9_1)) = j_ := ⟨_, rfl⟩; (first | rw [hji15] at H | simp only [hji15] at H); (try rw [hji15] at A7); (try rw [hji15] at A9); replace H := gdB H; obtain ⟨c16b0, c16b1, H⟩ := H; obtain ⟨ji17, hji17⟩ : ∃ j_ : Int, (shl .i64 1 (ji15)) = j_ := ⟨_, rfl⟩; (first | rw [hji17] at H | simp only [hji17] at H); (try rw [hji17] at A7); (try rw [hji17] at A9); have hji17_ : (IntKind.i64.wrap (1 * 2 ^ min (ji15).toNat 64)) = ji17 := hji17; have hji17z : (ji15) ≤ 64 → (IntKind.i64.wrap (1 * 2 ^ (ji15).toNat)) = ji17 := dr hji17; have hji17u : (IntKind.i64.wrap (2 ^ min (ji15).toNat 64)) = ji17 := by have h_ := hji17_; rw [Int.one_mul] at h_; exact h_
    have hji17v : (ji15) ≤ 64 → (IntKind.i64.wrap (2 ^ (ji15).toNat)) = ji17 := fun hle_ => by have h_ := hji17z hle_; rw [Int.one_mul] at h_; exact h_
    have hji17y : (wrap64 (1 * 2 ^ min (ji15).toNat 64)) = ji17 := (i64_w _).symm.trans hji17_; have hji17x : (ji15) ≤ 64 → (wrap64 (1 * 2 ^ (ji15).toNat)) = ji17 := fun h_ => (i64_w _).symm.trans (hji17z h_)
    replace H := bo H; obtain ⟨tq2, A18, H⟩ := H; replace H := ckB H; obtain ⟨rfl, H⟩ | ⟨rfl, H⟩ := H
    ·obtain rfl := oj H; obtain ⟨_, _, _, _⟩ := cz2 BKq3; go_wp2_with (first | ((with_reducible refine cf (f := 73) rfl ?_); refine gl (some 18) func73 #[.int .i64 a2, .int .i64 x9_1] ?_; (with_reducible refine (bA.n0 a2 x9_1 true _ A7.out).mono ?_); rintro e w' ⟨rfl, ⟨nd, rfl⟩⟩; refine ⟨_, rfl, ?_⟩) | (go_at_call 73; (with_reducible refine (bA.n0 a1 x9_1 false _ A9.out).mono ?_); rintro e w' ⟨rfl, ⟨nd, rfl⟩⟩) | (go_at_call 57; (with_reducible refine (bn.n0 k1 _ _ l0_1 (wrap64 ((wrap64 (a1 - (ji14))) + (ji17))) true _ ?side1 ?side2 A18.out).mono ?_); (case side1 => exact pC ((Kd.r5 HR0_1.out (bv HB GEq3)))); (case side2 => exact HC0_1.out); rintro e w' ⟨rfl, ⟨nd, rfl⟩⟩))
     go_ret
     exact ⟨by first | rfl | (simp [errW_none, bZ] <;> rfl) | (simp only [← hji12, ← hji14, ← hji15, ← hji17]; first | rfl | (simp [errW_none, bZ] <;> rfl)) | (simp [*, errW_none, bZ] <;> rfl), bv HB GEq3⟩
    ·have H' := aQ H; clear H; obtain ⟨_, _, _, _⟩ := cz2 BKq3; go_wp2_with (first | ((with_reducible refine cf (f := 73) rfl ?_); refine gl (some 18) func73 #[.int .i64 a2, .int .i64 x9_1] ?_; (with_reducible refine (bA.n0 a2 x9_1 true _ A7.out).mono ?_); rintro e w' ⟨rfl, ⟨nd, rfl⟩⟩; refine ⟨_, rfl, ?_⟩) | (go_at_call 73; (with_reducible refine (bA.n0 a1 x9_1 false _ A9.out).mono ?_); rintro e w' ⟨rfl, ⟨nd, rfl⟩⟩) | (go_at_call 57; (with_reducible refine (bn.n0 k1 _ _ l0_1 (wrap64 ((wrap64 (a1 - (ji14))) + (ji17))) false _ ?side1 ?side2 A18.out).mono ?_); (case side1 => exact pC ((Kd.r5 HR0_1.out (bv HB GEq3)))); (case side2 => exact HC0_1.out); rintro e w' ⟨rfl, ⟨nd, rfl⟩⟩))
     go_roundg k1
     case measure => exact omeg HK1
     case rel => exact ⟨(wrap64 (x9_1 + 1)), rs_, H', ⟨omeg HK1⟩, ⟨ah BKq3⟩, ⟨bv HB GEq3⟩⟩
  ·have H' := aQ H; clear H; obtain ⟨_, _, _, _⟩ := cz2 BKq3; go_wp2_with (first | ((with_reducible refine cf (f := 73) rfl ?_); refine gl (some 18) func73 #[.int .i64 a2, .int .i64 x9_1] ?_; (with_reducible refine (bA.n0 a2 x9_1 false _ A7.out).mono ?_); rintro e w' ⟨rfl, ⟨nd, rfl⟩⟩; refine ⟨_, rfl, ?_⟩))
   go_roundg k1
   case measure => exact omeg HK1
   case rel => exact ⟨(wrap64 (x9_1 + 1)), rs_, H', ⟨omeg HK1⟩, ⟨ah BKq3⟩, ⟨bv HB GEq3⟩⟩
 ·obtain rfl := oj H; obtain ⟨_, _, _, _⟩ := cz2 BKq3; go_wp2
  go_ret
  exact ⟨re_, bv HB GEq3⟩
mutual
def af.l0 : Nat → Int → Int → List Int → Option (Int × Int × Int × Bool)
 | 0, _, _, _ => none
 | k + 1, x4, x79002000, x79002001 => if x4 < (x79002001.length : Int) then (af.l1 k x4 0 x79002000 x79002001) else (some (0, 0, 0, false))
def af.l1 : Nat → Int → Int → Int → List Int → Option (Int × Int × Int × Bool)
 | 0, _, _, _, _ => none
 | k + 1, x4, x5, x79002000, x79002001 => if x5 < (x79002001.length : Int) then (af.l2 k x4 x5 0 x79002000 x79002001) else (af.l0 k (wrap64 (x4 + 1)) x79002000 x79002001)
def af.l2 : Nat → Int → Int → Int → Int → List Int → Option (Int × Int × Int × Bool)
 | 0, _, _, _, _, _ => none
 | k + 1, x4, x5, x6, x79002000, x79002001 => if x6 < x79002000 then (if 0 ≤ x4 then (if x4 < (x79002001.length : Int) then (if 0 ≤ x5 then (if x5 < (x79002001.length : Int) then ((bA.f (rd x79002001 x4) x6).bind fun tq0 => (if tq0 = true then ((bA.f (rd x79002001 x5) x6).bind fun tq1 => (if tq1 = true then (af.l2 k x4 x5 (wrap64 (x6 + 1)) x79002000 x79002001) else ((aU.f k x79002000 x79002001 (rd x79002001 x4) (rd x79002001 x5) x6).bind fun tq2 => (if tq2 = true then (af.l2 k x4 x5 (wrap64 (x6 + 1)) x79002000 x79002001) else (some (rd x79002001 x4, rd x79002001 x5, x6, true)))))) else (af.l2 k x4 x5 (wrap64 (x6 + 1)) x79002000 x79002001))) else (none)) else (none)) else (none)) else (none)) else (af.l1 k x4 (wrap64 (x5 + 1)) x79002000 x79002001)
end
def af.f (k : Nat) (a0_0 : Int) (l0_1 : List Int) : Option (Int × Int × Int × Bool) := (aG.f k a0_0 l0_1).bind fun tq3 => (if tq3 = true then (af.l0 k 0 a0_0 l0_1) else (some (0, 0, 0, false)))
theorem af.r7 : ∀ k, (∀ y0 y1 y2, LeO (af.l0 k y0 y1 y2) (af.l0 (k + 1) y0 y1 y2)) ∧ (∀ y0 y1 y2 y3, LeO (af.l1 k y0 y1 y2 y3) (af.l1 (k + 1) y0 y1 y2 y3)) ∧ (∀ y0 y1 y2 y3 y4, LeO (af.l2 k y0 y1 y2 y3 y4) (af.l2 (k + 1) y0 y1 y2 y3 y4))
 | 0 => ⟨fun _ _ _ r h => by simp [af.l0] at h, fun _ _ _ _ r h => by simp [af.l1] at h, fun _ _ _ _ _ r h => by simp [af.l2] at h⟩
 | k + 1 => by
  obtain ⟨ih0, ih1, ih2⟩ := af.r7 k; refine ⟨?_, ?_, ?_⟩
  ·intro y0 y1 y2; unfold af.l0
   repeat' first | (with_reducible first | exact ih0 _ _ _ | exact ih1 _ _ _ _ | exact ih2 _ _ _ _ _ | exact aG.mono _ _ _ | exact aU.mono _ _ _ _ _ _ | exact LeO.refl _ | exact LeO.none _ | refine LeO.ite ?_ ?_ | refine LeO.bind ?_ (fun _ => ?_)) | exact ih0 _ _ _ | exact ih1 _ _ _ _ | exact ih2 _ _ _ _ _ | exact LeO.none _ | refine LeO.ite ?_ ?_ | refine LeO.bind ?_ (fun _ => ?_)
  ·intro y0 y1 y2 y3; unfold af.l1
   repeat' first | (with_reducible first | exact ih0 _ _ _ | exact ih1 _ _ _ _ | exact ih2 _ _ _ _ _ | exact aG.mono _ _ _ | exact aU.mono _ _ _ _ _ _ | exact LeO.refl _ | exact LeO.none _ | refine LeO.ite ?_ ?_ | refine LeO.bind ?_ (fun _ => ?_)) | exact ih0 _ _ _ | exact ih1 _ _ _ _ | exact ih2 _ _ _ _ _ | exact LeO.none _ | refine LeO.ite ?_ ?_ | refine LeO.bind ?_ (fun _ => ?_)
  ·intro y0 y1 y2 y3 y4; unfold af.l2
   repeat' first | (with_reducible first | exact ih0 _ _ _ | exact ih1 _ _ _ _ | exact ih2 _ _ _ _ _ | exact aG.mono _ _ _ | exact aU.mono _ _ _ _ _ _ | exact LeO.refl _ | exact LeO.none _ | refine LeO.ite ?_ ?_ | refine LeO.bind ?_ (fun _ => ?_)) | exact ih0 _ _ _ | exact ih1 _ _ _ _ | exact ih2 _ _ _ _ _ | exact LeO.none _ | refine LeO.ite ?_ ?_ | refine LeO.bind ?_ (fun _ => ?_)
theorem af.mono : ∀ a0 a1 k, LeO (af.f k a0 a1) (af.f (k + 1) a0 a1) := by
 intro a0 a1 k; obtain ⟨ih0, ih1, ih2⟩ := af.r7 k; unfold af.f
 repeat' first | (with_reducible first | exact ih0 _ _ _ | exact ih1 _ _ _ _ | exact ih2 _ _ _ _ _ | exact aG.mono _ _ _ | exact aU.mono _ _ _ _ _ _ | exact LeO.refl _ | exact LeO.none _ | refine LeO.ite ?_ ?_ | refine LeO.bind ?_ (fun _ => ?_)) | exact ih0 _ _ _ | exact ih1 _ _ _ _ | exact ih2 _ _ _ _ _ | exact LeO.none _ | refine LeO.ite ?_ ?_ | refine LeO.bind ?_ (fun _ => ?_)
theorem af.n0 (k : Nat) (a0_0 : Int) (A0_1 : Option Addr) (c0_1 : Nat) (l0_1 : List Int) (r1 : Int) (r2 : Int) (r3 : Int) (r4 : Bool) (w : World) (hr0_1 : Kd.C (Kd.int .i64) w A0_1 l0_1.length l0_1) (hc0_1 : l0_1.length ≤ c0_1) (h : af.f k a0_0 l0_1 = some (r1, r2, r3, r4)) :
  CB Tryz.prog 78 #[.agg #[.int .i64 a0_0, .slice A0_1 l0_1.length c0_1]] w (.tuple #[.agg #[.int .i64 r1, .int .i64 r2, .int .i64 r3], .bool r4]) := by
 have hu26 := underlying26; have hu74 := underlying74; have HR0_1 := aQ hr0_1; have HC0_1 := aQ hc0_1; clear hr0_1 hc0_1; have HB := aQ (Below.refl w.heap.size w); have H := h; clear h; unfold af.f at H; (try dsimp only at H); replace H := bo H; obtain ⟨tq3, A2, H⟩ := H; replace H := ckB H; obtain ⟨rfl, H⟩ | ⟨rfl, H⟩ := H
 ·have H' := aQ H; clear H; go_enter func78, ntmps78; go_wp2_with (first | (refine bX 1 #[.int .i64 a0_0, .slice A0_1 l0_1.length c0_1] 26 ?_; intro gbq4 hg w4 BKq4 hb; have GEq4 := gB HB hg; replace HB := bs HB hb; clear hb hg) | (refine bX 2 #[.int .i64 0, .int .i64 0, .int .i64 0] 74 ?_; intro gbq5 hg w5 BKq5 hb; have GEq5 := gB HB hg; replace HB := bs HB hb; have NBq4_q5 := nl BKq4 hg; have NBq5_q4 := ng BKq4 hg; replace BKq4 := bb BKq4 hb; clear hb hg; have := NBq4_q5.out; have := NBq5_q4.out; obtain ⟨hcz7_0, hcz7_1, hfz7_0, hfz7_1⟩ := cz2 BKq4) | (refine gt 77 ?_; refine gcD (some 13) func77 (aG.n0 k a0_0 _ _ l0_1 true _ (pC (Cbel HR0_1 HB)) HC0_1.out A2.out) ?_; intro nd))
  go_loopg [4] k (fun kq v4 w' => ∃ (x4_1 : Int) (x79003000_1 : Int) (x79003001_1 : Int) (x79003002_1 : Int), v4 = .int .i64 x4_1 ∧ Aside0 (af.l0 kq x4_1 a0_0 l0_1 = some (r1, r2, r3, r4)) ∧ Aside0 (kq ≤ k) ∧ Aside0 (w'.heap[gbq4]? = some (.cells #[.int .i64 a0_0, (.slice A0_1 l0_1.length c0_1)] 26 (0, 0))) ∧ Aside0 (w'.heap[gbq5]? = some (.cells #[.int .i64 x79003000_1, .int .i64 x79003001_1, .int .i64 x79003002_1] 74 (0, 0))) ∧ Aside0 (Below w.heap.size w w'))
  case atStart => exact ⟨(0), (0), (0), (0), rs_, H', ⟨Nat.le_refl _⟩, ⟨ah BKq4⟩, ⟨ah BKq5⟩, ⟨aq HB GEq4 GEq5⟩⟩
  clear H'; try clear c3
  try clear hcz7_0
  try clear hcz7_1
  try clear hfz7_0
  try clear hfz7_1
  obtain ⟨x4_1, x79003000_1, x79003001_1, x79003002_1, rfl, HA, HK1, BKq4, BKq5, HB⟩ := hrel; rcases gk with _ | k1
  ·exact absurd HA.out (by simp [af.l0])
  have H := HA.out; clear HA; simp only [af.l0] at H; replace H := ckD H; obtain ⟨c8b0, H⟩ | ⟨c8b0, H⟩ := H
  ·have H' := aQ H; clear H; have := NBq4_q5.out; have := NBq5_q4.out; obtain ⟨hcz10_0, hcz10_1, hfz10_0, hfz10_1⟩ := cz2 BKq4; go_wp2
   go_loopg [5] k1 (fun kq v5 w' => ∃ (x5_2 : Int) (x79003000_2 : Int) (x79003001_2 : Int) (x79003002_2 : Int), v5 = .int .i64 x5_2 ∧ Aside0 (af.l1 kq x4_1 x5_2 a0_0 l0_1 = some (r1, r2, r3, r4)) ∧ Aside0 (kq ≤ k1) ∧ Aside0 (w'.heap[gbq4]? = some (.cells #[.int .i64 a0_0, (.slice A0_1 l0_1.length c0_1)] 26 (0, 0))) ∧ Aside0 (w'.heap[gbq5]? = some (.cells #[.int .i64 x79003000_2, .int .i64 x79003001_2, .int .i64 x79003002_2] 74 (0, 0))) ∧ Aside0 (Below w.heap.size w w'))
   case atStart => exact ⟨(0), (x79003000_1), (x79003001_1), (x79003002_1), rs_, H', ⟨Nat.le_refl _⟩, ⟨ah BKq4⟩, ⟨ah BKq5⟩, ⟨aq HB GEq4 GEq5⟩⟩
   clear H'; try clear c3
   try clear c8
   try clear c8b0
   try clear hcz10_0
   try clear hcz10_1
   try clear hcz7_0
   try clear hcz7_1
   try clear hfz10_0
   try clear hfz10_1
   try clear hfz7_0
   try clear hfz7_1
   obtain ⟨x5_2, x79003000_2, x79003001_2, x79003002_2, rfl, HA, HK2, BKq4, BKq5, HB⟩ := hrel; rcases gk with _ | k2
   ·exact absurd HA.out (by simp [af.l1])
   have H := HA.out; clear HA; simp only [af.l1] at H; replace H := ckD H; obtain ⟨c11b0, H⟩ | ⟨c11b0, H⟩ := H
   ·have H' := aQ H; clear H; have := NBq4_q5.out; have := NBq5_q4.out; obtain ⟨hcz13_0, hcz13_1, hfz13_0, hfz13_1⟩ := cz2 BKq4; go_wp2
    go_loopg [6] k2 (fun kq v6 w' => ∃ (x6_3 : Int) (x79003000_3 : Int) (x79003001_3 : Int) (x79003002_3 : Int), v6 = .int .i64 x6_3 ∧ Aside0 (af.l2 kq x4_1 x5_2 x6_3 a0_0 l0_1 = some (r1, r2, r3, r4)) ∧ Aside0 (kq ≤ k2) ∧ Aside0 (w'.heap[gbq4]? = some (.cells #[.int .i64 a0_0, (.slice A0_1 l0_1.length c0_1)] 26 (0, 0))) ∧ Aside0 (w'.heap[gbq5]? = some (.cells #[.int .i64 x79003000_3, .int .i64 x79003001_3, .int .i64 x79003002_3] 74 (0, 0))) ∧ Aside0 (Below w.heap.size w w'))
    case atStart => exact ⟨(0), (x79003000_2), (x79003001_2), (x79003002_2), rs_, H', ⟨Nat.le_refl _⟩, ⟨ah BKq4⟩, ⟨ah BKq5⟩, ⟨aq HB GEq4 GEq5⟩⟩
    clear H'; try clear c3
    try clear c8
    try clear c8b0
    try clear c11
    try clear c11b0
    try clear hcz10_0
    try clear hcz10_1
    try clear hcz13_0
    try clear hcz13_1
    try clear hcz7_0
    try clear hcz7_1
    try clear hfz10_0
    try clear hfz10_1
    try clear hfz13_0
    try clear hfz13_1
    try clear hfz7_0
    try clear hfz7_1
    obtain ⟨x6_3, x79003000_3, x79003001_3, x79003002_3, rfl, HA, HK3, BKq4, BKq5, HB⟩ := hrel; rcases gk with _ | k3
    ·exact absurd HA.out (by simp [af.l2])
    have H := HA.out; clear HA; simp only [af.l2] at H; replace H := ckD H; obtain ⟨c14b0, H⟩ | ⟨c14b0, H⟩ := H
    ·replace H := gdD H; obtain ⟨c15b0, H⟩ := H; replace H := gdD H; obtain ⟨c16b0, H⟩ := H; replace H := gdD H; obtain ⟨c17b0, H⟩ := H; replace H := gdD H; obtain ⟨c18b0, H⟩ := H; replace H := bo H; obtain ⟨tq0, A19, H⟩ := H; replace H := ckB H; obtain ⟨rfl, H⟩ | ⟨rfl, H⟩ := H
     ·replace H := bo H; obtain ⟨tq1, A21, H⟩ := H; replace H := ckB H; obtain ⟨rfl, H⟩ | ⟨rfl, H⟩ := H
      ·have H' := aQ H; clear H; have := NBq4_q5.out; have := NBq5_q4.out; obtain ⟨_, _, _, _⟩ := cz2 BKq4; have pq6 : 0 ≤ (x4_1 : Int) := of_decide_eq_true as_; have qq6 : x4_1 < (l0_1.length : Int) := of_decide_eq_true as_; obtain ⟨adq6, eq6, hxq6_0⟩ := Kd.o5 HR0_1.out x4_1 pq6 qq6; cases eq6; replace hxq6_0 := (HB.out.cell (World.block_lt_of_cell? w _ hxq6_0)).trans hxq6_0; replace pq6 := eq_true pq6; replace qq6 := eq_true qq6; obtain ⟨adq7, eq7, hxq7_0, pq7, qq7⟩ := aIB HB.out HR0_1.out x5_2; obtain rfl : adq6 = adq7 := (by injection eq7); go_wp2_with (first | (refine gt 73 ?_; refine gcD (some 48) func73 (bA.n0 (rd l0_1 x4_1) x6_3 true _ A19.out) ?_; intro nd) | (go_at_call 73; (with_reducible refine (bA.n0 (rd l0_1 x5_2) x6_3 true _ A21.out).mono ?_); rintro e w' ⟨rfl, ⟨nd, rfl⟩⟩))
       go_roundg k3
       case measure => have := HK1.out; have := HK2.out; have := HK3.out; omega
       case rel => exact ⟨(wrap64 (x6_3 + 1)), (x79003000_3), (x79003001_3), (x79003002_3), rs_, H', ⟨by have := HK1.out; have := HK2.out; have := HK3.out; omega⟩, ⟨ah BKq4⟩, ⟨ah BKq5⟩, ⟨aq HB GEq4 GEq5⟩⟩
      ·replace H := bo H; obtain ⟨tq2, A25, H⟩ := H; replace H := ckB H; obtain ⟨rfl, H⟩ | ⟨rfl, H⟩ := H
       ·have H' := aQ H; clear H; have := NBq4_q5.out; have := NBq5_q4.out; obtain ⟨_, _, _, _⟩ := cz2 BKq4; have pq6 : 0 ≤ (x4_1 : Int) := of_decide_eq_true as_; have qq6 : x4_1 < (l0_1.length : Int) := of_decide_eq_true as_; obtain ⟨adq6, eq6, hxq6_0⟩ := Kd.o5 HR0_1.out x4_1 pq6 qq6; cases eq6; replace hxq6_0 := (HB.out.cell (World.block_lt_of_cell? w _ hxq6_0)).trans hxq6_0; replace pq6 := eq_true pq6; replace qq6 := eq_true qq6; obtain ⟨adq7, eq7, hxq7_0, pq7, qq7⟩ := aIB HB.out HR0_1.out x5_2; obtain rfl : adq6 = adq7 := (by injection eq7); go_wp2_with (first | (refine gt 73 ?_; refine gcD (some 48) func73 (bA.n0 (rd l0_1 x4_1) x6_3 true _ A19.out) ?_; intro nd) | (go_at_call 73; (with_reducible refine (bA.n0 (rd l0_1 x5_2) x6_3 false _ A21.out).mono ?_); rintro e w' ⟨rfl, ⟨nd, rfl⟩⟩) | (go_at_call 123; (with_reducible refine (aU.n0 k3 a0_0 _ _ l0_1 (rd l0_1 x4_1) (rd l0_1 x5_2) x6_3 true _ ?side1 ?side2 A25.out).mono ?_); (case side1 => exact pC ((Kd.r5 HR0_1.out (aq HB GEq4 GEq5)))); (case side2 => exact HC0_1.out); rintro e w29 ⟨rfl, hb⟩; replace BKq4 := bb BKq4 hb; replace BKq5 := bb BKq5 hb; replace HB := bs HB hb; (try clear hb)))
        go_roundg k3
        case measure => have := HK1.out; have := HK2.out; have := HK3.out; omega
        case rel => exact ⟨(wrap64 (x6_3 + 1)), (x79003000_3), (x79003001_3), (x79003002_3), rs_, H', ⟨by have := HK1.out; have := HK2.out; have := HK3.out; omega⟩, ⟨ah BKq4⟩, ⟨ah BKq5⟩, ⟨aq HB GEq4 GEq5⟩⟩
       ·obtain ⟨rfl, rfl, rfl, rfl⟩ := o4 H; have := NBq4_q5.out; have := NBq5_q4.out; obtain ⟨hcz31_0, hcz31_1, hfz31_0, hfz31_1⟩ := cz2 BKq4; have pq6 : 0 ≤ (x4_1 : Int) := of_decide_eq_true as_; have qq6 : x4_1 < (l0_1.length : Int) := of_decide_eq_true as_; obtain ⟨adq6, eq6, hxq6_0⟩ := Kd.o5 HR0_1.out x4_1 pq6 qq6; cases eq6; replace hxq6_0 := (HB.out.cell (World.block_lt_of_cell? w _ hxq6_0)).trans hxq6_0; replace pq6 := eq_true pq6; replace qq6 := eq_true qq6; obtain ⟨adq7, eq7, hxq7_0, pq7, qq7⟩ := aIB HB.out HR0_1.out x5_2; obtain rfl : adq6 = adq7 := (by injection eq7); go_wp2_with (first | (refine gt 73 ?_; refine gcD (some 48) func73 (bA.n0 (rd l0_1 x4_1) x6_3 true _ A19.out) ?_; intro nd; (try (rw [cX wr]; generalize hq_ : World.drewN wr _ = wr; have n0_ : Aside0 (wr.heap[gbq4]? = some (.cells #[.int .i64 a0_0, .slice (some adq6) l0_1.length c0_1] 26 (0, 0))) := ⟨by rw [← hq_]; exact (ah BKq4)⟩; have n1_ : Aside0 (wr.heap[gbq5]? = some (.cells #[.int .i64 x79003000_3, .int .i64 x79003001_3, .int .i64 x79003002_3] 74 (0, 0))) := ⟨by rw [← hq_]; exact (ah BKq5)⟩; have n2_ : Aside0 (Below w.heap.size w wr) := ⟨by rw [← hq_]; exact (aq HB GEq4 GEq5)⟩; clear BKq4 BKq5 HB hq_; have BKq4 := n0_; have BKq5 := n1_; have HB := n2_; clear n0_ n1_ n2_; obtain ⟨hcz31_0, hcz31_1, hfz31_0, hfz31_1⟩ := cz2 BKq4))) | (go_at_call 73; (with_reducible refine (bA.n0 (rd l0_1 x5_2) x6_3 false _ A21.out).mono ?_); rintro e w' ⟨rfl, ⟨nd, rfl⟩⟩; (try (rw [cX wr]; generalize hq_ : World.drewN wr _ = wr; have n0_ : Aside0 (wr.heap[gbq4]? = some (.cells #[.int .i64 a0_0, .slice (some adq6) l0_1.length c0_1] 26 (0, 0))) := ⟨by rw [← hq_]; exact (ah BKq4)⟩; have n1_ : Aside0 (wr.heap[gbq5]? = some (.cells #[.int .i64 x79003000_3, .int .i64 x79003001_3, .int .i64 x79003002_3] 74 (0, 0))) := ⟨by rw [← hq_]; exact (ah BKq5)⟩; have n2_ : Aside0 (Below w.heap.size w wr) := ⟨by rw [← hq_]; exact (aq HB GEq4 GEq5)⟩; clear BKq4 BKq5 HB hq_; have BKq4 := n0_; have BKq5 := n1_; have HB := n2_; clear n0_ n1_ n2_; obtain ⟨hcz31_0, hcz31_1, hfz31_0, hfz31_1⟩ := cz2 BKq4))) | (go_at_call 123; (with_reducible refine (aU.n0 k3 a0_0 _ _ l0_1 (rd l0_1 x4_1) (rd l0_1 x5_2) x6_3 false _ ?side1 ?side2 A25.out).mono ?_); (case side1 => exact pC (Cbel HR0_1 HB)); (case side2 => exact HC0_1.out); rintro e w32 ⟨rfl, hb⟩; replace BKq4 := bb BKq4 hb; replace BKq5 := bb BKq5 hb; replace HB := bs HB hb; (try clear hb); have hcz33_0 := bc (v := (.int .i64 x79003000_3)) BKq5.out 0; have hcz33_1 := bc (v := (.int .i64 x79003001_3)) BKq5.out 1; have hcz33_2 := bc (v := (.int .i64 x79003002_3)) BKq5.out 2; have hfz33_0 := ag BKq5.out 0; have hfz33_1 := ag BKq5.out 1; have hfz33_2 := ag BKq5.out 2))
        refine bodyPost_ret (cB rfl _ _ gbq5 74 #[.int .i64 (rd l0_1 x4_1), .int .i64 (rd l0_1 x5_2), .int .i64 x6_3] (0, 0) _ rfl (by refine pkx ?_; refine aj (cs := #[.int .i64 (rd l0_1 x4_1), .int .i64 (rd l0_1 x5_2), .int .i64 x79003002_3]) ?_ 2 _ rfl; refine pkx ?_; refine aj (cs := #[.int .i64 (rd l0_1 x4_1), .int .i64 x79003001_3, .int .i64 x79003002_3]) ?_ 1 _ rfl; refine pkx ?_; refine aj (cs := #[.int .i64 x79003000_3, .int .i64 x79003001_3, .int .i64 x79003002_3]) ?_ 0 _ rfl; refine pkx ?_; exact BKq5.out) underlying74 rfl (by kernel_rfl)) rfl ?_; exact ⟨re_, aq HB GEq4 GEq5⟩
     ·have H' := aQ H; clear H; have := NBq4_q5.out; have := NBq5_q4.out; obtain ⟨_, _, _, _⟩ := cz2 BKq4; have pq6 : 0 ≤ (x4_1 : Int) := of_decide_eq_true as_; have qq6 : x4_1 < (l0_1.length : Int) := of_decide_eq_true as_; obtain ⟨adq6, eq6, hxq6_0⟩ := Kd.o5 HR0_1.out x4_1 pq6 qq6; cases eq6; replace hxq6_0 := (HB.out.cell (World.block_lt_of_cell? w _ hxq6_0)).trans hxq6_0; replace pq6 := eq_true pq6; replace qq6 := eq_true qq6; obtain ⟨adq7, eq7, hxq7_0, pq7, qq7⟩ := aIB HB.out HR0_1.out x5_2; obtain rfl : adq6 = adq7 := (by injection eq7); go_wp2_with (first | (refine gt 73 ?_; refine gcD (some 48) func73 (bA.n0 (rd l0_1 x4_1) x6_3 false _ A19.out) ?_; intro nd))
      go_roundg k3
      case measure => have := HK1.out; have := HK2.out; have := HK3.out; omega
      case rel => exact ⟨(wrap64 (x6_3 + 1)), (x79003000_3), (x79003001_3), (x79003002_3), rs_, H', ⟨by have := HK1.out; have := HK2.out; have := HK3.out; omega⟩, ⟨ah BKq4⟩, ⟨ah BKq5⟩, ⟨aq HB GEq4 GEq5⟩⟩
    ·have H' := aQ H; clear H; have := NBq4_q5.out; have := NBq5_q4.out; obtain ⟨_, _, _, _⟩ := cz2 BKq4; go_wp2
     go_roundg k3
     case measure => have := HK1.out; have := HK2.out; have := HK3.out; omega
     case rel => exact ⟨(wrap64 (x5_2 + 1)), (x79003000_3), (x79003001_3), (x79003002_3), rs_, H', ⟨by have := HK1.out; have := HK2.out; have := HK3.out; omega⟩, ⟨ah BKq4⟩, ⟨ah BKq5⟩, ⟨aq HB GEq4 GEq5⟩⟩
   ·have H' := aQ H; clear H; have := NBq4_q5.out; have := NBq5_q4.out; obtain ⟨_, _, _, _⟩ := cz2 BKq4; go_wp2
    go_roundg k2
    case measure => have := HK1.out; have := HK2.out; omega
    case rel => exact ⟨(wrap64 (x4_1 + 1)), (x79003000_2), (x79003001_2), (x79003002_2), rs_, H', ⟨by have := HK1.out; have := HK2.out; omega⟩, ⟨ah BKq4⟩, ⟨ah BKq5⟩, ⟨aq HB GEq4 GEq5⟩⟩
  ·obtain ⟨rfl, rfl, rfl, rfl⟩ := o4 H; have := NBq4_q5.out; have := NBq5_q4.out; obtain ⟨_, _, _, _⟩ := cz2 BKq4; have hcz42_0 := bc (v := (.int .i64 x79003000_1)) BKq5.out 0; have hcz42_1 := bc (v := (.int .i64 x79003001_1)) BKq5.out 1; have hcz42_2 := bc (v := (.int .i64 x79003002_1)) BKq5.out 2; have hfz42_0 := ag BKq5.out 0; have hfz42_1 := ag BKq5.out 1; have hfz42_2 := ag BKq5.out 2; go_wp2
   refine bodyPost_ret (cB rfl _ _ gbq5 74 #[.int .i64 0, .int .i64 0, .int .i64 0] (0, 0) _ rfl (by refine pkx ?_; refine aj (cs := #[.int .i64 0, .int .i64 0, .int .i64 x79003002_1]) ?_ 2 _ rfl; refine pkx ?_; refine aj (cs := #[.int .i64 0, .int .i64 x79003001_1, .int .i64 x79003002_1]) ?_ 1 _ rfl; refine pkx ?_; refine aj (cs := #[.int .i64 x79003000_1, .int .i64 x79003001_1, .int .i64 x79003002_1]) ?_ 0 _ rfl; refine pkx ?_; exact BKq5.out) underlying74 rfl (by kernel_rfl)) rfl ?_; exact ⟨re_, aq HB GEq4 GEq5⟩
 ·obtain ⟨rfl, rfl, rfl, rfl⟩ := o4 H; go_enter func78, ntmps78; go_wp2_with (first | (refine bX 1 #[.int .i64 a0_0, .slice A0_1 l0_1.length c0_1] 26 ?_; intro gbq4 hg w43 BKq4 hb; have GEq4 := gB HB hg; replace HB := bs HB hb; clear hb hg) | (refine bX 2 #[.int .i64 0, .int .i64 0, .int .i64 0] 74 ?_; intro gbq5 hg w44 BKq5 hb; have GEq5 := gB HB hg; replace HB := bs HB hb; have NBq4_q5 := nl BKq4 hg; have NBq5_q4 := ng BKq4 hg; replace BKq4 := bb BKq4 hb; clear hb hg; have := NBq4_q5.out; have := NBq5_q4.out; obtain ⟨_, _, _, _⟩ := cz2 BKq4) | (refine gt 77 ?_; refine gcD (some 13) func77 (aG.n0 k a0_0 _ _ l0_1 false _ (pC (Cbel HR0_1 HB)) HC0_1.out A2.out) ?_; intro nd; (try (rw [cX w44]; generalize hq_ : World.drewN w44 _ = w44; have n0_ : Aside0 (w44.heap[gbq4]? = some (.cells #[.int .i64 a0_0, .slice A0_1 l0_1.length c0_1] 26 (0, 0))) := ⟨by rw [← hq_]; exact (ah BKq4)⟩; have n1_ : Aside0 (w44.heap[gbq5]? = some (.cells #[.int .i64 0, .int .i64 0, .int .i64 0] 74 (0, 0))) := ⟨by rw [← hq_]; exact (ah BKq5)⟩; have n2_ : Aside0 (Below w.heap.size w w44) := ⟨by rw [← hq_]; exact (aq HB GEq4 GEq5)⟩; clear BKq4 BKq5 HB hq_; have BKq4 := n0_; have BKq5 := n1_; have HB := n2_; clear n0_ n1_ n2_)); have hcz47_0 := bc (v := (.int .i64 0)) BKq5.out 0; have hcz47_1 := bc (v := (.int .i64 0)) BKq5.out 1; have hcz47_2 := bc (v := (.int .i64 0)) BKq5.out 2; have hfz47_0 := ag BKq5.out 0; have hfz47_1 := ag BKq5.out 1; have hfz47_2 := ag BKq5.out 2))
  refine bodyPost_ret (cB rfl _ _ gbq5 74 #[.int .i64 0, .int .i64 0, .int .i64 0] (0, 0) _ rfl (by refine pkx ?_; refine aj (cs := #[.int .i64 0, .int .i64 0, .int .i64 0]) ?_ 2 _ rfl; refine pkx ?_; refine aj (cs := #[.int .i64 0, .int .i64 0, .int .i64 0]) ?_ 1 _ rfl; refine pkx ?_; refine aj (cs := #[.int .i64 0, .int .i64 0, .int .i64 0]) ?_ 0 _ rfl; refine pkx ?_; exact BKq5.out) underlying74 rfl (by kernel_rfl)) rfl ?_; exact ⟨re_, aq HB GEq4 GEq5⟩
def aN.f (k : Nat) (a0_0 : Int) (l0_1 : List Int) : Option (Bool) := (af.f k a0_0 l0_1).bind fun btq0 => ((aG.f k a0_0 l0_1).bind fun tq1 => (if tq1 = true then (if (l0_1.length : Int) > 0 then (some (!btq0.2.2.2)) else (some false)) else (some false)))
theorem aN.mono : ∀ a0 a1 k, LeO (aN.f k a0 a1) (aN.f (k + 1) a0 a1) := by
 intro a0 a1 k; unfold aN.f
 repeat' first | (with_reducible first | exact af.mono _ _ _ | exact aG.mono _ _ _ | exact LeO.refl _ | exact LeO.none _ | refine LeO.ite ?_ ?_ | refine LeO.bind ?_ (fun _ => ?_)) | exact LeO.none _ | refine LeO.ite ?_ ?_ | refine LeO.bind ?_ (fun _ => ?_)
theorem aN.n0 (k : Nat) (a0_0 : Int) (A0_1 : Option Addr) (c0_1 : Nat) (l0_1 : List Int) (r : Bool) (w : World) (hr0_1 : Kd.C (Kd.int .i64) w A0_1 l0_1.length l0_1) (hc0_1 : l0_1.length ≤ c0_1) (h : aN.f k a0_0 l0_1 = some r) :
  CB Tryz.prog 23 #[.agg #[.int .i64 a0_0, .slice A0_1 l0_1.length c0_1]] w (.bool r) := by
 have hu26 := underlying26; have hu74 := underlying74; have HR0_1 := aQ hr0_1; have HC0_1 := aQ hc0_1; clear hr0_1 hc0_1; have HB := aQ (Below.refl w.heap.size w); have H := h; clear h; unfold aN.f at H; (try dsimp only at H); replace H := bo H; obtain ⟨⟨tq0, tq2, tq3, tq4⟩, A2, H⟩ := H; (try dsimp only at H); replace H := bo H; obtain ⟨tq1, A3, H⟩ := H; replace H := ckB H; obtain ⟨rfl, H⟩ | ⟨rfl, H⟩ := H
 ·by_cases c5 : (l0_1.length : Int) > 0
  ·rw [if_pos c5] at H; have c5b0 := decide_eq_true c5; have c5b1 : decide (0 < l0_1.length) = true := decide_eq_true (by omega); clear c5; obtain rfl := oj H; go_enter func23, ntmps23; go_wp2_with (first | ((with_reducible refine gate_dst (N := 1) rfl ?_); (try (refine bq (by rfl) ?_; dsimp only)); refine bx 1 #[.int .i64 a0_0, .slice A0_1 l0_1.length c0_1] 26 ?_; intro gbq5 hg w6 hbox hb; have BKq5 := aQ (hbox); have GEq5 := gB HB hg; replace HB := bs HB hb; clear hb hbox hg; obtain ⟨_, _, _, _⟩ := cz2 BKq5) | (refine gt 78 ?_; refine gcB (some 7) func78 (af.n0 k a0_0 _ _ l0_1 tq0 tq2 tq3 tq4 _ (pC (Cbel HR0_1 HB)) HC0_1.out A2.out) ?_; intro w8 hb; replace BKq5 := bb BKq5 hb; replace HB := bs HB hb; (try clear hb)) | ((with_reducible refine gate_dst (N := 3) rfl ?_); (try (refine bq (by rfl) ?_; dsimp only)); refine bx 3 #[.int .i64 0, .int .i64 0, .int .i64 0] 74 ?_; intro gbq6 hg w9 hbox hb; have BKq6 := aQ (hbox); have GEq6 := gB HB hg; replace HB := bs HB hb; have NBq5_q6 := nl BKq5 hg; have NBq6_q5 := ng BKq5 hg; replace BKq5 := bb BKq5 hb; clear hb hbox hg; have := NBq6_q5.out; have := NBq5_q6.out; have hcz11_0 := bc (v := (.int .i64 0)) BKq6.out 0; have hcz11_1 := bc (v := (.int .i64 0)) BKq6.out 1; have hcz11_2 := bc (v := (.int .i64 0)) BKq6.out 2; have hfz11_0 := ag BKq6.out 0; have hfz11_1 := ag BKq6.out 1; have hfz11_2 := ag BKq6.out 2; obtain ⟨_, _, _, _⟩ := cz2 BKq5) | (refine gt 77 ?_; refine gcD (some 14) func77 (aG.n0 k a0_0 _ _ l0_1 true _ (Kd.r5 HR0_1.out (aq HB GEq5 GEq6)) HC0_1.out A3.out) ?_; intro nd))
   go_ret
   exact ⟨re_, aq HB GEq5 GEq6⟩
  ·rw [if_neg c5] at H; have c5b0 := decide_eq_false c5; have c5b1 : decide (0 < l0_1.length) = false := decide_eq_false (by omega); clear c5; obtain rfl := oj H; go_enter func23, ntmps23; go_wp2_with (first | ((with_reducible refine gate_dst (N := 1) rfl ?_); (try (refine bq (by rfl) ?_; dsimp only)); refine bx 1 #[.int .i64 a0_0, .slice A0_1 l0_1.length c0_1] 26 ?_; intro gbq5 hg w13 hbox hb; have BKq5 := aQ (hbox); have GEq5 := gB HB hg; replace HB := bs HB hb; clear hb hbox hg; obtain ⟨_, _, _, _⟩ := cz2 BKq5) | (refine gt 78 ?_; refine gcB (some 7) func78 (af.n0 k a0_0 _ _ l0_1 tq0 tq2 tq3 tq4 _ (pC (Cbel HR0_1 HB)) HC0_1.out A2.out) ?_; intro w15 hb; replace BKq5 := bb BKq5 hb; replace HB := bs HB hb; (try clear hb)) | ((with_reducible refine gate_dst (N := 3) rfl ?_); (try (refine bq (by rfl) ?_; dsimp only)); refine bx 3 #[.int .i64 0, .int .i64 0, .int .i64 0] 74 ?_; intro gbq6 hg w16 hbox hb; have BKq6 := aQ (hbox); have GEq6 := gB HB hg; replace HB := bs HB hb; have NBq5_q6 := nl BKq5 hg; have NBq6_q5 := ng BKq5 hg; replace BKq5 := bb BKq5 hb; clear hb hbox hg; have := NBq6_q5.out; have := NBq5_q6.out; have hcz18_0 := bc (v := (.int .i64 0)) BKq6.out 0; have hcz18_1 := bc (v := (.int .i64 0)) BKq6.out 1; have hcz18_2 := bc (v := (.int .i64 0)) BKq6.out 2; have hfz18_0 := ag BKq6.out 0; have hfz18_1 := ag BKq6.out 1; have hfz18_2 := ag BKq6.out 2; obtain ⟨_, _, _, _⟩ := cz2 BKq5) | (refine gt 77 ?_; refine gcD (some 14) func77 (aG.n0 k a0_0 _ _ l0_1 true _ (Kd.r5 HR0_1.out (aq HB GEq5 GEq6)) HC0_1.out A3.out) ?_; intro nd))
   go_ret
   exact ⟨re_, aq HB GEq5 GEq6⟩
 ·obtain rfl := oj H; go_enter func23, ntmps23; go_wp2_with (first | ((with_reducible refine gate_dst (N := 1) rfl ?_); (try (refine bq (by rfl) ?_; dsimp only)); refine bx 1 #[.int .i64 a0_0, .slice A0_1 l0_1.length c0_1] 26 ?_; intro gbq5 hg w20 hbox hb; have BKq5 := aQ (hbox); have GEq5 := gB HB hg; replace HB := bs HB hb; clear hb hbox hg; obtain ⟨_, _, _, _⟩ := cz2 BKq5) | (refine gt 78 ?_; refine gcB (some 7) func78 (af.n0 k a0_0 _ _ l0_1 tq0 tq2 tq3 tq4 _ (pC (Cbel HR0_1 HB)) HC0_1.out A2.out) ?_; intro w22 hb; replace BKq5 := bb BKq5 hb; replace HB := bs HB hb; (try clear hb)) | ((with_reducible refine gate_dst (N := 3) rfl ?_); (try (refine bq (by rfl) ?_; dsimp only)); refine bx 3 #[.int .i64 0, .int .i64 0, .int .i64 0] 74 ?_; intro gbq6 hg w23 hbox hb; have BKq6 := aQ (hbox); have GEq6 := gB HB hg; replace HB := bs HB hb; have NBq5_q6 := nl BKq5 hg; have NBq6_q5 := ng BKq5 hg; replace BKq5 := bb BKq5 hb; clear hb hbox hg; have := NBq6_q5.out; have := NBq5_q6.out; have hcz25_0 := bc (v := (.int .i64 0)) BKq6.out 0; have hcz25_1 := bc (v := (.int .i64 0)) BKq6.out 1; have hcz25_2 := bc (v := (.int .i64 0)) BKq6.out 2; have hfz25_0 := ag BKq6.out 0; have hfz25_1 := ag BKq6.out 1; have hfz25_2 := ag BKq6.out 2; obtain ⟨_, _, _, _⟩ := cz2 BKq5) | (refine gt 77 ?_; refine gcD (some 14) func77 (aG.n0 k a0_0 _ _ l0_1 false _ (Kd.r5 HR0_1.out (aq HB GEq5 GEq6)) HC0_1.out A3.out) ?_; intro nd))
  go_ret
  exact ⟨re_, aq HB GEq5 GEq6⟩
end Go.Proofs.YtbdloopelidneaaGreat.A
namespace Go.Proofs.YtbdloopelidneaaGreat.A
open Go.RowKit Go.Proofs.YtbdloopelidneaaGreatW.PrintWords Go.Proofs.YtbdloopelidneaaGreatW.PrintLast Go.Proofs.YtbdloopelidneaaGreatW.PrintMore Tryz
attribute [local go_sem] cy ct cP cN b7 b9 cu cv
set_option linter.unusedVariables false
set_option linter.unusedSimpArgs false
def H4 (w0 W : World) (g : Nat) (f0 : List Int) (f1 : Int) (f2 : Int) : Prop := ∃ A0 c0, W.heap[g]? = some (.cells #[.slice A0 f0.length c0, .int .i64 f1, .int .i64 f2] 92 (0, 0)) ∧ w0.heap.size ≤ g ∧ Kd.C (Kd.int .u8) w0 A0 f0.length f0
theorem H4.grown {w0 W : World} {g : Nat} {f0 : List Int} {f1 : Int} {f2 : Int} {W1 : World} {row : Option Nat} (h : H4 w0 W g f0 f1 f2) (hw : W.grownBy W1 row) (hne : some g ≠ row) : H4 w0 W1 g f0 f1 f2 := by
  obtain ⟨A0, c0, hb, hg, hr0⟩ := h
  exact ⟨A0, c0, bJ hb hw hne, hg, hr0⟩
theorem H4.kept {w0 W : World} {g : Nat} {f0 : List Int} {f1 : Int} {f2 : Int} {W1 : World} {S : Nat → Prop} (h : H4 w0 W g f0 f1 f2) (hk : Kept W W1 S) (hne : ¬ S g) : H4 w0 W1 g f0 f1 f2 := by
  obtain ⟨A0, c0, hb, hg, hr0⟩ := h
  exact ⟨A0, c0, fe hb hk hne, hg, hr0⟩
theorem H4.below {w0 W : World} {g : Nat} {f0 : List Int} {f1 : Int} {f2 : Int} {W1 : World} (h : H4 w0 W g f0 f1 f2) (hw : Below W.heap.size W W1) : H4 w0 W1 g f0 f1 f2 := h.grown (ft hw none) (by simp)
theorem H4.alloc {w0 W : World} {g : Nat} {f0 : List Int} {f1 : Int} {f2 : Int} (h : H4 w0 W g f0 f1 f2) (o : Obj) : H4 w0 (W.alloc o) g f0 f1 f2 := h.below (ch (Below.refl _ _) o)
theorem H4.drewN {w0 W : World} {g : Nat} {f0 : List Int} {f1 : Int} {f2 : Int} (h : H4 w0 W g f0 f1 f2) (m : Nat) : H4 w0 (W.drewN m) g f0 f1 f2 := h
theorem H4.drew {w0 W : World} {g : Nat} {f0 : List Int} {f1 : Int} {f2 : Int} (h : H4 w0 W g f0 f1 f2) : H4 w0 W.drew g f0 f1 f2 := h
theorem H4.at_ {w0 W : World} {g : Nat} {f0 : List Int} {f1 : Int} {f2 : Int} {w' : World} {m : Nat} (hq : W.drewN m = w') (h : H4 w0 W g f0 f1 f2) : H4 w0 w' g f0 f1 f2 := by subst hq; exact H4.drewN h m
theorem H4.apart {w0 W : World} {g : Nat} {f0 : List Int} {f1 : Int} {f2 : Int} {α : Type} {d : Kd α} {e : Nat} {base : Nat} {ok : Nat → Prop} {v : Value} {xs : List α} (h : H4 w0 W g f0 f1 f2) (ho : d.R e W base ok v xs) (ht : ∀ q, q ∈ e :: d.E → q ≠ 92) : d.R e W base (fun k => ok k ∧ k ≠ g) v xs := by
  obtain ⟨A0, c0, hb, hg, hr0⟩ := h
  exact Kd.o6 ho hb ht
theorem H4.B0 {w0 W : World} {g : Nat} {f0 : List Int} {f1 : Int} {f2 : Int} {α : Type} {d : Kd α} {e : Nat} {base : Nat} {ok : Nat → Prop} {v : Value} {xs : List α} (h : H4 w0 W g f0 f1 f2) (ho : d.R e W base ok v xs) (ht : e ≠ 92) : some g ≠ v.ownBlock := by
  obtain ⟨A0, c0, hb, hg, hr0⟩ := h
  exact Kd.y9 ho hb ht
theorem H4.lt {w0 W : World} {g : Nat} {f0 : List Int} {f1 : Int} {f2 : Int} (h : H4 w0 W g f0 f1 f2) : g < W.heap.size := by
  obtain ⟨A0, c0, hb, hg, hr0⟩ := h
  exact cl hb
theorem H4.ge {w0 W : World} {g : Nat} {f0 : List Int} {f1 : Int} {f2 : Int} (h : H4 w0 W g f0 f1 f2) : w0.heap.size ≤ g := by
  obtain ⟨A0, c0, hb, hg, hr0⟩ := h
  exact hg
theorem H4.C7 {w0 W : World} {g : Nat} {f0 : List Int} {f1 : Int} {f2 : Int} {a : Nat} {cs : Array Value} {t : TypeId} {fr : Nat × Nat} (h : H4 w0 W g f0 f1 f2) (hb2 : W.heap[a]? = some (.cells cs t fr)) (ht : t ≠ 92) : g ≠ a := by
  obtain ⟨A0, c0, hb, hg, hr0⟩ := h
  rintro rfl
  rw [hb] at hb2
  injection hb2 with hb2
  injection hb2 with _ ht2
  exact ht ht2.symm
theorem H4.far {w0 W : World} {g : Nat} {f0 : List Int} {f1 : Int} {f2 : Int} {p : Addr} (h : H4 w0 W g f0 f1 f2) (hne : g ≠ p.block) (u : Value) : H4 w0 (W.setCell p u) g f0 f1 f2 := by
  obtain ⟨A0, c0, hb, hg, hr0⟩ := h
  exact ⟨A0, c0, ae hb hne u, hg, hr0⟩
theorem je {W : World} {g : Nat} {A0 : Option Addr} {c0 : Nat} {f0 : List Int} {f1 : Int} {f2 : Int} (h : W.heap[g]? = some (.cells #[.slice A0 f0.length c0, .int .i64 f1, .int .i64 f2] 92 (0, 0))) : W.cell? ⟨g, 0, none⟩ = some (.slice A0 f0.length c0) := (ab h 0).trans rfl
theorem jg {W : World} {g : Nat} {A0 : Option Addr} {c0 : Nat} {f0 : List Int} {f1 : Int} {f2 : Int} (h : W.heap[g]? = some (.cells #[.slice A0 f0.length c0, .int .i64 f1, .int .i64 f2] 92 (0, 0))) : W.cell? ⟨g, 1, none⟩ = some (.int .i64 f1) := (ab h 1).trans rfl
theorem H4.set_1 {w0 W : World} {g : Nat} {f0 : List Int} {f1 : Int} {f2 : Int} (h : H4 w0 W g f0 f1 f2) (x : Int) : H4 w0 (W.setCell ⟨g, 1, none⟩ (.int .i64 x)) g f0 x f2 := by
  obtain ⟨A0, c0, hb, hg, hr0⟩ := h
  exact ⟨A0, c0, by simpa using jz hb 1 (.int .i64 x), hg, hr0⟩
theorem i6 {W : World} {g : Nat} {A0 : Option Addr} {c0 : Nat} {f0 : List Int} {f1 : Int} {f2 : Int} (h : W.heap[g]? = some (.cells #[.slice A0 f0.length c0, .int .i64 f1, .int .i64 f2] 92 (0, 0))) : W.cell? ⟨g, 2, none⟩ = some (.int .i64 f2) := (ab h 2).trans rfl
theorem H4.set_2 {w0 W : World} {g : Nat} {f0 : List Int} {f1 : Int} {f2 : Int} (h : H4 w0 W g f0 f1 f2) (x : Int) : H4 w0 (W.setCell ⟨g, 2, none⟩ (.int .i64 x)) g f0 f1 x := by
  obtain ⟨A0, c0, hb, hg, hr0⟩ := h
  exact ⟨A0, c0, by simpa using jz hb 2 (.int .i64 x), hg, hr0⟩
theorem pi_ {p q : Prop} (h : Aside0 q) (f : Aside0 q → p := by intro h_; repeat (first | (with_reducible first | exact h_.out | apply H4.alloc | apply H4.drewN | apply H4.drew | apply H4.set_1 | apply H4.set_2 | refine H4.far ?_ (Aside0.out (by assumption)) _) | exact h_.out)) : p := f h
theorem pbI {p q : Prop} (h : Aside0 q) (f : Aside0 q → p := by intro h_; repeat (first | (with_reducible first | exact h_.out | apply ch | apply bC | apply ai | refine bQ ?_ (Aside0.out (by assumption)) | refine bQ ?_ (H4.ge (Aside0.out (by assumption)))) | exact h_.out)) : p := f h
section
variable {w0 w w1 w2 wa W : World} {g gb : Nat} {f0 : List Int} {f1 f2 : Int}
theorem bsI (h : Aside0 (Below w.heap.size w wa)) (hb : Below w1.heap.size w1 w2) (f : Below w.heap.size w w1 := by repeat (first | (with_reducible first | exact Aside0.out (by assumption) | apply ch | apply bC | apply ai | refine bQ ?_ (Aside0.out (by assumption)) | refine bQ ?_ (H4.ge (Aside0.out (by assumption)))) | exact Aside0.out (by assumption))) : Aside0 (Below w.heap.size w w2) := ⟨cQ f hb⟩
theorem nI (h : Aside0 (H4 w0 wa g f0 f1 f2)) (hg : gb = w1.heap.size) (f : H4 w0 w1 g f0 f1 f2 := by repeat (first | (with_reducible first | exact Aside0.out (by assumption) | apply H4.alloc | apply H4.drewN | apply H4.drew | apply H4.set_1 | apply H4.set_2 | refine H4.far ?_ (Aside0.out (by assumption)) _) | exact Aside0.out (by assumption))) : Aside0 (g ≠ gb) := ⟨by rw [hg]; exact Nat.ne_of_lt f.lt⟩
theorem mI (h : Aside0 (H4 w0 wa g f0 f1 f2)) (hg : gb = w1.heap.size) (f : H4 w0 w1 g f0 f1 f2 := by repeat (first | (with_reducible first | exact Aside0.out (by assumption) | apply H4.alloc | apply H4.drewN | apply H4.drew | apply H4.set_1 | apply H4.set_2 | refine H4.far ?_ (Aside0.out (by assumption)) _) | exact Aside0.out (by assumption))) : Aside0 (gb ≠ g) := ⟨by rw [hg]; exact Nat.ne_of_gt f.lt⟩
theorem bI (h : Aside0 (H4 w0 wa g f0 f1 f2)) (hb : Below w1.heap.size w1 w2) (f : H4 w0 w1 g f0 f1 f2 := by repeat (first | (with_reducible first | exact Aside0.out (by assumption) | apply H4.alloc | apply H4.drewN | apply H4.drew | apply H4.set_1 | apply H4.set_2 | refine H4.far ?_ (Aside0.out (by assumption)) _) | exact Aside0.out (by assumption))) : Aside0 (H4 w0 w2 g f0 f1 f2) := ⟨f.below hb⟩
end
section
variable {w0 w W W2 : World} {g : Nat} {f0 : List Int} {f1 : Int} {f2 : Int} {α : Type} {d : Kd α} {e base : Nat} {v : Value} {xs : List α}
theorem rk {Wa Wb : World} (h : Aside0 (H4 w0 Wa g f0 f1 f2)) (ho : Aside0 (d.R e Wb base (fun _ => True) v xs)) (hk : KeepBut W W2 g none) (h1 : H4 w0 W g f0 f1 f2 := by repeat (first | (with_reducible first | exact Aside0.out (by assumption) | apply H4.alloc | apply H4.drewN | apply H4.drew | apply H4.set_1 | apply H4.set_2 | refine H4.far ?_ (Aside0.out (by assumption)) _) | exact Aside0.out (by assumption))) (h2 : d.R e W base (fun _ => True) v xs := by (with_reducible repeat (first | apply Kd.F4 | apply Kd.E8 | apply Kd.u4)); exact Aside0.out (by assumption)) (ht : ∀ q, q ∈ e :: d.E → q ≠ 92 := by decide) : Aside0 (d.R e W2 base (fun _ => True) v xs) :=
  ⟨Kd.n7 (Kd.z7 (H4.apart h1 h2 ht) hk (fun _ h => h.2)) (fun _ h => h.1)⟩
end
def b6.l0 : Nat → List Int → Int → Int → Option (List Int × Int × Int)
 | 0, _, _, _ => none
 | k + 1, x0, x3, x4 => if x4 < (x0.length : Int) then (if x4 < 4000 then (if 0 ≤ x4 then (b6.l0 k x0 (Go.bits .and .i64 (wrap64 ((wrap64 ((wrap64 (x3 * 131)) + (wrap64 (rd x0 x4)))) + 7)) 1073741823) (wrap64 (x4 + 1))) else (none)) else (some (x0, 0, x3))) else (some (x0, 0, x3))
def b6.f (k : Nat) (l0 : List Int) : Option (List Int × Int × Int) := b6.l0 k l0 (wrap64 (26583 + (l0.length : Int))) 0
theorem b6.n0 (k : Nat) (A0 : Option Addr) (c0 : Nat) (l0 : List Int) (r1 : List Int) (r2 : Int) (r3 : Int) (w0 w : World) (hB : Below w0.heap.size w0 w) (hr0 : Kd.C (Kd.int .u8) w0 A0 l0.length l0) (hc0 : l0.length ≤ c0) (h : b6.f k l0 = some (r1, r2, r3)) :
  Calls Tryz.prog 45 #[.slice A0 l0.length c0] w fun e w' => ∃ g_ : Nat, e = .returned (.pointer (some ⟨g_, 0, none⟩)) ∧ H4 w0 w' g_ r1 r2 r3 ∧ Below w0.heap.size w0 w' ∧ Below w.heap.size w w' := by
 have hu92 := underlying92; have HR0 := aQ hr0; have HC0 := aQ hc0; clear hr0 hc0; have HBW := aQ (Below.refl w.heap.size w); have HW0 := aQ hB.size; have HB := aQ hB; clear hB; have H := h; clear h; unfold b6.f at H; (try dsimp only at H); have H' := aQ H; clear H; go_enter func45, ntmps45; go_wp2
 go_loopg [3, 4] k (fun kq v3 v4 w' => ∃ (x3_1 : Int) (x4_1 : Int), v3 = .int .i64 x3_1 ∧ v4 = .int .i64 x4_1 ∧ Aside0 (b6.l0 kq l0 x3_1 x4_1 = some (r1, r2, r3)) ∧ Aside0 (kq ≤ k) ∧ Aside0 (Below w0.heap.size w0 w') ∧ Aside0 (Below w.heap.size w w'))
 case atStart => exact ⟨(wrap64 (26583 + (l0.length : Int))), (0), rs_, rs_, H', ⟨Nat.le_refl _⟩, ⟨au HB⟩, ⟨pb HBW⟩⟩
 clear H'; obtain ⟨x3_1, x4_1, rfl, rfl, HA, HK1, HB, HBW⟩ := hrel; rcases gk with _ | k1
 ·exact absurd HA.out (by simp [b6.l0])
 have H := HA.out; clear HA; simp only [b6.l0] at H; replace H := ckD H; obtain ⟨c2b0, H⟩ | ⟨c2b0, H⟩ := H
 ·replace H := ckD H; obtain ⟨c3b0, H⟩ | ⟨c3b0, H⟩ := H
  ·replace H := gdD H; obtain ⟨c4b0, H⟩ := H; have H' := aQ H; clear H; have pq0 : 0 ≤ (x4_1 : Int) := of_decide_eq_true as_; have qq0 : x4_1 < (l0.length : Int) := of_decide_eq_true as_; obtain ⟨adq0, eq0, hxq0_0⟩ := Kd.o5 HR0.out x4_1 pq0 qq0; cases eq0; replace hxq0_0 := dC HB.out hxq0_0; replace pq0 := eq_true pq0; replace qq0 := eq_true qq0; go_wp2
   go_roundg k1
   case measure => exact omeg HK1
   case rel => exact ⟨(Go.bits .and .i64 (wrap64 ((wrap64 ((wrap64 (x3_1 * 131)) + (wrap64 (rd l0 x4_1)))) + 7)) 1073741823), (wrap64 (x4_1 + 1)), rs_, rs_, H', ⟨omeg HK1⟩, ⟨au HB⟩, ⟨pb HBW⟩⟩
  ·obtain ⟨rfl, rfl, rfl⟩ := o3 H; go_wp2_with (first | (refine bX 31 #[.slice A0 l0.length c0, .int .i64 0, .int .i64 x3_1] 92 ?_; intro gbq1 hg w5 BKq1 hb; replace HB := bs HB hb; have GWq1 := aQ ((by rw [hg]; exact (aa (pb HBW)) : w.heap.size ≤ gbq1)); have GEq1 := aQ ((Nat.le_trans HW0.out (by rw [hg]; exact (aa (pb HBW)) : w.heap.size ≤ gbq1) : w0.heap.size ≤ gbq1)); replace HBW := aQ (cQ HBW.out hb); clear hb hg))
   go_ret
   exact ⟨_, rfl, (show H4 w0 _ gbq1 l0 0 x3_1 from ⟨_, _, ah BKq1, GEq1.out, HR0.out⟩), bv HB GEq1, pb HBW⟩
 ·obtain ⟨rfl, rfl, rfl⟩ := o3 H; go_wp2_with (first | (refine bX 31 #[.slice A0 l0.length c0, .int .i64 0, .int .i64 x3_1] 92 ?_; intro gbq2 hg w6 BKq2 hb; replace HB := bs HB hb; have GWq2 := aQ ((by rw [hg]; exact (aa (pb HBW)) : w.heap.size ≤ gbq2)); have GEq2 := aQ ((Nat.le_trans HW0.out (by rw [hg]; exact (aa (pb HBW)) : w.heap.size ≤ gbq2) : w0.heap.size ≤ gbq2)); replace HBW := aQ (cQ HBW.out hb); clear hb hg))
  go_ret
  exact ⟨_, rfl, (show H4 w0 _ gbq2 l0 0 x3_1 from ⟨_, _, ah BKq2, GEq2.out, HR0.out⟩), bv HB GEq2, pb HBW⟩
end Go.Proofs.YtbdloopelidneaaGreat.A
namespace Go.Proofs.YtbdloopelidneaaGreat.A
open Go.RowKit Go.Proofs.YtbdloopelidneaaGreatW.PrintWords Go.Proofs.YtbdloopelidneaaGreatW.PrintLast Go.Proofs.YtbdloopelidneaaGreatW.PrintMore Go.Proofs.YtbdloopelidneaaGreat.Z Tryz
attribute [local go_sem] cy ct cP cN b7 b9 cu cv
set_option linter.unusedVariables false
set_option linter.unusedSimpArgs false
mutual
def ak.l0 : Nat → List Int → List Int → Int → Option (List Int)
 | 0, _, _, _ => none
 | k + 1, x0, x3, x4 => if x4 < (x0.length : Int) then (ak.l1 k x0 x3 x4 0) else (some x3)
def ak.l1 : Nat → List Int → List Int → Int → Int → Option (List Int)
 | 0, _, _, _, _ => none
 | k + 1, x0, x3, x4, x5 => if x5 < (x3.length : Int) then (if 0 ≤ x5 then (if 0 ≤ x4 then (if x4 < (x0.length : Int) then (if (rd x3 x5) < (rd x0 x4) then (ak.l1 k x0 x3 x4 (wrap64 (x5 + 1))) else (if (rd x3 x5) = (rd x0 x4) then (ak.l0 k x0 x3 (wrap64 (x4 + 1))) else ((some (([] : List Int) : List Int)).bind fun yq0 => (if x5 ≤ (x3.length : Int) then ((some (x3.drop (x5 : Int).toNat : List Int)).bind fun yq1 => (if yq0.length + yq1.length < 17592186044416 then ((some (yq0 ++ yq1 : List Int)).bind fun yq2 => ((some (x3.take (x5 : Int).toNat : List Int)).bind fun yq3 => (if yq3.length < 17592186044416 then ((some (yq3 ++ [rd x0 x4] : List Int)).bind fun yq4 => (if yq4.length + yq2.length < 17592186044416 then (ak.l0 k x0 (yq4 ++ yq2) (wrap64 (x4 + 1))) else (none))) else (none)))) else (none))) else (none))))) else (none)) else (none)) else (none)) else ((some (([] : List Int) : List Int)).bind fun yq5 => (if 0 ≤ x5 then (if x5 ≤ (x3.length : Int) then ((some (x3.drop (x5 : Int).toNat : List Int)).bind fun yq6 => (if yq5.length + yq6.length < 17592186044416 then ((some (yq5 ++ yq6 : List Int)).bind fun yq7 => ((some (x3.take (x5 : Int).toNat : List Int)).bind fun yq8 => (if 0 ≤ x4 then (if x4 < (x0.length : Int) then (if yq8.length < 17592186044416 then ((some (yq8 ++ [rd x0 x4] : List Int)).bind fun yq9 => (if yq9.length + yq7.length < 17592186044416 then (ak.l0 k x0 (yq9 ++ yq7) (wrap64 (x4 + 1))) else (none))) else (none)) else (none)) else (none)))) else (none))) else (none)) else (none)))
end
def ak.f (k : Nat) (l0 : List Int) : Option (List Int) := ak.l0 k l0 (([] : List Int)) 0
def ak.T6 : Bool × List (List Nat × List Nat) := (true, [([], []), ([], []), ([1], [1]), ([0, 2], [0, 2]), ([3], [3]), ([4], [4]), ([4], [4]), ([5, 6, 4], [4, 5, 6]), ([7, 4], [4, 7]), ([4], [4]), ([4], [4]), ([9, 10, 4], [4, 9, 10]), ([11, 4], [4, 11]), ([8, 12, 4], [4, 8, 12]), ([4, 13], [4, 13])])
def ak.B6 : List Nat := [0, 0, 2, 7, 15, 31, 31, 127, 255, 31, 31, 1567, 3615, 8191, 16383]
theorem ak.tab6 : rtab .any (dG Tryz.f60 6) = ak.T6 := by kernel_rfl
theorem ak.bits6 : cC ak.T6.2 ak.B6 = true := by kernel_rfl
def ak.T8 : Bool × List (List Nat × List Nat) := (true, [([], []), ([], []), ([1], [1]), ([0, 2], [0, 2]), ([3], [3]), ([4], [4]), ([4], [4]), ([5, 6, 4], [4, 5, 6]), ([7, 4], [4, 7]), ([4], [4]), ([4], [4]), ([9, 10, 4], [4, 9, 10]), ([11, 4], [4, 11]), ([8, 12, 4], [4, 8, 12]), ([4, 13], [4, 13])])
def ak.B8 : List Nat := [0, 0, 2, 7, 15, 31, 31, 127, 255, 31, 31, 1567, 3615, 8191, 16383]
theorem ak.tab8 : rtab .any (dG Tryz.f60 8) = ak.T8 := by kernel_rfl
theorem ak.bits8 : cC ak.T8.2 ak.B8 = true := by kernel_rfl
def ak.T10 : Bool × List (List Nat × List Nat) := (true, [([], []), ([], []), ([0, 1], [0, 1]), ([], []), ([], []), ([3, 4], [3, 4]), ([5], [5]), ([6], [6]), ([2, 7], [2, 7]), ([], []), ([8, 9, 8], [8, 9]), ([10, 10, 0, 1, 2, 3, 4, 5, 6, 7, 8, 9, 10], [0, 10])])
def ak.B10 : List Nat := [0, 0, 3, 0, 0, 24, 56, 120, 255, 0, 1023, 2047]
theorem ak.tab10 : rtab .any (dG Tryz.f60 10) = ak.T10 := by kernel_rfl
theorem ak.bits10 : cC ak.T10.2 ak.B10 = true := by kernel_rfl
theorem ak.n0 (k : Nat) (A0 : Option Addr) (c0 : Nat) (l0 : List Int) (r : List Int) (w : World) (hr0 : Kd.C (Kd.int .i64) w A0 l0.length l0) (hc0 : l0.length ≤ c0) (h : ak.f k l0 = some r) :
  Calls Tryz.prog 60 #[.slice A0 l0.length c0] w fun e w' => ∃ v0_ : Value, e = .returned (v0_) ∧ Kd.R (Kd.int .i64) 3 w' w.heap.size (fun _ => True) v0_ r ∧ Below w.heap.size w w' := by
 have HR0 := aQ hr0; have HC0 := aQ hc0; clear hr0 hc0; have HB := aQ (Below.refl w.heap.size w); have H : (ak.l0 k l0 (([] : List Int)) 0) = some r := h; clear h; generalize hyqa : ([] : List Int) = yqa at H
 have Nyqa := aQ hyqa.symm; clear hyqa; have H' := aQ H; clear H; go_enter func60, ntmps60; go_wp2_with (first | (refine lI (d := Kd.int .i64) 7 Nyqa ?_; intro vqb w2 ho3 hb; have HOqc := aQ (Kd.n8 ho3 (aa (au HB))); replace HB := bs HB hb; clear hb ho3))
 go_loopg [3, 4] k (fun kq v3 v4 w' => ∃ (x3_1 : List Int) (x4_1 : Int), v4 = .int .i64 x4_1 ∧ Aside0 (ak.l0 kq l0 x3_1 x4_1 = some r) ∧ Aside0 (kq ≤ k) ∧ Aside0 (Kd.R (Kd.int .i64) 3 w' w.heap.size (fun _ => True) v3 x3_1) ∧ Aside0 (Below w.heap.size w w'))
 case atStart => exact ⟨(yqa), (0), rs_, H', ⟨Nat.le_refl _⟩, ⟨ac HOqc⟩, ⟨au HB⟩⟩
 clear H'; obtain ⟨x3_1, x4_1, rfl, HA, HK1, HO_3, HB⟩ := hrel; rcases gk with _ | k1
 ·exact absurd HA.out (by simp [ak.l0])
 have H := HA.out; clear HA; simp only [ak.l0] at H; replace H := ckD H; obtain ⟨c4b0, H⟩ | ⟨c4b0, H⟩ := H
 ·have H' := aQ H; clear H; go_wp2
  go_loopg [5] k1 (fun kq v5 w' => ∃ (x5_2 : Int), v5 = .int .i64 x5_2 ∧ Aside0 (ak.l1 kq l0 x3_1 x4_1 x5_2 = some r) ∧ Aside0 (kq ≤ k1) ∧ Aside0 (Kd.R (Kd.int .i64) 3 w' w.heap.size (fun _ => True) u3 x3_1) ∧ Aside0 (Below w.heap.size w w'))
  case atStart => exact ⟨(0), rs_, H', ⟨Nat.le_refl _⟩, ⟨ac HO_3⟩, ⟨au HB⟩⟩
  clear H'; try clear c4
  try clear c4b0
  obtain ⟨x5_2, rfl, HA, HK2, HO_3, HB⟩ := hrel; rcases gk with _ | k2
  ·exact absurd HA.out (by simp [ak.l1])
  have H := HA.out; clear HA; simp only [ak.l1] at H; replace H := ckD H; obtain ⟨c5b0, H⟩ | ⟨c5b0, H⟩ := H
  ·replace H := gdD H; obtain ⟨c6b0, H⟩ := H; replace H := gdD H; obtain ⟨c7b0, H⟩ := H; replace H := gdD H; obtain ⟨c8b0, H⟩ := H; replace H := ckD H; obtain ⟨c9b0, H⟩ | ⟨c9b0, H⟩ := H
   ·have H' := aQ H; clear H; try go_wp2
    replace HO_3 := aQ (Kd.u4 HO_3.out); replace HB := aQ (ai HB.out); obtain ⟨Ao11, co11, eo11⟩ := Kd.n9 HO_3.out; (first | subst eo11 | (injection eo11 with f1_ f2_ f3_; have f4_ := f1_.symm; have f5_ := f3_.symm; clear f1_ f2_ f3_; subst f4_; subst f5_)); have pqd : 0 ≤ (x5_2 : Int) := of_decide_eq_true as_; have qqd : x5_2 < (x3_1.length : Int) := of_decide_eq_true as_; obtain ⟨adqd, eqd, hxqd_0⟩ := Kd.o5 (Kd.n4 HO_3.out).2.2 x5_2 pqd qqd; cases eqd; replace pqd := eq_true pqd; replace qqd := eq_true qqd; have pqe : 0 ≤ (x4_1 : Int) := of_decide_eq_true as_; have qqe : x4_1 < (l0.length : Int) := of_decide_eq_true as_; obtain ⟨adqe, eqe, hxqe_0⟩ := Kd.o5 HR0.out x4_1 pqe qqe; have hwqe_0 := hxqe_0; cases eqe; replace hxqe_0 := (HB.out.cell (World.block_lt_of_cell? w _ hxqe_0)).trans hxqe_0; replace pqe := eq_true pqe; replace qqe := eq_true qqe; refine cn (n := 15) (S := fun w' => w'.cell? (adqd.add (x5_2).toNat) = some (.int .i64 (rd x3_1 x5_2)) ∧ w'.cell? (adqe.add (x4_1).toNat) = some (.int .i64 (rd l0 x4_1))) (ds := []) _ (by kernel_rfl) rfl rfl ⟨hxqd_0, ((HB.out.cell (World.block_lt_of_cell? w _ hwqe_0)).trans hwqe_0)⟩ (fun hHeld => ?_); refine bG ak.tab6 ak.bits6 (fun HT_ HW_ => ?_); generalize wr.drew = w10 at HO_3 HB hxqd_0 hxqe_0 hHeld ⊢; refine pA 0 (some 14) HT_ ?_; refine pA 1 (some 15) HT_ ?_; refine pA 2 (some 16) HT_ ?_; refine pA 3 (some 17) HT_ ?_; refine pA 4 (some 18) HT_ ?_; refine pA 5 (some 19) HT_ ?_
    refine pA 6 (some 20) HT_ ?_; refine pA 7 (some 21) HT_ ?_; refine pA 9 (some 23) HT_ ?_; refine pA 10 (some 24) HT_ ?_; refine pA 11 (some 25) HT_ ?_; refine tA2 8 (some 22) HT_ HW_ hHeld ?_; refine tA2 12 (some 26) HT_ HW_ hHeld ?_; refine pA 13 (some 27) HT_ ?_; refine pA 14 (some 28) HT_ ?_; refine cV (cg HT_.out (by kernel_rfl)) ?_; try go_wp2
    go_roundg k2
    case measure => have := HK1.out; have := HK2.out; omega
    case rel => exact ⟨(wrap64 (x5_2 + 1)), rs_, H', ⟨by have := HK1.out; have := HK2.out; omega⟩, ⟨ac HO_3⟩, ⟨au HB⟩⟩
   ·replace H := ckE H; obtain ⟨c12b0, c12b1, H⟩ | ⟨c12, c12b0, c12b1, H⟩ := H
    ·have H' := aQ H; clear H; try go_wp2
     replace HO_3 := aQ (Kd.u4 HO_3.out); replace HB := aQ (ai HB.out); obtain ⟨Ao14, co14, eo14⟩ := Kd.n9 HO_3.out; (first | subst eo14 | (injection eo14 with f1_ f2_ f3_; have f4_ := f1_.symm; have f5_ := f3_.symm; clear f1_ f2_ f3_; subst f4_; subst f5_)); have pqd : 0 ≤ (x5_2 : Int) := of_decide_eq_true as_; have qqd : x5_2 < (x3_1.length : Int) := of_decide_eq_true as_; obtain ⟨adqd, eqd, hxqd_0⟩ := Kd.o5 (Kd.n4 HO_3.out).2.2 x5_2 pqd qqd; cases eqd; replace pqd := eq_true pqd; replace qqd := eq_true qqd; have pqe : 0 ≤ (x4_1 : Int) := of_decide_eq_true as_; have qqe : x4_1 < (l0.length : Int) := of_decide_eq_true as_; obtain ⟨adqe, eqe, hxqe_0⟩ := Kd.o5 HR0.out x4_1 pqe qqe; have hwqe_0 := hxqe_0; cases eqe; replace hxqe_0 := (HB.out.cell (World.block_lt_of_cell? w _ hxqe_0)).trans hxqe_0; replace pqe := eq_true pqe; replace qqe := eq_true qqe; refine cn (n := 15) (S := fun w' => w'.cell? (adqd.add (x5_2).toNat) = some (.int .i64 (rd x3_1 x5_2)) ∧ w'.cell? (adqe.add (x4_1).toNat) = some (.int .i64 (rd l0 x4_1))) (ds := []) _ (by kernel_rfl) rfl rfl ⟨hxqd_0, ((HB.out.cell (World.block_lt_of_cell? w _ hwqe_0)).trans hwqe_0)⟩ (fun hHeld => ?_); refine bG ak.tab6 ak.bits6 (fun HT_ HW_ => ?_); generalize wr.drew = w13 at HO_3 HB hxqd_0 hxqe_0 hHeld ⊢; refine pA 0 (some 14) HT_ ?_; refine pA 1 (some 15) HT_ ?_; refine pA 2 (some 16) HT_ ?_; refine pA 3 (some 17) HT_ ?_; refine pA 4 (some 18) HT_ ?_; refine pA 5 (some 19) HT_ ?_
     refine pA 6 (some 20) HT_ ?_; refine pA 7 (some 21) HT_ ?_; refine pA 9 (some 23) HT_ ?_; refine pA 10 (some 24) HT_ ?_; refine pA 11 (some 25) HT_ ?_; refine tA2 8 (some 22) HT_ HW_ hHeld ?_; refine tA2 12 (some 26) HT_ HW_ hHeld ?_; refine pA 13 (some 27) HT_ ?_; refine pA 14 (some 28) HT_ ?_; refine cV (cg HT_.out (by kernel_rfl)) ?_; try go_wp2
     replace HO_3 := aQ (Kd.u4 HO_3.out); replace HB := aQ (ai HB.out); obtain ⟨adqf, eqf, hxqf_0, pqf, qqf⟩ := aI (Kd.n4 HO_3.out).2.2 x5_2; obtain rfl : adqd = adqf := (by injection eqf); obtain ⟨adqg, eqg, hxqg_0, pqg, qqg⟩ := aI HR0.out x4_1; have hwqg_0 := hxqg_0; obtain rfl : adqe = adqg := (by injection eqg); replace hxqg_0 := (HB.out.cell (World.block_lt_of_cell? w _ hxqg_0)).trans hxqg_0; refine cn (n := 15) (S := fun w' => w'.cell? (adqd.add (x5_2).toNat) = some (.int .i64 (rd x3_1 x5_2)) ∧ w'.cell? (adqe.add (x4_1).toNat) = some (.int .i64 (rd l0 x4_1))) (ds := []) _ (by kernel_rfl) rfl rfl ⟨hxqf_0, ((HB.out.cell (World.block_lt_of_cell? w _ hwqg_0)).trans hwqg_0)⟩ (fun hHeld => ?_); refine bG ak.tab8 ak.bits8 (fun HT_ HW_ => ?_); generalize w13.drew = w15 at HO_3 HB hxqf_0 hxqg_0 hHeld ⊢; refine pA 0 (some 31) HT_ ?_; refine pA 1 (some 32) HT_ ?_; refine pA 2 (some 33) HT_ ?_; refine pA 3 (some 34) HT_ ?_; refine pA 4 (some 35) HT_ ?_; refine pA 5 (some 36) HT_ ?_; refine pA 6 (some 37) HT_ ?_; refine pA 7 (some 38) HT_ ?_; refine pA 9 (some 40) HT_ ?_; refine pA 10 (some 41) HT_ ?_; refine pA 11 (some 42) HT_ ?_; refine tA2 8 (some 39) HT_ HW_ hHeld ?_; refine tA2 12 (some 43) HT_ HW_ hHeld ?_; refine pA 13 (some 44) HT_ ?_; refine pA 14 (some 45) HT_ ?_; refine cV (cg HT_.out (by kernel_rfl)) ?_; try go_wp2
     go_roundg k2
     case measure => have := HK1.out; have := HK2.out; omega
     case rel => exact ⟨(x3_1), (wrap64 (x4_1 + 1)), rs_, H', ⟨by have := HK1.out; have := HK2.out; omega⟩, ⟨ac HO_3⟩, ⟨au HB⟩⟩
    ·replace H := yz H; obtain ⟨yq0, Nyq0, H⟩ := H; (try dsimp only at H)
     have c16b0 := eq_true (of_decide_eq_true as_ : 0 ≤ x5_2); replace H := gdB H; obtain ⟨c17b0, c17b1, H⟩ := H; replace H := yz H; obtain ⟨yq1, Nyq1, H⟩ := H; (try dsimp only at H)
     replace H := gdA H; obtain ⟨LMc18, H⟩ := H; replace H := yz H; obtain ⟨yq2, Nyq2, H⟩ := H; (try dsimp only at H)
     have c19b0 := eq_true (of_decide_eq_true as_ : x5_2 ≤ (x3_1.length : Int)); replace H := yz H; obtain ⟨yq3, Nyq3, H⟩ := H; (try dsimp only at H); replace H := gdA H; obtain ⟨LMc20, H⟩ := H; replace H := yz H; obtain ⟨yq4, Nyq4, H⟩ := H; (try dsimp only at H)
     replace H := gdA H; obtain ⟨LMc21, H⟩ := H; generalize hyqh : yq4 ++ yq2 = yqh at H
     have Nyqh := aQ hyqh.symm; clear hyqh; have H' := aQ H; clear H; try go_wp2
     replace HO_3 := aQ (Kd.u4 HO_3.out); replace HB := aQ (ai HB.out); obtain ⟨Ao23, co23, eo23⟩ := Kd.n9 HO_3.out; (first | subst eo23 | (injection eo23 with f1_ f2_ f3_; have f4_ := f1_.symm; have f5_ := f3_.symm; clear f1_ f2_ f3_; subst f4_; subst f5_)); have pqd : 0 ≤ (x5_2 : Int) := of_decide_eq_true as_; have qqd : x5_2 < (x3_1.length : Int) := of_decide_eq_true as_; obtain ⟨adqd, eqd, hxqd_0⟩ := Kd.o5 (Kd.n4 HO_3.out).2.2 x5_2 pqd qqd; cases eqd; replace pqd := eq_true pqd; replace qqd := eq_true qqd; have pqe : 0 ≤ (x4_1 : Int) := of_decide_eq_true as_; have qqe : x4_1 < (l0.length : Int) := of_decide_eq_true as_; obtain ⟨adqe, eqe, hxqe_0⟩ := Kd.o5 HR0.out x4_1 pqe qqe; have hwqe_0 := hxqe_0; cases eqe; replace hxqe_0 := (HB.out.cell (World.block_lt_of_cell? w _ hxqe_0)).trans hxqe_0; replace pqe := eq_true pqe; replace qqe := eq_true qqe; refine cn (n := 15) (S := fun w' => w'.cell? (adqd.add (x5_2).toNat) = some (.int .i64 (rd x3_1 x5_2)) ∧ w'.cell? (adqe.add (x4_1).toNat) = some (.int .i64 (rd l0 x4_1))) (ds := []) _ (by kernel_rfl) rfl rfl ⟨hxqd_0, ((HB.out.cell (World.block_lt_of_cell? w _ hwqe_0)).trans hwqe_0)⟩ (fun hHeld => ?_); refine bG ak.tab6 ak.bits6 (fun HT_ HW_ => ?_); generalize wr.drew = w22 at HO_3 HB hxqd_0 hxqe_0 hHeld ⊢; refine pA 0 (some 14) HT_ ?_; refine pA 1 (some 15) HT_ ?_; refine pA 2 (some 16) HT_ ?_; refine pA 3 (some 17) HT_ ?_; refine pA 4 (some 18) HT_ ?_; refine pA 5 (some 19) HT_ ?_
     refine pA 6 (some 20) HT_ ?_; refine pA 7 (some 21) HT_ ?_; refine pA 9 (some 23) HT_ ?_; refine pA 10 (some 24) HT_ ?_; refine pA 11 (some 25) HT_ ?_; refine tA2 8 (some 22) HT_ HW_ hHeld ?_; refine tA2 12 (some 26) HT_ HW_ hHeld ?_; refine pA 13 (some 27) HT_ ?_; refine pA 14 (some 28) HT_ ?_; refine cV (cg HT_.out (by kernel_rfl)) ?_; try go_wp2
     replace HO_3 := aQ (Kd.u4 HO_3.out); replace HB := aQ (ai HB.out); obtain ⟨adqf, eqf, hxqf_0, pqf, qqf⟩ := aI (Kd.n4 HO_3.out).2.2 x5_2; obtain rfl : adqd = adqf := (by injection eqf); obtain ⟨adqg, eqg, hxqg_0, pqg, qqg⟩ := aI HR0.out x4_1; have hwqg_0 := hxqg_0; obtain rfl : adqe = adqg := (by injection eqg); replace hxqg_0 := (HB.out.cell (World.block_lt_of_cell? w _ hxqg_0)).trans hxqg_0; refine cn (n := 15) (S := fun w' => w'.cell? (adqd.add (x5_2).toNat) = some (.int .i64 (rd x3_1 x5_2)) ∧ w'.cell? (adqe.add (x4_1).toNat) = some (.int .i64 (rd l0 x4_1))) (ds := []) _ (by kernel_rfl) rfl rfl ⟨hxqf_0, ((HB.out.cell (World.block_lt_of_cell? w _ hwqg_0)).trans hwqg_0)⟩ (fun hHeld => ?_); refine bG ak.tab8 ak.bits8 (fun HT_ HW_ => ?_); generalize w22.drew = w24 at HO_3 HB hxqf_0 hxqg_0 hHeld ⊢; refine pA 0 (some 31) HT_ ?_; refine pA 1 (some 32) HT_ ?_; refine pA 2 (some 33) HT_ ?_; refine pA 3 (some 34) HT_ ?_; refine pA 4 (some 35) HT_ ?_; refine pA 5 (some 36) HT_ ?_; refine pA 6 (some 37) HT_ ?_; refine pA 7 (some 38) HT_ ?_; refine pA 9 (some 40) HT_ ?_; refine pA 10 (some 41) HT_ ?_; refine pA 11 (some 42) HT_ ?_; refine tA2 8 (some 39) HT_ HW_ hHeld ?_; refine tA2 12 (some 43) HT_ HW_ hHeld ?_; refine pA 13 (some 44) HT_ ?_; refine pA 14 (some 45) HT_ ?_; refine cV (cg HT_.out (by kernel_rfl)) ?_; try go_wp2_with (first | (refine lI (d := Kd.int .i64) 46 Nyq0 ?_; intro vqi w25 ho26 hb; have HOqj := aQ (Kd.n8 (Kd.o9 ho26 (Kd.p8 (ac HO_3))) (aa (au HB))); replace HO_3 := aQ (Kd.o1 (ac HO_3) (Kd.o7 ho26) hb); replace HB := bs HB hb; clear hb ho26; have q27 : (x5_2 : Int) ≤ ((x3_1.length : Int) : Int) := of_decide_eq_true as_; obtain ⟨i027, hi027, _, hsz27, _⟩ := info_parts cp; have hroom27 : x3_1.length ≤ co23 := (Kd.n4 HO_3.out).2.1; have hC27 : Kd.C (Kd.int .i64) _ (some adqd) x3_1.length x3_1 := (Kd.n4 HO_3.out).2.2; have q027 : (0 : Int) ≤ (x5_2 : Int) := of_decide_eq_true as_; have hcut27 := fa (P := Tryz.prog) 24 3 .i64 underlying24 hi027 1 hsz27 (some adqd) x3_1.length co23 x5_2 q027 q27; have hr27 := Kd.C5 (m := (x5_2 : Int).toNat) (c := co23) hC27 (by omega) hroom27; obtain ⟨A27, hA27⟩ : ∃ A1, A1 = (if co23 = (x5_2 : Int).toNat then (some adqd) else ((some adqd) : Option Addr).map (·.add ((x5_2 : Int).toNat * 1))) := ⟨_, rfl⟩; obtain ⟨c27, hc27⟩ : ∃ c1, c1 = co23 - (x5_2 : Int).toNat := ⟨_, rfl⟩; have hy27 : yq1.length = x3_1.length - (x5_2 : Int).toNat := (by rw [Nyq1.out, List.length_drop] <;> omega); rw [show (x3_1).drop (x5_2 : Int).toNat = yq1 from Nyq1.out.symm] at hr27; replace hr27 : Kd.C (Kd.int .i64) _ A27 yq1.length yq1 := (by rw [hA27]; exact hr27); rw [← hy27, ← hA27, ← hc27] at hcut27; have HRqk := aQ hr27; have HCqk := aQ (show yq1.length ≤ c27 from by rw [hy27, hc27]; exact Nat.sub_le_sub_right hroom27 _); clear hr27 hC27 hroom27 hi027 hsz27 hc27; have KY27 := aQ hy27; have KA27 := aQ hA27; clear hy27 hA27; have KL27 := aQ (show (x5_2 : Int).toNat ≤ x3_1.length from by omega); replace q27 := eq_true q27) | ((with_reducible refine gate_builtin (b := .append) (xs := #[.tmp 46, .tmp 49]) rfl ?_); at_builtin; refine Kd.y8 (Kd.int .i64) (w0 := w) w.heap.size rfl (.tmp 46) (.tmp 49) 24 3 (.int .i64 0) 8 rfl underlying24 cp rfl (by decide) (by omega) vqi yq0 yq1 _ _ _ (fun k_ => some k_ ≠ (.slice (some adqd) x3_1.length co23 : Value).ownBlock) (fun _ => False) rfl rfl ?aO ?aR (fun _ _ h => h) (fun _ h => h.elim) ?aF ?aB ?aS ?aL ?_; (case aR => repeat (first | exact (by repeat (first | (with_reducible exact HRqk.out) | (with_reducible refine Kd.u9 ?_ _) | (with_reducible refine Kd.y6 ?_ _) | (with_reducible refine Kd.y7 ?_) | exact HRqk.out)) | (with_reducible refine Kd.u9 ?_ _) | (with_reducible refine Kd.y6 ?_ _) | (with_reducible refine Kd.y7 ?_))); (case aB => exact (au HB)); (case aF => exact (fun k_ hk => Kd.r9 (Kd.p8 (ac HO_3)) k_ hk)); (case aO => exact (by refine pRx ?_; exact Kd.n7 HOqj.out (fun _ hk => hk.2))); (case aS => exact (aa (au HB))); (case aL => have := LMc18.out; omega); intro vql w28 ho hb hg hat; rw [← Nyq2.out] at ho; replace HB := aQ (hb); replace HRqk := aQ ((show Kd.C (Kd.int .i64) w28 A27 yq1.length yq1 from by rw [Nyq1.out, KA27.out]; exact Kd.C5 (m := (x5_2 : Int).toNat) (c := co23) ((Kd.n4 (Kd.r8 (ok := (fun _ => True)) (ac HO_3) hg hat)).2.2) KL27.out ((Kd.n4 (Kd.r8 (ok := (fun _ => True)) (ac HO_3) hg hat)).2.1))); replace HO_3 := aQ (Kd.r8 (ok := (fun _ => True)) (ac HO_3) hg hat); have HOqm := aQ (ho); clear HOqj; clear ho hb hg hat))
     replace HO_3 := aQ (Kd.u4 HO_3.out); replace HOqm := aQ (Kd.u4 HOqm.out); replace HRqk := aQ (Kd.y7 HRqk.out); replace HB := aQ (ai HB.out); have q30 : (x5_2 : Int) ≤ ((x3_1.length : Int) : Int) := of_decide_eq_true as_; obtain ⟨i030, hi030, _, hsz30, _⟩ := info_parts cp; have hcut30 := gQ (P := Tryz.prog) 24 3 .i64 underlying24 hi030 (some adqd) x3_1.length co23 x5_2 (of_decide_eq_true as_) q30 (Kd.n4 HO_3.out).2.1; have hr30 := Kd.F0 (m := (x5_2 : Int).toNat) HO_3.out (by omega); have hy30 : yq3.length = (x5_2 : Int).toNat := (by rw [Nyq3.out, List.length_take]; omega); rw [← Nyq3.out] at hr30; rw [← hy30] at hr30 hcut30; clear hy30 hi030 hsz30 HO_3; have HOqn := aQ hr30; clear hr30; replace q30 := eq_true q30; obtain ⟨adqo, eqo, hxqo_0, pqo, qqo⟩ := aI HR0.out x4_1; have hwqo_0 := hxqo_0; obtain rfl : adqe = adqo := (by injection eqo); replace hxqo_0 := (HB.out.cell (World.block_lt_of_cell? w _ hxqo_0)).trans hxqo_0; refine cn (n := 12) (S := fun w' => w'.cell? (adqe.add (x4_1).toNat) = some (.int .i64 (rd l0 x4_1))) (ds := []) _ (by kernel_rfl) rfl rfl (((HB.out.cell (World.block_lt_of_cell? w _ hwqo_0)).trans hwqo_0)) (fun hHeld => ?_); refine bG ak.tab10 ak.bits10 (fun HT_ HW_ => ?_); generalize w28.drew = w29 at HO_3 HOqm HRqk HB HOqn hxqo_0 hHeld ⊢; refine pA 0 (some 51) HT_ ?_; refine pA 1 (some 52) HT_ ?_; refine pA 2 (some 53) HT_ ?_; refine pA 3 (some 54) HT_ ?_; refine pA 4 (some 55) HT_ ?_
     refine pA 5 (some 56) HT_ ?_; refine pA 9 (some 60) HT_ ?_; refine tA1 6 (some 57) HT_ HW_ hHeld ?_; refine onA (i := 7) (N := some 58) HT_ (h := fun K hK => ?_); refine gM (w1 := ?_) (v := ?_) (by rfl) rfl ?_ ?_
     rotate_left 2
     ·go_simp
      constructor
      ·rfl
      ·rfl
     refine hK.out _ _ ((World.cell?_alloc_lt _ _ _ (World.block_lt_of_cell? _ _ (((HB.out.cell (World.block_lt_of_cell? w _ hwqo_0)).trans hwqo_0)))).trans (((HB.out.cell (World.block_lt_of_cell? w _ hwqo_0)).trans hwqo_0))) (fun hHeld => ?_); clear hK K; refine noN (some 58) (h := ?_); refine onA (i := 8) (N := some 59) HT_ (h := fun K hK => ?_); refine Kd.z8 (Kd.int .i64) (w0 := w) w.heap.size (by rfl) (.tmp 53) (.tmp 58) 24 3 (.int .i64 0) 8 rfl underlying24 cp rfl (by decide) (by omega) (.slice (some adqd) yq3.length co23) yq3 (rd l0 x4_1) [.int .i64 (rd l0 x4_1)] (fun k_ => some k_ ≠ (vql : Value).ownBlock) (fun _ => False) rfl rfl ?aP (fun _ hk => hk.elim) ?aF ?aO ?aB ?aS ?aL ?_; (case aP => exact rfl); (case aB => exact (au HB)); (case aF => exact (fun k_ hk => Kd.r9 (Kd.p8 (ac HOqm)) k_ hk)); (case aO => exact (by refine pRx ?_; exact Kd.n7 HOqn.out (fun _ hk => hk.2))); (case aS => exact (aa (au HB))); (case aL => have := LMc20.out; omega); intro vqp w31 ho hb hg hat; rw [← Nyq4.out] at ho; replace HOqm := aQ (Kd.r8 (ok := (fun _ => True)) (by refine pRx ?_; exact Kd.n7 HOqm.out (fun _ hk => ⟨trivial, by first | exact hk | exact fun h_ => hk (h_.trans (ic _ _ _ _))⟩)) hg hat); replace HB := aQ (hb); have HOqq := aQ (ho); clear HOqn; clear ho hb hg hat; obtain ⟨Ao33, co33, eo33⟩ := Kd.n9 HOqm.out; (first | subst eo33 | (injection eo33 with f1_ f2_ f3_; have f4_ := f1_.symm; have f5_ := f3_.symm; clear f1_ f2_ f3_; subst f4_; subst f5_))
     refine hK.out _ _ (((HB.out.cell (World.block_lt_of_cell? w _ hwqo_0)).trans hwqo_0)) (fun hHeld => ?_); clear hK K; refine noN (some 59) (h := ?_); refine onA (i := 10) (N := some 61) HT_ (h := fun K hK => ?_); refine Kd.r6 (Kd.int .i64) (w0 := w) w.heap.size (by rfl) (.tmp 59) (.tmp 60) 24 3 (.int .i64 0) 8 rfl underlying24 cp rfl (by decide) (by omega) vqp yq4 yq2 _ _ _ (fun k_ => some k_ ≠ (.slice Ao33 yq2.length co33 : Value).ownBlock) (fun _ => False) rfl rfl ?aO ?aR (fun _ _ h => h) (fun _ h => h.elim) ?aF ?aB ?aS ?aL ?_; (case aR => exact pC ((Kd.n4 HOqm.out).2.2)); (case aB => exact (au HB)); (case aF => exact (fun k_ hk => Kd.r9 (Kd.p8 (ac HOqm)) k_ hk)); (case aO => exact (ac HOqq)); (case aS => exact (aa (au HB))); (case aL => have := LMc21.out; omega); intro vqr w32 ho hb hg hat; rw [← Nyqh.out] at ho; replace HOqm := aQ (Kd.r8 (ok := (fun _ => True)) (ac HOqm) hg hat); replace HB := aQ (hb); have HOqs := aQ (ho); clear HOqq; clear ho hb hg hat; refine hK.out _ _ (((HB.out.cell (World.block_lt_of_cell? w _ hwqo_0)).trans hwqo_0)) (fun hHeld => ?_); clear hK K; refine noN (some 61) (h := ?_); refine pA 11 (some 3) HT_ ?_; refine cV (cg HT_.out (by kernel_rfl)) ?_; try go_wp2
     go_roundg k2
     case measure => have := HK1.out; have := HK2.out; omega
     case rel => exact ⟨(yqh), (wrap64 (x4_1 + 1)), rs_, H', ⟨by have := HK1.out; have := HK2.out; omega⟩, ⟨by refine pRx ?_; exact Kd.n7 HOqs.out (fun _ hk => trivial)⟩, ⟨au HB⟩⟩
  ·replace H := yz H; obtain ⟨yq5, Nyq5, H⟩ := H; (try dsimp only at H)
   replace H := gdB H; obtain ⟨c34b0, c34b1, H⟩ := H; replace H := gdB H; obtain ⟨c35b0, c35b1, H⟩ := H; replace H := yz H; obtain ⟨yq6, Nyq6, H⟩ := H; (try dsimp only at H)
   replace H := gdA H; obtain ⟨LMc36, H⟩ := H; replace H := yz H; obtain ⟨yq7, Nyq7, H⟩ := H; (try dsimp only at H)
   have c37b0 := eq_true (of_decide_eq_true as_ : x5_2 ≤ (x3_1.length : Int)); replace H := yz H; obtain ⟨yq8, Nyq8, H⟩ := H; (try dsimp only at H); replace H := gdD H; obtain ⟨c38b0, H⟩ := H; replace H := gdD H; obtain ⟨c39b0, H⟩ := H; replace H := gdA H; obtain ⟨LMc40, H⟩ := H; replace H := yz H; obtain ⟨yq9, Nyq9, H⟩ := H; (try dsimp only at H)
   replace H := gdA H; obtain ⟨LMc41, H⟩ := H; generalize hyqt : yq9 ++ yq7 = yqt at H
   have Nyqt := aQ hyqt.symm; clear hyqt; have H' := aQ H; clear H; try go_wp2
   replace HO_3 := aQ (Kd.u4 HO_3.out); replace HB := aQ (ai HB.out); obtain ⟨Ao43, co43, eo43⟩ := Kd.n9 HO_3.out; (first | subst eo43 | (injection eo43 with f1_ f2_ f3_; have f4_ := f1_.symm; have f5_ := f3_.symm; clear f1_ f2_ f3_; subst f4_; subst f5_)); refine cn (n := 15) (S := fun w' => True) (ds := []) _ (by kernel_rfl) rfl rfl trivial (fun hHeld => ?_); refine bG ak.tab6 ak.bits6 (fun HT_ HW_ => ?_); generalize wr.drew = w42 at HO_3 HB hHeld ⊢; refine pA 0 (some 14) HT_ ?_; refine pA 1 (some 15) HT_ ?_; refine pA 2 (some 16) HT_ ?_; refine pA 3 (some 17) HT_ ?_; refine pA 4 (some 18) HT_ ?_; refine pU 5 (some 19) HT_ ?_; refine pU 6 (some 20) HT_ ?_; refine pU 7 (some 21) HT_ ?_; refine pU 8 (some 22) HT_ ?_; refine pU 9 (some 23) HT_ ?_; refine pU 10 (some 24) HT_ ?_; refine pU 11 (some 25) HT_ ?_; refine pU 12 (some 26) HT_ ?_; refine pU 13 (some 27) HT_ ?_; refine pA 14 (some 28) HT_ ?_; refine cV (cg HT_.out (by kernel_rfl)) ?_; try go_wp2
   replace HO_3 := aQ (Kd.u4 HO_3.out); replace HB := aQ (ai HB.out); refine cn (n := 15) (S := fun w' => True) (ds := []) _ (by kernel_rfl) rfl rfl trivial (fun hHeld => ?_); refine bG ak.tab8 ak.bits8 (fun HT_ HW_ => ?_); generalize w42.drew = w44 at HO_3 HB hHeld ⊢; refine pA 0 (some 31) HT_ ?_; refine pA 1 (some 32) HT_ ?_; refine pA 2 (some 33) HT_ ?_; refine pA 3 (some 34) HT_ ?_; refine pA 4 (some 35) HT_ ?_; refine pU 5 (some 36) HT_ ?_; refine pU 6 (some 37) HT_ ?_; refine pU 7 (some 38) HT_ ?_; refine pU 8 (some 39) HT_ ?_; refine pU 9 (some 40) HT_ ?_; refine pU 10 (some 41) HT_ ?_; refine pU 11 (some 42) HT_ ?_; refine pU 12 (some 43) HT_ ?_; refine pU 13 (some 44) HT_ ?_; refine pA 14 (some 45) HT_ ?_; refine cV (cg HT_.out (by kernel_rfl)) ?_; try go_wp2_with (first | (refine lI (d := Kd.int .i64) 46 Nyq5 ?_; intro vqu w45 ho46 hb; have HOqv := aQ (Kd.n8 (Kd.o9 ho46 (Kd.p8 (ac HO_3))) (aa (au HB))); replace HO_3 := aQ (Kd.o1 (ac HO_3) (Kd.o7 ho46) hb); replace HB := bs HB hb; clear hb ho46; have q47 : (x5_2 : Int) ≤ ((x3_1.length : Int) : Int) := of_decide_eq_true as_; obtain ⟨i047, hi047, _, hsz47, _⟩ := info_parts cp; have hroom47 : x3_1.length ≤ co43 := (Kd.n4 HO_3.out).2.1; have hC47 : Kd.C (Kd.int .i64) _ Ao43 x3_1.length x3_1 := (Kd.n4 HO_3.out).2.2; have q047 : (0 : Int) ≤ (x5_2 : Int) := of_decide_eq_true as_; have hcut47 := fa (P := Tryz.prog) 24 3 .i64 underlying24 hi047 1 hsz47 Ao43 x3_1.length co43 x5_2 q047 q47; have hr47 := Kd.C5 (m := (x5_2 : Int).toNat) (c := co43) hC47 (by omega) hroom47; obtain ⟨A47, hA47⟩ : ∃ A1, A1 = (if co43 = (x5_2 : Int).toNat then Ao43 else (Ao43 : Option Addr).map (·.add ((x5_2 : Int).toNat * 1))) := ⟨_, rfl⟩; obtain ⟨c47, hc47⟩ : ∃ c1, c1 = co43 - (x5_2 : Int).toNat := ⟨_, rfl⟩; have hy47 : yq6.length = x3_1.length - (x5_2 : Int).toNat := (by rw [Nyq6.out, List.length_drop] <;> omega); rw [show (x3_1).drop (x5_2 : Int).toNat = yq6 from Nyq6.out.symm] at hr47; replace hr47 : Kd.C (Kd.int .i64) _ A47 yq6.length yq6 := (by rw [hA47]; exact hr47); rw [← hy47, ← hA47, ← hc47] at hcut47; have HRqw := aQ hr47; have HCqw := aQ (show yq6.length ≤ c47 from by rw [hy47, hc47]; exact Nat.sub_le_sub_right hroom47 _); clear hr47 hC47 hroom47 hi047 hsz47 hc47; have KY47 := aQ hy47; have KA47 := aQ hA47; clear hy47 hA47; have KL47 := aQ (show (x5_2 : Int).toNat ≤ x3_1.length from by omega); replace q47 := eq_true q47) | ((with_reducible refine gate_builtin (b := .append) (xs := #[.tmp 46, .tmp 49]) rfl ?_); at_builtin; refine Kd.y8 (Kd.int .i64) (w0 := w) w.heap.size rfl (.tmp 46) (.tmp 49) 24 3 (.int .i64 0) 8 rfl underlying24 cp rfl (by decide) (by omega) vqu yq5 yq6 _ _ _ (fun k_ => some k_ ≠ (.slice Ao43 x3_1.length co43 : Value).ownBlock) (fun _ => False) rfl rfl ?aO ?aR (fun _ _ h => h) (fun _ h => h.elim) ?aF ?aB ?aS ?aL ?_; (case aR => repeat (first | exact (by repeat (first | (with_reducible exact HRqw.out) | (with_reducible refine Kd.u9 ?_ _) | (with_reducible refine Kd.y6 ?_ _) | (with_reducible refine Kd.y7 ?_) | exact HRqw.out)) | (with_reducible refine Kd.u9 ?_ _) | (with_reducible refine Kd.y6 ?_ _) | (with_reducible refine Kd.y7 ?_))); (case aB => exact (au HB)); (case aF => exact (fun k_ hk => Kd.r9 (Kd.p8 (ac HO_3)) k_ hk)); (case aO => exact (by refine pRx ?_; exact Kd.n7 HOqv.out (fun _ hk => hk.2))); (case aS => exact (aa (au HB))); (case aL => have := LMc36.out; omega); intro vqx w48 ho hb hg hat; rw [← Nyq7.out] at ho; replace HB := aQ (hb); replace HRqw := aQ ((show Kd.C (Kd.int .i64) w48 A47 yq6.length yq6 from by rw [Nyq6.out, KA47.out]; exact Kd.C5 (m := (x5_2 : Int).toNat) (c := co43) ((Kd.n4 (Kd.r8 (ok := (fun _ => True)) (ac HO_3) hg hat)).2.2) KL47.out ((Kd.n4 (Kd.r8 (ok := (fun _ => True)) (ac HO_3) hg hat)).2.1))); replace HO_3 := aQ (Kd.r8 (ok := (fun _ => True)) (ac HO_3) hg hat); have HOqy := aQ (ho); clear HOqv; clear ho hb hg hat))
   replace HO_3 := aQ (Kd.u4 HO_3.out); replace HOqy := aQ (Kd.u4 HOqy.out); replace HRqw := aQ (Kd.y7 HRqw.out); replace HB := aQ (ai HB.out); have q50 : (x5_2 : Int) ≤ ((x3_1.length : Int) : Int) := of_decide_eq_true as_; obtain ⟨i050, hi050, _, hsz50, _⟩ := info_parts cp; have hcut50 := gQ (P := Tryz.prog) 24 3 .i64 underlying24 hi050 Ao43 x3_1.length co43 x5_2 (of_decide_eq_true as_) q50 (Kd.n4 HO_3.out).2.1; have hr50 := Kd.F0 (m := (x5_2 : Int).toNat) HO_3.out (by omega); have hy50 : yq8.length = (x5_2 : Int).toNat := (by rw [Nyq8.out, List.length_take]; omega); rw [← Nyq8.out] at hr50; rw [← hy50] at hr50 hcut50; clear hy50 hi050 hsz50 HO_3; have HOqz := aQ hr50; clear hr50; replace q50 := eq_true q50; have pq10 : 0 ≤ (x4_1 : Int) := of_decide_eq_true as_; have qq10 : x4_1 < (l0.length : Int) := of_decide_eq_true as_; obtain ⟨adq10, eq10, hxq10_0⟩ := Kd.o5 HR0.out x4_1 pq10 qq10; have hwq10_0 := hxq10_0; cases eq10; replace hxq10_0 := (HB.out.cell (World.block_lt_of_cell? w _ hxq10_0)).trans hxq10_0; replace pq10 := eq_true pq10; replace qq10 := eq_true qq10; refine cn (n := 12) (S := fun w' => w'.cell? (adq10.add (x4_1).toNat) = some (.int .i64 (rd l0 x4_1))) (ds := []) _ (by kernel_rfl) rfl rfl (((HB.out.cell (World.block_lt_of_cell? w _ hwq10_0)).trans hwq10_0)) (fun hHeld => ?_); refine bG ak.tab10 ak.bits10 (fun HT_ HW_ => ?_); generalize w48.drew = w49 at HO_3 HOqy HRqw HB HOqz hxq10_0 hHeld ⊢
   refine pA 0 (some 51) HT_ ?_; refine pA 1 (some 52) HT_ ?_; refine pA 2 (some 53) HT_ ?_; refine pA 3 (some 54) HT_ ?_; refine pA 4 (some 55) HT_ ?_; refine pA 5 (some 56) HT_ ?_; refine pA 9 (some 60) HT_ ?_; refine tA1 6 (some 57) HT_ HW_ hHeld ?_; refine onA (i := 7) (N := some 58) HT_ (h := fun K hK => ?_); refine gM (w1 := ?_) (v := ?_) (by rfl) rfl ?_ ?_
   rotate_left 2
   ·go_simp
    constructor
    ·rfl
    ·rfl
   refine hK.out _ _ ((World.cell?_alloc_lt _ _ _ (World.block_lt_of_cell? _ _ (((HB.out.cell (World.block_lt_of_cell? w _ hwq10_0)).trans hwq10_0)))).trans (((HB.out.cell (World.block_lt_of_cell? w _ hwq10_0)).trans hwq10_0))) (fun hHeld => ?_); clear hK K; refine noN (some 58) (h := ?_); refine onA (i := 8) (N := some 59) HT_ (h := fun K hK => ?_); refine Kd.z8 (Kd.int .i64) (w0 := w) w.heap.size (by rfl) (.tmp 53) (.tmp 58) 24 3 (.int .i64 0) 8 rfl underlying24 cp rfl (by decide) (by omega) (.slice Ao43 yq8.length co43) yq8 (rd l0 x4_1) [.int .i64 (rd l0 x4_1)] (fun k_ => some k_ ≠ (vqx : Value).ownBlock) (fun _ => False) rfl rfl ?aP (fun _ hk => hk.elim) ?aF ?aO ?aB ?aS ?aL ?_; (case aP => exact rfl); (case aB => exact (au HB)); (case aF => exact (fun k_ hk => Kd.r9 (Kd.p8 (ac HOqy)) k_ hk)); (case aO => exact (by refine pRx ?_; exact Kd.n7 HOqz.out (fun _ hk => hk.2))); (case aS => exact (aa (au HB))); (case aL => have := LMc40.out; omega); intro vq11 w51 ho hb hg hat; rw [← Nyq9.out] at ho; replace HOqy := aQ (Kd.r8 (ok := (fun _ => True)) (by refine pRx ?_; exact Kd.n7 HOqy.out (fun _ hk => ⟨trivial, by first | exact hk | exact fun h_ => hk (h_.trans (ic _ _ _ _))⟩)) hg hat); replace HB := aQ (hb); have HOq12 := aQ (ho); clear HOqz; clear ho hb hg hat; obtain ⟨Ao53, co53, eo53⟩ := Kd.n9 HOqy.out; (first | subst eo53 | (injection eo53 with f1_ f2_ f3_; have f4_ := f1_.symm; have f5_ := f3_.symm; clear f1_ f2_ f3_; subst f4_; subst f5_))
   refine hK.out _ _ (((HB.out.cell (World.block_lt_of_cell? w _ hwq10_0)).trans hwq10_0)) (fun hHeld => ?_); clear hK K; refine noN (some 59) (h := ?_); refine onA (i := 10) (N := some 61) HT_ (h := fun K hK => ?_); refine Kd.r6 (Kd.int .i64) (w0 := w) w.heap.size (by rfl) (.tmp 59) (.tmp 60) 24 3 (.int .i64 0) 8 rfl underlying24 cp rfl (by decide) (by omega) vq11 yq9 yq7 _ _ _ (fun k_ => some k_ ≠ (.slice Ao53 yq7.length co53 : Value).ownBlock) (fun _ => False) rfl rfl ?aO ?aR (fun _ _ h => h) (fun _ h => h.elim) ?aF ?aB ?aS ?aL ?_; (case aR => exact pC ((Kd.n4 HOqy.out).2.2)); (case aB => exact (au HB)); (case aF => exact (fun k_ hk => Kd.r9 (Kd.p8 (ac HOqy)) k_ hk)); (case aO => exact (ac HOq12)); (case aS => exact (aa (au HB))); (case aL => have := LMc41.out; omega); intro vq13 w52 ho hb hg hat; rw [← Nyqt.out] at ho; replace HOqy := aQ (Kd.r8 (ok := (fun _ => True)) (ac HOqy) hg hat); replace HB := aQ (hb); have HOq14 := aQ (ho); clear HOq12; clear ho hb hg hat; refine hK.out _ _ (((HB.out.cell (World.block_lt_of_cell? w _ hwq10_0)).trans hwq10_0)) (fun hHeld => ?_); clear hK K; refine noN (some 61) (h := ?_); refine pA 11 (some 3) HT_ ?_; refine cV (cg HT_.out (by kernel_rfl)) ?_; try go_wp2
   go_roundg k2
   case measure => have := HK1.out; have := HK2.out; omega
   case rel => exact ⟨(yqt), (wrap64 (x4_1 + 1)), rs_, H', ⟨by have := HK1.out; have := HK2.out; omega⟩, ⟨by refine pRx ?_; exact Kd.n7 HOq14.out (fun _ hk => trivial)⟩, ⟨au HB⟩⟩
 ·obtain rfl := oj H; go_wp2
  go_ret
  exact ⟨_, re_, by refine pRx ?_; exact HO_3.out, au HB⟩
end Go.Proofs.YtbdloopelidneaaGreat.A
namespace Go.Proofs.YtbdloopelidneaaGreat.A
open Go.RowKit Go.Proofs.YtbdloopelidneaaGreatW.PrintWords Go.Proofs.YtbdloopelidneaaGreatW.PrintLast Go.Proofs.YtbdloopelidneaaGreatW.PrintMore Tryz
attribute [local go_sem] cy ct cP cN b7 b9 cu cv
set_option linter.unusedVariables false
set_option linter.unusedSimpArgs false
def dI.f (a0 : Int) (a1 : Int) : Option (Int) := if a0 > a1 then (some a0) else (some a1)
theorem dI.n0 (a0 : Int) (a1 : Int) (r : Int) (w : World) (h : dI.f a0 a1 = some r) :
  CD Tryz.prog 84 #[.int .i64 a0, .int .i64 a1] w (.int .i64 r) := by
 have H : (if a0 > a1 then (some a0) else (some a1)) = some r := h; clear h; replace H := ckD H; obtain ⟨c3b0, H⟩ | ⟨c3b0, H⟩ := H
 ·obtain rfl := oj H; go_enter func84, ntmps84; go_wp2
  go_ret
  exact ⟨rs_, rd_⟩
 ·obtain rfl := oj H; go_enter func84, ntmps84; go_wp2
  go_ret
  exact ⟨rs_, rd_⟩
end Go.Proofs.YtbdloopelidneaaGreat.A
