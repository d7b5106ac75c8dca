/- Machine side of the law FnCommon: Go functions as Lean functions, and proofs that calls come to what these tell. Conditions: those in each theorem. -/
import Derived.Test.YtimkekeaeojpkaaMFnCommon0
import Derived.Test.YtimkekeaeojpkaaMFnCommonq0
set_option maxHeartbeats 8000000
set_option maxRecDepth 100000
namespace Go.Proofs.Ytimkekeaeojpkaa.A
open Go.RowKit Go.Proofs.YtimkekeaeojpkaaW.PrintWords Go.Proofs.YtimkekeaeojpkaaW.PrintLast Go.Proofs.YtimkekeaeojpkaaW.PrintMore
attribute [local go_sem] ya8 yba ybm ybn yaY yaX ya6 ya9
set_option linter.unusedVariables false
set_option linter.unusedSimpArgs false
def laws_big.f (l0 : List Int) : Option (Bool) := some (decide ((l0.length : Int) > 1048576))
theorem laws_big.calls (A0 : Option Addr) (c0 : Nat) (l0 : List Int) (r : Bool) (w : World) (hr0 : Kd.C (Kd.int .u8) w A0 l0.length l0) (hc0 : l0.length ≤ c0) (h : laws_big.f l0 = some r) :
  Calls Try.prog 22 #[.slice A0 l0.length c0] w fun e w' => e = .returned (.bool r) ∧ Drawn0 w w' := by
 have HR0 := aQ hr0
 have HC0 := aQ hc0
 clear hr0 hc0
 have H : (some (decide ((l0.length : Int) > 1048576))) = some r := h
 clear h
 obtain rfl := Option.some.inj H
 go_enter Try.func22, Try.ntmps22
 go_wp2
 go_ret
 exact ⟨rs_, rd_⟩
end Go.Proofs.Ytimkekeaeojpkaa.A
namespace Go.Proofs.Ytimkekeaeojpkaa.A
open Go.RowKit Go.Proofs.YtimkekeaeojpkaaW.PrintWords Go.Proofs.YtimkekeaeojpkaaW.PrintLast Go.Proofs.YtimkekeaeojpkaaW.PrintMore
attribute [local go_sem] ya8 yba ybm ybn yaY yaX ya6 ya9
set_option linter.unusedVariables false
set_option linter.unusedSimpArgs false
def IsS106 (w0 W : World) (g : Nat) (f0 : List Int) (f1 : Int) (f2 : Int) : Prop := ∃ A0 c0, W.heap[g]? = some (.cells #[.slice A0 f0.length c0, .int .i64 f1, .int .i64 f2] 106 (0, 0)) ∧ w0.heap.size ≤ g ∧ Kd.C (Kd.int .u8) w0 A0 f0.length f0
theorem IsS106.grown {w0 W : World} {g : Nat} {f0 : List Int} {f1 : Int} {f2 : Int} {W1 : World} {row : Option Nat} (h : IsS106 w0 W g f0 f1 f2) (hw : W.grownBy W1 row) (hne : some g ≠ row) : IsS106 w0 W1 g f0 f1 f2 := by
  obtain ⟨A0, c0, hb, hg, hr0⟩ := h
  exact ⟨A0, c0, ybu hb hw hne, hg, hr0⟩
theorem IsS106.own_neN {w0 W : World} {g : Nat} {f0 : List Int} {f1 : Int} {f2 : Int} {α : Type} {d : Kd α} {e : Nat} {base : Nat} {ok : Nat → Prop} {v : Value} {xs : List α} (h : IsS106 w0 W g f0 f1 f2) (ho : Kd.N d e W base ok v xs) (ht : e ≠ 106) : some g ≠ v.ownBlock := by
  obtain ⟨A0, c0, hb, hg, hr0⟩ := h
  exact Kd.N_ne ho hb ht
theorem IsS106.fresh {w0 W : World} {g : Nat} {f0 : List Int} {f1 : Int} {f2 : Int} (h : IsS106 w0 W g f0 f1 f2) : ∀ k, W.heap.size ≤ k → k ≠ g := by
  obtain ⟨A0, c0, hb, hg, hr0⟩ := h
  exact Kd.freshB hb
theorem IsS106.kept {w0 W : World} {g : Nat} {f0 : List Int} {f1 : Int} {f2 : Int} {W1 : World} {S : Nat → Prop} (h : IsS106 w0 W g f0 f1 f2) (hk : Kept W W1 S) (hne : ¬ S g) : IsS106 w0 W1 g f0 f1 f2 := by
  obtain ⟨A0, c0, hb, hg, hr0⟩ := h
  exact ⟨A0, c0, yem hb hk hne, hg, hr0⟩
theorem IsS106.below {w0 W : World} {g : Nat} {f0 : List Int} {f1 : Int} {f2 : Int} {W1 : World} (h : IsS106 w0 W g f0 f1 f2) (hw : Below W.heap.size W W1) : IsS106 w0 W1 g f0 f1 f2 := h.grown (ycO hw none) (by simp)
theorem IsS106.alloc {w0 W : World} {g : Nat} {f0 : List Int} {f1 : Int} {f2 : Int} (h : IsS106 w0 W g f0 f1 f2) (o : Obj) : IsS106 w0 (W.alloc o) g f0 f1 f2 := h.below (yaI (Below.refl _ _) o)
theorem IsS106.drewN {w0 W : World} {g : Nat} {f0 : List Int} {f1 : Int} {f2 : Int} (h : IsS106 w0 W g f0 f1 f2) (m : Nat) : IsS106 w0 (W.drewN m) g f0 f1 f2 := h
theorem IsS106.drew {w0 W : World} {g : Nat} {f0 : List Int} {f1 : Int} {f2 : Int} (h : IsS106 w0 W g f0 f1 f2) : IsS106 w0 W.drew g f0 f1 f2 := h
theorem IsS106.at_ {w0 W : World} {g : Nat} {f0 : List Int} {f1 : Int} {f2 : Int} {w' : World} {m : Nat} (hq : W.drewN m = w') (h : IsS106 w0 W g f0 f1 f2) : IsS106 w0 w' g f0 f1 f2 := by subst hq; exact IsS106.drewN h m
theorem IsS106.apart {w0 W : World} {g : Nat} {f0 : List Int} {f1 : Int} {f2 : Int} {α : Type} {d : Kd α} {e : Nat} {base : Nat} {ok : Nat → Prop} {v : Value} {xs : List α} (h : IsS106 w0 W g f0 f1 f2) (ho : d.R e W base ok v xs) (ht : ∀ q, q ∈ e :: d.E → q ≠ 106) : d.R e W base (fun k => ok k ∧ k ≠ g) v xs := by
  obtain ⟨A0, c0, hb, hg, hr0⟩ := h
  exact Kd.R_types ho hb ht
theorem IsS106.own_ne {w0 W : World} {g : Nat} {f0 : List Int} {f1 : Int} {f2 : Int} {α : Type} {d : Kd α} {e : Nat} {base : Nat} {ok : Nat → Prop} {v : Value} {xs : List α} (h : IsS106 w0 W g f0 f1 f2) (ho : d.R e W base ok v xs) (ht : e ≠ 106) : some g ≠ v.ownBlock := by
  obtain ⟨A0, c0, hb, hg, hr0⟩ := h
  exact Kd.R_ne ho hb ht
theorem IsS106.apartQ {w0 W : World} {g : Nat} {f0 : List Int} {f1 : Int} {f2 : Int} {α : Type} {d : Kd α} {e : Nat} {base : Nat} {ok : Nat → Prop} {v : Value} {xs : List α} (h : IsS106 w0 W g f0 f1 f2) (ho : d.Q e W base ok v xs) (ht : ∀ q, q ∈ e :: d.E → q ≠ 106) : d.Q e W base (fun k => ok k ∧ k ≠ g) v xs := by
  obtain ⟨A0, c0, hb, hg, hr0⟩ := h
  exact Kd.Q_types ho hb ht
theorem IsS106.own_neQ {w0 W : World} {g : Nat} {f0 : List Int} {f1 : Int} {f2 : Int} {α : Type} {d : Kd α} {e : Nat} {base : Nat} {ok : Nat → Prop} {v : Value} {xs : List α} (h : IsS106 w0 W g f0 f1 f2) (ho : d.Q e W base ok v xs) (ht : e ≠ 106) : some g ≠ v.ownBlock := by
  obtain ⟨A0, c0, hb, hg, hr0⟩ := h
  exact Kd.Q_ne ho hb ht
theorem IsS106.apartS {w0 W : World} {g : Nat} {f0 : List Int} {f1 : Int} {f2 : Int} {α : Type} {d : Kd α} {e : Nat} {base : Nat} {ok : Nat → Prop} {v : Value} {xs : List α} (h : IsS106 w0 W g f0 f1 f2) (ho : d.S e W base ok v xs) (ht : ∀ q, q ∈ e :: d.E → q ≠ 106) : d.S e W base (fun k => ok k ∧ k ≠ g) v xs := by
  obtain ⟨A0, c0, hb, hg, hr0⟩ := h
  exact Kd.S_types ho hb ht
theorem IsS106.own_neS {w0 W : World} {g : Nat} {f0 : List Int} {f1 : Int} {f2 : Int} {α : Type} {d : Kd α} {e : Nat} {base : Nat} {ok : Nat → Prop} {v : Value} {xs : List α} (h : IsS106 w0 W g f0 f1 f2) (ho : d.S e W base ok v xs) (ht : e ≠ 106) : some g ≠ v.ownBlock := by
  obtain ⟨A0, c0, hb, hg, hr0⟩ := h
  exact Kd.S_ne ho hb ht
theorem IsS106.lt {w0 W : World} {g : Nat} {f0 : List Int} {f1 : Int} {f2 : Int} (h : IsS106 w0 W g f0 f1 f2) : g < W.heap.size := by
  obtain ⟨A0, c0, hb, hg, hr0⟩ := h
  exact ybE hb
theorem IsS106.ge {w0 W : World} {g : Nat} {f0 : List Int} {f1 : Int} {f2 : Int} (h : IsS106 w0 W g f0 f1 f2) : w0.heap.size ≤ g := by
  obtain ⟨A0, c0, hb, hg, hr0⟩ := h
  exact hg
theorem IsS106.ne_blk {w0 W : World} {g : Nat} {f0 : List Int} {f1 : Int} {f2 : Int} {a : Nat} {cs : Array Value} {t : TypeId} {fr : Nat × Nat} (h : IsS106 w0 W g f0 f1 f2) (hb2 : W.heap[a]? = some (.cells cs t fr)) (ht : t ≠ 106) : g ≠ a := by
  obtain ⟨A0, c0, hb, hg, hr0⟩ := h
  rintro rfl
  rw [hb] at hb2
  injection hb2 with hb2
  injection hb2 with _ ht2
  exact ht ht2.symm
theorem IsS106.far {w0 W : World} {g : Nat} {f0 : List Int} {f1 : Int} {f2 : Int} {p : Addr} (h : IsS106 w0 W g f0 f1 f2) (hne : g ≠ p.block) (u : Value) : IsS106 w0 (W.setCell p u) g f0 f1 f2 := by
  obtain ⟨A0, c0, hb, hg, hr0⟩ := h
  exact ⟨A0, c0, yj hb hne u, hg, hr0⟩
theorem yew {W : World} {g : Nat} {A0 : Option Addr} {c0 : Nat} {f0 : List Int} {f1 : Int} {f2 : Int} (h : W.heap[g]? = some (.cells #[.slice A0 f0.length c0, .int .i64 f1, .int .i64 f2] 106 (0, 0))) : W.cell? ⟨g, 0, none⟩ = some (.slice A0 f0.length c0) := (ya h 0).trans rfl
theorem yeo {W : World} {g : Nat} {A0 : Option Addr} {c0 : Nat} {f0 : List Int} {f1 : Int} {f2 : Int} (h : W.heap[g]? = some (.cells #[.slice A0 f0.length c0, .int .i64 f1, .int .i64 f2] 106 (0, 0))) : W.cell? ⟨g, 1, none⟩ = some (.int .i64 f1) := (ya h 1).trans rfl
theorem IsS106.set_1 {w0 W : World} {g : Nat} {f0 : List Int} {f1 : Int} {f2 : Int} (h : IsS106 w0 W g f0 f1 f2) (x : Int) : IsS106 w0 (W.setCell ⟨g, 1, none⟩ (.int .i64 x)) g f0 x f2 := by
  obtain ⟨A0, c0, hb, hg, hr0⟩ := h
  exact ⟨A0, c0, by simpa using yd3 hb 1 (.int .i64 x), hg, hr0⟩
theorem yeE {W : World} {g : Nat} {A0 : Option Addr} {c0 : Nat} {f0 : List Int} {f1 : Int} {f2 : Int} (h : W.heap[g]? = some (.cells #[.slice A0 f0.length c0, .int .i64 f1, .int .i64 f2] 106 (0, 0))) : W.cell? ⟨g, 2, none⟩ = some (.int .i64 f2) := (ya h 2).trans rfl
theorem IsS106.set_2 {w0 W : World} {g : Nat} {f0 : List Int} {f1 : Int} {f2 : Int} (h : IsS106 w0 W g f0 f1 f2) (x : Int) : IsS106 w0 (W.setCell ⟨g, 2, none⟩ (.int .i64 x)) g f0 f1 x := by
  obtain ⟨A0, c0, hb, hg, hr0⟩ := h
  exact ⟨A0, c0, by simpa using yd3 hb 2 (.int .i64 x), hg, hr0⟩
theorem IsS106.new (w0 W : World) (A0 : Option Addr) (c0 : Nat) (f0 : List Int) (f1 : Int) (f2 : Int) (hB : Below w0.heap.size w0 W) (hr0 : Kd.C (Kd.int .u8) w0 A0 f0.length f0) : IsS106 w0 (W.alloc (.cells #[.slice A0 f0.length c0, .int .i64 f1, .int .i64 f2] 106)) W.heap.size f0 f1 f2 := ⟨A0, c0, by simpa using heap_alloc_new W _, hB.size, hr0⟩
theorem pi_ {p q : Prop} (h : Aside0 q) (f : Aside0 q → p := by intro h_; repeat (first | (with_reducible first | exact h_.out | apply IsS106.alloc | apply IsS106.drewN | apply IsS106.drew | apply IsS106.set_1 | apply IsS106.set_2 | refine IsS106.far ?_ (Aside0.out (by assumption)) _) | exact h_.out)) : p := f h
theorem pbI {p q : Prop} (h : Aside0 q) (f : Aside0 q → p := by intro h_; repeat (first | (with_reducible first | exact h_.out | apply yaI | apply yaO | apply yK | refine ybb ?_ (Aside0.out (by assumption)) | refine ybb ?_ (IsS106.ge (Aside0.out (by assumption)))) | exact h_.out)) : p := f h
section
variable {w0 w w1 w2 wa W : World} {g gb : Nat} {f0 : List Int} {f1 f2 : Int}
theorem bsI (h : Aside0 (Below w.heap.size w wa)) (hb : Below w1.heap.size w1 w2) (f : Below w.heap.size w w1 := by repeat (first | (with_reducible first | exact Aside0.out (by assumption) | apply yaI | apply yaO | apply yK | refine ybb ?_ (Aside0.out (by assumption)) | refine ybb ?_ (IsS106.ge (Aside0.out (by assumption)))) | exact Aside0.out (by assumption))) : Aside0 (Below w.heap.size w w2) := ⟨ybY f hb⟩
theorem nI (h : Aside0 (IsS106 w0 wa g f0 f1 f2)) (hg : gb = w1.heap.size) (f : IsS106 w0 w1 g f0 f1 f2 := by repeat (first | (with_reducible first | exact Aside0.out (by assumption) | apply IsS106.alloc | apply IsS106.drewN | apply IsS106.drew | apply IsS106.set_1 | apply IsS106.set_2 | refine IsS106.far ?_ (Aside0.out (by assumption)) _) | exact Aside0.out (by assumption))) : Aside0 (g ≠ gb) := ⟨by rw [hg]; exact Nat.ne_of_lt f.lt⟩
theorem mI (h : Aside0 (IsS106 w0 wa g f0 f1 f2)) (hg : gb = w1.heap.size) (f : IsS106 w0 w1 g f0 f1 f2 := by repeat (first | (with_reducible first | exact Aside0.out (by assumption) | apply IsS106.alloc | apply IsS106.drewN | apply IsS106.drew | apply IsS106.set_1 | apply IsS106.set_2 | refine IsS106.far ?_ (Aside0.out (by assumption)) _) | exact Aside0.out (by assumption))) : Aside0 (gb ≠ g) := ⟨by rw [hg]; exact Nat.ne_of_gt f.lt⟩
theorem bI (h : Aside0 (IsS106 w0 wa g f0 f1 f2)) (hb : Below w1.heap.size w1 w2) (f : IsS106 w0 w1 g f0 f1 f2 := by repeat (first | (with_reducible first | exact Aside0.out (by assumption) | apply IsS106.alloc | apply IsS106.drewN | apply IsS106.drew | apply IsS106.set_1 | apply IsS106.set_2 | refine IsS106.far ?_ (Aside0.out (by assumption)) _) | exact Aside0.out (by assumption))) : Aside0 (IsS106 w0 w2 g f0 f1 f2) := ⟨f.below hb⟩
end
def yaQ.l0 : Nat → List Int → Int → Int → Option (List Int × Int × Int)
 | 0, _, _, _ => none
 | k + 1, x0, x3, x4 => if x4 < (x0.length : Int) then (if x4 < 4000 then (if 0 ≤ x4 then (yaQ.l0 k x0 (Go.bits .and .i64 (wrap64 ((wrap64 ((wrap64 (x3 * 131)) + (wrap64 (rd x0 x4)))) + 7)) 1073741823) (wrap64 (x4 + 1))) else (none)) else (some (x0, 0, x3))) else (some (x0, 0, x3))
def yaQ.f (k : Nat) (l0 : List Int) : Option (List Int × Int × Int) := yaQ.l0 k l0 (wrap64 (26583 + (l0.length : Int))) 0
theorem yaQ.calls (k : Nat) (A0 : Option Addr) (c0 : Nat) (l0 : List Int) (r1 : List Int) (r2 : Int) (r3 : Int) (w0 w : World) (hB : Below w0.heap.size w0 w) (hr0 : Kd.C (Kd.int .u8) w0 A0 l0.length l0) (hc0 : l0.length ≤ c0) (h : yaQ.f k l0 = some (r1, r2, r3)) :
  Calls Try.prog 77 #[.slice A0 l0.length c0] w fun e w' => ∃ g_ : Nat, e = .returned (.pointer (some ⟨g_, 0, none⟩)) ∧ IsS106 w0 w' g_ r1 r2 r3 ∧ Below w0.heap.size w0 w' ∧ Below w.heap.size w w' := by
 have hu106 := Try.underlying106
 have HR0 := aQ hr0
 have HC0 := aQ hc0
 clear hr0 hc0
 have HBW := aQ (Below.refl w.heap.size w)
 have HW0 := aQ hB.size
 have HB := aQ hB
 clear hB
 have H := h
 clear h
 unfold yaQ.f at H
 (try dsimp only at H)
 have H' := aQ H
 clear H
 go_enter Try.func77, Try.ntmps77
 go_wp2
 go_loopg [3, 4] k (fun kq v3 v4 w' => ∃ (x3_1 : Int) (x4_1 : Int), v3 = .int .i64 x3_1 ∧ v4 = .int .i64 x4_1 ∧ Aside0 (yaQ.l0 kq l0 x3_1 x4_1 = some (r1, r2, r3)) ∧ Aside0 (kq ≤ k) ∧ Aside0 (Below w0.heap.size w0 w') ∧ Aside0 (Below w.heap.size w w'))
 case atStart => exact ⟨(wrap64 (26583 + (l0.length : Int))), (0), rs_, rs_, H', ⟨Nat.le_refl _⟩, ⟨pB HB.out⟩, ⟨pb HBW⟩⟩
 clear H'
 obtain ⟨x3_1, x4_1, rfl, rfl, HA, HK1, HB, HBW⟩ := hrel
 rcases gk with _ | k1
 ·exact absurd HA.out (by simp [yaQ.l0])
 have H := HA.out
 clear HA
 simp only [yaQ.l0] at H
 by_cases c2 : x4_1 < (l0.length : Int)
 ·rw [if_pos c2] at H
  have c2b0 := decide_eq_true c2
  clear c2
  by_cases c3 : x4_1 < 4000
  ·rw [if_pos c3] at H
   have c3b0 := decide_eq_true c3
   clear c3
   replace H := gd H; obtain ⟨c4, H⟩ := H
   have c4b0 := decide_eq_true c4
   clear c4
   have H' := aQ H
   clear H
   have pq0 : 0 ≤ (x4_1 : Int) := of_decide_eq_true as_
   have qq0 : x4_1 < (l0.length : Int) := of_decide_eq_true as_
   obtain ⟨adq0, eq0, hxq0_0⟩ := Kd.at_int HR0.out x4_1 pq0 qq0
   cases eq0
   replace hxq0_0 := ybL HB.out hxq0_0
   replace pq0 := eq_true pq0
   replace qq0 := eq_true qq0
   go_wp2
   go_roundg k1
   case measure => have := HK1.out; omega
   case rel => exact ⟨(Go.bits .and .i64 (wrap64 ((wrap64 ((wrap64 (x3_1 * 131)) + (wrap64 (rd l0 x4_1)))) + 7)) 1073741823), (wrap64 (x4_1 + 1)), rs_, rs_, H', ⟨by have := HK1.out; omega⟩, ⟨pB HB.out⟩, ⟨pb HBW⟩⟩
  ·rw [if_neg c3] at H
   have c3b0 := decide_eq_false c3
   clear c3
   simp only [Option.some.injEq, Prod.mk.injEq] at H
   obtain ⟨rfl, rfl, rfl⟩ := H
   go_wp2_with (first | ((with_reducible refine yb (N := 31) rfl ?_); refine bx 31 #[.slice A0 l0.length c0, .int .i64 0, .int .i64 x3_1] 106 ?_; intro gbq1 hg w5 hbox hb; replace HB := bs HB hb; have BKq1 := aQ (hbox); have GWq1 := aQ ((by rw [hg]; exact (yc (pb HBW)) : w.heap.size ≤ gbq1)); have GEq1 := aQ ((Nat.le_trans HW0.out (by rw [hg]; exact (yc (pb HBW)) : w.heap.size ≤ gbq1) : w0.heap.size ≤ gbq1)); replace HBW := aQ (ybY HBW.out hb); clear hb hbox hg))
   go_ret
   exact ⟨_, rfl, (show IsS106 w0 _ gbq1 l0 0 x3_1 from ⟨_, _, pk BKq1.out, GEq1.out, HR0.out⟩), pB1 HB.out GEq1.out, pb HBW⟩
 ·rw [if_neg c2] at H
  have c2b0 := decide_eq_false c2
  clear c2
  simp only [Option.some.injEq, Prod.mk.injEq] at H
  obtain ⟨rfl, rfl, rfl⟩ := H
  go_wp2_with (first | ((with_reducible refine yb (N := 31) rfl ?_); refine bx 31 #[.slice A0 l0.length c0, .int .i64 0, .int .i64 x3_1] 106 ?_; intro gbq2 hg w6 hbox hb; replace HB := bs HB hb; have BKq2 := aQ (hbox); have GWq2 := aQ ((by rw [hg]; exact (yc (pb HBW)) : w.heap.size ≤ gbq2)); have GEq2 := aQ ((Nat.le_trans HW0.out (by rw [hg]; exact (yc (pb HBW)) : w.heap.size ≤ gbq2) : w0.heap.size ≤ gbq2)); replace HBW := aQ (ybY HBW.out hb); clear hb hbox hg))
  go_ret
  exact ⟨_, rfl, (show IsS106 w0 _ gbq2 l0 0 x3_1 from ⟨_, _, pk BKq2.out, GEq2.out, HR0.out⟩), pB1 HB.out GEq2.out, pb HBW⟩
end Go.Proofs.Ytimkekeaeojpkaa.A
namespace Go.Proofs.Ytimkekeaeojpkaa.A
open Go.RowKit Go.Proofs.YtimkekeaeojpkaaW.PrintWords Go.Proofs.YtimkekeaeojpkaaW.PrintLast Go.Proofs.YtimkekeaeojpkaaW.PrintMore
attribute [local go_sem] ya8 yba ybm ybn yaY yaX ya6 ya9
set_option linter.unusedVariables false
set_option linter.unusedSimpArgs false
def yaT.f (s0_0 : List Int) (s0_1 : Int) (s0_2 : Int) : Option (Int × Int × Int) := if s0_1 < (s0_0.length : Int) then (if 0 ≤ s0_1 then (some (Go.bits .and .i64 (wrap64 ((Go.bits .and .i64 (Go.bits .xor .i64 ((wrap64 ((wrap64 (s0_2 * 6364136223846793005)) + 1442695040888963407)) / 8589934592) ((wrap64 ((wrap64 (s0_2 * 6364136223846793005)) + 1442695040888963407)) / 35184372088832)) 255) + (wrap64 (rd s0_0 s0_1)))) 255, wrap64 (s0_1 + 1), wrap64 ((wrap64 (s0_2 * 6364136223846793005)) + 1442695040888963407))) else (none)) else (some (Go.bits .and .i64 (Go.bits .xor .i64 ((wrap64 ((wrap64 (s0_2 * 6364136223846793005)) + 1442695040888963407)) / 8589934592) ((wrap64 ((wrap64 (s0_2 * 6364136223846793005)) + 1442695040888963407)) / 35184372088832)) 255, s0_1, wrap64 ((wrap64 (s0_2 * 6364136223846793005)) + 1442695040888963407)))
theorem yaT.calls (g : Nat) (s0_0 : List Int) (s0_1 : Int) (s0_2 : Int) (r1 : Int) (r2 : Int) (r3 : Int) (w0 w : World) (hI : IsS106 w0 w g s0_0 s0_1 s0_2) (hB : Below w0.heap.size w0 w) (h : yaT.f s0_0 s0_1 s0_2 = some (r1, r2, r3)) :
  Calls Try.prog 139 #[.pointer (some ⟨g, 0, none⟩)] w fun e w' => e = .returned (.int .i64 r1) ∧ IsS106 w0 w' g s0_0 r2 r3 ∧ Below w0.heap.size w0 w' ∧ KeepBut w w' g none := by
 have HI0 := aQ hI
 have HK := aQ (KeepBut.refl w g none)
 have HL := aQ hB.size
 clear hI
 have HW0 := aQ hB.size
 have HB := aQ hB
 clear hB
 have H := h
 clear h
 unfold yaT.f at H
 (try dsimp only at H)
 by_cases c2 : s0_1 < (s0_0.length : Int)
 ·rw [if_pos c2] at H
  have c2b0 := decide_eq_true c2
  clear c2
  replace H := gd H; obtain ⟨c3, H⟩ := H
  have c3b0 := decide_eq_true c3
  clear c3
  simp only [Option.some.injEq, Prod.mk.injEq] at H
  obtain ⟨rfl, rfl, rfl⟩ := H
  obtain ⟨ASz4_0, cSz4_0, HGz4, hgz4, HSz4_0⟩ := HI0.out
  have hcz4_0 := yew HGz4
  have hcz4_1 := yeo HGz4
  have hcz4_2 := yeE HGz4
  have hfz4_1 := yl HGz4 1
  have hfz4_2 := yl HGz4 2
  clear HGz4 hgz4
  have pq0 : 0 ≤ (s0_1 : Int) := of_decide_eq_true as_
  have qq0 : s0_1 < (s0_0.length : Int) := of_decide_eq_true as_
  obtain ⟨adq0, eq0, hxq0_0⟩ := Kd.at_int HSz4_0 s0_1 pq0 qq0
  cases eq0
  have hnq0_0 : adq0.block ≠ g := Nat.ne_of_lt (Nat.lt_of_lt_of_le (by have := World.block_lt_of_cell? _ _ hxq0_0; first | rwa [ycx] at this | exact this) (IsS106.ge HI0.out))
  replace hxq0_0 := ybL HB.out hxq0_0
  replace hxq0_0 := (ym (p := ⟨g, 2, none⟩) (by first | (rw [ycx]; exact hnq0_0) | (show (Addr.add _ _).block ≠ _; rw [ycx]; exact hnq0_0) | exact hnq0_0) (.int .i64 (wrap64 ((wrap64 (s0_2 * 6364136223846793005)) + 1442695040888963407)))).trans hxq0_0
  (try have hyq0_0 := fun (n_ : Nat) => (show (((w.drewN n_).setCell ⟨g, 2, none⟩ (.int .i64 (wrap64 ((wrap64 (s0_2 * 6364136223846793005)) + 1442695040888963407))))).cell? _ = some _ from hxq0_0))
  clear hnq0_0
  replace pq0 := eq_true pq0
  replace qq0 := eq_true qq0
  go_enter Try.func139, Try.ntmps139
  go_wp2
  repeat (go_quiet (fail); try go_wp2)
  go_ret
  exact ⟨re_, pi_ HI0, pbI HB, pq HK⟩
 ·rw [if_neg c2] at H
  have c2b0 := decide_eq_false c2
  clear c2
  simp only [Option.some.injEq, Prod.mk.injEq] at H
  obtain ⟨rfl, rfl, rfl⟩ := H
  obtain ⟨ASz5_0, cSz5_0, HGz5, hgz5, HSz5_0⟩ := HI0.out
  have hcz5_0 := yew HGz5
  have hcz5_1 := yeo HGz5
  have hcz5_2 := yeE HGz5
  have hfz5_1 := yl HGz5 1
  have hfz5_2 := yl HGz5 2
  clear HGz5 hgz5
  go_enter Try.func139, Try.ntmps139
  go_wp2
  repeat (go_quiet (fail); try go_wp2)
  go_ret
  exact ⟨re_, pi_ HI0, pbI HB, pq HK⟩
def yk.f (s0_0 : List Int) (s0_1 : Int) (s0_2 : Int) (a1 : Int) : Option (Int × Int × Int) := if a1 ≤ 0 then (some (0, s0_1, s0_2)) else (if a1 ≤ 256 then ((yaT.f s0_0 s0_1 s0_2).bind fun btq0 => (if a1 = 0 then (none) else (some (Int.tmod btq0.1 a1, btq0.2.1, btq0.2.2)))) else ((yaT.f s0_0 s0_1 s0_2).bind fun btq1 => ((yaT.f s0_0 btq1.2.1 btq1.2.2).bind fun btq2 => ((yaT.f s0_0 btq2.2.1 btq2.2.2).bind fun btq3 => ((yaT.f s0_0 btq3.2.1 btq3.2.2).bind fun btq4 => (if a1 = 0 then (none) else (some (Int.tmod (wrap64 ((wrap64 ((wrap64 ((wrap64 (btq1.1 * 16777216)) + (wrap64 (btq2.1 * 65536)))) + (wrap64 (btq3.1 * 256)))) + btq4.1)) a1, btq4.2.1, btq4.2.2))))))))
theorem yk.calls (g : Nat) (s0_0 : List Int) (s0_1 : Int) (s0_2 : Int) (a1 : Int) (r1 : Int) (r2 : Int) (r3 : Int) (w0 w : World) (hI : IsS106 w0 w g s0_0 s0_1 s0_2) (hB : Below w0.heap.size w0 w) (h : yk.f s0_0 s0_1 s0_2 a1 = some (r1, r2, r3)) :
  Calls Try.prog 91 #[.pointer (some ⟨g, 0, none⟩), .int .i64 a1] w fun e w' => e = .returned (.int .i64 r1) ∧ IsS106 w0 w' g s0_0 r2 r3 ∧ Below w0.heap.size w0 w' ∧ KeepBut w w' g none := by
 have HI0 := aQ hI
 have HK := aQ (KeepBut.refl w g none)
 have HL := aQ hB.size
 clear hI
 have HW0 := aQ hB.size
 have HB := aQ hB
 clear hB
 have H := h
 clear h
 unfold yk.f at H
 (try dsimp only at H)
 by_cases c3 : a1 ≤ 0
 ·rw [if_pos c3] at H
  have c3b0 := decide_eq_true c3
  clear c3
  simp only [Option.some.injEq, Prod.mk.injEq] at H
  obtain ⟨rfl, rfl, rfl⟩ := H
  go_enter Try.func91, Try.ntmps91
  go_wp2
  go_ret
  exact ⟨re_, pi_ HI0, pbI HB, pq HK⟩
 ·rw [if_neg c3] at H
  have c3b0 := decide_eq_false c3
  clear c3
  by_cases c4 : a1 ≤ 256
  ·rw [if_pos c4] at H
   have c4b0 := decide_eq_true c4
   clear c4
   replace H := bo H; obtain ⟨⟨tq0, tq5, tq6⟩, A5, H⟩ := H
   (try dsimp only at H)
   by_cases c6 : a1 = 0
   ·rw [if_pos c6] at H
    exact absurd H (by simp)
   ·rw [if_neg c6] at H
    have c6b0 : (a1 == 0) = false := beq_eq_false_iff_ne.mpr c6
    have c6b1 : (a1 != 0) = true := bne_iff_ne.mpr c6
    simp only [Option.some.injEq, Prod.mk.injEq] at H
    obtain ⟨rfl, rfl, rfl⟩ := H
    go_enter Try.func91, Try.ntmps91
    go_wp2_with (first | (refine gq 139 (some 14) Try.func139 #[.pointer (some ⟨g, 0, none⟩)] ?_; (with_reducible refine (yaT.calls g s0_0 s0_1 s0_2 tq0 tq5 tq6 w0 _ ?side1 ?side2 A5.out).mono ?_); (case side1 => exact pi_ HI0); (case side2 => exact pbI HB); rintro e w7 ⟨rfl, hi, hb, hk⟩; refine ⟨_, rfl, ?_⟩; replace HK := kh HK hk; replace HB := aQ (hb); replace HI0 := aQ (hi); (try clear hb); (try clear hk); (try clear hi)))
    go_ret
    exact ⟨re_, pi_ HI0, pbI HB, pq HK⟩
  ·rw [if_neg c4] at H
   have c4b0 := decide_eq_false c4
   clear c4
   replace H := bo H; obtain ⟨⟨tq1, tq7, tq8⟩, A8, H⟩ := H
   (try dsimp only at H)
   replace H := bo H; obtain ⟨⟨tq2, tq9, tqa⟩, A9, H⟩ := H
   (try dsimp only at H)
   replace H := bo H; obtain ⟨⟨tq3, tqb, tqc⟩, A10, H⟩ := H
   (try dsimp only at H)
   replace H := bo H; obtain ⟨⟨tq4, tqd, tqe⟩, A11, H⟩ := H
   (try dsimp only at H)
   by_cases c12 : a1 = 0
   ·rw [if_pos c12] at H
    exact absurd H (by simp)
   ·rw [if_neg c12] at H
    have c12b0 : (a1 == 0) = false := beq_eq_false_iff_ne.mpr c12
    have c12b1 : (a1 != 0) = true := bne_iff_ne.mpr c12
    simp only [Option.some.injEq, Prod.mk.injEq] at H
    obtain ⟨rfl, rfl, rfl⟩ := H
    go_enter Try.func91, Try.ntmps91
    go_wp2_with (first | (refine gq 139 (some 18) Try.func139 #[.pointer (some ⟨g, 0, none⟩)] ?_; (with_reducible refine (yaT.calls g s0_0 s0_1 s0_2 tq1 tq7 tq8 w0 _ ?side1 ?side2 A8.out).mono ?_); (case side1 => exact pi_ HI0); (case side2 => exact pbI HB); rintro e w13 ⟨rfl, hi, hb, hk⟩; refine ⟨_, rfl, ?_⟩; replace HK := kh HK hk; replace HB := aQ (hb); replace HI0 := aQ (hi); (try clear hb); (try clear hk); (try clear hi)) | (refine gq 139 (some 20) Try.func139 #[.pointer (some ⟨g, 0, none⟩)] ?_; (with_reducible refine (yaT.calls g s0_0 tq7 tq8 tq2 tq9 tqa w0 _ ?side1 ?side2 A9.out).mono ?_); (case side1 => exact pi_ HI0); (case side2 => exact pbI HB); rintro e w14 ⟨rfl, hi, hb, hk⟩; refine ⟨_, rfl, ?_⟩; replace HK := kh HK hk; replace HB := aQ (hb); replace HI0 := aQ (hi); (try clear hb); (try clear hk); (try clear hi)) | (refine gq 139 (some 22) Try.func139 #[.pointer (some ⟨g, 0, none⟩)] ?_; (with_reducible refine (yaT.calls g s0_0 tq9 tqa tq3 tqb tqc w0 _ ?side1 ?side2 A10.out).mono ?_); (case side1 => exact pi_ HI0); (case side2 => exact pbI HB); rintro e w15 ⟨rfl, hi, hb, hk⟩; refine ⟨_, rfl, ?_⟩; replace HK := kh HK hk; replace HB := aQ (hb); replace HI0 := aQ (hi); (try clear hb); (try clear hk); (try clear hi)) | (refine gq 139 (some 24) Try.func139 #[.pointer (some ⟨g, 0, none⟩)] ?_; (with_reducible refine (yaT.calls g s0_0 tqb tqc tq4 tqd tqe w0 _ ?side1 ?side2 A11.out).mono ?_); (case side1 => exact pi_ HI0); (case side2 => exact pbI HB); rintro e w16 ⟨rfl, hi, hb, hk⟩; refine ⟨_, rfl, ?_⟩; replace HK := kh HK hk; replace HB := aQ (hb); replace HI0 := aQ (hi); (try clear hb); (try clear hk); (try clear hi)))
    go_ret
    exact ⟨re_, pi_ HI0, pbI HB, pq HK⟩
def yaq.l0 : Nat → Int → List Int → Int → Int → List Int → Int → Int → Option (List Int × Int × Int)
 | 0, _, _, _, _, _, _, _ => none
 | k + 1, x1, x5, x6, x7, xq0, xq1, xq2 => if x7 < x6 then (if 0 ≤ (IntKind.u64.wrap (x1)) then ((yk.f xq0 xq1 xq2 (shl .i64 1 (IntKind.u64.wrap (x1)))).bind fun btq3 => (if x5.length < 17592186044416 then (yaq.l0 k x1 (x5 ++ [btq3.1]) x6 (wrap64 (x7 + 1)) xq0 btq3.2.1 btq3.2.2) else (none))) else (none)) else (some (x5, xq1, xq2))
def yaq.f (k : Nat) (s0_0 : List Int) (s0_1 : Int) (s0_2 : Int) (a1 : Int) : Option (List Int × Int × Int) := (yk.f s0_0 s0_1 s0_2 5).bind fun btq4 => (yaq.l0 k a1 (([] : List Int)) btq4.1 0 s0_0 btq4.2.1 btq4.2.2)
theorem yaq.calls (k : Nat) (g : Nat) (s0_0 : List Int) (s0_1 : Int) (s0_2 : Int) (a1 : Int) (r1 : List Int) (r2 : Int) (r3 : Int) (w0 w : World) (hI : IsS106 w0 w g s0_0 s0_1 s0_2) (hB : Below w0.heap.size w0 w) (h : yaq.f k s0_0 s0_1 s0_2 a1 = some (r1, r2, r3)) :
  Calls Try.prog 133 #[.pointer (some ⟨g, 0, none⟩), .int .i64 a1] w fun e w' => ∃ v0_ : Value, e = .returned (v0_) ∧ Kd.R (Kd.int .i64) 3 w' w.heap.size (fun _ => True) v0_ r1 ∧ IsS106 w0 w' g s0_0 r2 r3 ∧ Below w0.heap.size w0 w' ∧ KeepBut w w' g none := by
 have HI0 := aQ hI
 have HK := aQ (KeepBut.refl w g none)
 have HL := aQ hB.size
 clear hI
 have HW0 := aQ hB.size
 have HB := aQ hB
 clear hB
 have H := h
 clear h
 unfold yaq.f at H
 (try dsimp only at H)
 obtain ⟨yq5, hyq5⟩ : ∃ y_ : List Int, y_ = (([] : List Int)) := ⟨_, rfl⟩
 replace H : ((yk.f s0_0 s0_1 s0_2 5).bind fun btq4 => (yaq.l0 k a1 yq5 btq4.1 0 s0_0 btq4.2.1 btq4.2.2)) = some (r1, r2, r3) := by first | (rw [hyq5]; with_reducible exact H) | (rw [hyq5]; exact H)
 have Nyq5 := aQ hyq5
 clear hyq5
 replace H := bo H; obtain ⟨⟨tq4, tq6, tq7⟩, A3, H⟩ := H
 (try dsimp only at H)
 have H' := aQ H
 clear H
 go_enter Try.func133, Try.ntmps133
 go_wp2_with (first | ((with_reducible refine yb (N := 8) rfl ?_); refine Kd.R_lit (Kd.int .i64) _ 3 ?hg (N := 8) ?hd (xs := ([] : List Int)) (inner := []) (ok := fun _ => True) (okp := fun _ => True) ?hr ?hp (fun _ hk => hk) trivial (Below.refl _ _) (Nat.le_refl _) (by simp) ?_; (case hd => rfl); (case hg => rfl); (case hr => first | (go_simp; done) | (go_simp; rfl)); (case hp => exact (Reps.none _ _)); intro vq8 w4 ho5 hb hg_ hnew_; clear hg_ hnew_; (first | rw [← Nyq5.out] at ho5 | (simp only [Int.reduceToNat] at ho5; rw [← Nyq5.out] at ho5)); have HOq9 := aQ (Kd.R_lower ho5 (yR (w := w) (g := g) (row := none) (pq HK))); replace HK := kt HK hb; replace HB := bsI HB hb; replace HI0 := bI HI0 hb; clear hb ho5) | (refine gq 91 (some 10) Try.func91 #[.pointer (some ⟨g, 0, none⟩), .int .i64 5] ?_; (with_reducible refine (yk.calls g s0_0 s0_1 s0_2 5 tq4 tq6 tq7 w0 _ ?side1 ?side2 A3.out).mono ?_); (case side1 => exact pi_ HI0); (case side2 => exact pbI HB); rintro e w6 ⟨rfl, hi, hb, hk⟩; refine ⟨_, rfl, ?_⟩; replace HOq9 := aQ (Kd.R_mono (Kd.R_keep (IsS106.apart (show IsS106 w0 _ g s0_0 s0_1 s0_2 from pi_ HI0) (pR HOq9.out) (by decide)) hk (fun _ h => h.2)) (fun _ h => h.1)); replace HK := kh HK hk; replace HB := aQ (hb); replace HI0 := aQ (hi); (try clear hb); (try clear hk); (try clear hi)))
 go_loopg [5, 7] k (fun kq v5 v7 w' => ∃ (x5_1 : List Int) (x7_1 : Int) (xq1_1 : Int) (xq2_1 : Int), v7 = .int .i64 x7_1 ∧ Aside0 (yaq.l0 kq a1 x5_1 tq4 x7_1 s0_0 xq1_1 xq2_1 = some (r1, r2, r3)) ∧ Aside0 (kq ≤ k) ∧ Aside0 (Kd.R (Kd.int .i64) 3 w' w.heap.size (fun _ => True) v5 x5_1) ∧ Aside0 (IsS106 w0 w' g s0_0 xq1_1 xq2_1) ∧ Aside0 (KeepBut w w' g none) ∧ Aside0 (Below w0.heap.size w0 w'))
 case atStart => exact ⟨(yq5), (0), (tq6), (tq7), rs_, H', ⟨Nat.le_refl _⟩, ⟨pR HOq9.out⟩, ⟨pi_ HI0⟩, ⟨pq HK⟩, ⟨pbI HB⟩⟩
 clear H'
 try clear c1
 try clear p2
 obtain ⟨x5_1, x7_1, xq1_1, xq2_1, rfl, HA, HK1, HO_5, HI0, HK, HB⟩ := hrel
 rcases gk with _ | k1
 ·exact absurd HA.out (by simp [yaq.l0])
 have H := HA.out
 clear HA
 simp only [yaq.l0] at H
 by_cases c7 : x7_1 < tq4
 ·rw [if_pos c7] at H
  have c7b0 := decide_eq_true c7
  clear c7
  obtain ⟨ji8, hji8⟩ : ∃ j_ : Int, (IntKind.u64.wrap (a1)) = j_ := ⟨_, rfl⟩
  replace H : (if 0 ≤ (ji8) then ((yk.f s0_0 xq1_1 xq2_1 (shl .i64 1 (ji8))).bind fun btq3 => (if x5_1.length < 17592186044416 then (yaq.l0 k1 a1 (x5_1 ++ [btq3.1]) tq4 (wrap64 (x7_1 + 1)) s0_0 btq3.2.1 btq3.2.2) else (none))) else (none)) = some (r1, r2, r3) := by first | (rw [hji8] at H; exact H) | (simp only [hji8] at H ⊢; exact H)
  replace H := gd H; obtain ⟨c9, H⟩ := H
  have c9b0 := eq_true c9
  have c9b1 := decide_eq_true c9
  clear c9
  obtain ⟨ji10, hji10⟩ : ∃ j_ : Int, (shl .i64 1 (ji8)) = j_ := ⟨_, rfl⟩
  replace H : ((yk.f s0_0 xq1_1 xq2_1 (ji10)).bind fun btq3 => (if x5_1.length < 17592186044416 then (yaq.l0 k1 a1 (x5_1 ++ [btq3.1]) tq4 (wrap64 (x7_1 + 1)) s0_0 btq3.2.1 btq3.2.2) else (none))) = some (r1, r2, r3) := by first | (rw [hji10] at H; exact H) | (simp only [hji10] at H ⊢; exact H)
  have hji10_ : (IntKind.i64.wrap (1 * 2 ^ min (ji8).toNat 64)) = ji10 := hji10
  have hji10z : (ji8) ≤ 64 → (IntKind.i64.wrap (1 * 2 ^ (ji8).toNat)) = ji10 := ybA hji10
  have hji10u : (IntKind.i64.wrap (2 ^ min (ji8).toNat 64)) = ji10 := by have h_ := hji10_; rw [Int.one_mul] at h_; exact h_
  have hji10v : (ji8) ≤ 64 → (IntKind.i64.wrap (2 ^ (ji8).toNat)) = ji10 := fun hle_ => by have h_ := hji10z hle_; rw [Int.one_mul] at h_; exact h_
  have hji10y : (wrap64 (1 * 2 ^ min (ji8).toNat 64)) = ji10 := (i64_w _).symm.trans hji10_
  have hji10x : (ji8) ≤ 64 → (wrap64 (1 * 2 ^ (ji8).toNat)) = ji10 := fun h_ => (i64_w _).symm.trans (hji10z h_)
  replace H := bo H; obtain ⟨⟨tq3, tqa, tqb⟩, A11, H⟩ := H
  (try dsimp only at H)
  replace H := gd H; obtain ⟨c12, H⟩ := H
  have LMc12 := aQ c12
  clear c12
  obtain ⟨yqc, hyqc⟩ : ∃ y_ : List Int, y_ = (x5_1 ++ [tq3]) := ⟨_, rfl⟩
  replace H : (yaq.l0 k1 a1 yqc tq4 (wrap64 (x7_1 + 1)) s0_0 tqa tqb) = some (r1, r2, r3) := by first | (rw [hyqc]; with_reducible exact H) | (rw [hyqc]; exact H)
  have Nyqc := aQ hyqc
  clear hyqc
  have H' := aQ H
  clear H
  go_wp2_with (first | ((with_reducible refine yaJ (f := 91) rfl ?_); refine yfm (some 21) rfl rfl Try.func91 (by kernel_rfl) rfl #[.pointer (some ⟨g, 0, none⟩), .int .i64 ji10] rfl (by (try simp only [List.map_toArray, List.map_cons, List.map_nil]); first | done | (simp only [hji10]; rfl) | rfl | (simp only [List.length_drop, List.length_take]; rfl)) ?_; (with_reducible refine (yk.calls g s0_0 xq1_1 xq2_1 ji10 tq3 tqa tqb w0 _ ?side1 ?side2 A11.out).mono ?_); (case side1 => exact pi_ HI0); (case side2 => exact pbI HB); rintro e w13 ⟨rfl, hi, hb, hk⟩; refine ⟨_, rfl, ?_⟩; replace HO_5 := aQ (Kd.R_mono (Kd.R_keep (IsS106.apart (show IsS106 w0 _ g s0_0 xq1_1 xq2_1 from pi_ HI0) (pR HO_5.out) (by decide)) hk (fun _ h => h.2)) (fun _ h => h.1)); replace HK := kh HK hk; replace HB := aQ (hb); replace HI0 := aQ (hi); (try clear hb); (try clear hk); (try clear hi)) | ((with_reducible refine yO (b := .append) (xs := #[.tmp 16, .tmp 22]) rfl ?_); at_builtin; refine Kd.R_append (Kd.int .i64) w.heap.size rfl (.tmp 16) (.tmp 22) 22 3 (.int .i64 0) 8 rfl Try.underlying22 yaU rfl (by decide) (by omega) u5 x5_1 tq3 [.int .i64 tq3] (fun _ => True) (fun _ => False) rfl rfl ?aP (fun _ hk => hk.elim) ?aF ?aO (Below.refl _ _) ?aS ?aL ?_; (case aP => exact rfl); (case aF => exact (fun _ _ => trivial)); (case aO => exact (pR HO_5.out)); (case aS => exact (yR (w := w) (g := g) (row := none) (pq HK))); (case aL => have := LMc12.out; omega); intro vqd w14 ho hb hg hat; rw [← Nyqc.out] at ho; replace HB := aQ (ybo (pbI HB) HL.out hb); replace HI0 := aQ (IsS106.grown (pi_ HI0) hg (IsS106.own_ne HI0.out HO_5.out (by decide))); replace HK := aQ (KeepBut.trans (pq HK) (KeepBut.of_grown hg g) (Kd.R_base2 HO_5.out)); have HOqe := aQ (ho); clear HO_5; clear ho hb hg hat))
  go_roundg k1
  case measure => have := HK1.out; omega
  case rel => exact ⟨(yqc), (wrap64 (x7_1 + 1)), (tqa), (tqb), rs_, H', ⟨by have := HK1.out; omega⟩, ⟨pR HOqe.out⟩, ⟨pi_ HI0⟩, ⟨pq HK⟩, ⟨pbI HB⟩⟩
 ·rw [if_neg c7] at H
  have c7b0 := decide_eq_false c7
  clear c7
  simp only [Option.some.injEq, Prod.mk.injEq] at H
  obtain ⟨rfl, rfl, rfl⟩ := H
  go_wp2
  go_ret
  exact ⟨_, by first | rfl | (simp [errW_none, yi] <;> rfl) | (simp [*, errW_none, yi] <;> rfl), by refine pRx ?_; exact HO_5.out, pi_ HI0, pbI HB, pq HK⟩
def yaB.f (s0_0 : List Int) (s0_1 : Int) (s0_2 : Int) (l1 : List Int) : Option (Int × Int × Int) := (yk.f s0_0 s0_1 s0_2 (l1.length : Int)).bind fun btq0 => (if 0 ≤ btq0.1 then (if btq0.1 < (l1.length : Int) then (some (rd l1 btq0.1, btq0.2.1, btq0.2.2)) else (none)) else (none))
theorem yaB.calls (g : Nat) (s0_0 : List Int) (s0_1 : Int) (s0_2 : Int) (A1 : Option Addr) (c1 : Nat) (l1 : List Int) (r1 : Int) (r2 : Int) (r3 : Int) (w0 w : World) (hI : IsS106 w0 w g s0_0 s0_1 s0_2) (hB : Below w0.heap.size w0 w) (hr1 : Kd.C (Kd.int .i64) w A1 l1.length l1) (hc1 : l1.length ≤ c1) (hf1 : ∀ ad, A1 = some ad → 0 < l1.length → ad.block ≠ g) (h : yaB.f s0_0 s0_1 s0_2 l1 = some (r1, r2, r3)) :
  Calls Try.prog 140 #[.pointer (some ⟨g, 0, none⟩), .slice A1 l1.length c1] w fun e w' => e = .returned (.int .i64 r1) ∧ IsS106 w0 w' g s0_0 r2 r3 ∧ Below w0.heap.size w0 w' ∧ KeepBut w w' g none := by
 have HR1 := aQ hr1
 have HC1 := aQ hc1
 clear hr1 hc1
 have HI0 := aQ hI
 have HK := aQ (KeepBut.refl w g none)
 have HL := aQ hB.size
 clear hI
 have HW0 := aQ hB.size
 have HB := aQ hB
 clear hB
 have H := h
 clear h
 unfold yaB.f at H
 (try dsimp only at H)
 replace H := bo H; obtain ⟨⟨tq0, tq1, tq2⟩, A3, H⟩ := H
 (try dsimp only at H)
 replace H := gd H; obtain ⟨c4, H⟩ := H
 have c4b0 := decide_eq_true c4
 clear c4
 replace H := gd H; obtain ⟨c5, H⟩ := H
 have c5b0 := decide_eq_true c5
 clear c5
 simp only [Option.some.injEq, Prod.mk.injEq] at H
 obtain ⟨rfl, rfl, rfl⟩ := H
 go_enter Try.func140, Try.ntmps140
 go_wp2_with (first | (refine gq 91 (some 9) Try.func91 #[.pointer (some ⟨g, 0, none⟩), .int .i64 (l1.length : Int)] ?_; (with_reducible refine (yk.calls g s0_0 s0_1 s0_2 (l1.length : Int) tq0 tq1 tq2 w0 _ ?side1 ?side2 A3.out).mono ?_); (case side1 => exact pi_ HI0); (case side2 => exact pbI HB); rintro e w6 ⟨rfl, hi, hb, hk⟩; refine ⟨_, rfl, ?_⟩; replace HK := kh HK hk; replace HB := aQ (hb); replace HI0 := aQ (hi); (try clear hb); (try clear hk); (try clear hi); have pq3 : 0 ≤ (tq0 : Int) := of_decide_eq_true as_; have qq3 : tq0 < (l1.length : Int) := of_decide_eq_true as_; obtain ⟨adq3, eq3, hxq3_0⟩ := Kd.at_int HR1.out tq0 pq3 qq3; cases eq3; replace hxq3_0 := ye3 HK.out hxq3_0 (by first | (rw [ycx]; exact hf1 _ rfl (by omega)) | exact hf1 _ rfl (by omega) | exact hf1 adq3 rfl (by omega)); replace pq3 := eq_true pq3; replace qq3 := eq_true qq3))
 go_ret
 exact ⟨re_, pi_ HI0, pbI HB, pq HK⟩
def ya5.f (a0 : Int) : Option (Bool) := if a0 ≥ 0 then (some (decide (a0 ≤ 8))) else (some false)
theorem ya5.calls (a0 : Int) (r : Bool) (w : World) (h : ya5.f a0 = some r) :
  Calls Try.prog 137 #[.int .i64 a0] w fun e w' => e = .returned (.bool r) ∧ Drawn0 w w' := by
 have H : (if a0 ≥ 0 then (some (decide (a0 ≤ 8))) else (some false)) = some r := h
 clear h
 by_cases c2 : a0 ≥ 0
 ·rw [if_pos c2] at H
  have c2b0 := decide_eq_true c2
  clear c2
  obtain rfl := Option.some.inj H
  go_enter Try.func137, Try.ntmps137
  go_wp2
  go_ret
  exact ⟨rs_, rd_⟩
 ·rw [if_neg c2] at H
  have c2b0 := decide_eq_false c2
  clear c2
  obtain rfl := Option.some.inj H
  go_enter Try.func137, Try.ntmps137
  go_wp2
  go_ret
  exact ⟨rs_, rd_⟩
def ybj.f (a0 : Int) (a1 : Int) : Option (Bool) := (ya5.f a0).bind fun tq0 => (if tq0 = true then (if a1 ≥ 0 then (if 0 ≤ a0 then (some (decide (a1 < (shl .i64 1 a0)))) else (none)) else (some false)) else (some false))
theorem ybj.calls (a0 : Int) (a1 : Int) (r : Bool) (w : World) (h : ybj.f a0 a1 = some r) :
  Calls Try.prog 86 #[.int .i64 a0, .int .i64 a1] w fun e w' => e = .returned (.bool r) ∧ Drawn0 w w' := by
 have H := h
 clear h
 unfold ybj.f at H
 (try dsimp only at H)
 replace H := bo H; obtain ⟨tq0, A3, H⟩ := H
 (try dsimp only at H)
 by_cases c4 : tq0 = true
 ·subst c4
  rw [if_pos rfl] at H
  by_cases c5 : a1 ≥ 0
  ·rw [if_pos c5] at H
   have c5b0 := decide_eq_true c5
   clear c5
   replace H := gd H; obtain ⟨c6, H⟩ := H
   have c6b0 := eq_true c6
   have c6b1 := decide_eq_true c6
   clear c6
   obtain ⟨ji7, hji7⟩ : ∃ j_ : Int, (shl .i64 1 a0) = j_ := ⟨_, rfl⟩
   replace H : (some (decide (a1 < (ji7)))) = some r := by first | (rw [hji7] at H; exact H) | (simp only [hji7] at H ⊢; exact H)
   (try rw [hji7] at A3)
   have hji7_ : (IntKind.i64.wrap (1 * 2 ^ min a0.toNat 64)) = ji7 := hji7
   have hji7z : a0 ≤ 64 → (IntKind.i64.wrap (1 * 2 ^ a0.toNat)) = ji7 := ybA hji7
   have hji7u : (IntKind.i64.wrap (2 ^ min a0.toNat 64)) = ji7 := by have h_ := hji7_; rw [Int.one_mul] at h_; exact h_
   have hji7v : a0 ≤ 64 → (IntKind.i64.wrap (2 ^ a0.toNat)) = ji7 := fun hle_ => by have h_ := hji7z hle_; rw [Int.one_mul] at h_; exact h_
   have hji7y : (wrap64 (1 * 2 ^ min a0.toNat 64)) = ji7 := (i64_w _).symm.trans hji7_
   have hji7x : a0 ≤ 64 → (wrap64 (1 * 2 ^ a0.toNat)) = ji7 := fun h_ => (i64_w _).symm.trans (hji7z h_)
   obtain rfl := Option.some.inj H
   go_enter Try.func86, Try.ntmps86
   go_wp2_with (first | (refine gq 137 (some 6) Try.func137 #[.int .i64 a0] ?_; (with_reducible refine (ya5.calls a0 true _ A3.out).mono ?_); rintro e w' ⟨rfl, ⟨nd, rfl⟩⟩; refine ⟨_, rfl, ?_⟩))
   go_ret
   exact ⟨by first | rfl | (simp; done) | (simp only [← hji7] <;> (first | rfl | simp)) | (simp [*]; done), rd_⟩
  ·rw [if_neg c5] at H
   have c5b0 := decide_eq_false c5
   clear c5
   obtain rfl := Option.some.inj H
   go_enter Try.func86, Try.ntmps86
   go_wp2_with (first | (refine gq 137 (some 6) Try.func137 #[.int .i64 a0] ?_; (with_reducible refine (ya5.calls a0 true _ A3.out).mono ?_); rintro e w' ⟨rfl, ⟨nd, rfl⟩⟩; refine ⟨_, rfl, ?_⟩))
   go_ret
   exact ⟨rs_, rd_⟩
 ·replace c4 := Bool.eq_false_iff.mpr c4
  subst c4
  have H1 : (some false) = some r := by rw [if_neg (show ¬ (false = true) by decide)] at H; exact H
  clear H
  have H := H1
  clear H1
  obtain rfl := Option.some.inj H
  go_enter Try.func86, Try.ntmps86
  go_wp2_with (first | (refine gq 137 (some 6) Try.func137 #[.int .i64 a0] ?_; (with_reducible refine (ya5.calls a0 false _ A3.out).mono ?_); rintro e w' ⟨rfl, ⟨nd, rfl⟩⟩; refine ⟨_, rfl, ?_⟩))
  go_ret
  exact ⟨rs_, rd_⟩
def yaL.f (a0 : Int) : Option (Bool) := if a0 ≥ 0 then (some (decide (a0 < 256))) else (some false)
theorem yaL.calls (a0 : Int) (r : Bool) (w : World) (h : yaL.f a0 = some r) :
  Calls Try.prog 97 #[.int .i64 a0] w fun e w' => e = .returned (.bool r) ∧ Drawn0 w w' := by
 have H : (if a0 ≥ 0 then (some (decide (a0 < 256))) else (some false)) = some r := h
 clear h
 by_cases c2 : a0 ≥ 0
 ·rw [if_pos c2] at H
  have c2b0 := decide_eq_true c2
  clear c2
  obtain rfl := Option.some.inj H
  go_enter Try.func97, Try.ntmps97
  go_wp2
  go_ret
  exact ⟨rs_, rd_⟩
 ·rw [if_neg c2] at H
  have c2b0 := decide_eq_false c2
  clear c2
  obtain rfl := Option.some.inj H
  go_enter Try.func97, Try.ntmps97
  go_wp2
  go_ret
  exact ⟨rs_, rd_⟩
def ybd.f (a0 : Int) (a1 : Int) : Option (Bool) := (yaL.f a0).bind fun tq0 => (if tq0 = true then (if a1 ≥ 0 then (if a1 < 8 then (if 0 ≤ a1 then (some ((Go.bits .and .i64 (shr .i64 a0 a1) 1) == 1)) else (none)) else (some false)) else (some false)) else (some false))
theorem ybd.calls (a0 : Int) (a1 : Int) (r : Bool) (w : World) (h : ybd.f a0 a1 = some r) :
  Calls Try.prog 92 #[.int .i64 a0, .int .i64 a1] w fun e w' => e = .returned (.bool r) ∧ Drawn0 w w' := by
 have H := h
 clear h
 unfold ybd.f at H
 (try dsimp only at H)
 replace H := bo H; obtain ⟨tq0, A3, H⟩ := H
 (try dsimp only at H)
 by_cases c4 : tq0 = true
 ·subst c4
  rw [if_pos rfl] at H
  by_cases c5 : a1 ≥ 0
  ·rw [if_pos c5] at H
   have c5b0 := decide_eq_true c5
   clear c5
   by_cases c6 : a1 < 8
   ·rw [if_pos c6] at H
    have c6b0 := decide_eq_true c6
    clear c6
    replace H := gd H; obtain ⟨c7, H⟩ := H
    have c7b0 := eq_true c7
    have c7b1 := decide_eq_true c7
    clear c7
    obtain ⟨ji8, hji8⟩ : ∃ j_ : Int, (shr .i64 a0 a1) = j_ := ⟨_, rfl⟩
    replace H : (some ((Go.bits .and .i64 (ji8) 1) == 1)) = some r := by first | (rw [hji8] at H; exact H) | (simp only [hji8] at H ⊢; exact H)
    (try rw [hji8] at A3)
    have hji8_ : (a0 / 2 ^ min a1.toNat 64) = ji8 := hji8
    have hji8z : a1 ≤ 64 → (a0 / 2 ^ a1.toNat) = ji8 := yeO hji8
    obtain rfl := Option.some.inj H
    go_enter Try.func92, Try.ntmps92
    go_wp2_with (first | (refine gq 97 (some 6) Try.func97 #[.int .i64 a0] ?_; (with_reducible refine (yaL.calls a0 true _ A3.out).mono ?_); rintro e w' ⟨rfl, ⟨nd, rfl⟩⟩; refine ⟨_, rfl, ?_⟩))
    go_ret
    exact ⟨by first | rfl | (simp; done) | (simp only [← hji8] <;> (first | rfl | simp)) | (simp [*]; done), rd_⟩
   ·rw [if_neg c6] at H
    have c6b0 := decide_eq_false c6
    clear c6
    obtain rfl := Option.some.inj H
    go_enter Try.func92, Try.ntmps92
    go_wp2_with (first | (refine gq 97 (some 6) Try.func97 #[.int .i64 a0] ?_; (with_reducible refine (yaL.calls a0 true _ A3.out).mono ?_); rintro e w' ⟨rfl, ⟨nd, rfl⟩⟩; refine ⟨_, rfl, ?_⟩))
    go_ret
    exact ⟨rs_, rd_⟩
  ·rw [if_neg c5] at H
   have c5b0 := decide_eq_false c5
   clear c5
   obtain rfl := Option.some.inj H
   go_enter Try.func92, Try.ntmps92
   go_wp2_with (first | (refine gq 97 (some 6) Try.func97 #[.int .i64 a0] ?_; (with_reducible refine (yaL.calls a0 true _ A3.out).mono ?_); rintro e w' ⟨rfl, ⟨nd, rfl⟩⟩; refine ⟨_, rfl, ?_⟩))
   go_ret
   exact ⟨rs_, rd_⟩
 ·replace c4 := Bool.eq_false_iff.mpr c4
  subst c4
  have H1 : (some false) = some r := by rw [if_neg (show ¬ (false = true) by decide)] at H; exact H
  clear H
  have H := H1
  clear H1
  obtain rfl := Option.some.inj H
  go_enter Try.func92, Try.ntmps92
  go_wp2_with (first | (refine gq 97 (some 6) Try.func97 #[.int .i64 a0] ?_; (with_reducible refine (yaL.calls a0 false _ A3.out).mono ?_); rintro e w' ⟨rfl, ⟨nd, rfl⟩⟩; refine ⟨_, rfl, ?_⟩))
  go_ret
  exact ⟨rs_, rd_⟩
def yz.l0 : Nat → Int → List Int → Int → Option (List Int)
 | 0, _, _, _ => none
 | k + 1, x0, x3, x4 => if x4 < 8 then ((ybd.f x0 x4).bind fun tq0 => (if tq0 = true then (if x3.length < 17592186044416 then (yz.l0 k x0 (x3 ++ [x4]) (wrap64 (x4 + 1))) else (none)) else (yz.l0 k x0 x3 (wrap64 (x4 + 1))))) else (some x3)
def yz.f (k : Nat) (a0 : Int) : Option (List Int) := yz.l0 k a0 (([] : List Int)) 0
theorem yz.mono_l : ∀ k, (∀ y0 y1 y2, LeO (yz.l0 k y0 y1 y2) (yz.l0 (k + 1) y0 y1 y2))
 | 0 => fun _ _ _ r h => by simp [yz.l0] at h
 | k + 1 => by
  have ih0 := yz.mono_l k
  ·intro y0 y1 y2
   unfold yz.l0
   repeat' first | (with_reducible first | exact ih0 _ _ _ | exact LeO.refl _ | exact LeO.none _ | refine LeO.ite ?_ ?_ | refine LeO.bind ?_ (fun _ => ?_)) | exact ih0 _ _ _ | exact LeO.none _ | refine LeO.ite ?_ ?_ | refine LeO.bind ?_ (fun _ => ?_)
theorem yz.mono : ∀ a0 k, LeO (yz.f k a0) (yz.f (k + 1) a0) := by
 intro a0 k
 have ih0 := yz.mono_l k
 unfold yz.f
 repeat' first | (with_reducible first | exact ih0 _ _ _ | exact LeO.refl _ | exact LeO.none _ | refine LeO.ite ?_ ?_ | refine LeO.bind ?_ (fun _ => ?_)) | exact ih0 _ _ _ | exact LeO.none _ | refine LeO.ite ?_ ?_ | refine LeO.bind ?_ (fun _ => ?_)
theorem yz.calls (k : Nat) (a0 : Int) (r : List Int) (w : World) (h : yz.f k a0 = some r) :
  Calls Try.prog 104 #[.int .i64 a0] w fun e w' => ∃ v0_ : Value, e = .returned (v0_) ∧ Kd.R (Kd.int .i64) 3 w' w.heap.size (fun _ => True) v0_ r ∧ Below w.heap.size w w' := by
 have HB := aQ (Below.refl w.heap.size w)
 have H : (yz.l0 k a0 (([] : List Int)) 0) = some r := h
 clear h
 obtain ⟨yq1, hyq1⟩ : ∃ y_ : List Int, y_ = (([] : List Int)) := ⟨_, rfl⟩
 replace H : (yz.l0 k a0 yq1 0) = some r := by first | (rw [hyq1]; with_reducible exact H) | (rw [hyq1]; exact H)
 have Nyq1 := aQ hyq1
 clear hyq1
 have H' := aQ H
 clear H
 go_enter Try.func104, Try.ntmps104
 go_wp2_with (first | ((with_reducible refine yb (N := 5) rfl ?_); refine Kd.R_lit (Kd.int .i64) _ 3 ?hg (N := 5) ?hd (xs := ([] : List Int)) (inner := []) (ok := fun _ => True) (okp := fun _ => True) ?hr ?hp (fun _ hk => hk) trivial (Below.refl _ _) (Nat.le_refl _) (by simp) ?_; (case hd => rfl); (case hg => rfl); (case hr => first | (go_simp; done) | (go_simp; rfl)); (case hp => exact (Reps.none _ _)); intro vq2 w2 ho3 hb hg_ hnew_; clear hg_ hnew_; (first | rw [← Nyq1.out] at ho3 | (simp only [Int.reduceToNat] at ho3; rw [← Nyq1.out] at ho3)); have HOq3 := aQ (Kd.R_lower ho3 (yc (pB HB.out))); replace HB := bs HB hb; clear hb ho3))
 go_loopg [3, 4] k (fun kq v3 v4 w' => ∃ (x3_1 : List Int) (x4_1 : Int), v4 = .int .i64 x4_1 ∧ Aside0 (yz.l0 kq a0 x3_1 x4_1 = some r) ∧ Aside0 (kq ≤ k) ∧ Aside0 (Kd.R (Kd.int .i64) 3 w' w.heap.size (fun _ => True) v3 x3_1) ∧ Aside0 (Below w.heap.size w w'))
 case atStart => exact ⟨(yq1), (0), rs_, H', ⟨Nat.le_refl _⟩, ⟨pR HOq3.out⟩, ⟨pB HB.out⟩⟩
 clear H'
 try clear c1
 try clear p2
 obtain ⟨x3_1, x4_1, rfl, HA, HK1, HO_3, HB⟩ := hrel
 rcases gk with _ | k1
 ·exact absurd HA.out (by simp [yz.l0])
 have H := HA.out
 clear HA
 simp only [yz.l0] at H
 by_cases c4 : x4_1 < 8
 ·rw [if_pos c4] at H
  have c4b0 := decide_eq_true c4
  clear c4
  replace H := bo H; obtain ⟨tq0, A5, H⟩ := H
  (try dsimp only at H)
  by_cases c6 : tq0 = true
  ·subst c6
   rw [if_pos rfl] at H
   replace H := gd H; obtain ⟨c7, H⟩ := H
   have LMc7 := aQ c7
   clear c7
   obtain ⟨yq4, hyq4⟩ : ∃ y_ : List Int, y_ = (x3_1 ++ [x4_1]) := ⟨_, rfl⟩
   replace H : (yz.l0 k1 a0 yq4 (wrap64 (x4_1 + 1))) = some r := by first | (rw [hyq4]; with_reducible exact H) | (rw [hyq4]; exact H)
   have Nyq4 := aQ hyq4
   clear hyq4
   have H' := aQ H
   clear H
   go_wp2_with (first | (refine gq 92 (some 12) Try.func92 #[.int .i64 a0, .int .i64 x4_1] ?_; (with_reducible refine (ybd.calls a0 x4_1 true _ A5.out).mono ?_); rintro e w' ⟨rfl, ⟨nd, rfl⟩⟩; refine ⟨_, rfl, ?_⟩) | ((with_reducible refine yO (b := .append) (xs := #[.tmp 13, .tmp 15]) rfl ?_); at_builtin; refine Kd.R_append (Kd.int .i64) (w0 := w) w.heap.size rfl (.tmp 13) (.tmp 15) 22 3 (.int .i64 0) 8 rfl Try.underlying22 yaU rfl (by decide) (by omega) u3 x3_1 x4_1 [.int .i64 x4_1] (fun _ => True) (fun _ => False) rfl rfl ?aP (fun _ hk => hk.elim) ?aF ?aO ?aB ?aS ?aL ?_; (case aP => exact rfl); (case aB => exact (pB HB.out)); (case aF => exact (fun _ _ => trivial)); (case aO => exact (pR HO_3.out)); (case aS => exact (yc (pB HB.out))); (case aL => have := LMc7.out; omega); intro vq5 w8 ho hb hg hat; rw [← Nyq4.out] at ho; replace HB := aQ (hb); have HOq6 := aQ (ho); clear HO_3; clear ho hb hg hat))
   go_roundg k1
   case measure => have := HK1.out; omega
   case rel => exact ⟨(yq4), (wrap64 (x4_1 + 1)), rs_, H', ⟨by have := HK1.out; omega⟩, ⟨pR HOq6.out⟩, ⟨pB HB.out⟩⟩
  ·replace c6 := Bool.eq_false_iff.mpr c6
   subst c6
   have H1 : (yz.l0 k1 a0 x3_1 (wrap64 (x4_1 + 1))) = some r := by rw [if_neg (show ¬ (false = true) by decide)] at H; exact H
   clear H
   have H := H1
   clear H1
   have H' := aQ H
   clear H
   go_wp2_with (first | (refine gq 92 (some 12) Try.func92 #[.int .i64 a0, .int .i64 x4_1] ?_; (with_reducible refine (ybd.calls a0 x4_1 false _ A5.out).mono ?_); rintro e w' ⟨rfl, ⟨nd, rfl⟩⟩; refine ⟨_, rfl, ?_⟩))
   go_roundg k1
   case measure => have := HK1.out; omega
   case rel => exact ⟨(x3_1), (wrap64 (x4_1 + 1)), rs_, H', ⟨by have := HK1.out; omega⟩, ⟨pR HO_3.out⟩, ⟨pB HB.out⟩⟩
 ·rw [if_neg c4] at H
  have c4b0 := decide_eq_false c4
  clear c4
  obtain rfl := Option.some.inj H
  go_wp2
  go_ret
  exact ⟨_, by first | rfl | (simp [errW_none, yi] <;> rfl) | (simp [*, errW_none, yi] <;> rfl), by refine pRx ?_; exact HO_3.out, pB HB.out⟩
def yah.l0 : Nat → Int → List Int → List Int → Int → Int → Option (Bool)
 | 0, _, _, _, _, _ => none
 | k + 1, x0, x1, x7, x8, x9 => if x9 < x8 then (if 0 ≤ x9 then (if x9 < (x7.length : Int) then ((ybj.f x0 (rd x7 x9)).bind fun tq0 => (if tq0 = true then (if x9 > 0 then (if 0 ≤ (wrap64 (x9 - 1)) then (if (wrap64 (x9 - 1)) < (x1.length : Int) then (if (rd x7 x9) ≤ (rd x1 (wrap64 (x9 - 1))) then (some false) else (yah.l0 k x0 x1 x7 x8 (wrap64 (x9 + 1)))) else (none)) else (none)) else (yah.l0 k x0 x1 x7 x8 (wrap64 (x9 + 1)))) else (some false))) else (none)) else (none)) else ((ya5.f x0).bind fun tq1 => (some tq1))
def yah.f (k : Nat) (a0 : Int) (l1 : List Int) : Option (Bool) := yah.l0 k a0 l1 l1 (l1.length : Int) 0
theorem yah.calls (k : Nat) (a0 : Int) (A1 : Option Addr) (c1 : Nat) (l1 : List Int) (r : Bool) (w : World) (hr1 : Kd.C (Kd.int .i64) w A1 l1.length l1) (hc1 : l1.length ≤ c1) (h : yah.f k a0 l1 = some r) :
  Calls Try.prog 117 #[.int .i64 a0, .slice A1 l1.length c1] w fun e w' => e = .returned (.bool r) ∧ Drawn0 w w' := by
 have HR1 := aQ hr1
 have HC1 := aQ hc1
 clear hr1 hc1
 have H : (yah.l0 k a0 l1 l1 (l1.length : Int) 0) = some r := h
 clear h
 have H' := aQ H
 clear H
 go_enter Try.func117, Try.ntmps117
 go_wp2
 go_loopg [9] k (fun kq v9 w' => ∃ (x9_1 : Int), v9 = .int .i64 x9_1 ∧ Aside0 (yah.l0 kq a0 l1 l1 (l1.length : Int) x9_1 = some r) ∧ Aside0 (kq ≤ k) ∧ Drawn0 w w')
 case atStart => exact ⟨(0), rs_, H', ⟨Nat.le_refl _⟩, rd_⟩
 clear H'
 try clear c1
 try clear p2
 obtain ⟨x9_1, rfl, HA, HK1, ⟨m1, rfl⟩⟩ := hrel
 rcases gk with _ | k1
 ·exact absurd HA.out (by simp [yah.l0])
 have H := HA.out
 clear HA
 simp only [yah.l0] at H
 by_cases c3 : x9_1 < (l1.length : Int)
 ·rw [if_pos c3] at H
  have c3b0 := decide_eq_true c3
  clear c3
  replace H := gd H; obtain ⟨c4, H⟩ := H
  have c4b0 := decide_eq_true c4
  clear c4
  replace H := gd H; obtain ⟨c5, H⟩ := H
  have c5b0 := decide_eq_true c5
  clear c5
  replace H := bo H; obtain ⟨tq0, A6, H⟩ := H
  (try dsimp only at H)
  by_cases c7 : tq0 = true
  ·subst c7
   rw [if_pos rfl] at H
   by_cases c8 : x9_1 > 0
   ·rw [if_pos c8] at H
    have c8b0 := decide_eq_true c8
    clear c8
    obtain ⟨ji9, hji9⟩ : ∃ j_ : Int, (wrap64 (x9_1 - 1)) = j_ := ⟨_, rfl⟩
    replace H : (if 0 ≤ (ji9) then (if (ji9) < (l1.length : Int) then (if (rd l1 x9_1) ≤ (rd l1 (ji9)) then (some false) else (yah.l0 k1 a0 l1 l1 (l1.length : Int) (wrap64 (x9_1 + 1)))) else (none)) else (none)) = some r := by first | (rw [hji9] at H; exact H) | (simp only [hji9] at H ⊢; exact H)
    (try rw [hji9] at A6)
    have hji9w : (IntKind.i64.wrap (x9_1 - 1)) = ji9 := (i64_w _).trans hji9
    replace H := gd H; obtain ⟨c10, H⟩ := H
    have c10b0 := decide_eq_true c10
    clear c10
    replace H := gd H; obtain ⟨c11, H⟩ := H
    have c11b0 := decide_eq_true c11
    clear c11
    by_cases c12 : (rd l1 x9_1) ≤ (rd l1 (ji9))
    ·rw [if_pos c12] at H
     have c12b0 := decide_eq_true c12
     clear c12
     obtain rfl := Option.some.inj H
     have pq2 : 0 ≤ (x9_1 : Int) := of_decide_eq_true as_
     have qq2 : x9_1 < (l1.length : Int) := of_decide_eq_true as_
     obtain ⟨adq2, eq2, hxq2_0⟩ := Kd.at_int HR1.out x9_1 pq2 qq2
     cases eq2
     replace pq2 := eq_true pq2
     replace qq2 := eq_true qq2
     go_wp2_with (first | (refine gq 86 (some 16) Try.func86 #[.int .i64 a0, .int .i64 (rd l1 x9_1)] ?_; (with_reducible refine (ybj.calls a0 (rd l1 x9_1) true _ A6.out).mono ?_); rintro e w' ⟨rfl, ⟨nd, rfl⟩⟩; refine ⟨_, rfl, ?_⟩; have pq3 : 0 ≤ ((ji9) : Int) := of_decide_eq_true as_; have qq3 : (ji9) < (l1.length : Int) := of_decide_eq_true as_; obtain ⟨adq3, eq3, hxq3_0⟩ := Kd.at_int HR1.out (ji9) pq3 qq3; obtain rfl : adq2 = adq3 := (by injection eq3); replace pq3 := eq_true pq3; replace qq3 := eq_true qq3))
     go_ret
     exact ⟨by first | rfl | (simp; done) | (simp only [← hji9] <;> (first | rfl | simp)) | (simp [*]; done), rd_⟩
    ·rw [if_neg c12] at H
     have c12b0 := decide_eq_false c12
     clear c12
     have H' := aQ H
     clear H
     have pq2 : 0 ≤ (x9_1 : Int) := of_decide_eq_true as_
     have qq2 : x9_1 < (l1.length : Int) := of_decide_eq_true as_
     obtain ⟨adq2, eq2, hxq2_0⟩ := Kd.at_int HR1.out x9_1 pq2 qq2
     cases eq2
     replace pq2 := eq_true pq2
     replace qq2 := eq_true qq2
     go_wp2_with (first | (refine gq 86 (some 16) Try.func86 #[.int .i64 a0, .int .i64 (rd l1 x9_1)] ?_; (with_reducible refine (ybj.calls a0 (rd l1 x9_1) true _ A6.out).mono ?_); rintro e w' ⟨rfl, ⟨nd, rfl⟩⟩; refine ⟨_, rfl, ?_⟩; have pq3 : 0 ≤ ((ji9) : Int) := of_decide_eq_true as_; have qq3 : (ji9) < (l1.length : Int) := of_decide_eq_true as_; obtain ⟨adq3, eq3, hxq3_0⟩ := Kd.at_int HR1.out (ji9) pq3 qq3; obtain rfl : adq2 = adq3 := (by injection eq3); replace pq3 := eq_true pq3; replace qq3 := eq_true qq3))
     go_roundg k1
     case measure => have := HK1.out; omega
     case rel => exact ⟨(wrap64 (x9_1 + 1)), rs_, H', ⟨by have := HK1.out; omega⟩, rd_⟩
   ·rw [if_neg c8] at H
    have c8b0 := decide_eq_false c8
    clear c8
    have H' := aQ H
    clear H
    have pq2 : 0 ≤ (x9_1 : Int) := of_decide_eq_true as_
    have qq2 : x9_1 < (l1.length : Int) := of_decide_eq_true as_
    obtain ⟨adq2, eq2, hxq2_0⟩ := Kd.at_int HR1.out x9_1 pq2 qq2
    cases eq2
    replace pq2 := eq_true pq2
    replace qq2 := eq_true qq2
    go_wp2_with (first | (refine gq 86 (some 16) Try.func86 #[.int .i64 a0, .int .i64 (rd l1 x9_1)] ?_; (with_reducible refine (ybj.calls a0 (rd l1 x9_1) true _ A6.out).mono ?_); rintro e w' ⟨rfl, ⟨nd, rfl⟩⟩; refine ⟨_, rfl, ?_⟩))
    go_roundg k1
    case measure => have := HK1.out; omega
    case rel => exact ⟨(wrap64 (x9_1 + 1)), rs_, H', ⟨by have := HK1.out; omega⟩, rd_⟩
  ·replace c7 := Bool.eq_false_iff.mpr c7
   subst c7
   have H1 : (some false) = some r := by rw [if_neg (show ¬ (false = true) by decide)] at H; exact H
   clear H
   have H := H1
   clear H1
   obtain rfl := Option.some.inj H
   have pq2 : 0 ≤ (x9_1 : Int) := of_decide_eq_true as_
   have qq2 : x9_1 < (l1.length : Int) := of_decide_eq_true as_
   obtain ⟨adq2, eq2, hxq2_0⟩ := Kd.at_int HR1.out x9_1 pq2 qq2
   cases eq2
   replace pq2 := eq_true pq2
   replace qq2 := eq_true qq2
   go_wp2_with (first | (refine gq 86 (some 16) Try.func86 #[.int .i64 a0, .int .i64 (rd l1 x9_1)] ?_; (with_reducible refine (ybj.calls a0 (rd l1 x9_1) false _ A6.out).mono ?_); rintro e w' ⟨rfl, ⟨nd, rfl⟩⟩; refine ⟨_, rfl, ?_⟩))
   go_ret
   exact ⟨rs_, rd_⟩
 ·rw [if_neg c3] at H
  have c3b0 := decide_eq_false c3
  clear c3
  replace H := bo H; obtain ⟨tq1, A13, H⟩ := H
  (try dsimp only at H)
  obtain rfl := Option.some.inj H
  go_wp2_with (first | (refine gq 137 (some 33) Try.func137 #[.int .i64 a0] ?_; (with_reducible refine (ya5.calls a0 tq1 _ A13.out).mono ?_); rintro e w' ⟨rfl, ⟨nd, rfl⟩⟩; refine ⟨_, rfl, ?_⟩))
  go_ret
  exact ⟨rs_, rd_⟩
end Go.Proofs.Ytimkekeaeojpkaa.A
namespace Go.Proofs.Ytimkekeaeojpkaa.A
open Go.RowKit Go.Proofs.YtimkekeaeojpkaaW.PrintWords Go.Proofs.YtimkekeaeojpkaaW.PrintLast Go.Proofs.YtimkekeaeojpkaaW.PrintMore Go.Proofs.Ytimkekeaeojpkaa.Z
attribute [local go_sem] ya8 yba ybm ybn yaY yaX ya6 ya9
set_option linter.unusedVariables false
set_option linter.unusedSimpArgs false
theorem ygs {P : Program} {f : FuncId} {fn : Func} {c : Code} (hf : P.funcs[f]? = some fn) (hname : (fn.name == "runtime.NumGoroutine") = false) (hb : fn.body = some c) : ∀ (args : Array Value) (w : World), (callFunc f args).run P w = .ok (.enter f args) w := by
 intro args w
 have h1 : fn.name ≠ "runtime.NumGoroutine" := by simpa using hname
 simp [callFunc, hf, h1, hb, mark]
set_option maxHeartbeats 2000000 in
theorem yeH (g : Int → Option Bool) (K : Nat) (lb : Array Value) (eg : ∀ args w, (callFunc K args).run Try.prog w = .ok (.enter K args) w) (A : Option Addr) (c : Nat) (l : List Int) (r : Int) (w : World)
  (hr : Kd.C (Kd.int .i64) w A l.length l) (h : idxO g l 0 = some r)
  (hp : ∀ (W : World) (x : Int) (b : Bool), Below w.heap.size w W → g x = some b → Calls Try.prog K (#[.int .i64 x] ++ lb) W fun e w' => e = .returned (.bool b) ∧ Below W.heap.size W w') :
  Calls Try.prog 175 #[.slice A l.length c, .func (.func K) #[] lb] w fun e w' => e = .returned (.int .i64 r) ∧ Below w.heap.size w w' := by
 have hbig : l.length ≤ 9223372036854775807 := hr.2.1
 have HR := aQ hr
 have HP := Lib.hid hp
 have H' := aQ h
 clear hr h hp
 go_enter Try.func175, Try.ntmps175
 go_wp2
 go_loopg [5, 8] l.length (fun gg _ s8 wr => ∃ x : Int, s8 = .int .i64 x ∧ Aside0 (0 ≤ x ∧ x ≤ (l.length : Int)) ∧ Aside0 (l.length - x.toNat ≤ gg) ∧ Aside0 (Below w.heap.size w wr) ∧ Aside0 (idxO g (l.drop x.toNat) x.toNat = some r))
 case atStart => exact ⟨0, rfl, ⟨by omega⟩, ⟨by omega⟩, ⟨Below.refl _ w⟩, ⟨H'.out⟩⟩
 clear H'
 obtain ⟨x, rfl, HX, HG, HB, HI⟩ := hrel
 by_cases hlt : x < (l.length : Int)
 ·have p1 : 0 ≤ x := HX.out.1
  have l1 : decide (x < (l.length : Int)) = true := decide_eq_true hlt
  obtain ⟨ad, ea, hx⟩ := Kd.at_int HR.out x p1 hlt
  cases ea
  replace hx := (HB.out.cell (World.block_lt_of_cell? w _ hx)).trans hx
  have hI := HI.out
  rw [ydz l x p1 hlt] at hI
  simp only [idxO] at hI
  obtain ⟨b, hgb, hI⟩ := Option.bind_eq_some_iff.1 hI
  have hcall := HP.out wr (rd l x) b HB.out hgb
  have HC := Lib.hid hI
  have e1 : wrap64 (x + 1) = x + 1 := yak (by omega) (by omega)
  have E1 := Lib.hid e1
  have Q1 := aQ hlt
  replace p1 := eq_true p1
  replace hlt := eq_true hlt
  clear HI hgb hI e1
  cases b with
  | true =>
   go_wp2_with fail
   refine hcall.mono ?_
   rintro e w' ⟨rfl, hb'⟩
   go_wp2
   go_ret
   have h2 := HC.out
   simp only [if_pos, Option.some.injEq] at h2
   refine ⟨?_, ydb HB.out HB.out.size hb'⟩
   rw [← h2, Int.toNat_of_nonneg HX.out.1]
   rfl
  | false =>
   go_wp2_with fail
   refine hcall.mono ?_
   rintro e w' ⟨rfl, hb'⟩
   go_wp2
   go_roundg (l.length - (x + 1).toNat)
   case measure => have := HG.out; have := HX.out; have := Q1.out; omega
   case rel =>
    have h2 := HC.out
    rw [if_neg (by decide)] at h2
    refine ⟨x + 1, by rw [E1.out], ⟨by have := HX.out; have := Q1.out; omega⟩, ⟨by omega⟩, ⟨ydb HB.out HB.out.size hb'⟩, ⟨?_⟩⟩
    rw [show (x + 1).toNat = x.toNat + 1 from by have := HX.out; omega] at h2 ⊢
    exact h2
 ·have l1 : decide (x < (l.length : Int)) = false := decide_eq_false hlt
  have h2 := HI.out
  rw [yb9 l x hlt] at h2
  simp only [idxO, Option.some.injEq] at h2
  have H2 := Lib.hid h2
  clear h2 HI hlt
  go_wp2
  go_ret
  exact ⟨by rw [← H2.out]; rfl, HB.out⟩
set_option maxHeartbeats 2000000 in
theorem ydC (g : Int → Option Bool) (K : Nat) (lb : Array Value) (eg : ∀ args w, (callFunc K args).run Try.prog w = .ok (.enter K args) w) (A : Option Addr) (c : Nat) (l : List Int) (r : Bool) (w : World)
  (hr : Kd.C (Kd.int .i64) w A l.length l) (h : anyO g l = some r)
  (hp : ∀ (W : World) (x : Int) (b : Bool), Below w.heap.size w W → g x = some b → Calls Try.prog K (#[.int .i64 x] ++ lb) W fun e w' => e = .returned (.bool b) ∧ Below W.heap.size W w') :
  Calls Try.prog 146 #[.slice A l.length c, .func (.func K) #[] lb] w fun e w' => e = .returned (.bool r) ∧ Below w.heap.size w w' := by
 obtain ⟨i, hi, rfl⟩ := yg0 g l 0 r h
 have HC := Lib.hid (yeH g K lb eg A c l i w hr hi hp)
 clear hr h hp hi
 go_enter Try.func146, Try.ntmps146
 go_wp2_with (go_at_call 175; refine HC.out.mono ?_; rintro e w' ⟨rfl, hb'⟩)
 go_ret
 exact ⟨by first | rfl | simp, hb'⟩
end Go.Proofs.Ytimkekeaeojpkaa.A
namespace Go.Proofs.Ytimkekeaeojpkaa.A
open Go.RowKit Go.Proofs.YtimkekeaeojpkaaW.PrintWords Go.Proofs.YtimkekeaeojpkaaW.PrintLast Go.Proofs.YtimkekeaeojpkaaW.PrintMore
attribute [local go_sem] ya8 yba ybm ybn yaY yaX ya6 ya9
set_option linter.unusedVariables false
set_option linter.unusedSimpArgs false
def yq.l0 : Nat → List Int → Int → Int → Int → Option (Int)
 | 0, _, _, _, _ => none
 | k + 1, x0, x1, x7, x8 => if x8 < x7 then (if 0 ≤ x8 then (if x8 < (x0.length : Int) then (if x1 = (rd x0 x8) then (some x8) else (yq.l0 k x0 x1 x7 (wrap64 (x8 + 1)))) else (none)) else (none)) else (some (-1))
def yq.f (k : Nat) (l0 : List Int) (a1 : Int) : Option (Int) := yq.l0 k l0 a1 (l0.length : Int) 0
theorem yq.mono_l : ∀ k, (∀ y0 y1 y2 y3, LeO (yq.l0 k y0 y1 y2 y3) (yq.l0 (k + 1) y0 y1 y2 y3))
 | 0 => fun _ _ _ _ r h => by simp [yq.l0] at h
 | k + 1 => by
  have ih0 := yq.mono_l k
  ·intro y0 y1 y2 y3
   unfold yq.l0
   repeat' first | (with_reducible first | exact ih0 _ _ _ _ | exact LeO.refl _ | exact LeO.none _ | refine LeO.ite ?_ ?_ | refine LeO.bind ?_ (fun _ => ?_)) | exact ih0 _ _ _ _ | exact LeO.none _ | refine LeO.ite ?_ ?_ | refine LeO.bind ?_ (fun _ => ?_)
theorem yq.mono : ∀ a0 a1 k, LeO (yq.f k a0 a1) (yq.f (k + 1) a0 a1) := by
 intro a0 a1 k
 have ih0 := yq.mono_l k
 unfold yq.f
 repeat' first | (with_reducible first | exact ih0 _ _ _ _ | exact LeO.refl _ | exact LeO.none _ | refine LeO.ite ?_ ?_ | refine LeO.bind ?_ (fun _ => ?_)) | exact ih0 _ _ _ _ | exact LeO.none _ | refine LeO.ite ?_ ?_ | refine LeO.bind ?_ (fun _ => ?_)
theorem yq.calls (k : Nat) (A0 : Option Addr) (c0 : Nat) (l0 : List Int) (a1 : Int) (r : Int) (w : World) (hr0 : Kd.C (Kd.int .i64) w A0 l0.length l0) (hc0 : l0.length ≤ c0) (h : yq.f k l0 a1 = some r) :
  Calls Try.prog 148 #[.slice A0 l0.length c0, .int .i64 a1] w fun e w' => e = .returned (.int .i64 r) ∧ Drawn0 w w' := by
 have HR0 := aQ hr0
 have HC0 := aQ hc0
 clear hr0 hc0
 have H : (yq.l0 k l0 a1 (l0.length : Int) 0) = some r := h
 clear h
 have H' := aQ H
 clear H
 go_enter Try.func148, Try.ntmps148
 go_wp2
 go_loopg [8] k (fun kq v8 w' => ∃ (x8_1 : Int), v8 = .int .i64 x8_1 ∧ Aside0 (yq.l0 kq l0 a1 (l0.length : Int) x8_1 = some r) ∧ Aside0 (kq ≤ k) ∧ Drawn0 w w')
 case atStart => exact ⟨(0), rs_, H', ⟨Nat.le_refl _⟩, rd_⟩
 clear H'
 try clear c1
 try clear p2
 obtain ⟨x8_1, rfl, HA, HK1, ⟨m1, rfl⟩⟩ := hrel
 rcases gk with _ | k1
 ·exact absurd HA.out (by simp [yq.l0])
 have H := HA.out
 clear HA
 simp only [yq.l0] at H
 by_cases c3 : x8_1 < (l0.length : Int)
 ·rw [if_pos c3] at H
  have c3b0 := decide_eq_true c3
  clear c3
  replace H := gd H; obtain ⟨c4, H⟩ := H
  have c4b0 := decide_eq_true c4
  clear c4
  replace H := gd H; obtain ⟨c5, H⟩ := H
  have c5b0 := decide_eq_true c5
  clear c5
  by_cases c6 : a1 = (rd l0 x8_1)
  ·rw [if_pos c6] at H
   have c6b0 : (a1 == (rd l0 x8_1)) = true := beq_iff_eq.mpr c6
   have c6b1 : (a1 != (rd l0 x8_1)) = false := bne_eq_false_iff_eq.mpr c6
   clear c6
   obtain rfl := Option.some.inj H
   have pq0 : 0 ≤ (x8_1 : Int) := of_decide_eq_true as_
   have qq0 : x8_1 < (l0.length : Int) := of_decide_eq_true as_
   obtain ⟨adq0, eq0, hxq0_0⟩ := Kd.at_int HR0.out x8_1 pq0 qq0
   cases eq0
   replace pq0 := eq_true pq0
   replace qq0 := eq_true qq0
   go_wp2
   go_ret
   exact ⟨rs_, rd_⟩
  ·rw [if_neg c6] at H
   have c6b0 : (a1 == (rd l0 x8_1)) = false := beq_eq_false_iff_ne.mpr c6
   have c6b1 : (a1 != (rd l0 x8_1)) = true := bne_iff_ne.mpr c6
   have H' := aQ H
   clear H
   have pq0 : 0 ≤ (x8_1 : Int) := of_decide_eq_true as_
   have qq0 : x8_1 < (l0.length : Int) := of_decide_eq_true as_
   obtain ⟨adq0, eq0, hxq0_0⟩ := Kd.at_int HR0.out x8_1 pq0 qq0
   cases eq0
   replace pq0 := eq_true pq0
   replace qq0 := eq_true qq0
   go_wp2
   go_roundg k1
   case measure => have := HK1.out; omega
   case rel => exact ⟨(wrap64 (x8_1 + 1)), rs_, H', ⟨by have := HK1.out; omega⟩, rd_⟩
 ·rw [if_neg c3] at H
  have c3b0 := decide_eq_false c3
  clear c3
  obtain rfl := Option.some.inj H
  go_wp2
  go_ret
  exact ⟨rs_, rd_⟩
def yac.f (k : Nat) (l0 : List Int) (a1 : Int) : Option (Bool) := (yq.f k l0 a1).bind fun tq0 => (some (decide (tq0 ≥ 0)))
theorem yac.mono : ∀ a0 a1 k, LeO (yac.f k a0 a1) (yac.f (k + 1) a0 a1) := by
 intro a0 a1 k
 unfold yac.f
 repeat' first | (with_reducible first | exact yq.mono _ _ _ | exact LeO.refl _ | exact LeO.none _ | refine LeO.ite ?_ ?_ | refine LeO.bind ?_ (fun _ => ?_)) | exact LeO.none _ | refine LeO.ite ?_ ?_ | refine LeO.bind ?_ (fun _ => ?_)
theorem yac.calls (k : Nat) (A0 : Option Addr) (c0 : Nat) (l0 : List Int) (a1 : Int) (r : Bool) (w : World) (hr0 : Kd.C (Kd.int .i64) w A0 l0.length l0) (hc0 : l0.length ≤ c0) (h : yac.f k l0 a1 = some r) :
  Calls Try.prog 118 #[.slice A0 l0.length c0, .int .i64 a1] w fun e w' => e = .returned (.bool r) ∧ Drawn0 w w' := by
 have HR0 := aQ hr0
 have HC0 := aQ hc0
 clear hr0 hc0
 have H := h
 clear h
 unfold yac.f at H
 (try dsimp only at H)
 replace H := bo H; obtain ⟨tq0, A3, H⟩ := H
 (try dsimp only at H)
 obtain rfl := Option.some.inj H
 go_enter Try.func118, Try.ntmps118
 go_wp2_with (first | (refine gq 148 (some 7) Try.func148 #[.slice A0 l0.length c0, .int .i64 a1] ?_; (with_reducible refine (yq.calls k _ _ l0 a1 tq0 _ ?side1 ?side2 A3.out).mono ?_); (case side1 => exact pC HR0.out); (case side2 => exact HC0.out); rintro e w' ⟨rfl, ⟨nd, rfl⟩⟩; refine ⟨_, rfl, ?_⟩))
 go_ret
 exact ⟨rs_, rd_⟩
def ybh.f (k : Nat) (l0 : List Int) (a1 : Int) : Option (Bool) := (yac.f k l0 a1).bind fun tq0 => (some tq0)
theorem ybh.mono : ∀ a0 a1 k, LeO (ybh.f k a0 a1) (ybh.f (k + 1) a0 a1) := by
 intro a0 a1 k
 unfold ybh.f
 repeat' first | (with_reducible first | exact yac.mono _ _ _ | exact LeO.refl _ | exact LeO.none _ | refine LeO.ite ?_ ?_ | refine LeO.bind ?_ (fun _ => ?_)) | exact LeO.none _ | refine LeO.ite ?_ ?_ | refine LeO.bind ?_ (fun _ => ?_)
theorem ybh.calls (k : Nat) (A0 : Option Addr) (c0 : Nat) (l0 : List Int) (a1 : Int) (r : Bool) (w : World) (hr0 : Kd.C (Kd.int .i64) w A0 l0.length l0) (hc0 : l0.length ≤ c0) (h : ybh.f k l0 a1 = some r) :
  Calls Try.prog 125 #[.slice A0 l0.length c0, .int .i64 a1] w fun e w' => e = .returned (.bool r) ∧ Drawn0 w w' := by
 have HR0 := aQ hr0
 have HC0 := aQ hc0
 clear hr0 hc0
 have H := h
 clear h
 unfold ybh.f at H
 (try dsimp only at H)
 replace H := bo H; obtain ⟨tq0, A3, H⟩ := H
 (try dsimp only at H)
 obtain rfl := Option.some.inj H
 go_enter Try.func125, Try.ntmps125
 go_wp2_with (first | (refine gq 118 (some 7) Try.func118 #[.slice A0 l0.length c0, .int .i64 a1] ?_; (with_reducible refine (yac.calls k _ _ l0 a1 tq0 _ ?side1 ?side2 A3.out).mono ?_); (case side1 => exact pC HR0.out); (case side2 => exact HC0.out); rintro e w' ⟨rfl, ⟨nd, rfl⟩⟩; refine ⟨_, rfl, ?_⟩))
 go_ret
 exact ⟨rs_, rd_⟩
end Go.Proofs.Ytimkekeaeojpkaa.A
namespace Go.Proofs.Ytimkekeaeojpkaa.A
open Go.RowKit Go.Proofs.YtimkekeaeojpkaaW.PrintWords Go.Proofs.YtimkekeaeojpkaaW.PrintLast Go.Proofs.YtimkekeaeojpkaaW.PrintMore Go.Proofs.Ytimkekeaeojpkaa.Z
attribute [local go_sem] ya8 yba ybm ybn yaY yaX ya6 ya9
set_option linter.unusedVariables false
set_option linter.unusedSimpArgs false
def ye.c (k : Nat) (l : List Int) (a e f : Int) : Option Bool := if 0 ≤ e ∧ e < 8 then (if 0 ≤ f ∧ f < 8 then ybh.f k l (Go.bits .or .i64 (Go.bits .andNot .i64 a (IntKind.i64.wrap (2 ^ e.toNat))) (IntKind.i64.wrap (2 ^ f.toNat))) else none) else none
theorem ye.c_mono (l : List Int) (a e f : Int) (k : Nat) : LeO (ye.c k l a e f) (ye.c (k + 1) l a e f) := by
 unfold ye.c
 exact LeO.ite (LeO.ite (ybh.mono _ _ _) (LeO.none _)) (LeO.none _)
set_option maxHeartbeats 2000000 in
theorem ydc (k : Nat) (n : Int) (A : Option Addr) (c : Nat) (l : List Int) (a e f : Int) (b : Bool) (gm ga ge : Nat) (w : World)
  (hr : Kd.C (Kd.int .i64) w A l.length l) (hc : l.length ≤ c)
  (hm : w.heap[gm]? = some (.cells #[.int .i64 n, .slice A l.length c] 28 (0, 0))) (ha : w.heap[ga]? = some (.cells #[.int .i64 a] 3 (0, 0))) (he : w.heap[ge]? = some (.cells #[.int .i64 e] 3 (0, 0)))
  (h : ye.c k l a e f = some b) :
  Calls Try.prog 147 #[.int .i64 f, .pointer (some ⟨gm, 0, none⟩), .pointer (some ⟨ga, 0, none⟩), .pointer (some ⟨ge, 0, none⟩)] w fun e w' => e = .returned (.bool b) ∧ Below w.heap.size w w' := by
 unfold ye.c at h
 by_cases h1 : 0 ≤ e ∧ e < 8
 ·rw [if_pos h1] at h
  by_cases h2 : 0 ≤ f ∧ f < 8
  ·rw [if_pos h2] at h
   have hu := Try.underlying28
   have hcm : w.cell? ⟨gm, 1, none⟩ = some (.slice A l.length c) := (ya hm 1).trans rfl
   have hca : w.cell? ⟨ga, 0, none⟩ = some (.int .i64 a) := (ya ha 0).trans rfl
   have hce : w.cell? ⟨ge, 0, none⟩ = some (.int .i64 e) := (ya he 0).trans rfl
   obtain ⟨he0, he8⟩ := h1
   obtain ⟨hf0, hf8⟩ := h2
   have H := Lib.hid h
   have HR := Lib.hid hr
   have HCC := Lib.hid hc
   clear hm ha he h hr hc
   go_enter Try.func147, Try.ntmps147
   go_wp2
   go_quiet (first | (go_at_call 125; (with_reducible refine (ybh.calls k _ _ l _ b _ ?side1 ?side2 H.out).mono ?_); (case side1 => exact pC HR.out); (case side2 => exact HCC.out); rintro e w' ⟨rfl, ⟨nd, rfl⟩⟩; (try exact dq_)))
   go_wp2
   go_ret
   exact ⟨rfl, by repeat (first | exact Below.refl _ _ | apply yaO | apply yK)⟩
  ·rw [if_neg h2] at h; cases h
 ·rw [if_neg h1] at h; cases h
def ye.l2 (k : Nat) (l : List Int) (a b : Int) : List Int → Option (Option Int)
 | [] => some none
 | e :: es => (yz.f k (Go.bits .andNot .i64 b a)).bind fun fs => (anyO (fun f => ye.c k l a e f) fs).bind fun t => if t = true then ye.l2 k l a b es else some (some e)
def ye.l1 (k : Nat) (l : List Int) (a : Int) : List Int → Option (Option (Int × Int))
 | [] => some none
 | b :: bs => (yz.f k (Go.bits .andNot .i64 a b)).bind fun es => (ye.l2 k l a b es).bind fun t => match t with
  | none => ye.l1 k l a bs
  | some e => some (some (b, e))
def ye.l0 (k : Nat) (l : List Int) : List Int → Option (Option (Int × Int × Int))
 | [] => some none
 | a :: la => (ye.l1 k l a l).bind fun t => match t with
  | none => ye.l0 k l la
  | some (b, e) => some (some (a, b, e))
def ye.f (k : Nat) (a0_0 : Int) (l0_1 : List Int) : Option (Int × Int × Int × Bool) := (yah.f k a0_0 l0_1).bind fun t => if t = true then ((ye.l0 k l0_1 l0_1).bind fun u => match u with
  | none => some (0, 0, 0, false)
  | some (a, b, e) => some (a, b, e, true)) else some (0, 0, 0, false)
theorem ye.mono2 (k : Nat) (l : List Int) (a b : Int) : ∀ es, LeO (ye.l2 k l a b es) (ye.l2 (k + 1) l a b es) := by
 intro es
 induction es with
 | nil => exact LeO.refl _
 | cons e es ih =>
  unfold ye.l2
  exact LeO.bind (yz.mono _ _) (fun fs => LeO.bind (yht (fun f => ye.c_mono l a e f k) fs) (fun t => LeO.ite ih (LeO.refl _)))
theorem ye.mono1 (k : Nat) (l : List Int) (a : Int) : ∀ bs, LeO (ye.l1 k l a bs) (ye.l1 (k + 1) l a bs) := by
 intro bs
 induction bs with
 | nil => exact LeO.refl _
 | cons b bs ih =>
  unfold ye.l1
  exact LeO.bind (yz.mono _ _) (fun es => LeO.bind (ye.mono2 k l a b es) (fun t => by cases t; exact ih; exact LeO.refl _))
theorem ye.mono0 (k : Nat) (l : List Int) : ∀ la, LeO (ye.l0 k l la) (ye.l0 (k + 1) l la) := by
 intro la
 induction la with
 | nil => exact LeO.refl _
 | cons a la ih =>
  unfold ye.l0
  exact LeO.bind (ye.mono1 k l a l) (fun t => by cases t; exact ih; exact LeO.refl _)
theorem ye.calls (k : Nat) (a0_0 : Int) (A0_1 : Option Addr) (c0_1 : Nat) (l0_1 : List Int) (r1 : Int) (r2 : Int) (r3 : Int) (r4 : Bool) (w : World) (hr0_1 : Kd.C (Kd.int .i64) w A0_1 l0_1.length l0_1) (hc0_1 : l0_1.length ≤ c0_1) (h : ye.f k a0_0 l0_1 = some (r1, r2, r3, r4)) :
  Calls Try.prog 116 #[.agg #[.int .i64 a0_0, .slice A0_1 l0_1.length c0_1]] w fun e w' => e = .returned (.tuple #[.agg #[.int .i64 r1, .int .i64 r2, .int .i64 r3], .bool r4]) ∧ Below w.heap.size w w' := by
 have hu39 := Try.underlying28
 have hu59 := Try.underlying94
 have hlen : l0_1.length ≤ 9223372036854775807 := hr0_1.2.1
 have HR := aQ hr0_1
 have HC := aQ hc0_1
 have HB := aQ (Below.refl w.heap.size w)
 clear hr0_1 hc0_1
 unfold ye.f at h
 obtain ⟨t, A2, H⟩ := Option.bind_eq_some_iff.mp h
 clear h
 have HF := aQ A2
 clear A2
 have eg : ∀ args w, (callFunc 147 args).run Try.prog w = .ok (.enter 147 args) w := ygs Try.func147 (by kernel_rfl) rfl
 have EG := aQ eg
 clear eg
 by_cases c3 : t = true
 ·subst c3
  rw [if_pos rfl] at H
  obtain ⟨u, A3, H⟩ := Option.bind_eq_some_iff.mp H
  have HL := Lib.hid A3
  have HU := Lib.hid H
  clear A3 H
  go_enter Try.func116, Try.ntmps116
  go_wp2_with (first | ((with_reducible refine yb (N := 1) rfl ?_); refine bx 1 #[.int .i64 a0_0, .slice A0_1 l0_1.length c0_1] 28 ?_; intro gm hg w1_ hbox hb; have n_HB := bs HB hb; have n_GBM := aQ ((by rw [hg]; exact yc (pB HB.out)) : w.heap.size ≤ gm); clear HB; have HB := n_HB; have GBM := n_GBM; have BM := aQ hbox; clear n_HB n_GBM; clear hb hbox hg; have zBM0 : w1_.cell? ⟨gm, 0, none⟩ = some (.int .i64 a0_0) := (ya BM.out 0).trans rfl; have zBM1 : w1_.cell? ⟨gm, 1, none⟩ = some (.slice A0_1 l0_1.length c0_1) := (ya BM.out 1).trans rfl) | ((with_reducible refine yb (N := 2) rfl ?_); refine bx 2 #[.int .i64 0, .int .i64 0, .int .i64 0] 94 ?_; intro gf hg w1_ hbox hb; have n_BM := bb BM hb; have n_NBMBF := aQ ((by rw [hg]; exact Nat.ne_of_lt (ybE (g := gm) (o := .cells #[.int .i64 a0_0, .slice A0_1 l0_1.length c0_1] 28 (0, 0)) (pk BM.out))) : gm ≠ gf); have n_HB := bs HB hb; have n_GBF := aQ ((by rw [hg]; exact yc (pB HB.out)) : w.heap.size ≤ gf); clear BM; clear HB; have HB := n_HB; have GBF := n_GBF; have BF := aQ hbox; have BM := n_BM; have NBMBF := n_NBMBF; clear n_HB n_GBF n_BM n_NBMBF; clear hb hbox hg; have zBM0 : w1_.cell? ⟨gm, 0, none⟩ = some (.int .i64 a0_0) := (ya BM.out 0).trans rfl; have zBM1 : w1_.cell? ⟨gm, 1, none⟩ = some (.slice A0_1 l0_1.length c0_1) := (ya BM.out 1).trans rfl) | (go_at_call 117; (with_reducible refine (yah.calls k a0_0 _ _ l0_1 true _ ?side1 ?side2 HF.out).mono ?_); (case side1 => exact pC (Kd.C_below HR.out HB.out)); (case side2 => exact HC.out); rintro e w' ⟨rfl, ⟨nd, rfl⟩⟩))
  go_loopg [21] l0_1.length (fun gg s21 wr => ∃ x : Int, s21 = .int .i64 x ∧ Aside0 (0 ≤ x ∧ x ≤ (l0_1.length : Int)) ∧ Aside0 (l0_1.length - x.toNat ≤ gg) ∧ Aside0 (wr.heap[gm]? = some (.cells #[.int .i64 a0_0, .slice A0_1 l0_1.length c0_1] 28 (0, 0))) ∧ Aside0 (wr.heap[gf]? = some (.cells #[.int .i64 0, .int .i64 0, .int .i64 0] 94 (0, 0))) ∧ Aside0 (Below w.heap.size w wr) ∧ Aside0 (ye.l0 k l0_1 (l0_1.drop x.toNat) = some u))
  case atStart => exact ⟨0, rfl, ⟨by omega⟩, ⟨by omega⟩, ⟨pk BM.out⟩, ⟨pk BF.out⟩, ⟨(pB HB.out)⟩, ⟨HL.out⟩⟩
  clear HL
  try clear zBM0
  try clear zBM1
  obtain ⟨x, rfl, HX, HG, BM, BF, HB, HI⟩ := hrel
  by_cases hlt : x < (l0_1.length : Int)
  ·have p1 : 0 ≤ x := HX.out.1
   have l1 : decide (x < (l0_1.length : Int)) = true := decide_eq_true hlt
   obtain ⟨ad, ea, hx⟩ := Kd.at_int HR.out x p1 hlt
   cases ea
   replace hx := (HB.out.cell (World.block_lt_of_cell? w _ hx)).trans hx
   have hI := HI.out
   rw [ydz l0_1 x p1 hlt] at hI
   simp only [ye.l0] at hI
   obtain ⟨t1, hJ, hI⟩ := Option.bind_eq_some_iff.1 hI
   have HJ0 := Lib.hid hJ
   have HI1 := Lib.hid hI
   have E1 := Lib.hid (yak (n := x + 1) (by omega) (by omega))
   have Q1 := aQ hlt
   replace p1 := eq_true p1
   replace hlt := eq_true hlt
   clear HI hI hJ
   have zBM : wr.cell? ⟨gm, 1, none⟩ = some (.slice (some ad) l0_1.length c0_1) := (ya BM.out 1).trans rfl
   go_wp2_with (first | ((with_reducible refine yb (N := 5) rfl ?_); refine bx 5 #[.int .i64 0] 3 ?_; intro ga hg w1_ hbox hb; have n_BM := bb BM hb; have n_BF := bb BF hb; have n_NBMBA := aQ ((by rw [hg]; exact Nat.ne_of_lt (ybE (g := gm) (o := .cells #[.int .i64 a0_0, .slice (some ad) l0_1.length c0_1] 28 (0, 0)) (pk BM.out))) : gm ≠ ga); have n_NBFBA := aQ ((by rw [hg]; exact Nat.ne_of_lt (ybE (g := gf) (o := .cells #[.int .i64 0, .int .i64 0, .int .i64 0] 94 (0, 0)) (pk BF.out))) : gf ≠ ga); have n_HB := bs HB hb; have n_GBA := aQ ((by rw [hg]; exact yc (pB HB.out)) : w.heap.size ≤ ga); clear BM; clear BF; clear HB; have HB := n_HB; have GBA := n_GBA; have BA := aQ hbox; have BM := n_BM; have NBMBA := n_NBMBA; have BF := n_BF; have NBFBA := n_NBFBA; clear n_HB n_GBA n_BM n_NBMBA n_BF n_NBFBA; clear hb hbox hg; have zBM2 : w1_.cell? ⟨gm, 1, none⟩ = some (.slice (some ad) l0_1.length c0_1) := (ya BM.out 1).trans rfl; have zBA2 : w1_.cell? ⟨ga, 0, none⟩ = some (.int .i64 0) := (ya BA.out 0).trans rfl; have fBA := yl BA.out 0; have nBMA := NBMBA.out; have nBFA := NBFBA.out; have nBMA2 := Ne.symm nBMA; have nBFA2 := Ne.symm nBFA))
   go_loopg [28] l0_1.length (fun gg s28 wr => ∃ y : Int, s28 = .int .i64 y ∧ Aside0 (0 ≤ y ∧ y ≤ (l0_1.length : Int)) ∧ Aside0 (l0_1.length - y.toNat ≤ gg) ∧ Aside0 (wr.heap[gm]? = some (.cells #[.int .i64 a0_0, .slice (some ad) l0_1.length c0_1] 28 (0, 0))) ∧ Aside0 (wr.heap[gf]? = some (.cells #[.int .i64 0, .int .i64 0, .int .i64 0] 94 (0, 0))) ∧ Aside0 (wr.heap[ga]? = some (.cells #[.int .i64 (rd l0_1 x)] 3 (0, 0))) ∧ Aside0 (Below w.heap.size w wr) ∧ Aside0 (ye.l1 k l0_1 (rd l0_1 x) (l0_1.drop y.toNat) = some t1))
   case atStart => exact ⟨0, rfl, ⟨by omega⟩, ⟨by omega⟩, ⟨by refine pkx ?_; refine yj ?_ nBMA _; refine pkx ?_; exact BM.out⟩, ⟨by refine pkx ?_; refine yj ?_ nBFA _; refine pkx ?_; exact BF.out⟩, ⟨by refine pkx ?_; refine yh (cs := #[.int .i64 0]) ?_ 0 _ rfl; refine pkx ?_; exact BA.out⟩, ⟨(pb HB)⟩, ⟨HJ0.out⟩⟩
   clear HJ0
   try clear zBM
   try clear zBM2
   try clear zBA2
   try clear fBA
   try clear hx
   obtain ⟨y, rfl, HY, HG2, BM, BF, BA, HB, HJ⟩ := hrel
   by_cases hlt2 : y < (l0_1.length : Int)
   ·have p2 : 0 ≤ y := HY.out.1
    have l2 : decide (y < (l0_1.length : Int)) = true := decide_eq_true hlt2
    obtain ⟨ad2, ea2, hy⟩ := Kd.at_int HR.out y p2 hlt2
    obtain rfl : ad = ad2 := by injection ea2
    replace hy := (HB.out.cell (World.block_lt_of_cell? w _ hy)).trans hy
    have hJ := HJ.out
    rw [ydz l0_1 y p2 hlt2] at hJ
    simp only [ye.l1] at hJ
    obtain ⟨es, hE, hJ⟩ := Option.bind_eq_some_iff.1 hJ
    obtain ⟨t2, hK, hJ⟩ := Option.bind_eq_some_iff.1 hJ
    have HE := Lib.hid hE
    have HK0 := Lib.hid hK
    have HJ1 := Lib.hid hJ
    have E2 := Lib.hid (yak (n := y + 1) (by omega) (by omega))
    have Q2 := aQ hlt2
    replace p2 := eq_true p2
    replace hlt2 := eq_true hlt2
    clear HJ hE hK hJ ea2
    have zBM : wr.cell? ⟨gm, 1, none⟩ = some (.slice (some ad) l0_1.length c0_1) := (ya BM.out 1).trans rfl
    have zBA : wr.cell? ⟨ga, 0, none⟩ = some (.int .i64 (rd l0_1 x)) := (ya BA.out 0).trans rfl
    go_wp2_with (first | (go_at_call 104; (with_reducible refine (yz.calls k _ es _ HE.out).mono ?_); rintro e w1_ ⟨v_, rfl, ho_, hb⟩; have n_BM := bb BM hb; have n_BF := bb BF hb; have n_BA := bb BA hb; have n_HO := aQ (Kd.R_lower ho_ (yc (pB HB.out))); have n_HB := bs HB hb; clear HB; clear BM; have BM := n_BM; clear BF; have BF := n_BF; clear BA; have BA := n_BA; have HB := n_HB; have HO := n_HO; clear n_HB n_HO n_BM n_BF n_BA hb ho_; obtain ⟨AHO, cHO, eHO⟩ := Kd.R_slice HO.out; subst eHO))
    have hes : es.length ≤ 9223372036854775807 := (Kd.R_reads HO.out).elim fun _ h => h.elim fun _ h => h.2.2.2.1
    go_loopg [37] es.length (fun gg s37 wr => ∃ z : Int, s37 = .int .i64 z ∧ Aside0 (0 ≤ z ∧ z ≤ (es.length : Int)) ∧ Aside0 (es.length - z.toNat ≤ gg) ∧ Aside0 (wr.heap[gm]? = some (.cells #[.int .i64 a0_0, .slice (some ad) l0_1.length c0_1] 28 (0, 0))) ∧ Aside0 (wr.heap[gf]? = some (.cells #[.int .i64 0, .int .i64 0, .int .i64 0] 94 (0, 0))) ∧ Aside0 (wr.heap[ga]? = some (.cells #[.int .i64 (rd l0_1 x)] 3 (0, 0))) ∧ Aside0 (Below w.heap.size w wr) ∧ Aside0 (Kd.R (Kd.int .i64) 3 wr w.heap.size (fun _ => True) (.slice AHO es.length cHO) es) ∧ Aside0 (ye.l2 k l0_1 (rd l0_1 x) (rd l0_1 y) (es.drop z.toNat) = some t2))
    case atStart => exact ⟨0, rfl, ⟨by omega⟩, ⟨by omega⟩, ⟨pk BM.out⟩, ⟨pk BF.out⟩, ⟨pk BA.out⟩, ⟨(pB HB.out)⟩, ⟨pR HO.out⟩, ⟨HK0.out⟩⟩
    clear HK0 HO
    try clear zBM
    try clear zBA
    try clear hy
    obtain ⟨z, rfl, HZ, HG3, BM, BF, BA, HB, HO, HK⟩ := hrel
    by_cases hlt3 : z < (es.length : Int)
    ·have p3 : 0 ≤ z := HZ.out.1
     have l3 : decide (z < (es.length : Int)) = true := decide_eq_true hlt3
     obtain ⟨ad3, ea3, hz⟩ := Kd.at_int ((Kd.R_reads' HO.out).2.2) z p3 hlt3
     cases ea3
     have hK := HK.out
     rw [ydz es z p3 hlt3] at hK
     simp only [ye.l2] at hK
     obtain ⟨fs, hE, hK⟩ := Option.bind_eq_some_iff.1 hK
     obtain ⟨tb, hA, hK⟩ := Option.bind_eq_some_iff.1 hK
     have HE2 := Lib.hid hE
     have HA := Lib.hid hA
     have HK1 := Lib.hid hK
     have E3 := Lib.hid (yak (n := z + 1) (by omega) (by omega))
     have Q3 := aQ hlt3
     replace p3 := eq_true p3
     replace hlt3 := eq_true hlt3
     clear HK hE hA hK
     have zBM : wr.cell? ⟨gm, 1, none⟩ = some (.slice (some ad) l0_1.length c0_1) := (ya BM.out 1).trans rfl
     have zBA : wr.cell? ⟨ga, 0, none⟩ = some (.int .i64 (rd l0_1 x)) := (ya BA.out 0).trans rfl
     go_wp2_with (first | ((with_reducible refine yb (N := 9) rfl ?_); refine bx 9 #[.int .i64 0] 3 ?_; intro ge hg w1_ hbox hb; have n_BM := bb BM hb; have n_BF := bb BF hb; have n_BA := bb BA hb; have n_NBMBE := aQ ((by rw [hg]; exact Nat.ne_of_lt (ybE (g := gm) (o := .cells #[.int .i64 a0_0, .slice (some ad) l0_1.length c0_1] 28 (0, 0)) (pk BM.out))) : gm ≠ ge); have n_NBFBE := aQ ((by rw [hg]; exact Nat.ne_of_lt (ybE (g := gf) (o := .cells #[.int .i64 0, .int .i64 0, .int .i64 0] 94 (0, 0)) (pk BF.out))) : gf ≠ ge); have n_NBABE := aQ ((by rw [hg]; exact Nat.ne_of_lt (ybE (g := ga) (o := .cells #[.int .i64 (rd l0_1 x)] 3 (0, 0)) (pk BA.out))) : ga ≠ ge); have n_HB := bs HB hb; have n_GBE := aQ ((by rw [hg]; exact yc (pB HB.out)) : w.heap.size ≤ ge); replace HO := aQ (Kd.R_below (Kd.R_elderB (pR HO.out) ge (by rw [hg]; exact Nat.le_refl _)) hb); clear BM BF BA; clear HB; have HB := n_HB; have GBE := n_GBE; have BE := aQ hbox; have BM := n_BM; have NBMBE := n_NBMBE; have BF := n_BF; have NBFBE := n_NBFBE; have BA := n_BA; have NBABE := n_NBABE; clear n_HB n_GBE n_BM n_NBMBE n_BF n_NBFBE n_BA n_NBABE; clear hb hbox hg; have zBA3 : w1_.cell? ⟨ga, 0, none⟩ = some (.int .i64 (rd l0_1 x)) := (ya BA.out 0).trans rfl; have zBE3 : w1_.cell? ⟨ge, 0, none⟩ = some (.int .i64 0) := (ya BE.out 0).trans rfl; have fBE := yl BE.out 0; have nBME := NBMBE.out; have nBFE := NBFBE.out; have nBAE := NBABE.out; have nBME2 := Ne.symm nBME; have nBFE2 := Ne.symm nBFE; have nBAE2 := Ne.symm nBAE) | (go_at_call 104; (with_reducible refine (yz.calls k _ fs _ HE2.out).mono ?_); rintro e w1_ ⟨v_, rfl, ho_, hb⟩; have n_BM := aQ (yab (g := gm) (o := .cells #[.int .i64 a0_0, .slice (some ad) l0_1.length c0_1] 28 (0, 0)) (by refine pkx ?_; refine yj ?_ nBME _; refine pkx ?_; exact BM.out) hb); have n_BF := aQ (yab (g := gf) (o := .cells #[.int .i64 0, .int .i64 0, .int .i64 0] 94 (0, 0)) (by refine pkx ?_; refine yj ?_ nBFE _; refine pkx ?_; exact BF.out) hb); have n_BA := aQ (yab (g := ga) (o := .cells #[.int .i64 (rd l0_1 x)] 3 (0, 0)) (by refine pkx ?_; refine yj ?_ nBAE _; refine pkx ?_; exact BA.out) hb); have n_BE := aQ (yab (g := ge) (o := .cells #[.int .i64 (rd es z)] 3 (0, 0)) (by refine pkx ?_; refine yh (cs := #[.int .i64 0]) ?_ 0 _ rfl; refine pkx ?_; exact BE.out) hb); have n_HO := aQ (Kd.R_below (Kd.R_mono (Kd.R_far (p := ⟨ge, 0, none⟩) (pR HO.out) (fun k_ (hk : True ∧ k_ ≠ ge) => hk.2) (.int .i64 (rd es z))) (fun _ _ => trivial)) hb); have n_HP := aQ (Kd.R_lower ho_ (yc (pb HB))); have n_HB := bs HB hb; clear HB; clear BM; have BM := n_BM; clear BF; have BF := n_BF; clear BA; have BA := n_BA; clear BE; have BE := n_BE; clear HO; have HO := n_HO; have HB := n_HB; have HP := n_HP; clear n_HB n_HP n_HO n_BM n_BF n_BA n_BE hb ho_; obtain ⟨AHP, cHP, eHP⟩ := Kd.R_slice HP.out; subst eHP))
     (with_reducible refine (ydC (fun f => ye.c k l0_1 (rd l0_1 x) (rd es z) f) 147 _ EG.out _ _ fs tb _ (Kd.R_reads' HP.out).2.2 HA.out (fun W f b hb hg => ycX (by simp) (ydc k a0_0 (some ad) c0_1 l0_1 (rd l0_1 x) (rd es z) f b gm ga ge W (Kd.C_below (Kd.C_below HR.out HB.out) hb) HC.out (yab BM.out hb) (yab BA.out hb) (yab BE.out hb) hg))).mono ?_)
     rintro e w9_ ⟨rfl, hb⟩
     have n_BM := aQ (yab BM.out hb)
     have n_BF := aQ (yab BF.out hb)
     have n_BA := aQ (yab BA.out hb)
     have n_BE := aQ (yab BE.out hb)
     have n_HO := aQ (Kd.R_below HO.out hb)
     have n_HB := aQ (ybY HB.out hb)
     clear BM BF BA BE HO HB HP hb
     have BM := n_BM
     clear n_BM
     have BF := n_BF
     clear n_BF
     have BA := n_BA
     clear n_BA
     have BE := n_BE
     clear n_BE
     have HO := n_HO
     clear n_HO
     have HB := n_HB
     clear n_HB
     have hk1 := HK1.out
     clear HK1 HA HE2
     cases tb with
     | true =>
      rw [if_pos rfl] at hk1
      have HK2 := Lib.hid hk1
      clear hk1
      go_wp2
      go_roundg (es.length - (z + 1).toNat)
      case measure => have := HG3.out; have := HZ.out; have := Q3.out; omega
      case rel => exact ⟨z + 1, by rw [E3.out], ⟨by have := HZ.out; have := Q3.out; omega⟩, ⟨Nat.le_refl _⟩, ⟨pk BM.out⟩, ⟨pk BF.out⟩, ⟨pk BA.out⟩, ⟨(pB HB.out)⟩, ⟨pR HO.out⟩, ⟨HK2.out⟩⟩
     | false =>
      rw [if_neg (by decide)] at hk1
      simp only [Option.some.injEq] at hk1
      subst hk1
      have hj := HJ1.out
      simp only [Option.some.injEq] at hj
      subst hj
      have hi := HI1.out
      simp only [Option.some.injEq] at hi
      subst hi
      have hu := HU.out
      simp only [Option.some.injEq, Prod.mk.injEq] at hu
      obtain ⟨rfl, rfl, rfl, rfl⟩ := hu
      clear HJ1 HI1 HU
      have zBA4 : w9_.cell? ⟨ga, 0, none⟩ = some (.int .i64 (rd l0_1 x)) := (ya BA.out 0).trans rfl
      have zBE4 : w9_.cell? ⟨ge, 0, none⟩ = some (.int .i64 (rd es z)) := (ya BE.out 0).trans rfl
      have zBF0 : w9_.cell? ⟨gf, 0, none⟩ = some (.int .i64 0) := (ya BF.out 0).trans rfl
      have zBF1 : w9_.cell? ⟨gf, 1, none⟩ = some (.int .i64 0) := (ya BF.out 1).trans rfl
      have zBF2 : w9_.cell? ⟨gf, 2, none⟩ = some (.int .i64 0) := (ya BF.out 2).trans rfl
      have fBF0 := yl BF.out 0
      have fBF1 := yl BF.out 1
      have fBF2 := yl BF.out 2
      go_wp2
      refine bodyPost_ret (ya7 rfl _ _ gf 94 #[.int .i64 (rd l0_1 x), .int .i64 (rd l0_1 y), .int .i64 (rd es z)] (0, 0) _ rfl (by refine pkx ?_; refine yh (cs := #[.int .i64 (rd l0_1 x), .int .i64 (rd l0_1 y), .int .i64 0]) ?_ 2 _ rfl; refine pkx ?_; refine yh (cs := #[.int .i64 (rd l0_1 x), .int .i64 0, .int .i64 0]) ?_ 1 _ rfl; refine pkx ?_; refine yh (cs := #[.int .i64 0, .int .i64 0, .int .i64 0]) ?_ 0 _ rfl; refine pkx ?_; exact BF.out) Try.underlying94 rfl (by kernel_rfl)) rfl ?_
      exact ⟨rs_, (pb HB)⟩
    ·have l3 : decide (z < (es.length : Int)) = false := decide_eq_false hlt3
     have hK := HK.out
     rw [yb9 es z hlt3] at hK
     simp only [ye.l2, Option.some.injEq] at hK
     subst hK
     have hj := HJ1.out
     have HJ2 := Lib.hid (show ye.l1 k l0_1 (rd l0_1 x) (l0_1.drop (y + 1).toNat) = some t1 from hj)
     clear hj HJ1 HK hlt3
     go_wp2
     go_roundg (l0_1.length - (y + 1).toNat)
     case measure => have := HG2.out; have := HY.out; have := Q2.out; omega
     case rel => exact ⟨y + 1, by rw [E2.out], ⟨by have := HY.out; have := Q2.out; omega⟩, ⟨Nat.le_refl _⟩, ⟨pk BM.out⟩, ⟨pk BF.out⟩, ⟨pk BA.out⟩, ⟨(pB HB.out)⟩, ⟨HJ2.out⟩⟩
   ·have l2 : decide (y < (l0_1.length : Int)) = false := decide_eq_false hlt2
    have hJ := HJ.out
    rw [yb9 l0_1 y hlt2] at hJ
    simp only [ye.l1, Option.some.injEq] at hJ
    subst hJ
    have hi := HI1.out
    have HI2 := Lib.hid (show ye.l0 k l0_1 (l0_1.drop (x + 1).toNat) = some u from hi)
    clear hi HI1 HJ hlt2
    go_wp2
    go_roundg (l0_1.length - (x + 1).toNat)
    case measure => have := HG.out; have := HX.out; have := Q1.out; omega
    case rel => exact ⟨x + 1, by rw [E1.out], ⟨by have := HX.out; have := Q1.out; omega⟩, ⟨Nat.le_refl _⟩, ⟨pk BM.out⟩, ⟨pk BF.out⟩, ⟨(pB HB.out)⟩, ⟨HI2.out⟩⟩
  ·have l1 : decide (x < (l0_1.length : Int)) = false := decide_eq_false hlt
   have hI := HI.out
   rw [yb9 l0_1 x hlt] at hI
   simp only [ye.l0, Option.some.injEq] at hI
   subst hI
   have hu := HU.out
   simp only [Option.some.injEq, Prod.mk.injEq] at hu
   obtain ⟨rfl, rfl, rfl, rfl⟩ := hu
   clear HI hlt HU
   have zBF0 : wr.cell? ⟨gf, 0, none⟩ = some (.int .i64 0) := (ya BF.out 0).trans rfl
   have zBF1 : wr.cell? ⟨gf, 1, none⟩ = some (.int .i64 0) := (ya BF.out 1).trans rfl
   have zBF2 : wr.cell? ⟨gf, 2, none⟩ = some (.int .i64 0) := (ya BF.out 2).trans rfl
   have fBF0 := yl BF.out 0
   have fBF1 := yl BF.out 1
   have fBF2 := yl BF.out 2
   go_wp2
   refine bodyPost_ret (ya7 rfl _ _ gf 94 #[.int .i64 0, .int .i64 0, .int .i64 0] (0, 0) _ rfl (by refine pkx ?_; refine yh (cs := #[.int .i64 0, .int .i64 0, .int .i64 0]) ?_ 2 _ rfl; refine pkx ?_; refine yh (cs := #[.int .i64 0, .int .i64 0, .int .i64 0]) ?_ 1 _ rfl; refine pkx ?_; refine yh (cs := #[.int .i64 0, .int .i64 0, .int .i64 0]) ?_ 0 _ rfl; refine pkx ?_; exact BF.out) Try.underlying94 rfl (by kernel_rfl)) rfl ?_
   exact ⟨rs_, (pb HB)⟩
 ·have c4 := Bool.eq_false_iff.mpr c3
  subst c4
  clear c3
  rw [if_neg (by decide)] at H
  simp only [Option.some.injEq, Prod.mk.injEq] at H
  obtain ⟨rfl, rfl, rfl, rfl⟩ := H
  go_enter Try.func116, Try.ntmps116
  go_wp2_with (first | ((with_reducible refine yb (N := 1) rfl ?_); refine bx 1 #[.int .i64 a0_0, .slice A0_1 l0_1.length c0_1] 28 ?_; intro gm hg w1_ hbox hb; have n_HB := bs HB hb; have n_GBM := aQ ((by rw [hg]; exact yc (pB HB.out)) : w.heap.size ≤ gm); clear HB; have HB := n_HB; have GBM := n_GBM; have BM := aQ hbox; clear n_HB n_GBM; clear hb hbox hg; have zBM0 : w1_.cell? ⟨gm, 0, none⟩ = some (.int .i64 a0_0) := (ya BM.out 0).trans rfl; have zBM1 : w1_.cell? ⟨gm, 1, none⟩ = some (.slice A0_1 l0_1.length c0_1) := (ya BM.out 1).trans rfl) | ((with_reducible refine yb (N := 2) rfl ?_); refine bx 2 #[.int .i64 0, .int .i64 0, .int .i64 0] 94 ?_; intro gf hg w1_ hbox hb; have n_BM := bb BM hb; have n_NBMBF := aQ ((by rw [hg]; exact Nat.ne_of_lt (ybE (g := gm) (o := .cells #[.int .i64 a0_0, .slice A0_1 l0_1.length c0_1] 28 (0, 0)) (pk BM.out))) : gm ≠ gf); have n_HB := bs HB hb; have n_GBF := aQ ((by rw [hg]; exact yc (pB HB.out)) : w.heap.size ≤ gf); clear BM; clear HB; have HB := n_HB; have GBF := n_GBF; have BF := aQ hbox; have BM := n_BM; have NBMBF := n_NBMBF; clear n_HB n_GBF n_BM n_NBMBF; clear hb hbox hg; have zBM0 : w1_.cell? ⟨gm, 0, none⟩ = some (.int .i64 a0_0) := (ya BM.out 0).trans rfl; have zBM1 : w1_.cell? ⟨gm, 1, none⟩ = some (.slice A0_1 l0_1.length c0_1) := (ya BM.out 1).trans rfl; have zBF0 : w1_.cell? ⟨gf, 0, none⟩ = some (.int .i64 0) := (ya BF.out 0).trans rfl; have fBF0 := yl BF.out 0; have zBF1 : w1_.cell? ⟨gf, 1, none⟩ = some (.int .i64 0) := (ya BF.out 1).trans rfl; have fBF1 := yl BF.out 1; have zBF2 : w1_.cell? ⟨gf, 2, none⟩ = some (.int .i64 0) := (ya BF.out 2).trans rfl; have fBF2 := yl BF.out 2) | (go_at_call 117; (with_reducible refine (yah.calls k a0_0 _ _ l0_1 false _ ?side1 ?side2 HF.out).mono ?_); (case side1 => exact pC (Kd.C_below HR.out HB.out)); (case side2 => exact HC.out); rintro e w' ⟨rfl, ⟨nd, rfl⟩⟩))
  refine bodyPost_ret (ya7 rfl _ _ gf 94 #[.int .i64 0, .int .i64 0, .int .i64 0] (0, 0) _ rfl (by refine pkx ?_; refine yh (cs := #[.int .i64 0, .int .i64 0, .int .i64 0]) ?_ 2 _ rfl; refine pkx ?_; refine yh (cs := #[.int .i64 0, .int .i64 0, .int .i64 0]) ?_ 1 _ rfl; refine pkx ?_; refine yh (cs := #[.int .i64 0, .int .i64 0, .int .i64 0]) ?_ 0 _ rfl; refine pkx ?_; exact BF.out) Try.underlying94 rfl (by kernel_rfl)) rfl ?_
  exact ⟨rs_, (pb HB)⟩
end Go.Proofs.Ytimkekeaeojpkaa.A
namespace Go.Proofs.Ytimkekeaeojpkaa.A
open Go.RowKit Go.Proofs.YtimkekeaeojpkaaW.PrintWords Go.Proofs.YtimkekeaeojpkaaW.PrintLast Go.Proofs.YtimkekeaeojpkaaW.PrintMore
attribute [local go_sem] ya8 yba ybm ybn yaY yaX ya6 ya9
set_option linter.unusedVariables false
set_option linter.unusedSimpArgs false
def yaN.f (k : Nat) (a0_0 : Int) (l0_1 : List Int) : Option (Bool) := (ye.f k a0_0 l0_1).bind fun btq0 => ((yah.f k a0_0 l0_1).bind fun tq1 => (if tq1 = true then (if (l0_1.length : Int) > 0 then (some (!btq0.2.2.2)) else (some false)) else (some false)))
theorem yaN.calls (k : Nat) (a0_0 : Int) (A0_1 : Option Addr) (c0_1 : Nat) (l0_1 : List Int) (r : Bool) (w : World) (hr0_1 : Kd.C (Kd.int .i64) w A0_1 l0_1.length l0_1) (hc0_1 : l0_1.length ≤ c0_1) (h : yaN.f k a0_0 l0_1 = some r) :
  Calls Try.prog 62 #[.agg #[.int .i64 a0_0, .slice A0_1 l0_1.length c0_1]] w fun e w' => e = .returned (.bool r) ∧ Below w.heap.size w w' := by
 have hu28 := Try.underlying28
 have hu94 := Try.underlying94
 have HR0_1 := aQ hr0_1
 have HC0_1 := aQ hc0_1
 clear hr0_1 hc0_1
 have HB := aQ (Below.refl w.heap.size w)
 have H := h
 clear h
 unfold yaN.f at H
 (try dsimp only at H)
 replace H := bo H; obtain ⟨⟨tq0, tq2, tq3, tq4⟩, A2, H⟩ := H
 (try dsimp only at H)
 replace H := bo H; obtain ⟨tq1, A3, H⟩ := H
 (try dsimp only at H)
 by_cases c4 : tq1 = true
 ·subst c4
  rw [if_pos rfl] at H
  by_cases c5 : (l0_1.length : Int) > 0
  ·rw [if_pos c5] at H
   have c5b0 := decide_eq_true c5
   have c5b1 : decide (0 < l0_1.length) = true := decide_eq_true (by omega)
   clear c5
   obtain rfl := Option.some.inj H
   go_enter Try.func62, Try.ntmps62
   go_wp2_with (first | ((with_reducible refine yb (N := 1) rfl ?_); (try (refine yae (by rfl) ?_; dsimp only)); refine bx 1 #[.int .i64 a0_0, .slice A0_1 l0_1.length c0_1] 28 ?_; intro gbq5 hg w6 hbox hb; have BKq5 := aQ (hbox); have GWq5 := gB HB hg; have GEq5 := gB HB hg; replace HB := bs HB hb; clear hb hbox hg; obtain ⟨hcz7_0, hcz7_1, hfz7_0, hfz7_1⟩ := c2 BKq5) | (refine gq 116 (some 7) Try.func116 #[.agg #[.int .i64 a0_0, .slice A0_1 l0_1.length c0_1]] ?_; (with_reducible refine (ye.calls k a0_0 _ _ l0_1 tq0 tq2 tq3 tq4 _ ?side1 ?side2 A2.out).mono ?_); (case side1 => exact pC (Kd.C_below HR0_1.out HB.out)); (case side2 => exact HC0_1.out); rintro e w8 ⟨rfl, hb⟩; refine ⟨_, rfl, ?_⟩; replace BKq5 := bb BKq5 hb; replace HB := bs HB hb; (try clear hb)) | ((with_reducible refine yb (N := 3) rfl ?_); (try (refine yae (by rfl) ?_; dsimp only)); refine bx 3 #[.int .i64 0, .int .i64 0, .int .i64 0] 94 ?_; intro gbq6 hg w9 hbox hb; have BKq6 := aQ (hbox); have GWq6 := gB HB hg; have GEq6 := gB HB hg; replace HB := bs HB hb; have NBq5_q6 := nl BKq5 hg; have NBq6_q5 := ng BKq5 hg; replace BKq5 := bb BKq5 hb; clear hb hbox hg; have hnb10 := NBq6_q5.out; have hnc10 := NBq5_q6.out; have hcz11_0 := bc (v := (.int .i64 0)) BKq6.out 0; have hcz11_1 := bc (v := (.int .i64 0)) BKq6.out 1; have hcz11_2 := bc (v := (.int .i64 0)) BKq6.out 2; have hfz11_0 := yl BKq6.out 0; have hfz11_1 := yl BKq6.out 1; have hfz11_2 := yl BKq6.out 2; obtain ⟨hcz12_0, hcz12_1, hfz12_0, hfz12_1⟩ := c2 BKq5) | (refine gq 117 (some 14) Try.func117 #[.int .i64 a0_0, .slice A0_1 l0_1.length c0_1] ?_; (with_reducible refine (yah.calls k a0_0 _ _ l0_1 true _ ?side1 ?side2 A3.out).mono ?_); (case side1 => exact Kd.C_below HR0_1.out (pB2 HB.out GEq5.out GEq6.out)); (case side2 => exact HC0_1.out); rintro e w' ⟨rfl, ⟨nd, rfl⟩⟩; refine ⟨_, rfl, ?_⟩))
   go_ret
   exact ⟨re_, pB2 HB.out GEq5.out GEq6.out⟩
  ·rw [if_neg c5] at H
   have c5b0 := decide_eq_false c5
   have c5b1 : decide (0 < l0_1.length) = false := decide_eq_false (by omega)
   clear c5
   obtain rfl := Option.some.inj H
   go_enter Try.func62, Try.ntmps62
   go_wp2_with (first | ((with_reducible refine yb (N := 1) rfl ?_); (try (refine yae (by rfl) ?_; dsimp only)); refine bx 1 #[.int .i64 a0_0, .slice A0_1 l0_1.length c0_1] 28 ?_; intro gbq5 hg w13 hbox hb; have BKq5 := aQ (hbox); have GWq5 := gB HB hg; have GEq5 := gB HB hg; replace HB := bs HB hb; clear hb hbox hg; obtain ⟨hcz14_0, hcz14_1, hfz14_0, hfz14_1⟩ := c2 BKq5) | (refine gq 116 (some 7) Try.func116 #[.agg #[.int .i64 a0_0, .slice A0_1 l0_1.length c0_1]] ?_; (with_reducible refine (ye.calls k a0_0 _ _ l0_1 tq0 tq2 tq3 tq4 _ ?side1 ?side2 A2.out).mono ?_); (case side1 => exact pC (Kd.C_below HR0_1.out HB.out)); (case side2 => exact HC0_1.out); rintro e w15 ⟨rfl, hb⟩; refine ⟨_, rfl, ?_⟩; replace BKq5 := bb BKq5 hb; replace HB := bs HB hb; (try clear hb)) | ((with_reducible refine yb (N := 3) rfl ?_); (try (refine yae (by rfl) ?_; dsimp only)); refine bx 3 #[.int .i64 0, .int .i64 0, .int .i64 0] 94 ?_; intro gbq6 hg w16 hbox hb; have BKq6 := aQ (hbox); have GWq6 := gB HB hg; have GEq6 := gB HB hg; replace HB := bs HB hb; have NBq5_q6 := nl BKq5 hg; have NBq6_q5 := ng BKq5 hg; replace BKq5 := bb BKq5 hb; clear hb hbox hg; have hnb17 := NBq6_q5.out; have hnc17 := NBq5_q6.out; have hcz18_0 := bc (v := (.int .i64 0)) BKq6.out 0; have hcz18_1 := bc (v := (.int .i64 0)) BKq6.out 1; have hcz18_2 := bc (v := (.int .i64 0)) BKq6.out 2; have hfz18_0 := yl BKq6.out 0; have hfz18_1 := yl BKq6.out 1; have hfz18_2 := yl BKq6.out 2; obtain ⟨hcz19_0, hcz19_1, hfz19_0, hfz19_1⟩ := c2 BKq5) | (refine gq 117 (some 14) Try.func117 #[.int .i64 a0_0, .slice A0_1 l0_1.length c0_1] ?_; (with_reducible refine (yah.calls k a0_0 _ _ l0_1 true _ ?side1 ?side2 A3.out).mono ?_); (case side1 => exact Kd.C_below HR0_1.out (pB2 HB.out GEq5.out GEq6.out)); (case side2 => exact HC0_1.out); rintro e w' ⟨rfl, ⟨nd, rfl⟩⟩; refine ⟨_, rfl, ?_⟩))
   go_ret
   exact ⟨re_, pB2 HB.out GEq5.out GEq6.out⟩
 ·replace c4 := Bool.eq_false_iff.mpr c4
  subst c4
  have H1 : (some false) = some r := by rw [if_neg (show ¬ (false = true) by decide)] at H; exact H
  clear H
  have H := H1
  clear H1
  obtain rfl := Option.some.inj H
  go_enter Try.func62, Try.ntmps62
  go_wp2_with (first | ((with_reducible refine yb (N := 1) rfl ?_); (try (refine yae (by rfl) ?_; dsimp only)); refine bx 1 #[.int .i64 a0_0, .slice A0_1 l0_1.length c0_1] 28 ?_; intro gbq5 hg w20 hbox hb; have BKq5 := aQ (hbox); have GWq5 := gB HB hg; have GEq5 := gB HB hg; replace HB := bs HB hb; clear hb hbox hg; obtain ⟨hcz21_0, hcz21_1, hfz21_0, hfz21_1⟩ := c2 BKq5) | (refine gq 116 (some 7) Try.func116 #[.agg #[.int .i64 a0_0, .slice A0_1 l0_1.length c0_1]] ?_; (with_reducible refine (ye.calls k a0_0 _ _ l0_1 tq0 tq2 tq3 tq4 _ ?side1 ?side2 A2.out).mono ?_); (case side1 => exact pC (Kd.C_below HR0_1.out HB.out)); (case side2 => exact HC0_1.out); rintro e w22 ⟨rfl, hb⟩; refine ⟨_, rfl, ?_⟩; replace BKq5 := bb BKq5 hb; replace HB := bs HB hb; (try clear hb)) | ((with_reducible refine yb (N := 3) rfl ?_); (try (refine yae (by rfl) ?_; dsimp only)); refine bx 3 #[.int .i64 0, .int .i64 0, .int .i64 0] 94 ?_; intro gbq6 hg w23 hbox hb; have BKq6 := aQ (hbox); have GWq6 := gB HB hg; have GEq6 := gB HB hg; replace HB := bs HB hb; have NBq5_q6 := nl BKq5 hg; have NBq6_q5 := ng BKq5 hg; replace BKq5 := bb BKq5 hb; clear hb hbox hg; have hnb24 := NBq6_q5.out; have hnc24 := NBq5_q6.out; have hcz25_0 := bc (v := (.int .i64 0)) BKq6.out 0; have hcz25_1 := bc (v := (.int .i64 0)) BKq6.out 1; have hcz25_2 := bc (v := (.int .i64 0)) BKq6.out 2; have hfz25_0 := yl BKq6.out 0; have hfz25_1 := yl BKq6.out 1; have hfz25_2 := yl BKq6.out 2; obtain ⟨hcz26_0, hcz26_1, hfz26_0, hfz26_1⟩ := c2 BKq5) | (refine gq 117 (some 14) Try.func117 #[.int .i64 a0_0, .slice A0_1 l0_1.length c0_1] ?_; (with_reducible refine (yah.calls k a0_0 _ _ l0_1 false _ ?side1 ?side2 A3.out).mono ?_); (case side1 => exact Kd.C_below HR0_1.out (pB2 HB.out GEq5.out GEq6.out)); (case side2 => exact HC0_1.out); rintro e w' ⟨rfl, ⟨nd, rfl⟩⟩; refine ⟨_, rfl, ?_⟩))
  go_ret
  exact ⟨re_, pB2 HB.out GEq5.out GEq6.out⟩
def yaF.f (a0 : Int) : Option (Int) := (ya5.f a0).bind fun tq0 => (if tq0 = true then (if 0 ≤ a0 then (some (wrap64 ((shl .i64 1 a0) - 1))) else (none)) else (some 0))
theorem yaF.calls (a0 : Int) (r : Int) (w : World) (h : yaF.f a0 = some r) :
  Calls Try.prog 83 #[.int .i64 a0] w fun e w' => e = .returned (.int .i64 r) ∧ Drawn0 w w' := by
 have H := h
 clear h
 unfold yaF.f at H
 (try dsimp only at H)
 replace H := bo H; obtain ⟨tq0, A2, H⟩ := H
 (try dsimp only at H)
 by_cases c3 : tq0 = true
 ·subst c3
  rw [if_pos rfl] at H
  replace H := gd H; obtain ⟨c4, H⟩ := H
  have c4b0 := eq_true c4
  have c4b1 := decide_eq_true c4
  clear c4
  obtain ⟨ji5, hji5⟩ : ∃ j_ : Int, (shl .i64 1 a0) = j_ := ⟨_, rfl⟩
  replace H : (some (wrap64 ((ji5) - 1))) = some r := by first | (rw [hji5] at H; exact H) | (simp only [hji5] at H ⊢; exact H)
  (try rw [hji5] at A2)
  have hji5_ : (IntKind.i64.wrap (1 * 2 ^ min a0.toNat 64)) = ji5 := hji5
  have hji5z : a0 ≤ 64 → (IntKind.i64.wrap (1 * 2 ^ a0.toNat)) = ji5 := ybA hji5
  have hji5u : (IntKind.i64.wrap (2 ^ min a0.toNat 64)) = ji5 := by have h_ := hji5_; rw [Int.one_mul] at h_; exact h_
  have hji5v : a0 ≤ 64 → (IntKind.i64.wrap (2 ^ a0.toNat)) = ji5 := fun hle_ => by have h_ := hji5z hle_; rw [Int.one_mul] at h_; exact h_
  have hji5y : (wrap64 (1 * 2 ^ min a0.toNat 64)) = ji5 := (i64_w _).symm.trans hji5_
  have hji5x : a0 ≤ 64 → (wrap64 (1 * 2 ^ a0.toNat)) = ji5 := fun h_ => (i64_w _).symm.trans (hji5z h_)
  obtain rfl := Option.some.inj H
  go_enter Try.func83, Try.ntmps83
  go_wp2_with (first | (refine gq 137 (some 4) Try.func137 #[.int .i64 a0] ?_; (with_reducible refine (ya5.calls a0 true _ A2.out).mono ?_); rintro e w' ⟨rfl, ⟨nd, rfl⟩⟩; refine ⟨_, rfl, ?_⟩))
  go_ret
  exact ⟨by first | rfl | (simp; done) | (simp only [← hji5] <;> (first | rfl | simp)) | (simp [*]; done), rd_⟩
 ·replace c3 := Bool.eq_false_iff.mpr c3
  subst c3
  have H1 : (some 0) = some r := by rw [if_neg (show ¬ (false = true) by decide)] at H; exact H
  clear H
  have H := H1
  clear H1
  obtain rfl := Option.some.inj H
  go_enter Try.func83, Try.ntmps83
  go_wp2_with (first | (refine gq 137 (some 4) Try.func137 #[.int .i64 a0] ?_; (with_reducible refine (ya5.calls a0 false _ A2.out).mono ?_); rintro e w' ⟨rfl, ⟨nd, rfl⟩⟩; refine ⟨_, rfl, ?_⟩))
  go_ret
  exact ⟨rs_, rd_⟩
end Go.Proofs.Ytimkekeaeojpkaa.A
namespace Go.Proofs.Ytimkekeaeojpkaa.A
open Go.RowKit Go.Proofs.YtimkekeaeojpkaaW.PrintWords Go.Proofs.YtimkekeaeojpkaaW.PrintLast Go.Proofs.YtimkekeaeojpkaaW.PrintMore Go.Proofs.Ytimkekeaeojpkaa.Z
attribute [local go_sem] ya8 yba ybm ybn yaY yaX ya6 ya9
set_option linter.unusedVariables false
set_option linter.unusedSimpArgs false
set_option maxHeartbeats 4000000 in
theorem yfA (g : Int → Option Bool) (K : Nat) (lb : Array Value) (eg : ∀ args w, (callFunc K args).run Try.prog w = .ok (.enter K args) w) (n m : Int) (r : List Int) (w : World)
  (hf : yaF.f n = some m) (h0 : 0 ≤ m) (h1 : m ≤ 1000) (h : yfw g m = some r)
  (hp : ∀ (W : World) (x : Int) (b : Bool), Below w.heap.size w W → g x = some b → Calls Try.prog K (#[.int .i64 x] ++ lb) W fun e w' => e = .returned (.bool b) ∧ Below W.heap.size W w') :
  Calls Try.prog 101 #[.int .i64 n, .func (.func K) #[] lb] w fun e w' => ∃ v0_ : Value, e = .returned (v0_) ∧ Kd.R (Kd.int .i64) 3 w' w.heap.size (fun _ => True) v0_ r ∧ Below w.heap.size w w' := by
 have HB := aQ (Below.refl w.heap.size w)
 have HP := Lib.hid hp
 have HF := aQ hf
 have HI := Lib.hid h
 clear hf h hp
 go_enter Try.func101, Try.ntmps101
 go_wp2_with (first | ((with_reducible refine yb (N := 7) rfl ?_); refine Kd.R_lit (Kd.int .i64) _ 3 ?hg (N := 7) ?hd (xs := ([] : List Int)) (inner := []) (ok := fun _ => True) (okp := fun _ => True) ?hr ?hp (fun _ hk => hk) trivial (Below.refl _ _) (Nat.le_refl _) (by simp) ?_; (case hd => rfl); (case hg => rfl); (case hr => first | (go_simp; done) | (go_simp; rfl)); (case hp => exact (Reps.none _ _)); intro v9_ w2 ho3 hb hg_ hnew_; clear hg_ hnew_; have HO := aQ (Kd.R_lower ho3 (yc (pB HB.out))); replace HB := bs HB hb; clear hb ho3))
 go_loopg [5, 6] (m + 1).toNat (fun gg v5 v6 wr => ∃ (x : Int) (acc rest : List Int), v6 = .int .i64 x ∧ Aside0 (0 ≤ x ∧ x ≤ m + 1) ∧ Aside0 ((m + 1).toNat - x.toNat ≤ gg) ∧ Aside0 (acc.length ≤ x.toNat) ∧ Aside0 (yb8 g (ycG x m) = some rest) ∧ Aside0 (acc ++ rest = r) ∧ Aside0 (Kd.R (Kd.int .i64) 3 wr w.heap.size (fun _ => True) v5 acc) ∧ Aside0 (Below w.heap.size w wr))
 case atStart => exact ⟨0, [], r, rfl, ⟨by omega⟩, ⟨by omega⟩, ⟨by simp⟩, ⟨HI.out⟩, ⟨rfl⟩, ⟨pR HO.out⟩, ⟨pB HB.out⟩⟩
 clear HI HO HB
 obtain ⟨x, acc, rest, rfl, HX, HG, HA, HI, HE, HO, HB⟩ := hrel
 by_cases hlt : x ≤ m
 ·have l1 : decide (x ≤ m) = true := decide_eq_true hlt
  have hI := HI.out
  rw [yfO HX.out.1 hlt] at hI
  simp only [yb8] at hI
  obtain ⟨b, hgb, hI⟩ := Option.bind_eq_some_iff.1 hI
  obtain ⟨ys, hys, hI⟩ := Option.bind_eq_some_iff.1 hI
  have HG2 := Lib.hid hgb
  have HY := Lib.hid hys
  have HC := Lib.hid hI
  have E1 := Lib.hid (yak (n := x + 1) (by have := HX.out; omega) (by omega))
  have Q1 := aQ hlt
  clear HI hgb hys hI
  replace hlt := eq_true hlt
  go_wp2_with (first | (go_at_call 83; (with_reducible refine (yaF.calls n m _ HF.out).mono ?_); rintro e w' ⟨rfl, ⟨nd, rfl⟩⟩))
  refine (HP.out _ x b (pB HB.out) HG2.out).mono ?_
  rintro e w3_ ⟨rfl, hb⟩
  have n0_ := aQ (Kd.R_below (pR HO.out) hb)
  have n1_ := bs HB hb
  clear HO HB hb
  have HO := n0_
  have HB := n1_
  clear n0_ n1_ HG2
  have hc := HC.out
  clear HC
  cases b with
  | true =>
   rw [if_pos rfl] at hc
   simp only [Option.some.injEq] at hc
   have HR2 := Lib.hid hc
   have HLM := aQ (show acc.length < 17592186044416 by have := HA.out; have := HX.out; have := Q1.out; omega)
   clear hc
   go_wp2_with (first | ((with_reducible refine yO (b := .append) (xs := #[.tmp 17, .tmp 19]) rfl ?_); at_builtin; refine Kd.R_append (Kd.int .i64) (w0 := w) w.heap.size rfl (.tmp 17) (.tmp 19) 22 3 (.int .i64 0) 8 rfl Try.underlying22 yaU rfl (by decide) (by omega) u5 acc x [.int .i64 x] (fun _ => True) (fun _ => False) rfl rfl ?aP (fun _ hk => hk.elim) ?aF ?aO ?aB ?aS ?aL ?_; (case aP => exact rfl); (case aB => exact (pB HB.out)); (case aF => exact (fun _ _ => trivial)); (case aO => exact (pR HO.out)); (case aS => exact (yc (pB HB.out))); (case aL => have := HLM.out; omega); intro v8_ w8 ho hb hg hat; replace HB := aQ (hb); replace HO := aQ (ho); clear ho hb hg hat))
   go_roundg ((m + 1).toNat - (x + 1).toNat)
   case measure => have := HG.out; have := HX.out; have := Q1.out; omega
   case rel =>
    refine ⟨x + 1, acc ++ [x], ys, by rw [E1.out], ⟨by have := HX.out; have := Q1.out; omega⟩, ⟨Nat.le_refl _⟩, ⟨by rw [List.length_append, List.length_singleton]; have := HA.out; have := HX.out; omega⟩, ⟨HY.out⟩, ⟨by rw [List.append_assoc]; have h1 := HR2.out; have h2 := HE.out; rw [← h1] at h2; exact h2⟩, ⟨pR HO.out⟩, ⟨pB HB.out⟩⟩
  | false =>
   rw [if_neg (by decide)] at hc
   simp only [Option.some.injEq] at hc
   have HR2 := Lib.hid hc
   clear hc
   go_wp2
   go_roundg ((m + 1).toNat - (x + 1).toNat)
   case measure => have := HG.out; have := HX.out; have := Q1.out; omega
   case rel =>
    refine ⟨x + 1, acc, ys, by rw [E1.out], ⟨by have := HX.out; have := Q1.out; omega⟩, ⟨Nat.le_refl _⟩, ⟨by have := HA.out; have := HX.out; omega⟩, ⟨HY.out⟩, ⟨by have h1 := HR2.out; have h2 := HE.out; rw [← h1] at h2; exact h2⟩, ⟨pR HO.out⟩, ⟨pB HB.out⟩⟩
 ·have l1 : decide (x ≤ m) = false := decide_eq_false hlt
  have hI := HI.out
  rw [yfY HX.out.1 hlt] at hI
  simp only [yb8, Option.some.injEq] at hI
  have hE := HE.out
  rw [← hI, List.append_nil] at hE
  subst hE
  clear HI hI hlt HE
  go_wp2_with (first | (go_at_call 83; (with_reducible refine (yaF.calls n m _ HF.out).mono ?_); rintro e w' ⟨rfl, ⟨nd, rfl⟩⟩))
  go_ret
  exact ⟨_, rs_, by refine pRx ?_; exact HO.out, pB HB.out⟩
end Go.Proofs.Ytimkekeaeojpkaa.A
namespace Go.Proofs.Ytimkekeaeojpkaa.A
open Go.RowKit Go.Proofs.YtimkekeaeojpkaaW.PrintWords Go.Proofs.YtimkekeaeojpkaaW.PrintLast Go.Proofs.YtimkekeaeojpkaaW.PrintMore
attribute [local go_sem] ya8 yba ybm ybn yaY yaX ya6 ya9
set_option linter.unusedVariables false
set_option linter.unusedSimpArgs false
def yaf.f (a0 : Int) (a1 : Int) (a2 : Int) : Option (Bool) := if a0 ≥ a1 then (some (decide (a0 ≤ a2))) else (some false)
theorem yaf.calls (a0 : Int) (a1 : Int) (a2 : Int) (r : Bool) (w : World) (h : yaf.f a0 a1 a2 = some r) :
  Calls Try.prog 98 #[.int .i64 a0, .int .i64 a1, .int .i64 a2] w fun e w' => e = .returned (.bool r) ∧ Drawn0 w w' := by
 have H : (if a0 ≥ a1 then (some (decide (a0 ≤ a2))) else (some false)) = some r := h
 clear h
 by_cases c4 : a0 ≥ a1
 ·rw [if_pos c4] at H
  have c4b0 := decide_eq_true c4
  clear c4
  obtain rfl := Option.some.inj H
  go_enter Try.func98, Try.ntmps98
  go_wp2
  go_ret
  exact ⟨rs_, rd_⟩
 ·rw [if_neg c4] at H
  have c4b0 := decide_eq_false c4
  clear c4
  obtain rfl := Option.some.inj H
  go_enter Try.func98, Try.ntmps98
  go_wp2
  go_ret
  exact ⟨rs_, rd_⟩
def yJ.f (a0 : Int) (a1 : Int) : Option (Bool) := (yaf.f a0 0 8).bind fun tq0 => (if tq0 = true then (if 0 ≤ (IntKind.u64.wrap (a0)) then ((yaf.f a1 0 (wrap64 ((shl .i64 1 (IntKind.u64.wrap (a0))) - 1))).bind fun tq1 => (some tq1)) else (none)) else (some false))
theorem yJ.calls (a0 : Int) (a1 : Int) (r : Bool) (w : World) (h : yJ.f a0 a1 = some r) :
  Calls Try.prog 55 #[.int .i64 a0, .int .i64 a1] w fun e w' => e = .returned (.bool r) ∧ Drawn0 w w' := by
 have H := h
 clear h
 unfold yJ.f at H
 (try dsimp only at H)
 replace H := bo H; obtain ⟨tq0, A3, H⟩ := H
 (try dsimp only at H)
 by_cases c4 : tq0 = true
 ·subst c4
  rw [if_pos rfl] at H
  obtain ⟨ji5, hji5⟩ : ∃ j_ : Int, (IntKind.u64.wrap (a0)) = j_ := ⟨_, rfl⟩
  replace H : (if 0 ≤ (ji5) then ((yaf.f a1 0 (wrap64 ((shl .i64 1 (ji5)) - 1))).bind fun tq1 => (some tq1)) else (none)) = some r := by first | (rw [hji5] at H; exact H) | (simp only [hji5] at H ⊢; exact H)
  (try rw [hji5] at A3)
  replace H := gd H; obtain ⟨c6, H⟩ := H
  have c6b0 := eq_true c6
  have c6b1 := decide_eq_true c6
  clear c6
  obtain ⟨ji7, hji7⟩ : ∃ j_ : Int, (shl .i64 1 (ji5)) = j_ := ⟨_, rfl⟩
  replace H : ((yaf.f a1 0 (wrap64 ((ji7) - 1))).bind fun tq1 => (some tq1)) = some r := by first | (rw [hji7] at H; exact H) | (simp only [hji7] at H ⊢; exact H)
  (try rw [hji7] at A3)
  have hji7_ : (IntKind.i64.wrap (1 * 2 ^ min (ji5).toNat 64)) = ji7 := hji7
  have hji7z : (ji5) ≤ 64 → (IntKind.i64.wrap (1 * 2 ^ (ji5).toNat)) = ji7 := ybA hji7
  have hji7u : (IntKind.i64.wrap (2 ^ min (ji5).toNat 64)) = ji7 := by have h_ := hji7_; rw [Int.one_mul] at h_; exact h_
  have hji7v : (ji5) ≤ 64 → (IntKind.i64.wrap (2 ^ (ji5).toNat)) = ji7 := fun hle_ => by have h_ := hji7z hle_; rw [Int.one_mul] at h_; exact h_
  have hji7y : (wrap64 (1 * 2 ^ min (ji5).toNat 64)) = ji7 := (i64_w _).symm.trans hji7_
  have hji7x : (ji5) ≤ 64 → (wrap64 (1 * 2 ^ (ji5).toNat)) = ji7 := fun h_ => (i64_w _).symm.trans (hji7z h_)
  replace H := bo H; obtain ⟨tq1, A8, H⟩ := H
  (try dsimp only at H)
  obtain rfl := Option.some.inj H
  go_enter Try.func55, Try.ntmps55
  go_wp2_with (first | (refine gq 98 (some 6) Try.func98 #[.int .i64 a0, .int .i64 0, .int .i64 8] ?_; (with_reducible refine (yaf.calls a0 0 8 true _ A3.out).mono ?_); rintro e w' ⟨rfl, ⟨nd, rfl⟩⟩; refine ⟨_, rfl, ?_⟩) | (go_at_call 98; (with_reducible refine (yaf.calls a1 0 (wrap64 ((ji7) - 1)) tq1 _ A8.out).mono ?_); rintro e w' ⟨rfl, ⟨nd, rfl⟩⟩))
  go_ret
  exact ⟨by first | rfl | (simp; done) | (simp only [← hji5, ← hji7] <;> (first | rfl | simp)) | (simp [*]; done), rd_⟩
 ·replace c4 := Bool.eq_false_iff.mpr c4
  subst c4
  have H1 : (some false) = some r := by rw [if_neg (show ¬ (false = true) by decide)] at H; exact H
  clear H
  have H := H1
  clear H1
  obtain rfl := Option.some.inj H
  go_enter Try.func55, Try.ntmps55
  go_wp2_with (first | (refine gq 98 (some 6) Try.func98 #[.int .i64 a0, .int .i64 0, .int .i64 8] ?_; (with_reducible refine (yaf.calls a0 0 8 false _ A3.out).mono ?_); rintro e w' ⟨rfl, ⟨nd, rfl⟩⟩; refine ⟨_, rfl, ?_⟩))
  go_ret
  exact ⟨rs_, rd_⟩
def yP.l0 : Nat → Int → List Int → Int → Option (Bool)
 | 0, _, _, _ => none
 | k + 1, x0, x1, x5 => if x5 < (x1.length : Int) then (if 0 ≤ x5 then ((yJ.f x0 (rd x1 x5)).bind fun tq0 => (if tq0 = true then (yP.l0 k x0 x1 (wrap64 (x5 + 1))) else (some false))) else (none)) else (some true)
def yP.f (k : Nat) (a0 : Int) (l1 : List Int) : Option (Bool) := yP.l0 k a0 l1 0
theorem yP.mono_l : ∀ k, (∀ y0 y1 y2, LeO (yP.l0 k y0 y1 y2) (yP.l0 (k + 1) y0 y1 y2))
 | 0 => fun _ _ _ r h => by simp [yP.l0] at h
 | k + 1 => by
  have ih0 := yP.mono_l k
  ·intro y0 y1 y2
   unfold yP.l0
   repeat' first | (with_reducible first | exact ih0 _ _ _ | exact LeO.refl _ | exact LeO.none _ | refine LeO.ite ?_ ?_ | refine LeO.bind ?_ (fun _ => ?_)) | exact ih0 _ _ _ | exact LeO.none _ | refine LeO.ite ?_ ?_ | refine LeO.bind ?_ (fun _ => ?_)
theorem yP.mono : ∀ a0 a1 k, LeO (yP.f k a0 a1) (yP.f (k + 1) a0 a1) := by
 intro a0 a1 k
 have ih0 := yP.mono_l k
 unfold yP.f
 repeat' first | (with_reducible first | exact ih0 _ _ _ | exact LeO.refl _ | exact LeO.none _ | refine LeO.ite ?_ ?_ | refine LeO.bind ?_ (fun _ => ?_)) | exact ih0 _ _ _ | exact LeO.none _ | refine LeO.ite ?_ ?_ | refine LeO.bind ?_ (fun _ => ?_)
theorem yP.calls (k : Nat) (a0 : Int) (A1 : Option Addr) (c1 : Nat) (l1 : List Int) (r : Bool) (w : World) (hr1 : Kd.C (Kd.int .i64) w A1 l1.length l1) (hc1 : l1.length ≤ c1) (h : yP.f k a0 l1 = some r) :
  Calls Try.prog 110 #[.int .i64 a0, .slice A1 l1.length c1] w fun e w' => e = .returned (.bool r) ∧ Drawn0 w w' := by
 have HR1 := aQ hr1
 have HC1 := aQ hc1
 clear hr1 hc1
 have H : (yP.l0 k a0 l1 0) = some r := h
 clear h
 have H' := aQ H
 clear H
 go_enter Try.func110, Try.ntmps110
 go_wp2
 go_loopg [5] k (fun kq v5 w' => ∃ (x5_1 : Int), v5 = .int .i64 x5_1 ∧ Aside0 (yP.l0 kq a0 l1 x5_1 = some r) ∧ Aside0 (kq ≤ k) ∧ Drawn0 w w')
 case atStart => exact ⟨(0), rs_, H', ⟨Nat.le_refl _⟩, rd_⟩
 clear H'
 try clear c1
 try clear p2
 obtain ⟨x5_1, rfl, HA, HK1, ⟨m1, rfl⟩⟩ := hrel
 rcases gk with _ | k1
 ·exact absurd HA.out (by simp [yP.l0])
 have H := HA.out
 clear HA
 simp only [yP.l0] at H
 by_cases c3 : x5_1 < (l1.length : Int)
 ·rw [if_pos c3] at H
  have c3b0 := decide_eq_true c3
  clear c3
  replace H := gd H; obtain ⟨c4, H⟩ := H
  have c4b0 := decide_eq_true c4
  clear c4
  replace H := bo H; obtain ⟨tq0, A5, H⟩ := H
  (try dsimp only at H)
  by_cases c6 : tq0 = true
  ·subst c6
   rw [if_pos rfl] at H
   have H' := aQ H
   clear H
   have pq1 : 0 ≤ (x5_1 : Int) := of_decide_eq_true as_
   have qq1 : x5_1 < (l1.length : Int) := of_decide_eq_true as_
   obtain ⟨adq1, eq1, hxq1_0⟩ := Kd.at_int HR1.out x5_1 pq1 qq1
   cases eq1
   replace pq1 := eq_true pq1
   replace qq1 := eq_true qq1
   go_wp2_with (first | (refine gq 55 (some 17) Try.func55 #[.int .i64 a0, .int .i64 (rd l1 x5_1)] ?_; (with_reducible refine (yJ.calls a0 (rd l1 x5_1) true _ A5.out).mono ?_); rintro e w' ⟨rfl, ⟨nd, rfl⟩⟩; refine ⟨_, rfl, ?_⟩))
   go_roundg k1
   case measure => have := HK1.out; omega
   case rel => exact ⟨(wrap64 (x5_1 + 1)), rs_, H', ⟨by have := HK1.out; omega⟩, rd_⟩
  ·replace c6 := Bool.eq_false_iff.mpr c6
   subst c6
   have H1 : (some false) = some r := by rw [if_neg (show ¬ (false = true) by decide)] at H; exact H
   clear H
   have H := H1
   clear H1
   obtain rfl := Option.some.inj H
   have pq1 : 0 ≤ (x5_1 : Int) := of_decide_eq_true as_
   have qq1 : x5_1 < (l1.length : Int) := of_decide_eq_true as_
   obtain ⟨adq1, eq1, hxq1_0⟩ := Kd.at_int HR1.out x5_1 pq1 qq1
   cases eq1
   replace pq1 := eq_true pq1
   replace qq1 := eq_true qq1
   go_wp2_with (first | (refine gq 55 (some 17) Try.func55 #[.int .i64 a0, .int .i64 (rd l1 x5_1)] ?_; (with_reducible refine (yJ.calls a0 (rd l1 x5_1) false _ A5.out).mono ?_); rintro e w' ⟨rfl, ⟨nd, rfl⟩⟩; refine ⟨_, rfl, ?_⟩))
   go_ret
   exact ⟨rs_, rd_⟩
 ·rw [if_neg c3] at H
  have c3b0 := decide_eq_false c3
  clear c3
  obtain rfl := Option.some.inj H
  go_wp2
  go_ret
  exact ⟨rs_, rd_⟩
def ybt.f (k : Nat) (a0 : Int) (l1 : List Int) : Option (Bool) := (yaf.f a0 0 8).bind fun tq0 => (if tq0 = true then (if (l1.length : Int) ≤ 6 then ((yP.f k a0 l1).bind fun tq1 => (some tq1)) else (some false)) else (some false))
theorem ybt.calls (k : Nat) (a0 : Int) (A1 : Option Addr) (c1 : Nat) (l1 : List Int) (r : Bool) (w : World) (hr1 : Kd.C (Kd.int .i64) w A1 l1.length l1) (hc1 : l1.length ≤ c1) (h : ybt.f k a0 l1 = some r) :
  Calls Try.prog 51 #[.int .i64 a0, .slice A1 l1.length c1] w fun e w' => e = .returned (.bool r) ∧ Drawn0 w w' := by
 have HR1 := aQ hr1
 have HC1 := aQ hc1
 clear hr1 hc1
 have H := h
 clear h
 unfold ybt.f at H
 (try dsimp only at H)
 replace H := bo H; obtain ⟨tq0, A3, H⟩ := H
 (try dsimp only at H)
 by_cases c4 : tq0 = true
 ·subst c4
  rw [if_pos rfl] at H
  by_cases c5 : (l1.length : Int) ≤ 6
  ·rw [if_pos c5] at H
   have c5b0 := decide_eq_true c5
   have c5b1 : decide (l1.length ≤ 6) = true := decide_eq_true (by omega)
   clear c5
   replace H := bo H; obtain ⟨tq1, A6, H⟩ := H
   (try dsimp only at H)
   obtain rfl := Option.some.inj H
   go_enter Try.func51, Try.ntmps51
   go_wp2_with (first | (refine gq 98 (some 6) Try.func98 #[.int .i64 a0, .int .i64 0, .int .i64 8] ?_; (with_reducible refine (yaf.calls a0 0 8 true _ A3.out).mono ?_); rintro e w' ⟨rfl, ⟨nd, rfl⟩⟩; refine ⟨_, rfl, ?_⟩) | (go_at_call 110; (with_reducible refine (yP.calls k a0 _ _ l1 tq1 _ ?side1 ?side2 A6.out).mono ?_); (case side1 => exact pC HR1.out); (case side2 => exact HC1.out); rintro e w' ⟨rfl, ⟨nd, rfl⟩⟩))
   go_ret
   exact ⟨rs_, rd_⟩
  ·rw [if_neg c5] at H
   have c5b0 := decide_eq_false c5
   have c5b1 : decide (l1.length ≤ 6) = false := decide_eq_false (by omega)
   clear c5
   obtain rfl := Option.some.inj H
   go_enter Try.func51, Try.ntmps51
   go_wp2_with (first | (refine gq 98 (some 6) Try.func98 #[.int .i64 a0, .int .i64 0, .int .i64 8] ?_; (with_reducible refine (yaf.calls a0 0 8 true _ A3.out).mono ?_); rintro e w' ⟨rfl, ⟨nd, rfl⟩⟩; refine ⟨_, rfl, ?_⟩))
   go_ret
   exact ⟨rs_, rd_⟩
 ·replace c4 := Bool.eq_false_iff.mpr c4
  subst c4
  have H1 : (some false) = some r := by rw [if_neg (show ¬ (false = true) by decide)] at H; exact H
  clear H
  have H := H1
  clear H1
  obtain rfl := Option.some.inj H
  go_enter Try.func51, Try.ntmps51
  go_wp2_with (first | (refine gq 98 (some 6) Try.func98 #[.int .i64 a0, .int .i64 0, .int .i64 8] ?_; (with_reducible refine (yaf.calls a0 0 8 false _ A3.out).mono ?_); rintro e w' ⟨rfl, ⟨nd, rfl⟩⟩; refine ⟨_, rfl, ?_⟩))
  go_ret
  exact ⟨rs_, rd_⟩
def yU.f (a0 : Int) (a1 : Int) : Option (Bool) := if 0 ≤ (IntKind.u64.wrap (a1)) then (some ((Go.bits .and .i64 (shr .i64 a0 (IntKind.u64.wrap (a1))) 1) == 1)) else (none)
theorem yU.calls (a0 : Int) (a1 : Int) (r : Bool) (w : World) (h : yU.f a0 a1 = some r) :
  Calls Try.prog 69 #[.int .i64 a0, .int .i64 a1] w fun e w' => e = .returned (.bool r) ∧ Drawn0 w w' := by
 have H := h
 clear h
 unfold yU.f at H
 (try dsimp only at H)
 obtain ⟨ji3, hji3⟩ : ∃ j_ : Int, (IntKind.u64.wrap (a1)) = j_ := ⟨_, rfl⟩
 replace H : (if 0 ≤ (ji3) then (some ((Go.bits .and .i64 (shr .i64 a0 (ji3)) 1) == 1)) else (none)) = some r := by first | (rw [hji3] at H; exact H) | (simp only [hji3] at H ⊢; exact H)
 replace H := gd H; obtain ⟨c4, H⟩ := H
 have c4b0 := eq_true c4
 have c4b1 := decide_eq_true c4
 clear c4
 obtain ⟨ji5, hji5⟩ : ∃ j_ : Int, (shr .i64 a0 (ji3)) = j_ := ⟨_, rfl⟩
 replace H : (some ((Go.bits .and .i64 (ji5) 1) == 1)) = some r := by first | (rw [hji5] at H; exact H) | (simp only [hji5] at H ⊢; exact H)
 have hji5_ : (a0 / 2 ^ min (ji3).toNat 64) = ji5 := hji5
 have hji5z : (ji3) ≤ 64 → (a0 / 2 ^ (ji3).toNat) = ji5 := yeO hji5
 obtain rfl := Option.some.inj H
 go_enter Try.func69, Try.ntmps69
 go_wp2
 go_ret
 exact ⟨by first | rfl | (simp; done) | (simp only [← hji3, ← hji5] <;> (first | rfl | simp)) | (simp [*]; done), rd_⟩
def ybc.f (a0 : Int) (a1 : Int) : Option (Bool) := (yJ.f 8 a0).bind fun tq0 => (if tq0 = true then ((yaf.f a1 0 7).bind fun tq1 => (if tq1 = true then ((yU.f a0 a1).bind fun tq2 => (some tq2)) else (some false))) else (some false))
theorem ybc.calls (a0 : Int) (a1 : Int) (r : Bool) (w : World) (h : ybc.f a0 a1 = some r) :
  Calls Try.prog 54 #[.int .i64 a0, .int .i64 a1] w fun e w' => e = .returned (.bool r) ∧ Drawn0 w w' := by
 have H := h
 clear h
 unfold ybc.f at H
 (try dsimp only at H)
 replace H := bo H; obtain ⟨tq0, A3, H⟩ := H
 (try dsimp only at H)
 by_cases c4 : tq0 = true
 ·subst c4
  rw [if_pos rfl] at H
  replace H := bo H; obtain ⟨tq1, A5, H⟩ := H
  (try dsimp only at H)
  by_cases c6 : tq1 = true
  ·subst c6
   rw [if_pos rfl] at H
   replace H := bo H; obtain ⟨tq2, A7, H⟩ := H
   (try dsimp only at H)
   obtain rfl := Option.some.inj H
   go_enter Try.func54, Try.ntmps54
   go_wp2_with (first | (refine gq 55 (some 6) Try.func55 #[.int .i64 8, .int .i64 a0] ?_; (with_reducible refine (yJ.calls 8 a0 true _ A3.out).mono ?_); rintro e w' ⟨rfl, ⟨nd, rfl⟩⟩; refine ⟨_, rfl, ?_⟩) | (go_at_call 98; (with_reducible refine (yaf.calls a1 0 7 true _ A5.out).mono ?_); rintro e w' ⟨rfl, ⟨nd, rfl⟩⟩) | (go_at_call 69; (with_reducible refine (yU.calls a0 a1 tq2 _ A7.out).mono ?_); rintro e w' ⟨rfl, ⟨nd, rfl⟩⟩))
   go_ret
   exact ⟨rs_, rd_⟩
  ·replace c6 := Bool.eq_false_iff.mpr c6
   subst c6
   have H1 : (some false) = some r := by rw [if_neg (show ¬ (false = true) by decide)] at H; exact H
   clear H
   have H := H1
   clear H1
   obtain rfl := Option.some.inj H
   go_enter Try.func54, Try.ntmps54
   go_wp2_with (first | (refine gq 55 (some 6) Try.func55 #[.int .i64 8, .int .i64 a0] ?_; (with_reducible refine (yJ.calls 8 a0 true _ A3.out).mono ?_); rintro e w' ⟨rfl, ⟨nd, rfl⟩⟩; refine ⟨_, rfl, ?_⟩) | (go_at_call 98; (with_reducible refine (yaf.calls a1 0 7 false _ A5.out).mono ?_); rintro e w' ⟨rfl, ⟨nd, rfl⟩⟩))
   go_ret
   exact ⟨rs_, rd_⟩
 ·replace c4 := Bool.eq_false_iff.mpr c4
  subst c4
  have H1 : (some false) = some r := by rw [if_neg (show ¬ (false = true) by decide)] at H; exact H
  clear H
  have H := H1
  clear H1
  obtain rfl := Option.some.inj H
  go_enter Try.func54, Try.ntmps54
  go_wp2_with (first | (refine gq 55 (some 6) Try.func55 #[.int .i64 8, .int .i64 a0] ?_; (with_reducible refine (yJ.calls 8 a0 false _ A3.out).mono ?_); rintro e w' ⟨rfl, ⟨nd, rfl⟩⟩; refine ⟨_, rfl, ?_⟩))
  go_ret
  exact ⟨rs_, rd_⟩
def yt.l0 : Nat → Int → List Int → Int → Option (List Int)
 | 0, _, _, _ => none
 | k + 1, x0, x3, x4 => if x4 < 8 then ((ybc.f x0 x4).bind fun tq0 => (if tq0 = true then (if x3.length < 17592186044416 then (yt.l0 k x0 (x3 ++ [x4]) (wrap64 (x4 + 1))) else (none)) else (yt.l0 k x0 x3 (wrap64 (x4 + 1))))) else (some x3)
def yt.f (k : Nat) (a0 : Int) : Option (List Int) := yt.l0 k a0 (([] : List Int)) 0
theorem yt.mono_l : ∀ k, (∀ y0 y1 y2, LeO (yt.l0 k y0 y1 y2) (yt.l0 (k + 1) y0 y1 y2))
 | 0 => fun _ _ _ r h => by simp [yt.l0] at h
 | k + 1 => by
  have ih0 := yt.mono_l k
  ·intro y0 y1 y2
   unfold yt.l0
   repeat' first | (with_reducible first | exact ih0 _ _ _ | exact LeO.refl _ | exact LeO.none _ | refine LeO.ite ?_ ?_ | refine LeO.bind ?_ (fun _ => ?_)) | exact ih0 _ _ _ | exact LeO.none _ | refine LeO.ite ?_ ?_ | refine LeO.bind ?_ (fun _ => ?_)
theorem yt.mono : ∀ a0 k, LeO (yt.f k a0) (yt.f (k + 1) a0) := by
 intro a0 k
 have ih0 := yt.mono_l k
 unfold yt.f
 repeat' first | (with_reducible first | exact ih0 _ _ _ | exact LeO.refl _ | exact LeO.none _ | refine LeO.ite ?_ ?_ | refine LeO.bind ?_ (fun _ => ?_)) | exact ih0 _ _ _ | exact LeO.none _ | refine LeO.ite ?_ ?_ | refine LeO.bind ?_ (fun _ => ?_)
theorem yt.calls (k : Nat) (a0 : Int) (r : List Int) (w : World) (h : yt.f k a0 = some r) :
  Calls Try.prog 53 #[.int .i64 a0] w fun e w' => ∃ v0_ : Value, e = .returned (v0_) ∧ Kd.R (Kd.int .i64) 3 w' w.heap.size (fun _ => True) v0_ r ∧ Below w.heap.size w w' := by
 have HB := aQ (Below.refl w.heap.size w)
 have H : (yt.l0 k a0 (([] : List Int)) 0) = some r := h
 clear h
 obtain ⟨yq1, hyq1⟩ : ∃ y_ : List Int, y_ = (([] : List Int)) := ⟨_, rfl⟩
 replace H : (yt.l0 k a0 yq1 0) = some r := by first | (rw [hyq1]; with_reducible exact H) | (rw [hyq1]; exact H)
 have Nyq1 := aQ hyq1
 clear hyq1
 have H' := aQ H
 clear H
 go_enter Try.func53, Try.ntmps53
 go_wp2_with (first | ((with_reducible refine yb (N := 5) rfl ?_); refine Kd.R_lit (Kd.int .i64) _ 3 ?hg (N := 5) ?hd (xs := ([] : List Int)) (inner := []) (ok := fun _ => True) (okp := fun _ => True) ?hr ?hp (fun _ hk => hk) trivial (Below.refl _ _) (Nat.le_refl _) (by simp) ?_; (case hd => rfl); (case hg => rfl); (case hr => first | (go_simp; done) | (go_simp; rfl)); (case hp => exact (Reps.none _ _)); intro vq2 w2 ho3 hb hg_ hnew_; clear hg_ hnew_; (first | rw [← Nyq1.out] at ho3 | (simp only [Int.reduceToNat] at ho3; rw [← Nyq1.out] at ho3)); have HOq3 := aQ (Kd.R_lower ho3 (yc (pB HB.out))); replace HB := bs HB hb; clear hb ho3))
 go_loopg [3, 4] k (fun kq v3 v4 w' => ∃ (x3_1 : List Int) (x4_1 : Int), v4 = .int .i64 x4_1 ∧ Aside0 (yt.l0 kq a0 x3_1 x4_1 = some r) ∧ Aside0 (kq ≤ k) ∧ Aside0 (Kd.R (Kd.int .i64) 3 w' w.heap.size (fun _ => True) v3 x3_1) ∧ Aside0 (Below w.heap.size w w'))
 case atStart => exact ⟨(yq1), (0), rs_, H', ⟨Nat.le_refl _⟩, ⟨pR HOq3.out⟩, ⟨pB HB.out⟩⟩
 clear H'
 try clear p2
 obtain ⟨x3_1, x4_1, rfl, HA, HK1, HO_3, HB⟩ := hrel
 rcases gk with _ | k1
 ·exact absurd HA.out (by simp [yt.l0])
 have H := HA.out
 clear HA
 simp only [yt.l0] at H
 by_cases c4 : x4_1 < 8
 ·rw [if_pos c4] at H
  have c4b0 := decide_eq_true c4
  clear c4
  replace H := bo H; obtain ⟨tq0, A5, H⟩ := H
  (try dsimp only at H)
  by_cases c6 : tq0 = true
  ·subst c6
   rw [if_pos rfl] at H
   replace H := gd H; obtain ⟨c7, H⟩ := H
   have LMc7 := aQ c7
   clear c7
   obtain ⟨yq4, hyq4⟩ : ∃ y_ : List Int, y_ = (x3_1 ++ [x4_1]) := ⟨_, rfl⟩
   replace H : (yt.l0 k1 a0 yq4 (wrap64 (x4_1 + 1))) = some r := by first | (rw [hyq4]; with_reducible exact H) | (rw [hyq4]; exact H)
   have Nyq4 := aQ hyq4
   clear hyq4
   have H' := aQ H
   clear H
   go_wp2_with (first | (refine gq 54 (some 12) Try.func54 #[.int .i64 a0, .int .i64 x4_1] ?_; (with_reducible refine (ybc.calls a0 x4_1 true _ A5.out).mono ?_); rintro e w' ⟨rfl, ⟨nd, rfl⟩⟩; refine ⟨_, rfl, ?_⟩) | ((with_reducible refine yO (b := .append) (xs := #[.tmp 13, .tmp 15]) rfl ?_); at_builtin; refine Kd.R_append (Kd.int .i64) (w0 := w) w.heap.size rfl (.tmp 13) (.tmp 15) 22 3 (.int .i64 0) 8 rfl Try.underlying22 yaU rfl (by decide) (by omega) u3 x3_1 x4_1 [.int .i64 x4_1] (fun _ => True) (fun _ => False) rfl rfl ?aP (fun _ hk => hk.elim) ?aF ?aO ?aB ?aS ?aL ?_; (case aP => exact rfl); (case aB => exact (pB HB.out)); (case aF => exact (fun _ _ => trivial)); (case aO => exact (pR HO_3.out)); (case aS => exact (yc (pB HB.out))); (case aL => have := LMc7.out; omega); intro vq5 w8 ho hb hg hat; rw [← Nyq4.out] at ho; replace HB := aQ (hb); have HOq6 := aQ (ho); clear HO_3; clear ho hb hg hat))
   go_roundg k1
   case measure => have := HK1.out; omega
   case rel => exact ⟨(yq4), (wrap64 (x4_1 + 1)), rs_, H', ⟨by have := HK1.out; omega⟩, ⟨pR HOq6.out⟩, ⟨pB HB.out⟩⟩
  ·replace c6 := Bool.eq_false_iff.mpr c6
   subst c6
   have H1 : (yt.l0 k1 a0 x3_1 (wrap64 (x4_1 + 1))) = some r := by rw [if_neg (show ¬ (false = true) by decide)] at H; exact H
   clear H
   have H := H1
   clear H1
   have H' := aQ H
   clear H
   go_wp2_with (first | (refine gq 54 (some 12) Try.func54 #[.int .i64 a0, .int .i64 x4_1] ?_; (with_reducible refine (ybc.calls a0 x4_1 false _ A5.out).mono ?_); rintro e w' ⟨rfl, ⟨nd, rfl⟩⟩; refine ⟨_, rfl, ?_⟩))
   go_roundg k1
   case measure => have := HK1.out; omega
   case rel => exact ⟨(x3_1), (wrap64 (x4_1 + 1)), rs_, H', ⟨by have := HK1.out; omega⟩, ⟨pR HO_3.out⟩, ⟨pB HB.out⟩⟩
 ·rw [if_neg c4] at H
  have c4b0 := decide_eq_false c4
  clear c4
  obtain rfl := Option.some.inj H
  go_wp2
  go_ret
  exact ⟨_, by first | rfl | (simp [errW_none, yi] <;> rfl) | (simp [*, errW_none, yi] <;> rfl), by refine pRx ?_; exact HO_3.out, pB HB.out⟩
def yL.l0 : Nat → List Int → Int → Int → Option (Bool)
 | 0, _, _, _ => none
 | k + 1, x0, x1, x5 => if x5 < (x0.length : Int) then (if 0 ≤ x5 then (if (rd x0 x5) = x1 then (some true) else (yL.l0 k x0 x1 (wrap64 (x5 + 1)))) else (none)) else (some false)
def yL.f (k : Nat) (l0 : List Int) (a1 : Int) : Option (Bool) := yL.l0 k l0 a1 0
theorem yL.mono_l : ∀ k, (∀ y0 y1 y2, LeO (yL.l0 k y0 y1 y2) (yL.l0 (k + 1) y0 y1 y2))
 | 0 => fun _ _ _ r h => by simp [yL.l0] at h
 | k + 1 => by
  have ih0 := yL.mono_l k
  ·intro y0 y1 y2
   unfold yL.l0
   repeat' first | (with_reducible first | exact ih0 _ _ _ | exact LeO.refl _ | exact LeO.none _ | refine LeO.ite ?_ ?_ | refine LeO.bind ?_ (fun _ => ?_)) | exact ih0 _ _ _ | exact LeO.none _ | refine LeO.ite ?_ ?_ | refine LeO.bind ?_ (fun _ => ?_)
theorem yL.mono : ∀ a0 a1 k, LeO (yL.f k a0 a1) (yL.f (k + 1) a0 a1) := by
 intro a0 a1 k
 have ih0 := yL.mono_l k
 unfold yL.f
 repeat' first | (with_reducible first | exact ih0 _ _ _ | exact LeO.refl _ | exact LeO.none _ | refine LeO.ite ?_ ?_ | refine LeO.bind ?_ (fun _ => ?_)) | exact ih0 _ _ _ | exact LeO.none _ | refine LeO.ite ?_ ?_ | refine LeO.bind ?_ (fun _ => ?_)
theorem yL.calls (k : Nat) (A0 : Option Addr) (c0 : Nat) (l0 : List Int) (a1 : Int) (r : Bool) (w : World) (hr0 : Kd.C (Kd.int .i64) w A0 l0.length l0) (hc0 : l0.length ≤ c0) (h : yL.f k l0 a1 = some r) :
  Calls Try.prog 115 #[.slice A0 l0.length c0, .int .i64 a1] w fun e w' => e = .returned (.bool r) ∧ Drawn0 w w' := by
 have HR0 := aQ hr0
 have HC0 := aQ hc0
 clear hr0 hc0
 have H : (yL.l0 k l0 a1 0) = some r := h
 clear h
 have H' := aQ H
 clear H
 go_enter Try.func115, Try.ntmps115
 go_wp2
 go_loopg [5] k (fun kq v5 w' => ∃ (x5_1 : Int), v5 = .int .i64 x5_1 ∧ Aside0 (yL.l0 kq l0 a1 x5_1 = some r) ∧ Aside0 (kq ≤ k) ∧ Drawn0 w w')
 case atStart => exact ⟨(0), rs_, H', ⟨Nat.le_refl _⟩, rd_⟩
 clear H'
 try clear c1
 try clear p2
 obtain ⟨x5_1, rfl, HA, HK1, ⟨m1, rfl⟩⟩ := hrel
 rcases gk with _ | k1
 ·exact absurd HA.out (by simp [yL.l0])
 have H := HA.out
 clear HA
 simp only [yL.l0] at H
 by_cases c3 : x5_1 < (l0.length : Int)
 ·rw [if_pos c3] at H
  have c3b0 := decide_eq_true c3
  clear c3
  replace H := gd H; obtain ⟨c4, H⟩ := H
  have c4b0 := decide_eq_true c4
  clear c4
  by_cases c5 : (rd l0 x5_1) = a1
  ·rw [if_pos c5] at H
   have c5b0 : ((rd l0 x5_1) == a1) = true := beq_iff_eq.mpr c5
   have c5b1 : ((rd l0 x5_1) != a1) = false := bne_eq_false_iff_eq.mpr c5
   clear c5
   obtain rfl := Option.some.inj H
   have pq0 : 0 ≤ (x5_1 : Int) := of_decide_eq_true as_
   have qq0 : x5_1 < (l0.length : Int) := of_decide_eq_true as_
   obtain ⟨adq0, eq0, hxq0_0⟩ := Kd.at_int HR0.out x5_1 pq0 qq0
   cases eq0
   replace pq0 := eq_true pq0
   replace qq0 := eq_true qq0
   go_wp2
   go_ret
   exact ⟨rs_, rd_⟩
  ·rw [if_neg c5] at H
   have c5b0 : ((rd l0 x5_1) == a1) = false := beq_eq_false_iff_ne.mpr c5
   have c5b1 : ((rd l0 x5_1) != a1) = true := bne_iff_ne.mpr c5
   have H' := aQ H
   clear H
   have pq0 : 0 ≤ (x5_1 : Int) := of_decide_eq_true as_
   have qq0 : x5_1 < (l0.length : Int) := of_decide_eq_true as_
   obtain ⟨adq0, eq0, hxq0_0⟩ := Kd.at_int HR0.out x5_1 pq0 qq0
   cases eq0
   replace pq0 := eq_true pq0
   replace qq0 := eq_true qq0
   go_wp2
   go_roundg k1
   case measure => have := HK1.out; omega
   case rel => exact ⟨(wrap64 (x5_1 + 1)), rs_, H', ⟨by have := HK1.out; omega⟩, rd_⟩
 ·rw [if_neg c3] at H
  have c3b0 := decide_eq_false c3
  clear c3
  obtain rfl := Option.some.inj H
  go_wp2
  go_ret
  exact ⟨rs_, rd_⟩
mutual
def yv.l0 : Nat → List Int → List Int → List Int → Int → Option (List Int × Bool)
 | 0, _, _, _, _ => none
 | k + 1, x0, x1, x2, x8 => if x8 < (x0.length : Int) then ((yL.f k x2 x8).bind fun tq0 => (if tq0 = true then (yv.j1 k x0 x1 x2 x8 true) else (if 0 ≤ x8 then (if 0 ≤ (x2.length : Int) then (if (x2.length : Int) < (x1.length : Int) then ((yU.f (rd x0 x8) (rd x1 (x2.length : Int))).bind fun tq1 => (yv.j1 k x0 x1 x2 x8 (!tq1))) else (none)) else (none)) else (none)))) else (some ((([] : List Int)), false))
def yv.j1 : Nat → List Int → List Int → List Int → Int → Bool → Option (List Int × Bool)
 | 0, _, _, _, _, _ => none
 | k + 1, x0, x1, x2, x8, x38 => if x38 = true then (yv.l0 k x0 x1 x2 (wrap64 (x8 + 1))) else ((some (([] : List Int) : List Int)).bind fun yq2 => (if yq2.length + x2.length < 17592186044416 then ((some (yq2 ++ x2 : List Int)).bind fun yq3 => (if yq3.length < 17592186044416 then ((yv.f k x0 x1 (yq3 ++ [x8])).bind fun btq4 => (if btq4.2 = true then (some (btq4.1, true)) else (yv.l0 k x0 x1 x2 (wrap64 (x8 + 1))))) else (none))) else (none)))
def yv.f : Nat → List Int → List Int → List Int → Option (List Int × Bool)
 | 0, _, _, _ => none
 | k + 1, l0, l1, l2 => if (l2.length : Int) = (l1.length : Int) then (some (l2, true)) else (yv.l0 k l0 l1 l2 0)
end
theorem yv.calls (k : Nat) : ∀ (A0 : Option Addr) (c0 : Nat) (l0 : List Int) (A1 : Option Addr) (c1 : Nat) (l1 : List Int) (P2_ : Nat → Prop) (uq5_ : Value) (l2 : List Int) (r1 : List Int) (r2 : Bool) (w0 w : World) (hB : Below w0.heap.size w0 w) (hr0 : ∀ W_, Kept w W_ (fun k_ => P2_ k_) → Kd.C (Kd.int .i64) W_ A0 l0.length l0) (hc0 : l0.length ≤ c0) (hr1 : ∀ W_, Kept w W_ (fun k_ => P2_ k_) → Kd.C (Kd.int .i64) W_ A1 l1.length l1) (hc1 : l1.length ≤ c1) (ho2 : Kd.R (Kd.int .i64) 3 w w0.heap.size P2_ uq5_ l2) (h : yv.f k l0 l1 l2 = some (r1, r2)),
  Calls Try.prog 105 #[.slice A0 l0.length c0, .slice A1 l1.length c1, uq5_] w fun e w' => ∃ v0_ : Value, e = .returned (.tuple #[v0_, .bool r2]) ∧ Kd.R (Kd.int .i64) 3 w' w0.heap.size (fun k_ => (P2_ k_ ∨ w.heap.size ≤ k_)) v0_ r1 ∧ Below w0.heap.size w0 w' ∧ Kept w w' (fun k_ => P2_ k_) := by
 induction k using Nat.strongRecOn with
 | _ k ih =>
 intro A0 c0 l0 A1 c1 l1 P2_ uq5_ l2 r1 r2 w0 w hB hr0 hc0 hr1 hc1 ho2 h
 cases k with
 | zero => exact absurd h (by simp [yv.f])
 | succ k =>
 simp only [yv.f] at h
 have HR0 := aQ hr0
 have HC0 := aQ hc0
 clear hr0 hc0
 have HR1 := aQ hr1
 have HC1 := aQ hc1
 clear hr1 hc1
 have HO2 := aQ (show Kd.R (Kd.int .i64) 3 w w0.heap.size (fun k_ => (P2_ k_ ∨ w.heap.size ≤ k_)) uq5_ l2 from Kd.R_mono ho2 (fun k_ hk => (.inl hk)))
 have HK := aQ (Kept.refl w (fun k_ => P2_ k_))
 have HW0 := aQ hB.size
 have HB := aQ hB
 clear hB
 have H : (if (l2.length : Int) = (l1.length : Int) then (some (l2, true)) else (yv.l0 k l0 l1 l2 0)) = some (r1, r2) := h
 clear h
 by_cases c4 : (l2.length : Int) = (l1.length : Int)
 ·rw [if_pos c4] at H
  have c4b0 : ((l2.length : Int) == (l1.length : Int)) = true := beq_iff_eq.mpr c4
  have c4b1 : ((l2.length : Int) != (l1.length : Int)) = false := bne_eq_false_iff_eq.mpr c4
  have c4b2 : (l2.length == l1.length) = true := by first | simpa using c4 | (simp at c4 ⊢; omega)
  clear c4
  simp only [Option.some.injEq, Prod.mk.injEq] at H
  obtain ⟨rfl, rfl⟩ := H
  obtain ⟨Ao5, co5, eo5⟩ := Kd.R_slice HO2.out
  subst eo5
  go_enter Try.func105, Try.ntmps105
  go_wp2
  repeat (go_quiet (fail); try go_wp2)
  go_ret2
  exact ⟨_, by first | rfl | (simp [errW_none, yi] <;> rfl) | (simp [*, errW_none, yi] <;> rfl), by refine pRx ?_; exact HO2.out, pB HB.out, pt HK⟩
 ·rw [if_neg c4] at H
  have c4b0 : ((l2.length : Int) == (l1.length : Int)) = false := beq_eq_false_iff_ne.mpr c4
  have c4b1 : ((l2.length : Int) != (l1.length : Int)) = true := bne_iff_ne.mpr c4
  have c4b2 : (l2.length == l1.length) = false := by first | simpa using c4 | (simp at c4 ⊢; omega)
  have H' := aQ H
  clear H
  obtain ⟨Ao6, co6, eo6⟩ := Kd.R_slice HO2.out
  subst eo6
  go_enter Try.func105, Try.ntmps105
  go_wp2
  repeat (go_quiet (fail); try go_wp2)
  go_loopg [8] k (fun kq v8 w' => ∃ (x8_1 : Int), v8 = .int .i64 x8_1 ∧ Aside0 (yv.l0 kq l0 l1 l2 x8_1 = some (r1, r2)) ∧ Aside0 (kq ≤ k) ∧ Aside0 (Kd.R (Kd.int .i64) 3 w' w0.heap.size (fun k_ => (P2_ k_ ∨ w.heap.size ≤ k_)) (.slice Ao6 l2.length co6) l2) ∧ Aside0 (Kept w w' (fun k_ => P2_ k_)) ∧ Aside0 (Below w0.heap.size w0 w'))
  case atStart => exact ⟨(0), rs_, H', ⟨Nat.le_refl _⟩, ⟨pR HO2.out⟩, ⟨pt HK⟩, ⟨pB HB.out⟩⟩
  clear H'
  try clear c1
  try clear p2
  try clear c4
  try clear c4b0
  try clear c4b1
  try clear c4b2
  obtain ⟨x8_1, rfl, HA, HK1, HO_2, HK, HB⟩ := hrel
  rcases gk with _ | k1
  ·exact absurd HA.out (by simp [yv.l0])
  have H := HA.out
  clear HA
  simp only [yv.l0] at H
  by_cases c7 : x8_1 < (l0.length : Int)
  ·rw [if_pos c7] at H
   have c7b0 := decide_eq_true c7
   clear c7
   have HC8 := aQ H
   clear H
   go_upto_region 6 with (fail)
   repeat (go_quiet (fail); go_upto_region 6 with (fail))
   go_cut [38] (fun v38 wc => ∃ (kq : Nat) (x38_7 : Bool), v38 = .bool x38_7 ∧ Aside0 (yv.j1 kq l0 l1 l2 x8_1 x38_7 = some (r1, r2)) ∧ Aside0 (kq ≤ k1) ∧ Aside0 (Kd.R (Kd.int .i64) 3 wc w0.heap.size (fun k_ => (P2_ k_ ∨ w.heap.size ≤ k_)) (.slice Ao6 l2.length co6) l2) ∧ Aside0 (Kept w wc (fun k_ => P2_ k_)) ∧ Aside0 (Below w0.heap.size w0 wc))
   case first =>
    have H := HC8.out
    clear HC8
    replace H := bo H; obtain ⟨tq0, A9, H⟩ := H
    (try dsimp only at H)
    by_cases c10 : tq0 = true
    ·subst c10
     rw [if_pos rfl] at H
     have H' := aQ H
     clear H
     go_wp2_with (first | (go_at_call 115; (with_reducible refine (yL.calls k1 _ _ l2 x8_1 true _ ?side1 ?side2 A9.out).mono ?_); (case side1 => exact pC ((Kd.R_reads' HO_2.out).2.2)); (case side2 => exact (Kd.R_reads' HO_2.out).2.1); rintro e w' ⟨rfl, ⟨nd, rfl⟩⟩; (try exact dq_)))
     repeat (go_quiet (first | (go_at_call 115; (with_reducible refine (yL.calls k1 _ _ l2 x8_1 true _ ?side1 ?side2 A9.out).mono ?_); (case side1 => exact pC ((Kd.R_reads' HO_2.out).2.2)); (case side2 => exact (Kd.R_reads' HO_2.out).2.1); rintro e w' ⟨rfl, ⟨nd, rfl⟩⟩; (try exact dq_))); try go_wp2_with (first | (go_at_call 115; (with_reducible refine (yL.calls k1 _ _ l2 x8_1 true _ ?side1 ?side2 A9.out).mono ?_); (case side1 => exact pC ((Kd.R_reads' HO_2.out).2.2)); (case side2 => exact (Kd.R_reads' HO_2.out).2.1); rintro e w' ⟨rfl, ⟨nd, rfl⟩⟩; (try exact dq_))))
     go_meet
     case rel => exact ⟨_, (true), rs_, H', ⟨by have := HK1.out; first | omega | exact Nat.le_refl _⟩, ⟨pR HO_2.out⟩, ⟨pt HK⟩, ⟨pB HB.out⟩⟩
    ·replace c10 := Bool.eq_false_iff.mpr c10
     subst c10
     have H1 : (if 0 ≤ x8_1 then (if 0 ≤ (l2.length : Int) then (if (l2.length : Int) < (l1.length : Int) then ((yU.f (rd l0 x8_1) (rd l1 (l2.length : Int))).bind fun tq1 => (yv.j1 k1 l0 l1 l2 x8_1 (!tq1))) else (none)) else (none)) else (none)) = some (r1, r2) := by rw [if_neg (show ¬ (false = true) by decide)] at H; exact H
     clear H
     have H := H1
     clear H1
     replace H := gd H; obtain ⟨c11, H⟩ := H
     have c11b0 := decide_eq_true c11
     clear c11
     (first | rw [c11b0] | (simp only [i64_w, ybq]; rw [c11b0]) | skip)
     replace H := gd H; obtain ⟨c12, H⟩ := H
     have c12b0 := decide_eq_true c12
     have c12b1 : decide (0 ≤ l2.length) = true := decide_eq_true (by omega)
     clear c12
     replace H := gd H; obtain ⟨c13, H⟩ := H
     have c13b0 := decide_eq_true c13
     have c13b1 : decide (l2.length < l1.length) = true := decide_eq_true (Int.ofNat_lt.mp c13)
     clear c13
     replace H := bo H; obtain ⟨tq1, A14, H⟩ := H
     (try dsimp only at H)
     have H' := aQ H
     clear H
     go_wp2_with (first | (go_at_call 115; (with_reducible refine (yL.calls k1 _ _ l2 x8_1 false _ ?side1 ?side2 A9.out).mono ?_); (case side1 => exact pC ((Kd.R_reads' HO_2.out).2.2)); (case side2 => exact (Kd.R_reads' HO_2.out).2.1); rintro e w' ⟨rfl, ⟨nd, rfl⟩⟩; (try exact dq_); have pq6 : 0 ≤ (x8_1 : Int) := of_decide_eq_true as_; have qq6 : x8_1 < (l0.length : Int) := of_decide_eq_true as_; obtain ⟨adq6, eq6, hxq6_0⟩ := Kd.at_int (Kd.C_kept_now HR0.out HK.out) x8_1 pq6 qq6; cases eq6; replace pq6 := eq_true pq6; replace qq6 := eq_true qq6; have pq7 : 0 ≤ ((l2.length : Int) : Int) := of_decide_eq_true as_; have qq7 : (l2.length : Int) < (l1.length : Int) := of_decide_eq_true as_; obtain ⟨adq7, eq7, hxq7_0⟩ := Kd.at_int (Kd.C_kept_now HR1.out HK.out) (l2.length : Int) pq7 qq7; cases eq7; (try simp only [Go.IntWalk.toNatUp] at hxq7_0); replace pq7 := eq_true pq7; replace qq7 := eq_true qq7) | (go_at_call 69; (with_reducible refine (yU.calls (rd l0 x8_1) (rd l1 (l2.length : Int)) tq1 _ A14.out).mono ?_); rintro e w' ⟨rfl, ⟨nd, rfl⟩⟩; (try exact dq_)))
     repeat (go_quiet (first | (go_at_call 115; (with_reducible refine (yL.calls k1 _ _ l2 x8_1 false _ ?side1 ?side2 A9.out).mono ?_); (case side1 => exact pC ((Kd.R_reads' HO_2.out).2.2)); (case side2 => exact (Kd.R_reads' HO_2.out).2.1); rintro e w' ⟨rfl, ⟨nd, rfl⟩⟩; (try exact dq_); have pq6 : 0 ≤ (x8_1 : Int) := of_decide_eq_true as_; have qq6 : x8_1 < (l0.length : Int) := of_decide_eq_true as_; obtain ⟨adq6, eq6, hxq6_0⟩ := Kd.at_int (Kd.C_kept_now HR0.out HK.out) x8_1 pq6 qq6; cases eq6; replace pq6 := eq_true pq6; replace qq6 := eq_true qq6; have pq7 : 0 ≤ ((l2.length : Int) : Int) := of_decide_eq_true as_; have qq7 : (l2.length : Int) < (l1.length : Int) := of_decide_eq_true as_; obtain ⟨adq7, eq7, hxq7_0⟩ := Kd.at_int (Kd.C_kept_now HR1.out HK.out) (l2.length : Int) pq7 qq7; cases eq7; (try simp only [Go.IntWalk.toNatUp] at hxq7_0); replace pq7 := eq_true pq7; replace qq7 := eq_true qq7) | (go_at_call 69; (with_reducible refine (yU.calls (rd l0 x8_1) (rd l1 (l2.length : Int)) tq1 _ A14.out).mono ?_); rintro e w' ⟨rfl, ⟨nd, rfl⟩⟩; (try exact dq_))); try go_wp2_with (first | (go_at_call 115; (with_reducible refine (yL.calls k1 _ _ l2 x8_1 false _ ?side1 ?side2 A9.out).mono ?_); (case side1 => exact pC ((Kd.R_reads' HO_2.out).2.2)); (case side2 => exact (Kd.R_reads' HO_2.out).2.1); rintro e w' ⟨rfl, ⟨nd, rfl⟩⟩; (try exact dq_); have pq6 : 0 ≤ (x8_1 : Int) := of_decide_eq_true as_; have qq6 : x8_1 < (l0.length : Int) := of_decide_eq_true as_; obtain ⟨adq6, eq6, hxq6_0⟩ := Kd.at_int (Kd.C_kept_now HR0.out HK.out) x8_1 pq6 qq6; cases eq6; replace pq6 := eq_true pq6; replace qq6 := eq_true qq6; have pq7 : 0 ≤ ((l2.length : Int) : Int) := of_decide_eq_true as_; have qq7 : (l2.length : Int) < (l1.length : Int) := of_decide_eq_true as_; obtain ⟨adq7, eq7, hxq7_0⟩ := Kd.at_int (Kd.C_kept_now HR1.out HK.out) (l2.length : Int) pq7 qq7; cases eq7; (try simp only [Go.IntWalk.toNatUp] at hxq7_0); replace pq7 := eq_true pq7; replace qq7 := eq_true qq7) | (go_at_call 69; (with_reducible refine (yU.calls (rd l0 x8_1) (rd l1 (l2.length : Int)) tq1 _ A14.out).mono ?_); rintro e w' ⟨rfl, ⟨nd, rfl⟩⟩; (try exact dq_))))
     go_meet
     case rel => exact ⟨_, (!tq1), rs_, H', ⟨by have := HK1.out; first | omega | exact Nat.le_refl _⟩, ⟨pR HO_2.out⟩, ⟨pt HK⟩, ⟨pB HB.out⟩⟩
   case rest =>
    clear HC8
    try clear c1
    try clear p1
    try clear q1
    try clear hx1
    try clear p2
    try clear c4
    try clear c4b0
    try clear c4b1
    try clear c4b2
    try clear c7
    try clear c7b0
    try clear c10
    try clear p10
    try clear q10
    try clear hx10
    try clear c11
    try clear c11b0
    try clear c12
    try clear c12b0
    try clear c12b1
    try clear c13
    try clear c13b0
    try clear c13b1
    try clear hxq6_0
    try clear hxq7_0
    try clear pq6
    try clear pq7
    try clear p2
    try clear qq6
    try clear qq7
    obtain ⟨kq, x38_7, rfl, HA, HJ7, HO_2, HK, HB⟩ := hcut
    cases kq with
    | zero => exact absurd HA.out (by simp [yv.j1])
    | succ kj7 =>
     have H := HA.out
     clear HA
     simp only [yv.j1] at H
     by_cases c15 : x38_7 = true
     ·subst c15
      rw [if_pos rfl] at H
      have H' := aQ H
      clear H
      go_wp2
      repeat (go_quiet (fail); try go_wp2)
      go_roundg kj7
      case measure => have := HK1.out; have := HJ7.out; omega
      case rel => exact ⟨(wrap64 (x8_1 + 1)), rs_, H', ⟨by have := HK1.out; have := HJ7.out; omega⟩, ⟨pR HO_2.out⟩, ⟨pt HK⟩, ⟨pB HB.out⟩⟩
     ·replace c15 := Bool.eq_false_iff.mpr c15
      subst c15
      have H1 : ((some (([] : List Int) : List Int)).bind fun yq2 => (if yq2.length + l2.length < 17592186044416 then ((some (yq2 ++ l2 : List Int)).bind fun yq3 => (if yq3.length < 17592186044416 then ((yv.f kj7 l0 l1 (yq3 ++ [x8_1])).bind fun btq4 => (if btq4.2 = true then (some (btq4.1, true)) else (yv.l0 kj7 l0 l1 l2 (wrap64 (x8_1 + 1))))) else (none))) else (none))) = some (r1, r2) := by rw [if_neg (show ¬ (false = true) by decide)] at H; exact H
      clear H
      have H := H1
      clear H1
      obtain ⟨yq2, hyq2⟩ : ∃ y_ : List Int, y_ = (([] : List Int)) := ⟨_, rfl⟩
      replace H := yy hyq2 H
      (try dsimp only at H)
      have Nyq2 := aQ hyq2
      clear hyq2
      replace H := gd H; obtain ⟨c16, H⟩ := H
      have LMc16 := aQ c16
      clear c16
      obtain ⟨yq3, hyq3⟩ : ∃ y_ : List Int, y_ = (yq2 ++ l2) := ⟨_, rfl⟩
      replace H : (if yq3.length < 17592186044416 then ((yv.f kj7 l0 l1 (yq3 ++ [x8_1])).bind fun btq4 => (if btq4.2 = true then (some (btq4.1, true)) else (yv.l0 kj7 l0 l1 l2 (wrap64 (x8_1 + 1))))) else (none)) = some (r1, r2) := by first | (rw [hyq3]; with_reducible exact H) | (rw [hyq3]; exact H)
      have Nyq3 := aQ hyq3
      clear hyq3
      replace H := gd H; obtain ⟨c17, H⟩ := H
      have LMc17 := aQ c17
      clear c17
      obtain ⟨yq8, hyq8⟩ : ∃ y_ : List Int, y_ = (yq3 ++ [x8_1]) := ⟨_, rfl⟩
      replace H : ((yv.f kj7 l0 l1 yq8).bind fun btq4 => (if btq4.2 = true then (some (btq4.1, true)) else (yv.l0 kj7 l0 l1 l2 (wrap64 (x8_1 + 1))))) = some (r1, r2) := by first | (rw [hyq8]; with_reducible exact H) | (rw [hyq8]; exact H)
      have Nyq8 := aQ hyq8
      clear hyq8
      replace H := bo H; obtain ⟨⟨tq4, tq9⟩, A18, H⟩ := H
      (try dsimp only at H)
      by_cases c19 : tq9 = true
      ·subst c19
       rw [if_pos rfl] at H
       simp only [Option.some.injEq, Prod.mk.injEq] at H
       obtain ⟨rfl, rfl⟩ := H
       go_wp2_with (first | ((with_reducible refine yb (N := 42) rfl ?_); (try (refine yae (by rfl) ?_; dsimp only)); refine Kd.R_lit (Kd.int .i64) _ 3 ?hg (N := 42) ?hd (xs := ([] : List Int)) (inner := []) (ok := fun _ => True) (okp := fun _ => True) ?hr ?hp (fun _ hk => hk) trivial (Below.refl _ _) (Nat.le_refl _) (by simp) ?_; (case hd => rfl); (case hg => rfl); (case hr => first | (go_simp; done) | (go_simp; rfl)); (case hp => exact (Reps.none _ _)); intro vqa w20 ho21 hb hg_ hnew_; clear hg_ hnew_; (first | rw [← Nyq2.out] at ho21 | (simp only [Int.reduceToNat] at ho21; rw [← Nyq2.out] at ho21)); have HOqb := aQ (Kd.R_lower (Kd.R_new' (Kd.R_newM (M := fun k_ => (P2_ k_ ∨ w.heap.size ≤ k_)) ho21 (by first | exact HK.out.1 | exact (show Kept w _ (fun k_ => P2_ k_) from pt HK).1) (fun k_ h_ => .inr h_)) (Kd.R_lt (pR HO_2.out))) (yc (pB HB.out))); replace HO_2 := aQ (Kd.R_elder' (pR HO_2.out) (Kd.R_base ho21) hb); replace HK := aQ (Kept.below (S := (fun k_ => P2_ k_)) (pt HK) hb); replace HB := bs HB hb; clear hb ho21) | ((with_reducible refine yO (b := .append) (xs := #[.tmp 42, .tmp 43]) rfl ?_); (try (refine yae (by rfl) ?_; dsimp only)); at_builtin; refine Kd.R_append_rows (Kd.int .i64) (w0 := w0) w0.heap.size rfl (.tmp 42) (.tmp 43) 22 3 (.int .i64 0) 8 rfl Try.underlying22 yaU rfl (by decide) (by omega) vqa yq2 l2 _ _ _ (fun k_ => (P2_ k_ ∨ w.heap.size ≤ k_) ∧ some k_ ≠ (.slice Ao6 l2.length co6 : Value).ownBlock) (fun _ => False) rfl rfl ?aO ?aR (fun _ _ h => h) (fun _ h => h.elim) ?aF ?aB ?aS ?aL ?_; (case aR => exact pC ((Kd.R_reads' HO_2.out).2.2)); (case aB => exact (pB HB.out)); (case aF => exact (fun k_ hk => ⟨(.inr (Nat.le_trans (by first | exact HK.out.1 | exact (show Kept w _ (fun k_ => P2_ k_) from pt HK).1) hk)), Kd.fresh' (Kd.R_lt (pR HO_2.out)) k_ hk⟩)); (case aO => exact (by refine pRx ?_; exact Kd.R_mono HOqb.out (fun _ hk => ⟨hk.1.1, hk.2⟩))); (case aS => exact (yc (pB HB.out))); (case aL => have := LMc16.out; omega); intro vqc w22 ho hb hg hat; rw [← Nyq3.out] at ho; replace HO_2 := aQ (Kd.R_after (ok := (fun k_ => (P2_ k_ ∨ w.heap.size ≤ k_))) (pR HO_2.out) hg hat); replace HB := aQ (hb); replace HK := aQ (Kept.of_grown (S := (fun k_ => P2_ k_)) hg (pt HK) (fun k_ e_ => (HOqb.out.1 k_ e_).1.1)); have HOqd := aQ (ho); clear HOqb; clear ho hb hg hat) | ((with_reducible refine yO (b := .append) (xs := #[.tmp 44, .tmp 46]) rfl ?_); (try (refine yae (by rfl) ?_; dsimp only)); at_builtin; refine Kd.R_append (Kd.int .i64) (w0 := w0) w0.heap.size rfl (.tmp 44) (.tmp 46) 22 3 (.int .i64 0) 8 rfl Try.underlying22 yaU rfl (by decide) (by omega) vqc yq3 x8_1 [.int .i64 x8_1] (fun k_ => (P2_ k_ ∨ w.heap.size ≤ k_) ∧ some k_ ≠ (.slice Ao6 l2.length co6 : Value).ownBlock) (fun _ => False) rfl rfl ?aP (fun _ hk => hk.elim) ?aF ?aO ?aB ?aS ?aL ?_; (case aP => exact rfl); (case aB => exact (pB HB.out)); (case aF => exact (fun k_ hk => ⟨(.inr (Nat.le_trans (by first | exact HK.out.1 | exact (show Kept w _ (fun k_ => P2_ k_) from pt HK).1) hk)), Kd.fresh' (Kd.R_lt (pR HO_2.out)) k_ hk⟩)); (case aO => exact (pR HOqd.out)); (case aS => exact (yc (pB HB.out))); (case aL => have := LMc17.out; omega); intro vqe w23 ho hb hg hat; rw [← Nyq8.out] at ho; replace HO_2 := aQ (Kd.R_after (ok := (fun k_ => (P2_ k_ ∨ w.heap.size ≤ k_))) (pR HO_2.out) hg hat); replace HB := aQ (hb); replace HK := aQ (Kept.of_grown (S := (fun k_ => P2_ k_)) hg (pt HK) (fun k_ e_ => (HOqd.out.1 k_ e_).1)); have HOqf := aQ (ho); clear HOqd; clear ho hb hg hat; obtain ⟨Ao24, co24, eo24⟩ := Kd.R_slice HOqf.out; subst eo24) | (go_at_call 105; (with_reducible refine (ih kj7 (by have := HK1.out; have := HJ7.out; omega) _ _ l0 _ _ l1 (fun k_ => some k_ = (.slice Ao24 yq8.length co24 : Value).ownBlock) (.slice Ao24 yq8.length co24) yq8 tq4 true w0 _ ?side1 ?side2 ?side3 ?side4 ?side5 ?side6 A18.out).mono ?_); (case side1 => exact pb HB); (case side2 => exact Kd.C_kept_call HR0.out (pt HK) (fun k_ hs_ => (fun e_ => (HOqf.out.1 k_ e_.symm).1) hs_)); (case side3 => exact HC0.out); (case side4 => exact Kd.C_kept_call HR1.out (pt HK) (fun k_ hs_ => (fun e_ => (HOqf.out.1 k_ e_.symm).1) hs_)); (case side5 => exact HC1.out); (case side6 => exact Kd.R_tight rfl HOqf.out); rintro e w25 ⟨vqg, rfl, ho0, hb, hkp⟩; have HOqh := aQ (Kd.R_mono (ok' := fun k_ => (P2_ k_ ∨ w.heap.size ≤ k_) ∧ some k_ ≠ (.slice Ao6 l2.length co6 : Value).ownBlock) ho0 (fun k_ hk_ => ⟨Or.elim hk_ (fun hs_ => (HOqf.out.1 k_ (hs_).symm).1) (fun hn_ => (.inr (Nat.le_trans (by first | exact HK.out.1 | exact (show Kept w _ (fun k_ => P2_ k_) from pt HK).1) hn_))), Or.elim hk_ (fun hs_ => fun e_ => (((HO_2.out).1 k_ e_.symm).2) hs_) (fun hn_ => (Kd.fresh' (Kd.R_lt (pR HO_2.out)) k_ hn_))⟩)); replace HO_2 := aQ (Kd.R_mono (ok' := fun k_ => (P2_ k_ ∨ w.heap.size ≤ k_) ∧ some k_ ≠ (vqg : Value).ownBlock) (Kd.R_keptB (HO_2.out) hkp (fun k_ hk_ hs_ => (hk_.2) hs_)) (fun k_ hk_ => ⟨hk_.1.1, fun e_ => Or.elim (ho0.1 k_ e_.symm) (fun hs_ => hk_.2.1 hs_) (fun hn_ => Nat.not_le.2 hk_.2.2 hn_)⟩)); replace HK := aQ (Kept.then_ (S := (fun k_ => P2_ k_)) (pt HK) hkp (fun k_ hs_ => (fun e_ => (HOqf.out.1 k_ e_.symm).1) hs_)); replace HB := aQ (hb); clear HOqf; (try clear hb); (try clear hkp); (try clear ho0)))
       repeat (go_quiet (first | ((with_reducible refine yb (N := 42) rfl ?_); (try (refine yae (by rfl) ?_; dsimp only)); refine Kd.R_lit (Kd.int .i64) _ 3 ?hg (N := 42) ?hd (xs := ([] : List Int)) (inner := []) (ok := fun _ => True) (okp := fun _ => True) ?hr ?hp (fun _ hk => hk) trivial (Below.refl _ _) (Nat.le_refl _) (by simp) ?_; (case hd => rfl); (case hg => rfl); (case hr => first | (go_simp; done) | (go_simp; rfl)); (case hp => exact (Reps.none _ _)); intro vqa w20 ho21 hb hg_ hnew_; clear hg_ hnew_; (first | rw [← Nyq2.out] at ho21 | (simp only [Int.reduceToNat] at ho21; rw [← Nyq2.out] at ho21)); have HOqb := aQ (Kd.R_lower (Kd.R_new' (Kd.R_newM (M := fun k_ => (P2_ k_ ∨ w.heap.size ≤ k_)) ho21 (by first | exact HK.out.1 | exact (show Kept w _ (fun k_ => P2_ k_) from pt HK).1) (fun k_ h_ => .inr h_)) (Kd.R_lt (pR HO_2.out))) (yc (pB HB.out))); replace HO_2 := aQ (Kd.R_elder' (pR HO_2.out) (Kd.R_base ho21) hb); replace HK := aQ (Kept.below (S := (fun k_ => P2_ k_)) (pt HK) hb); replace HB := bs HB hb; clear hb ho21) | ((with_reducible refine yO (b := .append) (xs := #[.tmp 42, .tmp 43]) rfl ?_); (try (refine yae (by rfl) ?_; dsimp only)); at_builtin; refine Kd.R_append_rows (Kd.int .i64) (w0 := w0) w0.heap.size rfl (.tmp 42) (.tmp 43) 22 3 (.int .i64 0) 8 rfl Try.underlying22 yaU rfl (by decide) (by omega) vqa yq2 l2 _ _ _ (fun k_ => (P2_ k_ ∨ w.heap.size ≤ k_) ∧ some k_ ≠ (.slice Ao6 l2.length co6 : Value).ownBlock) (fun _ => False) rfl rfl ?aO ?aR (fun _ _ h => h) (fun _ h => h.elim) ?aF ?aB ?aS ?aL ?_; (case aR => exact pC ((Kd.R_reads' HO_2.out).2.2)); (case aB => exact (pB HB.out)); (case aF => exact (fun k_ hk => ⟨(.inr (Nat.le_trans (by first | exact HK.out.1 | exact (show Kept w _ (fun k_ => P2_ k_) from pt HK).1) hk)), Kd.fresh' (Kd.R_lt (pR HO_2.out)) k_ hk⟩)); (case aO => exact (by refine pRx ?_; exact Kd.R_mono HOqb.out (fun _ hk => ⟨hk.1.1, hk.2⟩))); (case aS => exact (yc (pB HB.out))); (case aL => have := LMc16.out; omega); intro vqc w22 ho hb hg hat; rw [← Nyq3.out] at ho; replace HO_2 := aQ (Kd.R_after (ok := (fun k_ => (P2_ k_ ∨ w.heap.size ≤ k_))) (pR HO_2.out) hg hat); replace HB := aQ (hb); replace HK := aQ (Kept.of_grown (S := (fun k_ => P2_ k_)) hg (pt HK) (fun k_ e_ => (HOqb.out.1 k_ e_).1.1)); have HOqd := aQ (ho); clear HOqb; clear ho hb hg hat) | ((with_reducible refine yO (b := .append) (xs := #[.tmp 44, .tmp 46]) rfl ?_); (try (refine yae (by rfl) ?_; dsimp only)); at_builtin; refine Kd.R_append (Kd.int .i64) (w0 := w0) w0.heap.size rfl (.tmp 44) (.tmp 46) 22 3 (.int .i64 0) 8 rfl Try.underlying22 yaU rfl (by decide) (by omega) vqc yq3 x8_1 [.int .i64 x8_1] (fun k_ => (P2_ k_ ∨ w.heap.size ≤ k_) ∧ some k_ ≠ (.slice Ao6 l2.length co6 : Value).ownBlock) (fun _ => False) rfl rfl ?aP (fun _ hk => hk.elim) ?aF ?aO ?aB ?aS ?aL ?_; (case aP => exact rfl); (case aB => exact (pB HB.out)); (case aF => exact (fun k_ hk => ⟨(.inr (Nat.le_trans (by first | exact HK.out.1 | exact (show Kept w _ (fun k_ => P2_ k_) from pt HK).1) hk)), Kd.fresh' (Kd.R_lt (pR HO_2.out)) k_ hk⟩)); (case aO => exact (pR HOqd.out)); (case aS => exact (yc (pB HB.out))); (case aL => have := LMc17.out; omega); intro vqe w23 ho hb hg hat; rw [← Nyq8.out] at ho; replace HO_2 := aQ (Kd.R_after (ok := (fun k_ => (P2_ k_ ∨ w.heap.size ≤ k_))) (pR HO_2.out) hg hat); replace HB := aQ (hb); replace HK := aQ (Kept.of_grown (S := (fun k_ => P2_ k_)) hg (pt HK) (fun k_ e_ => (HOqd.out.1 k_ e_).1)); have HOqf := aQ (ho); clear HOqd; clear ho hb hg hat; obtain ⟨Ao24, co24, eo24⟩ := Kd.R_slice HOqf.out; subst eo24) | (go_at_call 105; (with_reducible refine (ih kj7 (by have := HK1.out; have := HJ7.out; omega) _ _ l0 _ _ l1 (fun k_ => some k_ = (.slice Ao24 yq8.length co24 : Value).ownBlock) (.slice Ao24 yq8.length co24) yq8 tq4 true w0 _ ?side1 ?side2 ?side3 ?side4 ?side5 ?side6 A18.out).mono ?_); (case side1 => exact pb HB); (case side2 => exact Kd.C_kept_call HR0.out (pt HK) (fun k_ hs_ => (fun e_ => (HOqf.out.1 k_ e_.symm).1) hs_)); (case side3 => exact HC0.out); (case side4 => exact Kd.C_kept_call HR1.out (pt HK) (fun k_ hs_ => (fun e_ => (HOqf.out.1 k_ e_.symm).1) hs_)); (case side5 => exact HC1.out); (case side6 => exact Kd.R_tight rfl HOqf.out); rintro e w25 ⟨vqg, rfl, ho0, hb, hkp⟩; have HOqh := aQ (Kd.R_mono (ok' := fun k_ => (P2_ k_ ∨ w.heap.size ≤ k_) ∧ some k_ ≠ (.slice Ao6 l2.length co6 : Value).ownBlock) ho0 (fun k_ hk_ => ⟨Or.elim hk_ (fun hs_ => (HOqf.out.1 k_ (hs_).symm).1) (fun hn_ => (.inr (Nat.le_trans (by first | exact HK.out.1 | exact (show Kept w _ (fun k_ => P2_ k_) from pt HK).1) hn_))), Or.elim hk_ (fun hs_ => fun e_ => (((HO_2.out).1 k_ e_.symm).2) hs_) (fun hn_ => (Kd.fresh' (Kd.R_lt (pR HO_2.out)) k_ hn_))⟩)); replace HO_2 := aQ (Kd.R_mono (ok' := fun k_ => (P2_ k_ ∨ w.heap.size ≤ k_) ∧ some k_ ≠ (vqg : Value).ownBlock) (Kd.R_keptB (HO_2.out) hkp (fun k_ hk_ hs_ => (hk_.2) hs_)) (fun k_ hk_ => ⟨hk_.1.1, fun e_ => Or.elim (ho0.1 k_ e_.symm) (fun hs_ => hk_.2.1 hs_) (fun hn_ => Nat.not_le.2 hk_.2.2 hn_)⟩)); replace HK := aQ (Kept.then_ (S := (fun k_ => P2_ k_)) (pt HK) hkp (fun k_ hs_ => (fun e_ => (HOqf.out.1 k_ e_.symm).1) hs_)); replace HB := aQ (hb); clear HOqf; (try clear hb); (try clear hkp); (try clear ho0))); try go_wp2_with (first | ((with_reducible refine yb (N := 42) rfl ?_); (try (refine yae (by rfl) ?_; dsimp only)); refine Kd.R_lit (Kd.int .i64) _ 3 ?hg (N := 42) ?hd (xs := ([] : List Int)) (inner := []) (ok := fun _ => True) (okp := fun _ => True) ?hr ?hp (fun _ hk => hk) trivial (Below.refl _ _) (Nat.le_refl _) (by simp) ?_; (case hd => rfl); (case hg => rfl); (case hr => first | (go_simp; done) | (go_simp; rfl)); (case hp => exact (Reps.none _ _)); intro vqa w20 ho21 hb hg_ hnew_; clear hg_ hnew_; (first | rw [← Nyq2.out] at ho21 | (simp only [Int.reduceToNat] at ho21; rw [← Nyq2.out] at ho21)); have HOqb := aQ (Kd.R_lower (Kd.R_new' (Kd.R_newM (M := fun k_ => (P2_ k_ ∨ w.heap.size ≤ k_)) ho21 (by first | exact HK.out.1 | exact (show Kept w _ (fun k_ => P2_ k_) from pt HK).1) (fun k_ h_ => .inr h_)) (Kd.R_lt (pR HO_2.out))) (yc (pB HB.out))); replace HO_2 := aQ (Kd.R_elder' (pR HO_2.out) (Kd.R_base ho21) hb); replace HK := aQ (Kept.below (S := (fun k_ => P2_ k_)) (pt HK) hb); replace HB := bs HB hb; clear hb ho21) | ((with_reducible refine yO (b := .append) (xs := #[.tmp 42, .tmp 43]) rfl ?_); (try (refine yae (by rfl) ?_; dsimp only)); at_builtin; refine Kd.R_append_rows (Kd.int .i64) (w0 := w0) w0.heap.size rfl (.tmp 42) (.tmp 43) 22 3 (.int .i64 0) 8 rfl Try.underlying22 yaU rfl (by decide) (by omega) vqa yq2 l2 _ _ _ (fun k_ => (P2_ k_ ∨ w.heap.size ≤ k_) ∧ some k_ ≠ (.slice Ao6 l2.length co6 : Value).ownBlock) (fun _ => False) rfl rfl ?aO ?aR (fun _ _ h => h) (fun _ h => h.elim) ?aF ?aB ?aS ?aL ?_; (case aR => exact pC ((Kd.R_reads' HO_2.out).2.2)); (case aB => exact (pB HB.out)); (case aF => exact (fun k_ hk => ⟨(.inr (Nat.le_trans (by first | exact HK.out.1 | exact (show Kept w _ (fun k_ => P2_ k_) from pt HK).1) hk)), Kd.fresh' (Kd.R_lt (pR HO_2.out)) k_ hk⟩)); (case aO => exact (by refine pRx ?_; exact Kd.R_mono HOqb.out (fun _ hk => ⟨hk.1.1, hk.2⟩))); (case aS => exact (yc (pB HB.out))); (case aL => have := LMc16.out; omega); intro vqc w22 ho hb hg hat; rw [← Nyq3.out] at ho; replace HO_2 := aQ (Kd.R_after (ok := (fun k_ => (P2_ k_ ∨ w.heap.size ≤ k_))) (pR HO_2.out) hg hat); replace HB := aQ (hb); replace HK := aQ (Kept.of_grown (S := (fun k_ => P2_ k_)) hg (pt HK) (fun k_ e_ => (HOqb.out.1 k_ e_).1.1)); have HOqd := aQ (ho); clear HOqb; clear ho hb hg hat) | ((with_reducible refine yO (b := .append) (xs := #[.tmp 44, .tmp 46]) rfl ?_); (try (refine yae (by rfl) ?_; dsimp only)); at_builtin; refine Kd.R_append (Kd.int .i64) (w0 := w0) w0.heap.size rfl (.tmp 44) (.tmp 46) 22 3 (.int .i64 0) 8 rfl Try.underlying22 yaU rfl (by decide) (by omega) vqc yq3 x8_1 [.int .i64 x8_1] (fun k_ => (P2_ k_ ∨ w.heap.size ≤ k_) ∧ some k_ ≠ (.slice Ao6 l2.length co6 : Value).ownBlock) (fun _ => False) rfl rfl ?aP (fun _ hk => hk.elim) ?aF ?aO ?aB ?aS ?aL ?_; (case aP => exact rfl); (case aB => exact (pB HB.out)); (case aF => exact (fun k_ hk => ⟨(.inr (Nat.le_trans (by first | exact HK.out.1 | exact (show Kept w _ (fun k_ => P2_ k_) from pt HK).1) hk)), Kd.fresh' (Kd.R_lt (pR HO_2.out)) k_ hk⟩)); (case aO => exact (pR HOqd.out)); (case aS => exact (yc (pB HB.out))); (case aL => have := LMc17.out; omega); intro vqe w23 ho hb hg hat; rw [← Nyq8.out] at ho; replace HO_2 := aQ (Kd.R_after (ok := (fun k_ => (P2_ k_ ∨ w.heap.size ≤ k_))) (pR HO_2.out) hg hat); replace HB := aQ (hb); replace HK := aQ (Kept.of_grown (S := (fun k_ => P2_ k_)) hg (pt HK) (fun k_ e_ => (HOqd.out.1 k_ e_).1)); have HOqf := aQ (ho); clear HOqd; clear ho hb hg hat; obtain ⟨Ao24, co24, eo24⟩ := Kd.R_slice HOqf.out; subst eo24) | (go_at_call 105; (with_reducible refine (ih kj7 (by have := HK1.out; have := HJ7.out; omega) _ _ l0 _ _ l1 (fun k_ => some k_ = (.slice Ao24 yq8.length co24 : Value).ownBlock) (.slice Ao24 yq8.length co24) yq8 tq4 true w0 _ ?side1 ?side2 ?side3 ?side4 ?side5 ?side6 A18.out).mono ?_); (case side1 => exact pb HB); (case side2 => exact Kd.C_kept_call HR0.out (pt HK) (fun k_ hs_ => (fun e_ => (HOqf.out.1 k_ e_.symm).1) hs_)); (case side3 => exact HC0.out); (case side4 => exact Kd.C_kept_call HR1.out (pt HK) (fun k_ hs_ => (fun e_ => (HOqf.out.1 k_ e_.symm).1) hs_)); (case side5 => exact HC1.out); (case side6 => exact Kd.R_tight rfl HOqf.out); rintro e w25 ⟨vqg, rfl, ho0, hb, hkp⟩; have HOqh := aQ (Kd.R_mono (ok' := fun k_ => (P2_ k_ ∨ w.heap.size ≤ k_) ∧ some k_ ≠ (.slice Ao6 l2.length co6 : Value).ownBlock) ho0 (fun k_ hk_ => ⟨Or.elim hk_ (fun hs_ => (HOqf.out.1 k_ (hs_).symm).1) (fun hn_ => (.inr (Nat.le_trans (by first | exact HK.out.1 | exact (show Kept w _ (fun k_ => P2_ k_) from pt HK).1) hn_))), Or.elim hk_ (fun hs_ => fun e_ => (((HO_2.out).1 k_ e_.symm).2) hs_) (fun hn_ => (Kd.fresh' (Kd.R_lt (pR HO_2.out)) k_ hn_))⟩)); replace HO_2 := aQ (Kd.R_mono (ok' := fun k_ => (P2_ k_ ∨ w.heap.size ≤ k_) ∧ some k_ ≠ (vqg : Value).ownBlock) (Kd.R_keptB (HO_2.out) hkp (fun k_ hk_ hs_ => (hk_.2) hs_)) (fun k_ hk_ => ⟨hk_.1.1, fun e_ => Or.elim (ho0.1 k_ e_.symm) (fun hs_ => hk_.2.1 hs_) (fun hn_ => Nat.not_le.2 hk_.2.2 hn_)⟩)); replace HK := aQ (Kept.then_ (S := (fun k_ => P2_ k_)) (pt HK) hkp (fun k_ hs_ => (fun e_ => (HOqf.out.1 k_ e_.symm).1) hs_)); replace HB := aQ (hb); clear HOqf; (try clear hb); (try clear hkp); (try clear ho0))))
       go_ret2
       exact ⟨_, by first | rfl | (simp [errW_none, yi] <;> rfl) | (simp [*, errW_none, yi] <;> rfl), by refine pRx ?_; exact Kd.R_mono HOqh.out (fun _ hk => hk.1), pB HB.out, pt HK⟩
      ·replace c19 := Bool.eq_false_iff.mpr c19
       subst c19
       have H1 : (yv.l0 kj7 l0 l1 l2 (wrap64 (x8_1 + 1))) = some (r1, r2) := by rw [if_neg (show ¬ (false = true) by decide)] at H; exact H
       clear H
       have H := H1
       clear H1
       have H' := aQ H
       clear H
       go_wp2_with (first | ((with_reducible refine yb (N := 42) rfl ?_); (try (refine yae (by rfl) ?_; dsimp only)); refine Kd.R_lit (Kd.int .i64) _ 3 ?hg (N := 42) ?hd (xs := ([] : List Int)) (inner := []) (ok := fun _ => True) (okp := fun _ => True) ?hr ?hp (fun _ hk => hk) trivial (Below.refl _ _) (Nat.le_refl _) (by simp) ?_; (case hd => rfl); (case hg => rfl); (case hr => first | (go_simp; done) | (go_simp; rfl)); (case hp => exact (Reps.none _ _)); intro vqa w26 ho27 hb hg_ hnew_; clear hg_ hnew_; (first | rw [← Nyq2.out] at ho27 | (simp only [Int.reduceToNat] at ho27; rw [← Nyq2.out] at ho27)); have HOqb := aQ (Kd.R_lower (Kd.R_new' (Kd.R_newM (M := fun k_ => (P2_ k_ ∨ w.heap.size ≤ k_)) ho27 (by first | exact HK.out.1 | exact (show Kept w _ (fun k_ => P2_ k_) from pt HK).1) (fun k_ h_ => .inr h_)) (Kd.R_lt (pR HO_2.out))) (yc (pB HB.out))); replace HO_2 := aQ (Kd.R_elder' (pR HO_2.out) (Kd.R_base ho27) hb); replace HK := aQ (Kept.below (S := (fun k_ => P2_ k_)) (pt HK) hb); replace HB := bs HB hb; clear hb ho27) | ((with_reducible refine yO (b := .append) (xs := #[.tmp 42, .tmp 43]) rfl ?_); (try (refine yae (by rfl) ?_; dsimp only)); at_builtin; refine Kd.R_append_rows (Kd.int .i64) (w0 := w0) w0.heap.size rfl (.tmp 42) (.tmp 43) 22 3 (.int .i64 0) 8 rfl Try.underlying22 yaU rfl (by decide) (by omega) vqa yq2 l2 _ _ _ (fun k_ => (P2_ k_ ∨ w.heap.size ≤ k_) ∧ some k_ ≠ (.slice Ao6 l2.length co6 : Value).ownBlock) (fun _ => False) rfl rfl ?aO ?aR (fun _ _ h => h) (fun _ h => h.elim) ?aF ?aB ?aS ?aL ?_; (case aR => exact pC ((Kd.R_reads' HO_2.out).2.2)); (case aB => exact (pB HB.out)); (case aF => exact (fun k_ hk => ⟨(.inr (Nat.le_trans (by first | exact HK.out.1 | exact (show Kept w _ (fun k_ => P2_ k_) from pt HK).1) hk)), Kd.fresh' (Kd.R_lt (pR HO_2.out)) k_ hk⟩)); (case aO => exact (by refine pRx ?_; exact Kd.R_mono HOqb.out (fun _ hk => ⟨hk.1.1, hk.2⟩))); (case aS => exact (yc (pB HB.out))); (case aL => have := LMc16.out; omega); intro vqc w28 ho hb hg hat; rw [← Nyq3.out] at ho; replace HO_2 := aQ (Kd.R_after (ok := (fun k_ => (P2_ k_ ∨ w.heap.size ≤ k_))) (pR HO_2.out) hg hat); replace HB := aQ (hb); replace HK := aQ (Kept.of_grown (S := (fun k_ => P2_ k_)) hg (pt HK) (fun k_ e_ => (HOqb.out.1 k_ e_).1.1)); have HOqd := aQ (ho); clear HOqb; clear ho hb hg hat) | ((with_reducible refine yO (b := .append) (xs := #[.tmp 44, .tmp 46]) rfl ?_); (try (refine yae (by rfl) ?_; dsimp only)); at_builtin; refine Kd.R_append (Kd.int .i64) (w0 := w0) w0.heap.size rfl (.tmp 44) (.tmp 46) 22 3 (.int .i64 0) 8 rfl Try.underlying22 yaU rfl (by decide) (by omega) vqc yq3 x8_1 [.int .i64 x8_1] (fun k_ => (P2_ k_ ∨ w.heap.size ≤ k_) ∧ some k_ ≠ (.slice Ao6 l2.length co6 : Value).ownBlock) (fun _ => False) rfl rfl ?aP (fun _ hk => hk.elim) ?aF ?aO ?aB ?aS ?aL ?_; (case aP => exact rfl); (case aB => exact (pB HB.out)); (case aF => exact (fun k_ hk => ⟨(.inr (Nat.le_trans (by first | exact HK.out.1 | exact (show Kept w _ (fun k_ => P2_ k_) from pt HK).1) hk)), Kd.fresh' (Kd.R_lt (pR HO_2.out)) k_ hk⟩)); (case aO => exact (pR HOqd.out)); (case aS => exact (yc (pB HB.out))); (case aL => have := LMc17.out; omega); intro vqe w29 ho hb hg hat; rw [← Nyq8.out] at ho; replace HO_2 := aQ (Kd.R_after (ok := (fun k_ => (P2_ k_ ∨ w.heap.size ≤ k_))) (pR HO_2.out) hg hat); replace HB := aQ (hb); replace HK := aQ (Kept.of_grown (S := (fun k_ => P2_ k_)) hg (pt HK) (fun k_ e_ => (HOqd.out.1 k_ e_).1)); have HOqf := aQ (ho); clear HOqd; clear ho hb hg hat; obtain ⟨Ao30, co30, eo30⟩ := Kd.R_slice HOqf.out; subst eo30) | (go_at_call 105; (with_reducible refine (ih kj7 (by have := HK1.out; have := HJ7.out; omega) _ _ l0 _ _ l1 (fun k_ => some k_ = (.slice Ao30 yq8.length co30 : Value).ownBlock) (.slice Ao30 yq8.length co30) yq8 tq4 false w0 _ ?side1 ?side2 ?side3 ?side4 ?side5 ?side6 A18.out).mono ?_); (case side1 => exact pb HB); (case side2 => exact Kd.C_kept_call HR0.out (pt HK) (fun k_ hs_ => (fun e_ => (HOqf.out.1 k_ e_.symm).1) hs_)); (case side3 => exact HC0.out); (case side4 => exact Kd.C_kept_call HR1.out (pt HK) (fun k_ hs_ => (fun e_ => (HOqf.out.1 k_ e_.symm).1) hs_)); (case side5 => exact HC1.out); (case side6 => exact Kd.R_tight rfl HOqf.out); rintro e w31 ⟨vqg, rfl, ho0, hb, hkp⟩; have HOqh := aQ (Kd.R_mono (ok' := fun k_ => (P2_ k_ ∨ w.heap.size ≤ k_) ∧ some k_ ≠ (.slice Ao6 l2.length co6 : Value).ownBlock) ho0 (fun k_ hk_ => ⟨Or.elim hk_ (fun hs_ => (HOqf.out.1 k_ (hs_).symm).1) (fun hn_ => (.inr (Nat.le_trans (by first | exact HK.out.1 | exact (show Kept w _ (fun k_ => P2_ k_) from pt HK).1) hn_))), Or.elim hk_ (fun hs_ => fun e_ => (((HO_2.out).1 k_ e_.symm).2) hs_) (fun hn_ => (Kd.fresh' (Kd.R_lt (pR HO_2.out)) k_ hn_))⟩)); replace HO_2 := aQ (Kd.R_mono (ok' := fun k_ => (P2_ k_ ∨ w.heap.size ≤ k_) ∧ some k_ ≠ (vqg : Value).ownBlock) (Kd.R_keptB (HO_2.out) hkp (fun k_ hk_ hs_ => (hk_.2) hs_)) (fun k_ hk_ => ⟨hk_.1.1, fun e_ => Or.elim (ho0.1 k_ e_.symm) (fun hs_ => hk_.2.1 hs_) (fun hn_ => Nat.not_le.2 hk_.2.2 hn_)⟩)); replace HK := aQ (Kept.then_ (S := (fun k_ => P2_ k_)) (pt HK) hkp (fun k_ hs_ => (fun e_ => (HOqf.out.1 k_ e_.symm).1) hs_)); replace HB := aQ (hb); clear HOqf; (try clear hb); (try clear hkp); (try clear ho0)))
       repeat (go_quiet (first | ((with_reducible refine yb (N := 42) rfl ?_); (try (refine yae (by rfl) ?_; dsimp only)); refine Kd.R_lit (Kd.int .i64) _ 3 ?hg (N := 42) ?hd (xs := ([] : List Int)) (inner := []) (ok := fun _ => True) (okp := fun _ => True) ?hr ?hp (fun _ hk => hk) trivial (Below.refl _ _) (Nat.le_refl _) (by simp) ?_; (case hd => rfl); (case hg => rfl); (case hr => first | (go_simp; done) | (go_simp; rfl)); (case hp => exact (Reps.none _ _)); intro vqa w26 ho27 hb hg_ hnew_; clear hg_ hnew_; (first | rw [← Nyq2.out] at ho27 | (simp only [Int.reduceToNat] at ho27; rw [← Nyq2.out] at ho27)); have HOqb := aQ (Kd.R_lower (Kd.R_new' (Kd.R_newM (M := fun k_ => (P2_ k_ ∨ w.heap.size ≤ k_)) ho27 (by first | exact HK.out.1 | exact (show Kept w _ (fun k_ => P2_ k_) from pt HK).1) (fun k_ h_ => .inr h_)) (Kd.R_lt (pR HO_2.out))) (yc (pB HB.out))); replace HO_2 := aQ (Kd.R_elder' (pR HO_2.out) (Kd.R_base ho27) hb); replace HK := aQ (Kept.below (S := (fun k_ => P2_ k_)) (pt HK) hb); replace HB := bs HB hb; clear hb ho27) | ((with_reducible refine yO (b := .append) (xs := #[.tmp 42, .tmp 43]) rfl ?_); (try (refine yae (by rfl) ?_; dsimp only)); at_builtin; refine Kd.R_append_rows (Kd.int .i64) (w0 := w0) w0.heap.size rfl (.tmp 42) (.tmp 43) 22 3 (.int .i64 0) 8 rfl Try.underlying22 yaU rfl (by decide) (by omega) vqa yq2 l2 _ _ _ (fun k_ => (P2_ k_ ∨ w.heap.size ≤ k_) ∧ some k_ ≠ (.slice Ao6 l2.length co6 : Value).ownBlock) (fun _ => False) rfl rfl ?aO ?aR (fun _ _ h => h) (fun _ h => h.elim) ?aF ?aB ?aS ?aL ?_; (case aR => exact pC ((Kd.R_reads' HO_2.out).2.2)); (case aB => exact (pB HB.out)); (case aF => exact (fun k_ hk => ⟨(.inr (Nat.le_trans (by first | exact HK.out.1 | exact (show Kept w _ (fun k_ => P2_ k_) from pt HK).1) hk)), Kd.fresh' (Kd.R_lt (pR HO_2.out)) k_ hk⟩)); (case aO => exact (by refine pRx ?_; exact Kd.R_mono HOqb.out (fun _ hk => ⟨hk.1.1, hk.2⟩))); (case aS => exact (yc (pB HB.out))); (case aL => have := LMc16.out; omega); intro vqc w28 ho hb hg hat; rw [← Nyq3.out] at ho; replace HO_2 := aQ (Kd.R_after (ok := (fun k_ => (P2_ k_ ∨ w.heap.size ≤ k_))) (pR HO_2.out) hg hat); replace HB := aQ (hb); replace HK := aQ (Kept.of_grown (S := (fun k_ => P2_ k_)) hg (pt HK) (fun k_ e_ => (HOqb.out.1 k_ e_).1.1)); have HOqd := aQ (ho); clear HOqb; clear ho hb hg hat) | ((with_reducible refine yO (b := .append) (xs := #[.tmp 44, .tmp 46]) rfl ?_); (try (refine yae (by rfl) ?_; dsimp only)); at_builtin; refine Kd.R_append (Kd.int .i64) (w0 := w0) w0.heap.size rfl (.tmp 44) (.tmp 46) 22 3 (.int .i64 0) 8 rfl Try.underlying22 yaU rfl (by decide) (by omega) vqc yq3 x8_1 [.int .i64 x8_1] (fun k_ => (P2_ k_ ∨ w.heap.size ≤ k_) ∧ some k_ ≠ (.slice Ao6 l2.length co6 : Value).ownBlock) (fun _ => False) rfl rfl ?aP (fun _ hk => hk.elim) ?aF ?aO ?aB ?aS ?aL ?_; (case aP => exact rfl); (case aB => exact (pB HB.out)); (case aF => exact (fun k_ hk => ⟨(.inr (Nat.le_trans (by first | exact HK.out.1 | exact (show Kept w _ (fun k_ => P2_ k_) from pt HK).1) hk)), Kd.fresh' (Kd.R_lt (pR HO_2.out)) k_ hk⟩)); (case aO => exact (pR HOqd.out)); (case aS => exact (yc (pB HB.out))); (case aL => have := LMc17.out; omega); intro vqe w29 ho hb hg hat; rw [← Nyq8.out] at ho; replace HO_2 := aQ (Kd.R_after (ok := (fun k_ => (P2_ k_ ∨ w.heap.size ≤ k_))) (pR HO_2.out) hg hat); replace HB := aQ (hb); replace HK := aQ (Kept.of_grown (S := (fun k_ => P2_ k_)) hg (pt HK) (fun k_ e_ => (HOqd.out.1 k_ e_).1)); have HOqf := aQ (ho); clear HOqd; clear ho hb hg hat; obtain ⟨Ao30, co30, eo30⟩ := Kd.R_slice HOqf.out; subst eo30) | (go_at_call 105; (with_reducible refine (ih kj7 (by have := HK1.out; have := HJ7.out; omega) _ _ l0 _ _ l1 (fun k_ => some k_ = (.slice Ao30 yq8.length co30 : Value).ownBlock) (.slice Ao30 yq8.length co30) yq8 tq4 false w0 _ ?side1 ?side2 ?side3 ?side4 ?side5 ?side6 A18.out).mono ?_); (case side1 => exact pb HB); (case side2 => exact Kd.C_kept_call HR0.out (pt HK) (fun k_ hs_ => (fun e_ => (HOqf.out.1 k_ e_.symm).1) hs_)); (case side3 => exact HC0.out); (case side4 => exact Kd.C_kept_call HR1.out (pt HK) (fun k_ hs_ => (fun e_ => (HOqf.out.1 k_ e_.symm).1) hs_)); (case side5 => exact HC1.out); (case side6 => exact Kd.R_tight rfl HOqf.out); rintro e w31 ⟨vqg, rfl, ho0, hb, hkp⟩; have HOqh := aQ (Kd.R_mono (ok' := fun k_ => (P2_ k_ ∨ w.heap.size ≤ k_) ∧ some k_ ≠ (.slice Ao6 l2.length co6 : Value).ownBlock) ho0 (fun k_ hk_ => ⟨Or.elim hk_ (fun hs_ => (HOqf.out.1 k_ (hs_).symm).1) (fun hn_ => (.inr (Nat.le_trans (by first | exact HK.out.1 | exact (show Kept w _ (fun k_ => P2_ k_) from pt HK).1) hn_))), Or.elim hk_ (fun hs_ => fun e_ => (((HO_2.out).1 k_ e_.symm).2) hs_) (fun hn_ => (Kd.fresh' (Kd.R_lt (pR HO_2.out)) k_ hn_))⟩)); replace HO_2 := aQ (Kd.R_mono (ok' := fun k_ => (P2_ k_ ∨ w.heap.size ≤ k_) ∧ some k_ ≠ (vqg : Value).ownBlock) (Kd.R_keptB (HO_2.out) hkp (fun k_ hk_ hs_ => (hk_.2) hs_)) (fun k_ hk_ => ⟨hk_.1.1, fun e_ => Or.elim (ho0.1 k_ e_.symm) (fun hs_ => hk_.2.1 hs_) (fun hn_ => Nat.not_le.2 hk_.2.2 hn_)⟩)); replace HK := aQ (Kept.then_ (S := (fun k_ => P2_ k_)) (pt HK) hkp (fun k_ hs_ => (fun e_ => (HOqf.out.1 k_ e_.symm).1) hs_)); replace HB := aQ (hb); clear HOqf; (try clear hb); (try clear hkp); (try clear ho0))); try go_wp2_with (first | ((with_reducible refine yb (N := 42) rfl ?_); (try (refine yae (by rfl) ?_; dsimp only)); refine Kd.R_lit (Kd.int .i64) _ 3 ?hg (N := 42) ?hd (xs := ([] : List Int)) (inner := []) (ok := fun _ => True) (okp := fun _ => True) ?hr ?hp (fun _ hk => hk) trivial (Below.refl _ _) (Nat.le_refl _) (by simp) ?_; (case hd => rfl); (case hg => rfl); (case hr => first | (go_simp; done) | (go_simp; rfl)); (case hp => exact (Reps.none _ _)); intro vqa w26 ho27 hb hg_ hnew_; clear hg_ hnew_; (first | rw [← Nyq2.out] at ho27 | (simp only [Int.reduceToNat] at ho27; rw [← Nyq2.out] at ho27)); have HOqb := aQ (Kd.R_lower (Kd.R_new' (Kd.R_newM (M := fun k_ => (P2_ k_ ∨ w.heap.size ≤ k_)) ho27 (by first | exact HK.out.1 | exact (show Kept w _ (fun k_ => P2_ k_) from pt HK).1) (fun k_ h_ => .inr h_)) (Kd.R_lt (pR HO_2.out))) (yc (pB HB.out))); replace HO_2 := aQ (Kd.R_elder' (pR HO_2.out) (Kd.R_base ho27) hb); replace HK := aQ (Kept.below (S := (fun k_ => P2_ k_)) (pt HK) hb); replace HB := bs HB hb; clear hb ho27) | ((with_reducible refine yO (b := .append) (xs := #[.tmp 42, .tmp 43]) rfl ?_); (try (refine yae (by rfl) ?_; dsimp only)); at_builtin; refine Kd.R_append_rows (Kd.int .i64) (w0 := w0) w0.heap.size rfl (.tmp 42) (.tmp 43) 22 3 (.int .i64 0) 8 rfl Try.underlying22 yaU rfl (by decide) (by omega) vqa yq2 l2 _ _ _ (fun k_ => (P2_ k_ ∨ w.heap.size ≤ k_) ∧ some k_ ≠ (.slice Ao6 l2.length co6 : Value).ownBlock) (fun _ => False) rfl rfl ?aO ?aR (fun _ _ h => h) (fun _ h => h.elim) ?aF ?aB ?aS ?aL ?_; (case aR => exact pC ((Kd.R_reads' HO_2.out).2.2)); (case aB => exact (pB HB.out)); (case aF => exact (fun k_ hk => ⟨(.inr (Nat.le_trans (by first | exact HK.out.1 | exact (show Kept w _ (fun k_ => P2_ k_) from pt HK).1) hk)), Kd.fresh' (Kd.R_lt (pR HO_2.out)) k_ hk⟩)); (case aO => exact (by refine pRx ?_; exact Kd.R_mono HOqb.out (fun _ hk => ⟨hk.1.1, hk.2⟩))); (case aS => exact (yc (pB HB.out))); (case aL => have := LMc16.out; omega); intro vqc w28 ho hb hg hat; rw [← Nyq3.out] at ho; replace HO_2 := aQ (Kd.R_after (ok := (fun k_ => (P2_ k_ ∨ w.heap.size ≤ k_))) (pR HO_2.out) hg hat); replace HB := aQ (hb); replace HK := aQ (Kept.of_grown (S := (fun k_ => P2_ k_)) hg (pt HK) (fun k_ e_ => (HOqb.out.1 k_ e_).1.1)); have HOqd := aQ (ho); clear HOqb; clear ho hb hg hat) | ((with_reducible refine yO (b := .append) (xs := #[.tmp 44, .tmp 46]) rfl ?_); (try (refine yae (by rfl) ?_; dsimp only)); at_builtin; refine Kd.R_append (Kd.int .i64) (w0 := w0) w0.heap.size rfl (.tmp 44) (.tmp 46) 22 3 (.int .i64 0) 8 rfl Try.underlying22 yaU rfl (by decide) (by omega) vqc yq3 x8_1 [.int .i64 x8_1] (fun k_ => (P2_ k_ ∨ w.heap.size ≤ k_) ∧ some k_ ≠ (.slice Ao6 l2.length co6 : Value).ownBlock) (fun _ => False) rfl rfl ?aP (fun _ hk => hk.elim) ?aF ?aO ?aB ?aS ?aL ?_; (case aP => exact rfl); (case aB => exact (pB HB.out)); (case aF => exact (fun k_ hk => ⟨(.inr (Nat.le_trans (by first | exact HK.out.1 | exact (show Kept w _ (fun k_ => P2_ k_) from pt HK).1) hk)), Kd.fresh' (Kd.R_lt (pR HO_2.out)) k_ hk⟩)); (case aO => exact (pR HOqd.out)); (case aS => exact (yc (pB HB.out))); (case aL => have := LMc17.out; omega); intro vqe w29 ho hb hg hat; rw [← Nyq8.out] at ho; replace HO_2 := aQ (Kd.R_after (ok := (fun k_ => (P2_ k_ ∨ w.heap.size ≤ k_))) (pR HO_2.out) hg hat); replace HB := aQ (hb); replace HK := aQ (Kept.of_grown (S := (fun k_ => P2_ k_)) hg (pt HK) (fun k_ e_ => (HOqd.out.1 k_ e_).1)); have HOqf := aQ (ho); clear HOqd; clear ho hb hg hat; obtain ⟨Ao30, co30, eo30⟩ := Kd.R_slice HOqf.out; subst eo30) | (go_at_call 105; (with_reducible refine (ih kj7 (by have := HK1.out; have := HJ7.out; omega) _ _ l0 _ _ l1 (fun k_ => some k_ = (.slice Ao30 yq8.length co30 : Value).ownBlock) (.slice Ao30 yq8.length co30) yq8 tq4 false w0 _ ?side1 ?side2 ?side3 ?side4 ?side5 ?side6 A18.out).mono ?_); (case side1 => exact pb HB); (case side2 => exact Kd.C_kept_call HR0.out (pt HK) (fun k_ hs_ => (fun e_ => (HOqf.out.1 k_ e_.symm).1) hs_)); (case side3 => exact HC0.out); (case side4 => exact Kd.C_kept_call HR1.out (pt HK) (fun k_ hs_ => (fun e_ => (HOqf.out.1 k_ e_.symm).1) hs_)); (case side5 => exact HC1.out); (case side6 => exact Kd.R_tight rfl HOqf.out); rintro e w31 ⟨vqg, rfl, ho0, hb, hkp⟩; have HOqh := aQ (Kd.R_mono (ok' := fun k_ => (P2_ k_ ∨ w.heap.size ≤ k_) ∧ some k_ ≠ (.slice Ao6 l2.length co6 : Value).ownBlock) ho0 (fun k_ hk_ => ⟨Or.elim hk_ (fun hs_ => (HOqf.out.1 k_ (hs_).symm).1) (fun hn_ => (.inr (Nat.le_trans (by first | exact HK.out.1 | exact (show Kept w _ (fun k_ => P2_ k_) from pt HK).1) hn_))), Or.elim hk_ (fun hs_ => fun e_ => (((HO_2.out).1 k_ e_.symm).2) hs_) (fun hn_ => (Kd.fresh' (Kd.R_lt (pR HO_2.out)) k_ hn_))⟩)); replace HO_2 := aQ (Kd.R_mono (ok' := fun k_ => (P2_ k_ ∨ w.heap.size ≤ k_) ∧ some k_ ≠ (vqg : Value).ownBlock) (Kd.R_keptB (HO_2.out) hkp (fun k_ hk_ hs_ => (hk_.2) hs_)) (fun k_ hk_ => ⟨hk_.1.1, fun e_ => Or.elim (ho0.1 k_ e_.symm) (fun hs_ => hk_.2.1 hs_) (fun hn_ => Nat.not_le.2 hk_.2.2 hn_)⟩)); replace HK := aQ (Kept.then_ (S := (fun k_ => P2_ k_)) (pt HK) hkp (fun k_ hs_ => (fun e_ => (HOqf.out.1 k_ e_.symm).1) hs_)); replace HB := aQ (hb); clear HOqf; (try clear hb); (try clear hkp); (try clear ho0))))
       go_roundg kj7
       case measure => have := HK1.out; have := HJ7.out; omega
       case rel => exact ⟨(wrap64 (x8_1 + 1)), rs_, H', ⟨by have := HK1.out; have := HJ7.out; omega⟩, ⟨by refine pRx ?_; exact Kd.R_mono HO_2.out (fun _ hk => hk.1)⟩, ⟨pt HK⟩, ⟨pB HB.out⟩⟩
  ·rw [if_neg c7] at H
   have c7b0 := decide_eq_false c7
   clear c7
   obtain ⟨yqi, hyqi⟩ : ∃ y_ : List Int, y_ = (([] : List Int)) := ⟨_, rfl⟩
   replace H : (some (yqi, false)) = some (r1, r2) := by first | (rw [hyqi]; with_reducible exact H) | (rw [hyqi]; exact H)
   have Nyqi := aQ hyqi
   clear hyqi
   simp only [Option.some.injEq, Prod.mk.injEq] at H
   obtain ⟨rfl, rfl⟩ := H
   go_wp2_with (first | ((with_reducible refine yb (N := 53) rfl ?_); (try (refine yae (by rfl) ?_; dsimp only)); refine Kd.R_lit (Kd.int .i64) _ 3 ?hg (N := 53) ?hd (xs := ([] : List Int)) (inner := []) (ok := fun _ => True) (okp := fun _ => True) ?hr ?hp (fun _ hk => hk) trivial (Below.refl _ _) (Nat.le_refl _) (by simp) ?_; (case hd => rfl); (case hg => rfl); (case hr => first | (go_simp; done) | (go_simp; rfl)); (case hp => exact (Reps.none _ _)); intro vqj w32 ho33 hb hg_ hnew_; clear hg_ hnew_; (first | rw [← Nyqi.out] at ho33 | (simp only [Int.reduceToNat] at ho33; rw [← Nyqi.out] at ho33)); have HOqk := aQ (Kd.R_lower (Kd.R_new' (Kd.R_newM (M := fun k_ => (P2_ k_ ∨ w.heap.size ≤ k_)) ho33 (by first | exact HK.out.1 | exact (show Kept w _ (fun k_ => P2_ k_) from pt HK).1) (fun k_ h_ => .inr h_)) (Kd.R_lt (pR HO_2.out))) (yc (pB HB.out))); replace HO_2 := aQ (Kd.R_elder' (pR HO_2.out) (Kd.R_base ho33) hb); replace HK := aQ (Kept.below (S := (fun k_ => P2_ k_)) (pt HK) hb); replace HB := bs HB hb; clear hb ho33))
   repeat (go_quiet (first | ((with_reducible refine yb (N := 53) rfl ?_); (try (refine yae (by rfl) ?_; dsimp only)); refine Kd.R_lit (Kd.int .i64) _ 3 ?hg (N := 53) ?hd (xs := ([] : List Int)) (inner := []) (ok := fun _ => True) (okp := fun _ => True) ?hr ?hp (fun _ hk => hk) trivial (Below.refl _ _) (Nat.le_refl _) (by simp) ?_; (case hd => rfl); (case hg => rfl); (case hr => first | (go_simp; done) | (go_simp; rfl)); (case hp => exact (Reps.none _ _)); intro vqj w32 ho33 hb hg_ hnew_; clear hg_ hnew_; (first | rw [← Nyqi.out] at ho33 | (simp only [Int.reduceToNat] at ho33; rw [← Nyqi.out] at ho33)); have HOqk := aQ (Kd.R_lower (Kd.R_new' (Kd.R_newM (M := fun k_ => (P2_ k_ ∨ w.heap.size ≤ k_)) ho33 (by first | exact HK.out.1 | exact (show Kept w _ (fun k_ => P2_ k_) from pt HK).1) (fun k_ h_ => .inr h_)) (Kd.R_lt (pR HO_2.out))) (yc (pB HB.out))); replace HO_2 := aQ (Kd.R_elder' (pR HO_2.out) (Kd.R_base ho33) hb); replace HK := aQ (Kept.below (S := (fun k_ => P2_ k_)) (pt HK) hb); replace HB := bs HB hb; clear hb ho33)); try go_wp2_with (first | ((with_reducible refine yb (N := 53) rfl ?_); (try (refine yae (by rfl) ?_; dsimp only)); refine Kd.R_lit (Kd.int .i64) _ 3 ?hg (N := 53) ?hd (xs := ([] : List Int)) (inner := []) (ok := fun _ => True) (okp := fun _ => True) ?hr ?hp (fun _ hk => hk) trivial (Below.refl _ _) (Nat.le_refl _) (by simp) ?_; (case hd => rfl); (case hg => rfl); (case hr => first | (go_simp; done) | (go_simp; rfl)); (case hp => exact (Reps.none _ _)); intro vqj w32 ho33 hb hg_ hnew_; clear hg_ hnew_; (first | rw [← Nyqi.out] at ho33 | (simp only [Int.reduceToNat] at ho33; rw [← Nyqi.out] at ho33)); have HOqk := aQ (Kd.R_lower (Kd.R_new' (Kd.R_newM (M := fun k_ => (P2_ k_ ∨ w.heap.size ≤ k_)) ho33 (by first | exact HK.out.1 | exact (show Kept w _ (fun k_ => P2_ k_) from pt HK).1) (fun k_ h_ => .inr h_)) (Kd.R_lt (pR HO_2.out))) (yc (pB HB.out))); replace HO_2 := aQ (Kd.R_elder' (pR HO_2.out) (Kd.R_base ho33) hb); replace HK := aQ (Kept.below (S := (fun k_ => P2_ k_)) (pt HK) hb); replace HB := bs HB hb; clear hb ho33)))
   go_ret2
   exact ⟨_, by first | rfl | (simp [errW_none, yi] <;> rfl) | (simp [*, errW_none, yi] <;> rfl), by refine pRx ?_; exact Kd.R_mono HOqk.out (fun _ hk => hk.1.1), pB HB.out, pt HK⟩
def ybe.f (a0 : Int) : Option (Int) := some (Go.bits .and .i64 (wrap64 (IntKind.u64.wrap ((IntKind.u64.wrap ((IntKind.u64.wrap ((Go.bits .and .u64 (IntKind.u64.wrap (((IntKind.u64.wrap ((Go.bits .and .u64 ((IntKind.u64.wrap ((Go.bits .and .u64 (a0 / 2) 6148914691236517205) + (Go.bits .and .u64 a0 6148914691236517205))) / 4) 3689348814741910323) + (Go.bits .and .u64 (IntKind.u64.wrap ((Go.bits .and .u64 (a0 / 2) 6148914691236517205) + (Go.bits .and .u64 a0 6148914691236517205))) 3689348814741910323))) / 16) + (IntKind.u64.wrap ((Go.bits .and .u64 ((IntKind.u64.wrap ((Go.bits .and .u64 (a0 / 2) 6148914691236517205) + (Go.bits .and .u64 a0 6148914691236517205))) / 4) 3689348814741910323) + (Go.bits .and .u64 (IntKind.u64.wrap ((Go.bits .and .u64 (a0 / 2) 6148914691236517205) + (Go.bits .and .u64 a0 6148914691236517205))) 3689348814741910323))))) 1085102592571150095) + ((Go.bits .and .u64 (IntKind.u64.wrap (((IntKind.u64.wrap ((Go.bits .and .u64 ((IntKind.u64.wrap ((Go.bits .and .u64 (a0 / 2) 6148914691236517205) + (Go.bits .and .u64 a0 6148914691236517205))) / 4) 3689348814741910323) + (Go.bits .and .u64 (IntKind.u64.wrap ((Go.bits .and .u64 (a0 / 2) 6148914691236517205) + (Go.bits .and .u64 a0 6148914691236517205))) 3689348814741910323))) / 16) + (IntKind.u64.wrap ((Go.bits .and .u64 ((IntKind.u64.wrap ((Go.bits .and .u64 (a0 / 2) 6148914691236517205) + (Go.bits .and .u64 a0 6148914691236517205))) / 4) 3689348814741910323) + (Go.bits .and .u64 (IntKind.u64.wrap ((Go.bits .and .u64 (a0 / 2) 6148914691236517205) + (Go.bits .and .u64 a0 6148914691236517205))) 3689348814741910323))))) 1085102592571150095) / 256))) + ((IntKind.u64.wrap ((Go.bits .and .u64 (IntKind.u64.wrap (((IntKind.u64.wrap ((Go.bits .and .u64 ((IntKind.u64.wrap ((Go.bits .and .u64 (a0 / 2) 6148914691236517205) + (Go.bits .and .u64 a0 6148914691236517205))) / 4) 3689348814741910323) + (Go.bits .and .u64 (IntKind.u64.wrap ((Go.bits .and .u64 (a0 / 2) 6148914691236517205) + (Go.bits .and .u64 a0 6148914691236517205))) 3689348814741910323))) / 16) + (IntKind.u64.wrap ((Go.bits .and .u64 ((IntKind.u64.wrap ((Go.bits .and .u64 (a0 / 2) 6148914691236517205) + (Go.bits .and .u64 a0 6148914691236517205))) / 4) 3689348814741910323) + (Go.bits .and .u64 (IntKind.u64.wrap ((Go.bits .and .u64 (a0 / 2) 6148914691236517205) + (Go.bits .and .u64 a0 6148914691236517205))) 3689348814741910323))))) 1085102592571150095) + ((Go.bits .and .u64 (IntKind.u64.wrap (((IntKind.u64.wrap ((Go.bits .and .u64 ((IntKind.u64.wrap ((Go.bits .and .u64 (a0 / 2) 6148914691236517205) + (Go.bits .and .u64 a0 6148914691236517205))) / 4) 3689348814741910323) + (Go.bits .and .u64 (IntKind.u64.wrap ((Go.bits .and .u64 (a0 / 2) 6148914691236517205) + (Go.bits .and .u64 a0 6148914691236517205))) 3689348814741910323))) / 16) + (IntKind.u64.wrap ((Go.bits .and .u64 ((IntKind.u64.wrap ((Go.bits .and .u64 (a0 / 2) 6148914691236517205) + (Go.bits .and .u64 a0 6148914691236517205))) / 4) 3689348814741910323) + (Go.bits .and .u64 (IntKind.u64.wrap ((Go.bits .and .u64 (a0 / 2) 6148914691236517205) + (Go.bits .and .u64 a0 6148914691236517205))) 3689348814741910323))))) 1085102592571150095) / 256))) / 65536))) + ((IntKind.u64.wrap ((IntKind.u64.wrap ((Go.bits .and .u64 (IntKind.u64.wrap (((IntKind.u64.wrap ((Go.bits .and .u64 ((IntKind.u64.wrap ((Go.bits .and .u64 (a0 / 2) 6148914691236517205) + (Go.bits .and .u64 a0 6148914691236517205))) / 4) 3689348814741910323) + (Go.bits .and .u64 (IntKind.u64.wrap ((Go.bits .and .u64 (a0 / 2) 6148914691236517205) + (Go.bits .and .u64 a0 6148914691236517205))) 3689348814741910323))) / 16) + (IntKind.u64.wrap ((Go.bits .and .u64 ((IntKind.u64.wrap ((Go.bits .and .u64 (a0 / 2) 6148914691236517205) + (Go.bits .and .u64 a0 6148914691236517205))) / 4) 3689348814741910323) + (Go.bits .and .u64 (IntKind.u64.wrap ((Go.bits .and .u64 (a0 / 2) 6148914691236517205) + (Go.bits .and .u64 a0 6148914691236517205))) 3689348814741910323))))) 1085102592571150095) + ((Go.bits .and .u64 (IntKind.u64.wrap (((IntKind.u64.wrap ((Go.bits .and .u64 ((IntKind.u64.wrap ((Go.bits .and .u64 (a0 / 2) 6148914691236517205) + (Go.bits .and .u64 a0 6148914691236517205))) / 4) 3689348814741910323) + (Go.bits .and .u64 (IntKind.u64.wrap ((Go.bits .and .u64 (a0 / 2) 6148914691236517205) + (Go.bits .and .u64 a0 6148914691236517205))) 3689348814741910323))) / 16) + (IntKind.u64.wrap ((Go.bits .and .u64 ((IntKind.u64.wrap ((Go.bits .and .u64 (a0 / 2) 6148914691236517205) + (Go.bits .and .u64 a0 6148914691236517205))) / 4) 3689348814741910323) + (Go.bits .and .u64 (IntKind.u64.wrap ((Go.bits .and .u64 (a0 / 2) 6148914691236517205) + (Go.bits .and .u64 a0 6148914691236517205))) 3689348814741910323))))) 1085102592571150095) / 256))) + ((IntKind.u64.wrap ((Go.bits .and .u64 (IntKind.u64.wrap (((IntKind.u64.wrap ((Go.bits .and .u64 ((IntKind.u64.wrap ((Go.bits .and .u64 (a0 / 2) 6148914691236517205) + (Go.bits .and .u64 a0 6148914691236517205))) / 4) 3689348814741910323) + (Go.bits .and .u64 (IntKind.u64.wrap ((Go.bits .and .u64 (a0 / 2) 6148914691236517205) + (Go.bits .and .u64 a0 6148914691236517205))) 3689348814741910323))) / 16) + (IntKind.u64.wrap ((Go.bits .and .u64 ((IntKind.u64.wrap ((Go.bits .and .u64 (a0 / 2) 6148914691236517205) + (Go.bits .and .u64 a0 6148914691236517205))) / 4) 3689348814741910323) + (Go.bits .and .u64 (IntKind.u64.wrap ((Go.bits .and .u64 (a0 / 2) 6148914691236517205) + (Go.bits .and .u64 a0 6148914691236517205))) 3689348814741910323))))) 1085102592571150095) + ((Go.bits .and .u64 (IntKind.u64.wrap (((IntKind.u64.wrap ((Go.bits .and .u64 ((IntKind.u64.wrap ((Go.bits .and .u64 (a0 / 2) 6148914691236517205) + (Go.bits .and .u64 a0 6148914691236517205))) / 4) 3689348814741910323) + (Go.bits .and .u64 (IntKind.u64.wrap ((Go.bits .and .u64 (a0 / 2) 6148914691236517205) + (Go.bits .and .u64 a0 6148914691236517205))) 3689348814741910323))) / 16) + (IntKind.u64.wrap ((Go.bits .and .u64 ((IntKind.u64.wrap ((Go.bits .and .u64 (a0 / 2) 6148914691236517205) + (Go.bits .and .u64 a0 6148914691236517205))) / 4) 3689348814741910323) + (Go.bits .and .u64 (IntKind.u64.wrap ((Go.bits .and .u64 (a0 / 2) 6148914691236517205) + (Go.bits .and .u64 a0 6148914691236517205))) 3689348814741910323))))) 1085102592571150095) / 256))) / 65536))) / 4294967296)))) 127)
theorem ybe.calls (a0 : Int) (r : Int) (w : World) (h : ybe.f a0 = some r) :
  Calls Try.prog 172 #[.int .u64 a0] w fun e w' => e = .returned (.int .i64 r) ∧ Drawn0 w w' := by
 have H := h
 clear h
 unfold ybe.f at H
 (try dsimp only at H)
 obtain rfl := Option.some.inj H
 go_enter Try.func172, Try.ntmps172
 go_wp2
 go_ret
 exact ⟨rs_, rd_⟩
def ybH.f (a0 : Int) : Option (Int) := (ybe.f a0).bind fun tq0 => (some tq0)
theorem ybH.calls (a0 : Int) (r : Int) (w : World) (h : ybH.f a0 = some r) :
  Calls Try.prog 136 #[.int .u64 a0] w fun e w' => e = .returned (.int .i64 r) ∧ Drawn0 w w' := by
 have H : ((ybe.f a0).bind fun tq0 => (some tq0)) = some r := h
 clear h
 replace H := bo H; obtain ⟨tq0, A2, H⟩ := H
 (try dsimp only at H)
 obtain rfl := Option.some.inj H
 go_enter Try.func136, Try.ntmps136
 go_wp2_with (first | (refine gq 172 (some 7) Try.func172 #[.int .u64 a0] ?_; (with_reducible refine (ybe.calls a0 tq0 _ A2.out).mono ?_); rintro e w' ⟨rfl, ⟨nd, rfl⟩⟩; refine ⟨_, rfl, ?_⟩))
 go_ret
 exact ⟨rs_, rd_⟩
def yaG.f (a0 : Int) : Option (Int) := (yaL.f a0).bind fun tq0 => (if tq0 = true then ((ybH.f (IntKind.u64.wrap (a0))).bind fun tq1 => (some tq1)) else (some 0))
theorem yaG.calls (a0 : Int) (r : Int) (w : World) (h : yaG.f a0 = some r) :
  Calls Try.prog 80 #[.int .i64 a0] w fun e w' => e = .returned (.int .i64 r) ∧ Drawn0 w w' := by
 have H := h
 clear h
 unfold yaG.f at H
 (try dsimp only at H)
 replace H := bo H; obtain ⟨tq0, A2, H⟩ := H
 (try dsimp only at H)
 by_cases c3 : tq0 = true
 ·subst c3
  rw [if_pos rfl] at H
  replace H := bo H; obtain ⟨tq1, A4, H⟩ := H
  (try dsimp only at H)
  obtain rfl := Option.some.inj H
  go_enter Try.func80, Try.ntmps80
  go_wp2_with (first | (refine gq 97 (some 4) Try.func97 #[.int .i64 a0] ?_; (with_reducible refine (yaL.calls a0 true _ A2.out).mono ?_); rintro e w' ⟨rfl, ⟨nd, rfl⟩⟩; refine ⟨_, rfl, ?_⟩) | (refine gq 136 (some 8) Try.func136 #[.int .u64 (IntKind.u64.wrap (a0))] ?_; (with_reducible refine (ybH.calls (IntKind.u64.wrap (a0)) tq1 _ A4.out).mono ?_); rintro e w' ⟨rfl, ⟨nd, rfl⟩⟩; refine ⟨_, rfl, ?_⟩))
  go_ret
  exact ⟨rs_, rd_⟩
 ·replace c3 := Bool.eq_false_iff.mpr c3
  subst c3
  have H1 : (some 0) = some r := by rw [if_neg (show ¬ (false = true) by decide)] at H; exact H
  clear H
  have H := H1
  clear H1
  obtain rfl := Option.some.inj H
  go_enter Try.func80, Try.ntmps80
  go_wp2_with (first | (refine gq 97 (some 4) Try.func97 #[.int .i64 a0] ?_; (with_reducible refine (yaL.calls a0 false _ A2.out).mono ?_); rintro e w' ⟨rfl, ⟨nd, rfl⟩⟩; refine ⟨_, rfl, ?_⟩))
  go_ret
  exact ⟨rs_, rd_⟩
def ybr.f (a0 : Int) (a1 : Int) : Option (Bool) := (yaL.f a0).bind fun tq0 => (if tq0 = true then ((yaL.f a1).bind fun tq1 => (if tq1 = true then (some ((Go.bits .andNot .i64 a0 a1) == 0)) else (some false))) else (some false))
theorem ybr.calls (a0 : Int) (a1 : Int) (r : Bool) (w : World) (h : ybr.f a0 a1 = some r) :
  Calls Try.prog 106 #[.int .i64 a0, .int .i64 a1] w fun e w' => e = .returned (.bool r) ∧ Drawn0 w w' := by
 have H := h
 clear h
 unfold ybr.f at H
 (try dsimp only at H)
 replace H := bo H; obtain ⟨tq0, A3, H⟩ := H
 (try dsimp only at H)
 by_cases c4 : tq0 = true
 ·subst c4
  rw [if_pos rfl] at H
  replace H := bo H; obtain ⟨tq1, A5, H⟩ := H
  (try dsimp only at H)
  by_cases c6 : tq1 = true
  ·subst c6
   rw [if_pos rfl] at H
   obtain rfl := Option.some.inj H
   go_enter Try.func106, Try.ntmps106
   go_wp2_with (first | (refine gq 97 (some 6) Try.func97 #[.int .i64 a0] ?_; (with_reducible refine (yaL.calls a0 true _ A3.out).mono ?_); rintro e w' ⟨rfl, ⟨nd, rfl⟩⟩; refine ⟨_, rfl, ?_⟩) | (go_at_call 97; (with_reducible refine (yaL.calls a1 true _ A5.out).mono ?_); rintro e w' ⟨rfl, ⟨nd, rfl⟩⟩))
   go_ret
   exact ⟨rs_, rd_⟩
  ·replace c6 := Bool.eq_false_iff.mpr c6
   subst c6
   have H1 : (some false) = some r := by rw [if_neg (show ¬ (false = true) by decide)] at H; exact H
   clear H
   have H := H1
   clear H1
   obtain rfl := Option.some.inj H
   go_enter Try.func106, Try.ntmps106
   go_wp2_with (first | (refine gq 97 (some 6) Try.func97 #[.int .i64 a0] ?_; (with_reducible refine (yaL.calls a0 true _ A3.out).mono ?_); rintro e w' ⟨rfl, ⟨nd, rfl⟩⟩; refine ⟨_, rfl, ?_⟩) | (go_at_call 97; (with_reducible refine (yaL.calls a1 false _ A5.out).mono ?_); rintro e w' ⟨rfl, ⟨nd, rfl⟩⟩))
   go_ret
   exact ⟨rs_, rd_⟩
 ·replace c4 := Bool.eq_false_iff.mpr c4
  subst c4
  have H1 : (some false) = some r := by rw [if_neg (show ¬ (false = true) by decide)] at H; exact H
  clear H
  have H := H1
  clear H1
  obtain rfl := Option.some.inj H
  go_enter Try.func106, Try.ntmps106
  go_wp2_with (first | (refine gq 97 (some 6) Try.func97 #[.int .i64 a0] ?_; (with_reducible refine (yaL.calls a0 false _ A3.out).mono ?_); rintro e w' ⟨rfl, ⟨nd, rfl⟩⟩; refine ⟨_, rfl, ?_⟩))
  go_ret
  exact ⟨rs_, rd_⟩
def yD.l0 : Nat → Int → Int → Option (Int)
 | 0, _, _ => none
 | k + 1, x0, x3 => if x0 > 0 then (yD.l0 k (x0 / 2) (wrap64 (x3 + (Go.bits .and .i64 x0 1)))) else (some x3)
def yD.f (k : Nat) (a0 : Int) : Option (Int) := (yJ.f 8 a0).bind fun tq0 => (if tq0 = true then (yD.l0 k a0 0) else (some 0))
theorem yD.calls (k : Nat) (a0 : Int) (r : Int) (w : World) (h : yD.f k a0 = some r) :
  Calls Try.prog 33 #[.int .i64 a0] w fun e w' => e = .returned (.int .i64 r) ∧ Drawn0 w w' := by
 have H := h
 clear h
 unfold yD.f at H
 (try dsimp only at H)
 replace H := bo H; obtain ⟨tq0, A2, H⟩ := H
 (try dsimp only at H)
 by_cases c3 : tq0 = true
 ·subst c3
  rw [if_pos rfl] at H
  have H' := aQ H
  clear H
  go_enter Try.func33, Try.ntmps33
  go_wp2_with (first | (refine gq 55 (some 5) Try.func55 #[.int .i64 8, .int .i64 a0] ?_; (with_reducible refine (yJ.calls 8 a0 true _ A2.out).mono ?_); rintro e w' ⟨rfl, ⟨nd, rfl⟩⟩; refine ⟨_, rfl, ?_⟩))
  go_loopg [0, 3] k (fun kq v0 v3 w' => ∃ (x0_1 : Int) (x3_1 : Int), v0 = .int .i64 x0_1 ∧ v3 = .int .i64 x3_1 ∧ Aside0 (yD.l0 kq x0_1 x3_1 = some r) ∧ Aside0 (kq ≤ k) ∧ Drawn0 w w')
  case atStart => exact ⟨(a0), (0), rs_, rs_, H', ⟨Nat.le_refl _⟩, rd_⟩
  clear H'
  try clear p2
  try clear c3
  obtain ⟨x0_1, x3_1, rfl, rfl, HA, HK1, ⟨m1, rfl⟩⟩ := hrel
  rcases gk with _ | k1
  ·exact absurd HA.out (by simp [yD.l0])
  have H := HA.out
  clear HA
  simp only [yD.l0] at H
  by_cases c4 : x0_1 > 0
  ·rw [if_pos c4] at H
   have c4b0 := decide_eq_true c4
   clear c4
   have H' := aQ H
   clear H
   go_wp2
   go_roundg k1
   case measure => have := HK1.out; omega
   case rel => exact ⟨(x0_1 / 2), (wrap64 (x3_1 + (Go.bits .and .i64 x0_1 1))), rs_, rs_, H', ⟨by have := HK1.out; omega⟩, rd_⟩
  ·rw [if_neg c4] at H
   have c4b0 := decide_eq_false c4
   clear c4
   obtain rfl := Option.some.inj H
   go_wp2
   go_ret
   exact ⟨rs_, rd_⟩
 ·replace c3 := Bool.eq_false_iff.mpr c3
  subst c3
  have H1 : (some 0) = some r := by rw [if_neg (show ¬ (false = true) by decide)] at H; exact H
  clear H
  have H := H1
  clear H1
  obtain rfl := Option.some.inj H
  go_enter Try.func33, Try.ntmps33
  go_wp2_with (first | (refine gq 55 (some 5) Try.func55 #[.int .i64 8, .int .i64 a0] ?_; (with_reducible refine (yJ.calls 8 a0 false _ A2.out).mono ?_); rintro e w' ⟨rfl, ⟨nd, rfl⟩⟩; refine ⟨_, rfl, ?_⟩))
  go_ret
  exact ⟨rs_, rd_⟩
def yT.f (a0 : Int) : Option (Int) := (yaf.f a0 0 8).bind fun tq0 => (if tq0 = true then (if 0 ≤ (IntKind.u64.wrap (a0)) then (some (wrap64 ((shl .i64 1 (IntKind.u64.wrap (a0))) - 1))) else (none)) else (some 0))
theorem yT.calls (a0 : Int) (r : Int) (w : World) (h : yT.f a0 = some r) :
  Calls Try.prog 81 #[.int .i64 a0] w fun e w' => e = .returned (.int .i64 r) ∧ Drawn0 w w' := by
 have H := h
 clear h
 unfold yT.f at H
 (try dsimp only at H)
 replace H := bo H; obtain ⟨tq0, A2, H⟩ := H
 (try dsimp only at H)
 by_cases c3 : tq0 = true
 ·subst c3
  rw [if_pos rfl] at H
  obtain ⟨ji4, hji4⟩ : ∃ j_ : Int, (IntKind.u64.wrap (a0)) = j_ := ⟨_, rfl⟩
  replace H : (if 0 ≤ (ji4) then (some (wrap64 ((shl .i64 1 (ji4)) - 1))) else (none)) = some r := by first | (rw [hji4] at H; exact H) | (simp only [hji4] at H ⊢; exact H)
  (try rw [hji4] at A2)
  replace H := gd H; obtain ⟨c5, H⟩ := H
  have c5b0 := eq_true c5
  have c5b1 := decide_eq_true c5
  clear c5
  obtain ⟨ji6, hji6⟩ : ∃ j_ : Int, (shl .i64 1 (ji4)) = j_ := ⟨_, rfl⟩
  replace H : (some (wrap64 ((ji6) - 1))) = some r := by first | (rw [hji6] at H; exact H) | (simp only [hji6] at H ⊢; exact H)
  (try rw [hji6] at A2)
  have hji6_ : (IntKind.i64.wrap (1 * 2 ^ min (ji4).toNat 64)) = ji6 := hji6
  have hji6z : (ji4) ≤ 64 → (IntKind.i64.wrap (1 * 2 ^ (ji4).toNat)) = ji6 := ybA hji6
  have hji6u : (IntKind.i64.wrap (2 ^ min (ji4).toNat 64)) = ji6 := by have h_ := hji6_; rw [Int.one_mul] at h_; exact h_
  have hji6v : (ji4) ≤ 64 → (IntKind.i64.wrap (2 ^ (ji4).toNat)) = ji6 := fun hle_ => by have h_ := hji6z hle_; rw [Int.one_mul] at h_; exact h_
  have hji6y : (wrap64 (1 * 2 ^ min (ji4).toNat 64)) = ji6 := (i64_w _).symm.trans hji6_
  have hji6x : (ji4) ≤ 64 → (wrap64 (1 * 2 ^ (ji4).toNat)) = ji6 := fun h_ => (i64_w _).symm.trans (hji6z h_)
  obtain rfl := Option.some.inj H
  go_enter Try.func81, Try.ntmps81
  go_wp2_with (first | (refine gq 98 (some 4) Try.func98 #[.int .i64 a0, .int .i64 0, .int .i64 8] ?_; (with_reducible refine (yaf.calls a0 0 8 true _ A2.out).mono ?_); rintro e w' ⟨rfl, ⟨nd, rfl⟩⟩; refine ⟨_, rfl, ?_⟩))
  go_ret
  exact ⟨by first | rfl | (simp; done) | (simp only [← hji4, ← hji6] <;> (first | rfl | simp)) | (simp [*]; done), rd_⟩
 ·replace c3 := Bool.eq_false_iff.mpr c3
  subst c3
  have H1 : (some 0) = some r := by rw [if_neg (show ¬ (false = true) by decide)] at H; exact H
  clear H
  have H := H1
  clear H1
  obtain rfl := Option.some.inj H
  go_enter Try.func81, Try.ntmps81
  go_wp2_with (first | (refine gq 98 (some 4) Try.func98 #[.int .i64 a0, .int .i64 0, .int .i64 8] ?_; (with_reducible refine (yaf.calls a0 0 8 false _ A2.out).mono ?_); rintro e w' ⟨rfl, ⟨nd, rfl⟩⟩; refine ⟨_, rfl, ?_⟩))
  go_ret
  exact ⟨rs_, rd_⟩
end Go.Proofs.Ytimkekeaeojpkaa.A
