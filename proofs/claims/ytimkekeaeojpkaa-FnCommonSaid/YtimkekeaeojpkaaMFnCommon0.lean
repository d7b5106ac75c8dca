/- Machine side of the law FnCommon: Go functions as Lean functions, and proofs that calls come to what these tell. Conditions: those in each theorem. -/
import Derived.Test.YtimkekeaeojpkaaProg
import Derived.Below
import Derived.Deep.Draws
import Derived.Deep.AppendLies
import Derived.Maps.AppendAt
import Derived.OwnWalk
import Derived.Laws.BytesArg
import Derived.Laws.MakeOwn
import Derived.Laws.OwnMore
import Derived.Deep.OwnRows
import Derived.Tactics
import Derived.Lib.ConvBytes
import Derived.Laws.Slices
import Derived.WalkKit
import Derived.KernelRfl
import Derived.RowKit3
import Derived.Deep.LoopGhost
import Derived.Deep.QuietTactic
import Derived.BigQuiet
import Derived.WideLaws
import Derived.Deep.DeepCutAuto
import Derived.Deep.CutBlock
import Derived.Deep.RegionHeld3
import Derived.Laws.Rows
import Derived.Lib.AppendStr
import Derived.ArgAppend
import Derived.Laws.IdiomCopy
import Derived.OrdersHeld
import Derived.Laws.BitsLemmas
import Derived.RowKit
import Derived.Test.YtimkekeaeojpkaaMFnCommonwWords
import Derived.Test.YtimkekeaeojpkaaMFnCommonwLast
import Derived.Test.YtimkekeaeojpkaaMFnCommonwTab
import Derived.Test.YtimkekeaeojpkaaMFnCommonwQPut
import Derived.Test.YtimkekeaeojpkaaMFnCommonwApart
import Derived.Test.YtimkekeaeojpkaaMFnCommonwArr
import Derived.Test.YtimkekeaeojpkaaMFnCommonwZeros
import Derived.Test.YtimkekeaeojpkaaMFnCommonwFoot
import Derived.Test.YtimkekeaeojpkaaMFnCommonwKept
import Derived.Test.YtimkekeaeojpkaaMFnCommonwShare
import Derived.Test.YtimkekeaeojpkaaMFnCommonwN
import Derived.Test.YtimkekeaeojpkaaMFnCommonwGuard
import Derived.Test.YtimkekeaeojpkaaMFnCommonwNEv
import Derived.Test.YtimkekeaeojpkaaMFnCommonwMore
import Derived.Lib.Hide
namespace Go.Proofs.Ytimkekeaeojpkaa.A
open Go.RowKit Go.Proofs.YtimkekeaeojpkaaW.PrintWords Go.Proofs.YtimkekeaeojpkaaW.PrintLast Go.Proofs.YtimkekeaeojpkaaW.PrintMore
attribute [local go_sem] ya8 yba ybm ybn yaY yaX ya6 ya9
set_option linter.unusedVariables false
set_option linter.unusedSimpArgs false
def errW : Option Int → Value
  | none => .nilIface
  | some c => .iface 0 (.int .i64 c)
theorem errW_none : errW none = .nilIface := rfl
theorem yi (c : Int) : errW (some c) = .iface 0 (.int .i64 c) := rfl
theorem yaU : (Try.prog.info? 3).map (fun i => (i.zero, i.size, i.bytes)) = some (some (.int .i64 0), 1, 8) := by kernel_rfl
theorem yhy : (Try.prog.info? 5).map (fun i => (i.zero, i.size, i.bytes)) = some (some (.int .u8 0), 1, 1) := by kernel_rfl
theorem yhz : (Try.prog.info? 9).map (fun i => (i.zero, i.size, i.bytes)) = some (some (.string ⟨#[]⟩), 1, 16) := by kernel_rfl
theorem yiN : (Try.prog.info? 22).map (fun i => (i.zero, i.size, i.bytes)) = some (some (.slice none 0 0), 1, 24) := by kernel_rfl
def ygq (xs : List (List Int)) (i : Int) : (List Int) := xs.getD i.toNat ([] : List Int)
theorem yiQ {w : World} {A : Option Addr} {n : Nat} {xs : List (List Int)} (h : Kd.C (Kd.slice 3 (Kd.int .i64)) w A n xs) (i : Int) (h0 : 0 ≤ i) (h1 : i < n) : ∃ ad A0 c0, A = some ad ∧ w.cell? (ad.add i.toNat) = some (.slice A0 (ygq xs i).length c0) ∧ (ygq xs i).length ≤ c0 ∧ (Kd.int .i64).C w A0 (ygq xs i).length (ygq xs i) := by
  obtain ⟨ad, c, e, _, hK, hc0⟩ := Kd.C_get h ([] : List Int) i h0 h1
  have hc : ∀ j u, c[j]? = some u → w.cell? (ad.add (i.toNat * 1 + j)) = some u := hc0
  obtain ⟨A0, c0, rfl, l0, g0⟩ := hK
  exact ⟨ad, A0, c0, e, by have hq := hc 0 _ rfl; rwa [Nat.mul_one, Nat.add_zero] at hq, l0, g0⟩
structure S28 where
  f0 : Int
  f1 : (List Int)
def z28 : S28 := ⟨(0 : Int), ([] : List Int)⟩
def k28 : Kd S28 := Kd.iso (Kd.pair (Kd.int .i64) (Kd.slice 3 (Kd.int .i64))) (fun x : S28 => (x.f0, x.f1))
theorem yiB : Kd.Heap k28 := Kd.heap_iso _ (Kd.heap_pair (Kd.heap_int .i64) (Kd.heap_slice 3 (Kd.heap_int .i64)))
theorem yey {w : World} {x : S28} {cs : List Value} (h : k28.K w x cs) : ∃ A1 c1, cs = [.int .i64 x.f0, .slice A1 x.f1.length c1] ∧ x.f1.length ≤ c1 ∧ (Kd.int .i64).C w A1 x.f1.length x.f1 := by
  obtain ⟨_, _, rfl, rfl, ⟨A1, c1, rfl, l1, g1⟩⟩ := h
  exact ⟨A1, c1, rfl, l1, g1⟩
theorem yir {w : World} {base : Nat} {ok : Nat → Prop} {x : S28} {cs : List Value} (h : k28.M w base ok x cs) : ∃ v1, cs = [.int .i64 x.f0, v1] ∧ (Kd.int .i64).R 3 w base ok v1 x.f1 := by
  obtain ⟨_, _, rfl, rfl, ⟨v1, rfl, g1⟩⟩ := h
  exact ⟨v1, rfl, g1⟩
theorem yid (w : World) (x : S28) {A1 : Option Addr} {c1 : Nat} (l1 : x.f1.length ≤ c1) (g1 : (Kd.int .i64).C w A1 x.f1.length x.f1) : k28.K w x [.int .i64 x.f0, .slice A1 x.f1.length c1] := ⟨[.int .i64 x.f0], [.slice A1 x.f1.length c1], rfl, rfl, ⟨A1, c1, rfl, l1, g1⟩⟩
theorem yiH (w : World) (base : Nat) (ok : Nat → Prop) (x : S28) {v1 : Value} (g1 : (Kd.int .i64).R 3 w base ok v1 x.f1) : k28.M w base ok x [.int .i64 x.f0, v1] := ⟨[.int .i64 x.f0], [v1], rfl, rfl, ⟨v1, rfl, g1⟩⟩
theorem yit {W : World} {ok : Nat → Prop} {x : S28} {cs : List Value} (h : Kd.FK k28 W ok x cs) : ∃ A1 c1, cs = [.int .i64 x.f0, .slice A1 x.f1.length c1] ∧ x.f1.length ≤ c1 ∧ Kd.F (Kd.int .i64) W ok A1 x.f1.length x.f1 := by
  obtain ⟨A1, c1, rfl, l1, _⟩ := yey (Kd.FK_now h)
  exact ⟨A1, c1, rfl, l1, (fun W' hW => by obtain ⟨A1_, c1_, he, l1_, g1_⟩ := yey (h W' hW); injection (Option.some.inj (show some (Value.slice A1 x.f1.length c1) = some (Value.slice A1_ x.f1.length c1_) from congrArg (fun l => l[1]?) he)) with ha_ _ _; rw [ha_]; exact g1_)⟩
theorem yiG (W : World) (ok : Nat → Prop) (x : S28) {A1 : Option Addr} {c1 : Nat} (l1 : x.f1.length ≤ c1) (g1 : Kd.F (Kd.int .i64) W ok A1 x.f1.length x.f1) : Kd.FK k28 W ok x [.int .i64 x.f0, .slice A1 x.f1.length c1] := fun W2 hW => yid W2 x l1 (g1 W2 hW)
def yes (xs : List S28) (i : Int) : S28 := xs.getD i.toNat z28
theorem yiP {w : World} {A : Option Addr} {n : Nat} {xs : List S28} (h : Kd.C k28 w A n xs) (i : Int) (h0 : 0 ≤ i) (h1 : i < n) : ∃ ad A1 c1, A = some ad ∧ w.cell? (ad.add (i.toNat * 2)) = some (.int .i64 (yes xs i).f0) ∧ w.cell? ⟨(ad.add (i.toNat * 2)).block, (ad.add (i.toNat * 2)).off + 1, none⟩ = some (.slice A1 (yes xs i).f1.length c1) ∧ (yes xs i).f1.length ≤ c1 ∧ (Kd.int .i64).C w A1 (yes xs i).f1.length (yes xs i).f1 := by
  obtain ⟨ad, c, e, _, hK, hc0⟩ := Kd.C_get h z28 i h0 h1
  have hc : ∀ j u, c[j]? = some u → w.cell? (ad.add (i.toNat * 2 + j)) = some u := hc0
  obtain ⟨A1, c1, rfl, l1, g1⟩ := yey hK
  exact ⟨ad, A1, c1, e, hc 0 _ rfl, by rw [← ydE _ _ 1 (by omega)]; exact hc 1 _ rfl, l1, g1⟩
structure S94 where
  f0 : Int
  f1 : Int
  f2 : Int
def z94 : S94 := ⟨(0 : Int), (0 : Int), (0 : Int)⟩
def k94 : Kd S94 := Kd.iso (Kd.pair (Kd.int .i64) (Kd.pair (Kd.int .i64) (Kd.int .i64))) (fun x : S94 => (x.f0, x.f1, x.f2))
theorem yiz : Kd.Heap k94 := Kd.heap_iso _ (Kd.heap_pair (Kd.heap_int .i64) (Kd.heap_pair (Kd.heap_int .i64) (Kd.heap_int .i64)))
theorem yhb {w : World} {x : S94} {cs : List Value} (h : k94.K w x cs) : cs = [.int .i64 x.f0, .int .i64 x.f1, .int .i64 x.f2] := by
  obtain ⟨_, _, rfl, rfl, ⟨_, _, rfl, rfl, rfl⟩⟩ := h
  exact rfl
theorem yis {w : World} {base : Nat} {ok : Nat → Prop} {x : S94} {cs : List Value} (h : k94.M w base ok x cs) : cs = [.int .i64 x.f0, .int .i64 x.f1, .int .i64 x.f2] := by
  obtain ⟨_, _, rfl, rfl, ⟨_, _, rfl, rfl, rfl⟩⟩ := h
  exact rfl
theorem yh9 (w : World) (x : S94)  : k94.K w x [.int .i64 x.f0, .int .i64 x.f1, .int .i64 x.f2] := ⟨[.int .i64 x.f0], [.int .i64 x.f1, .int .i64 x.f2], rfl, rfl, ⟨[.int .i64 x.f1], [.int .i64 x.f2], rfl, rfl, rfl⟩⟩
theorem yiF (w : World) (base : Nat) (ok : Nat → Prop) (x : S94)  : k94.M w base ok x [.int .i64 x.f0, .int .i64 x.f1, .int .i64 x.f2] := ⟨[.int .i64 x.f0], [.int .i64 x.f1, .int .i64 x.f2], rfl, rfl, ⟨[.int .i64 x.f1], [.int .i64 x.f2], rfl, rfl, rfl⟩⟩
theorem yiI (W : World) (ok : Nat → Prop) (x : S94) : Kd.FK k94 W ok x [.int .i64 x.f0, .int .i64 x.f1, .int .i64 x.f2] := fun W2 _ => yh9 W2 x
def yf2 (xs : List S94) (i : Int) : S94 := xs.getD i.toNat z94
theorem yiM {w : World} {A : Option Addr} {n : Nat} {xs : List S94} (h : Kd.C k94 w A n xs) (i : Int) (h0 : 0 ≤ i) (h1 : i < n) : ∃ ad , A = some ad ∧ w.cell? (ad.add (i.toNat * 3)) = some (.int .i64 (yf2 xs i).f0) ∧ w.cell? ⟨(ad.add (i.toNat * 3)).block, (ad.add (i.toNat * 3)).off + 1, none⟩ = some (.int .i64 (yf2 xs i).f1) ∧ w.cell? ⟨(ad.add (i.toNat * 3)).block, (ad.add (i.toNat * 3)).off + 2, none⟩ = some (.int .i64 (yf2 xs i).f2) := by
  obtain ⟨ad, c, e, _, hK, hc0⟩ := Kd.C_get h z94 i h0 h1
  have hc : ∀ j u, c[j]? = some u → w.cell? (ad.add (i.toNat * 3 + j)) = some u := hc0
  obtain rfl := yhb hK
  exact ⟨ad, e, hc 0 _ rfl, by rw [← ydE _ _ 1 (by omega)]; exact hc 1 _ rfl, by rw [← ydE _ _ 2 (by omega)]; exact hc 2 _ rfl⟩
theorem aQ {p : Prop} (h : p) : Aside0 p := ⟨h⟩
theorem pB {p q : Prop} (h : q) (f : q → p := by intro h_; repeat (first | (with_reducible first | exact h_ | apply yaI | apply yaO | apply yK) | exact h_)) : p := f h
theorem pB1 {p q r : Prop} (h : q) (g : r) (f : q → r → p := by intro h_ g_; repeat (first | (with_reducible first | exact h_ | apply yaI | apply yaO | apply yK | refine ybb ?_ g_) | exact h_)) : p := f h g
theorem pB2 {p q r r2 : Prop} (h : q) (g : r) (g2 : r2) (f : q → r → r2 → p := by intro h_ g_ g2_; repeat (first | (with_reducible first | exact h_ | apply yaI | apply yaO | apply yK | refine ybb ?_ g_ | refine ybb ?_ g2_) | exact h_)) : p := f h g g2
theorem pB4 {p q r r2 r3 r4 : Prop} (h : q) (g : r) (g2 : r2) (g3 : r3) (g4 : r4) (f : q → r → r2 → r3 → r4 → p := by intro h_ g_ g2_ g3_ g4_; repeat (first | (with_reducible first | exact h_ | apply yaI | apply yaO | apply yK | refine ybb ?_ g_ | refine ybb ?_ g2_ | refine ybb ?_ g3_ | refine ybb ?_ g4_) | exact h_)) : p := f h g g2 g3 g4
theorem pk {p q : Prop} (h : q) (f : q → p := by intro h_; (with_reducible repeat (first | refine ycc ?_ _ | refine yF ?_ | refine ybQ ?_ _)); exact h_) : p := f h
theorem pC {p q : Prop} (h : q) (f : q → p := by intro h_; repeat (first | exact h_ | (with_reducible refine Kd.C_alloc ?_ _) | (with_reducible refine Kd.C_drewN ?_ _) | (with_reducible refine Kd.C_drew ?_))) : p := f h
theorem pR {p q : Prop} (h : q) (f : q → p := by intro h_; (with_reducible repeat (first | apply Kd.R_alloc | apply Kd.R_drewN | apply Kd.R_drew)); exact h_) : p := f h
theorem as_ {p : Prop} (h : p := by first | (with_reducible assumption) | assumption) : p := h
theorem rs_ {p : Prop} (h : p := by first | rfl | (simp; done) | (simp [*]; done)) : p := h
theorem re_ {p : Prop} (h : p := by first | rfl | (simp [errW_none, yi] <;> rfl) | (simp [*, errW_none, yi] <;> rfl)) : p := h
theorem rd_ {p : Prop} (h : p := by repeat (first | exact Drawn0.refl _ | apply Drawn0.step)) : p := h
section
variable {P : Go.Program} {ops : Array Go.Oper} {rest : List Go.Oper} {o : Go.Oper} {a : Go.Act} {Q : Go.Exit → Go.Act → Go.World → Prop}
theorem bc {w : Go.World} {g : Nat} {t : Go.TypeId} {cs : Array Go.Value} {v : Go.Value} (h : w.heap[g]? = some (.cells cs t (0, 0))) (i : Nat) (e : cs[i]? = some v := by exact rfl) : w.cell? ⟨g, i, none⟩ = some v := (ya h i).trans e
end
section
variable {P : Go.Program} {ops : Array Go.Oper} {Q : Go.Exit → Go.Act → Go.World → Prop} {S : Go.World → Prop} {ds : List Nat} {T : Bool × List (List Nat × List Nat)} {B : List Nat} {i fuel : Nat} {N : Option Go.Tmp} {oi : Go.Oper} {v : Go.Value} {l : Array Bool} {a a' : Go.Act} {w : Go.World}
theorem onA (hT : Aside0 (rtab .any ops = T)) (hi : ops[i]? = some oi := by rfl) (hN : oi.dst = N := by rfl) (hc : (ydg T.2 l.toList == [i] && l.toList.set i true == (l.setIfInBounds i true).toList) = true := by kernel_rfl) (hd : i ∉ ds := by decide)
    (h : ∀ K : Go.Act → Go.World → Prop, Shut (∀ a' w', S w' → (S w' → yB P .any ops Q S ds fuel (l.setIfInBounds i true) a' w') → K a' w') → if Region.wanted oi (yielded ops a.tmps) = true then Oper.wp P oi a w K Q else K (a.put N undef) w) : yB P .any ops Q S ds (fuel + 1) l a w :=
  one_ _ hi hN (ybP hT.out hc) hd h
end
theorem bo {α β : Type} {x : Option α} {f : α → Option β} {r : β} (h : x.bind f = some r) : ∃ a, Aside0 (x = some a) ∧ f a = some r := by
  obtain ⟨a, h1, h2⟩ := Option.bind_eq_some_iff.mp h
  exact ⟨a, ⟨h1⟩, h2⟩
theorem pb {p q : Prop} (h : Aside0 q) (f : Aside0 q → p := by intro h_; repeat (first | (with_reducible first | exact h_.out | apply yaI | apply yaO | apply yK | refine ybb ?_ (Aside0.out (by assumption))) | exact h_.out)) : p := f h
theorem pq {p q : Prop} (h : Aside0 q) (f : Aside0 q → p := by intro h_; repeat (first | (with_reducible first | exact h_.out | apply KeepBut.set_ | apply ycf | apply ybx | apply yck | refine ycM ?_ (Aside0.out (by assumption)) _) | exact h_.out)) : p := f h
theorem pt {p q : Prop} (h : Aside0 q) (f : Aside0 q → p := by intro h_; repeat (first | (with_reducible first | exact h_.out | apply Kept.alloc | apply Kept.drewN | apply Kept.drew) | exact h_.out)) : p := f h
section
variable {w w1 w2 wa W W' W2 : World} {g gb B : Nat} {o : Obj} {row : Option Nat}
theorem bb (h : Aside0 (wa.heap[g]? = some o)) (hb : Below w1.heap.size w1 w2) (f : w1.heap[g]? = some o := by (with_reducible repeat (first | refine ycc ?_ _ | refine yF ?_ | refine ybQ ?_ _)); exact Aside0.out (by assumption)) : Aside0 (w2.heap[g]? = some o) := ⟨yab f hb⟩
theorem bs (h : Aside0 (Below w.heap.size w wa)) (hb : Below w1.heap.size w1 w2) (f : Below w.heap.size w w1 := by repeat (first | (with_reducible first | exact Aside0.out (by assumption) | apply yaI | apply yaO | apply yK | refine ybb ?_ (Aside0.out (by assumption))) | exact Aside0.out (by assumption))) : Aside0 (Below w.heap.size w w2) := ⟨ybY f hb⟩
theorem nl (h : Aside0 (wa.heap[g]? = some o)) (hg : gb = w1.heap.size) (f : w1.heap[g]? = some o := by (with_reducible repeat (first | refine ycc ?_ _ | refine yF ?_ | refine ybQ ?_ _)); exact Aside0.out (by assumption)) : Aside0 (g ≠ gb) := ⟨by rw [hg]; exact Nat.ne_of_lt (ybE f)⟩
theorem ng (h : Aside0 (wa.heap[g]? = some o)) (hg : gb = w1.heap.size) (f : w1.heap[g]? = some o := by (with_reducible repeat (first | refine ycc ?_ _ | refine yF ?_ | refine ybQ ?_ _)); exact Aside0.out (by assumption)) : Aside0 (gb ≠ g) := ⟨by rw [hg]; exact Nat.ne_of_gt (ybE f)⟩
theorem gw (h : Aside0 (KeepBut w wa g row)) (hg : gb = w1.heap.size) (f : KeepBut w w1 g row := by repeat (first | (with_reducible first | exact Aside0.out (by assumption) | apply KeepBut.set_ | apply ycf | apply ybx | apply yck | refine ycM ?_ (Aside0.out (by assumption)) _) | exact Aside0.out (by assumption))) : Aside0 (w.heap.size ≤ gb) := ⟨by rw [hg]; exact yR f⟩
theorem ge (h : Aside0 (KeepBut w wa g row)) (h0 : Aside0 (B ≤ w.heap.size)) (hg : gb = w1.heap.size) (f : KeepBut w w1 g row := by repeat (first | (with_reducible first | exact Aside0.out (by assumption) | apply KeepBut.set_ | apply ycf | apply ybx | apply yck | refine ycM ?_ (Aside0.out (by assumption)) _) | exact Aside0.out (by assumption))) : Aside0 (B ≤ gb) := ⟨Nat.le_trans h0.out (by rw [hg]; exact yR f)⟩
theorem gB (h : Aside0 (Below w.heap.size w wa)) (hg : gb = w1.heap.size) (f : Below w.heap.size w w1 := by repeat (first | (with_reducible first | exact Aside0.out (by assumption) | apply yaI | apply yaO | apply yK | refine ybb ?_ (Aside0.out (by assumption))) | exact Aside0.out (by assumption))) : Aside0 (w.heap.size ≤ gb) := ⟨by rw [hg]; exact yc f⟩
theorem kt (h : Aside0 (KeepBut w wa g none)) (hb : Below w1.heap.size w1 w2) (f : KeepBut w w1 g none := by repeat (first | (with_reducible first | exact Aside0.out (by assumption) | apply KeepBut.set_ | apply ycf | apply ybx | apply yck | refine ycM ?_ (Aside0.out (by assumption)) _) | exact Aside0.out (by assumption))) : Aside0 (KeepBut w w2 g none) := ⟨f.trans (KeepBut.of_below hb g none) (.inl rfl)⟩
theorem kh {row1 : Option Nat} (h : Aside0 (KeepBut w wa g row)) (hk : KeepBut w1 w2 g row1) (hr : row1 = row := by rfl) (f : KeepBut w w1 g row := by repeat (first | (with_reducible first | exact Aside0.out (by assumption) | apply KeepBut.set_ | apply ycf | apply ybx | apply yck | refine ycM ?_ (Aside0.out (by assumption)) _) | exact Aside0.out (by assumption))) : Aside0 (KeepBut w w2 g row) := ⟨f.trans hk (.inl hr)⟩
theorem kk (h : Aside0 (wa.heap[gb]? = some o)) (hk : KeepBut w1 w2 g row) (hn : gb ≠ g) (hr : some gb ≠ row := by simp) (f : w1.heap[gb]? = some o := by (with_reducible repeat (first | refine ycc ?_ _ | refine yF ?_ | refine ybQ ?_ _)); exact Aside0.out (by assumption)) : Aside0 (w2.heap[gb]? = some o) := ⟨hk.blk f hn hr⟩
end
section
variable {P : Go.Program} {ops : Array Go.Oper} {rest : List Go.Oper} {o : Go.Oper} {a : Go.Act} {Q : Go.Exit → Go.Act → Go.World → Prop} {W : Go.World}
theorem bx (N : Go.Tmp) (cs : Array Value) (t : TypeId) (h : ∀ g, g = W.heap.size → ∀ w1, w1.heap[g]? = some (.cells cs t (0, 0)) → Below W.heap.size W w1 → wpList P ops Q rest (a.put o.dst (.pointer (some ⟨g, 0, none⟩))) w1) (hd : o.dst = some N := by rfl) (hg : o.guard = none := by rfl)
    (hr : (execOp a.eval o).run P W = .ok (.value (.pointer (some ⟨W.heap.size, 0, none⟩))) (W.alloc (.cells cs t (0, 0))) := by first | (go_simp; done) | (go_simp; rfl)) : wpList P ops Q (o :: rest) a W := ygR hg hd hr h
end
section
variable {P : Go.Program} {ops : Array Go.Oper} {Q : Go.Exit → Go.Act → Go.World → Prop} {S : Go.World → Prop} {ds : List Nat} {i fuel : Nat} {N : Option Go.Tmp} {oi : Go.Oper} {v : Go.Value} {l : Array Bool} {a a' : Go.Act} {w : Go.World}
theorem noN {a0 : Go.Act} (N : Option Go.Tmp) (e : a = a0.put N v := by exact rfl) (ha : a0.put N v = a' := by simp only [Act.put, List.setIfInBounds_toArray, List.set_cons_zero, List.set_cons_succ, i64_w, ybq]; rfl) (h : yB P .any ops Q S ds fuel l a' w) : yB P .any ops Q S ds fuel l a w := yfV (e.trans ha) h
theorem onN (hi : ops[i]? = some oi := by rfl) (hN : oi.dst = N := by rfl) (hc : yc8 .any ops l (l.setIfInBounds i true) i = true := by kernel_rfl) (hd : i ∉ ds := by decide)
    (h : ∀ K : Go.Act → Go.World → Prop, Shut (∀ a' w', S w' → (S w' → yB P .any ops Q S ds fuel (l.setIfInBounds i true) a' w') → K a' w') → if Region.wanted oi (yielded ops a.tmps) = true then Oper.wp P oi a w K Q else K (a.put N undef) w) : yB P .any ops Q S ds (fuel + 1) l a w :=
  one_ _ hi hN hc hd h
end
theorem gd {α : Type} {c : Prop} [Decidable c] {x : Option α} {r : α} (h : (if c then x else none) = some r) : c ∧ x = some r := by
  by_cases hc : c
  · rw [if_pos hc] at h; exact ⟨hc, h⟩
  · rw [if_neg hc] at h; cases h
theorem pkx {p q : Prop} (h : q) (f : q → p := by intro h_; (with_reducible repeat (first | refine ycc ?_ _ | refine yF ?_ | refine ybQ ?_ _)); exact h_) : p := f h
theorem pRx {p q : Prop} (h : q) (f : q → p := by intro h_; (with_reducible repeat (first | apply Kd.R_alloc | apply Kd.R_drewN | apply Kd.R_drew)); exact h_) : p := f h
theorem dq_ {p : Prop} (h : p := by first | exact ⟨rfl, _, World.drewN_drewN _ _ _⟩ | exact ⟨rfl, _, Eq.trans (World.drewN_drewN _ _ _) (congrArg (World.drewN _) (Nat.add_assoc _ _ _))⟩) : p := h
theorem c2 {w : World} {g : Nat} {t : TypeId} {v0 v1 : Value} (h : Aside0 (w.heap[g]? = some (.cells #[v0, v1] t (0, 0)))) : w.cell? ⟨g, 0, none⟩ = some v0 ∧ w.cell? ⟨g, 1, none⟩ = some v1 ∧ w.frozen? ⟨g, 0, none⟩ = false ∧ w.frozen? ⟨g, 1, none⟩ = false := ⟨(ya h.out 0).trans rfl, (ya h.out 1).trans rfl, yl h.out 0, yl h.out 1⟩
section
variable {P : Go.Program} {ops : Array Go.Oper} {rest : List Go.Oper} {oi : Go.Oper} {a : Go.Act} {Q : Go.Exit → Go.Act → Go.World → Prop} {w : Go.World}
theorem gl (N : Option Go.Tmp) {f : FuncId} {fn : Func} (hf : P.funcs[f]? = some fn) (args : Array Value) {xs : Array Operand} {ts : Array TypeId} (h : Calls P f args w fun e w' => ∃ v, e = .returned v ∧ wpList P ops Q rest (a.put N v) w') (hop : oi.op = .call { callee := .value (.func f), args := xs, argTypes := ts } := by rfl) (hd : oi.dst = N := by rfl) (hg : oi.guard = none := by rfl)
    (hname : (fn.name == "runtime.NumGoroutine") = false := by kernel_rfl) (hb : fn.body.isSome = true := by rfl) (hargs : xs.map a.eval = args := by (try simp only [List.map_toArray, List.map_cons, List.map_nil]); first | done | rfl | (simp only [List.length_drop, List.length_take]; rfl)) : wpList P ops Q (oi :: rest) a w := yfm N hd hg hf hname hb args hop hargs h
theorem gq (f : FuncId) (N : Option Go.Tmp) {fn : Func} (hf : P.funcs[f]? = some fn) (args : Array Value) {xs : Array Operand} {ts : Array TypeId} (h : Calls P f args w fun e w' => ∃ v, e = .returned v ∧ wpList P ops Q rest (a.put N v) w') (hop : oi.op = .call { callee := .value (.func f), args := xs, argTypes := ts } := by with_reducible rfl) (hd : oi.dst = N := by rfl) (hg : oi.guard = none := by rfl)
    (hname : (fn.name == "runtime.NumGoroutine") = false := by kernel_rfl) (hb : fn.body.isSome = true := by rfl) (hargs : xs.map a.eval = args := by (try simp only [List.map_toArray, List.map_cons, List.map_nil]); first | done | rfl | (simp only [List.length_drop, List.length_take]; rfl)) : wpList P ops Q (oi :: rest) a w := yfm N hd hg hf hname hb args hop hargs h
theorem gs {N : Option Go.Tmp} {f : FuncId} {fn : Func} (hf : P.funcs[f]? = some fn) (args : Array Value) {xs : Array Operand} {ts : Array TypeId} {K : Go.Act → Go.World → Prop} (h : Calls P f args w fun e w' => ∃ v, e = .returned v ∧ K (a.put N v) w') (hw : Region.wanted oi (yielded ops a.tmps) = true := by rfl) (hN : oi.dst = N := by rfl) (hop : oi.op = .call { callee := .value (.func f), args := xs, argTypes := ts } := by rfl)
    (hname : (fn.name == "runtime.NumGoroutine") = false := by kernel_rfl) (hb : fn.body.isSome = true := by rfl) (hargs : xs.map a.eval = args := by (try simp only [List.map_toArray, List.map_cons, List.map_nil]); first | done | rfl | (simp only [List.length_drop, List.length_take]; rfl)) : if Region.wanted oi (yielded ops a.tmps) = true then Oper.wp P oi a w K Q else K (a.put N undef) w := yiD hf hname hb args hw hN hop hargs h
end
theorem yy {α β : Type} {x y : α} {F : α → Option β} {r : β} (e : y = x) (h : ((some x).bind F) = some r) : F y = some r := by subst e; exact h
theorem rf {α : Type} {d : Kd α} {e base g : Nat} {W : World} {v : Value} {xs : List α} {cs : Array Value} {t : TypeId} {u0 u1 : Value} {ok ok' : Nat → Prop} (h : Aside0 (d.R e W base ok v xs)) (hb : Aside0 (W.heap[g]? = some (.cells cs t (0, 0)))) (ht : ∀ q, q ∈ e :: d.E → q ≠ t := by decide) (hm : ∀ k, ok k ∧ k ≠ g → ok' k := by exact fun _ _ => trivial) : d.R e ((W.setCell ⟨g, 0, none⟩ u0).setCell ⟨g, 1, none⟩ u1) base ok' v xs :=
  Kd.R_mono (Kd.R_far (p := ⟨g, 1, none⟩) (Kd.R_far (p := ⟨g, 0, none⟩) (Kd.R_types h.out hb.out ht) (fun _ hk => hk.2) u0) (fun _ hk => hk.2) u1) hm
theorem rf1 {α : Type} {d : Kd α} {e base g : Nat} {W : World} {v : Value} {xs : List α} {cs : Array Value} {t : TypeId} {u1 : Value} {ok ok' : Nat → Prop} (h : Aside0 (d.R e W base ok v xs)) (hb : Aside0 (W.heap[g]? = some (.cells cs t (0, 0)))) (ht : ∀ q, q ∈ e :: d.E → q ≠ t := by decide) (hm : ∀ k, ok k ∧ k ≠ g → ok' k := by exact fun _ _ => trivial) : d.R e (W.setCell ⟨g, 1, none⟩ u1) base ok' v xs :=
  Kd.R_mono (Kd.R_far (p := ⟨g, 1, none⟩) (Kd.R_types h.out hb.out ht) (fun _ hk => hk.2) u1) hm
section
variable {P : Go.Program} {ops : Array Go.Oper} {Q : Go.Exit → Go.Act → Go.World → Prop} {S : Go.World → Prop} {ds : List Nat} {T : Bool × List (List Nat × List Nat)} {B : List Nat} {fuel : Nat} {oi : Go.Oper} {v : Go.Value} {l : Array Bool} {a a' : Go.Act} {w : Go.World} (i : Nat) (N : Option Go.Tmp)
theorem pA (hT : Aside0 (rtab .any ops = T)) (h : yB P .any ops Q S ds fuel (l.setIfInBounds i true) a' w) (hi : ops[i]? = some oi := by rfl) (hN : oi.dst = N := by rfl) (hc : anyT T l.toList (l.setIfInBounds i true).toList i = true := by kernel_rfl) (hQ : ∀ c a w, Q (.panic c) (a.put oi.dst v) w → Q (.panic c) a w := by exact fun _ _ _ h => h)
    (hy : Yields P ops oi v a := by exact Or.inl ⟨by rfl, by intro w'; go_simp; with_reducible rfl⟩) (ha : a.put N v = a' := by simp only [Act.put, List.setIfInBounds_toArray, List.set_cons_zero, List.set_cons_succ, i64_w, ybq]; rfl) : yB P .any ops Q S ds (fuel + 1) l a w := ygE _ hi hN (yf3 hT.out hc) hQ hy ha h
theorem pJ (hT : Aside0 (rtab .any ops = T)) (l' : Array Bool) (h : yB P .any ops Q S ds fuel l' a' w) (hi : ops[i]? = some oi := by rfl) (hN : oi.dst = N := by rfl) (hc : anyT T l.toList l'.toList i = true := by kernel_rfl) (hQ : ∀ c a w, Q (.panic c) (a.put oi.dst v) w → Q (.panic c) a w := by exact fun _ _ _ h => h)
    (hy : Yields P ops oi v a := by exact Or.inl ⟨by rfl, by intro w'; go_simp; with_reducible rfl⟩) (ha : a.put N v = a' := by simp only [Act.put, List.setIfInBounds_toArray, List.set_cons_zero, List.set_cons_succ, i64_w, ybq]; rfl) : yB P .any ops Q S ds (fuel + 1) l a w := ygE _ hi hN (yf3 hT.out hc) hQ hy ha h
theorem pU (hT : Aside0 (rtab .any ops = T)) (h : yB P .any ops Q S ds fuel (l.setIfInBounds i true) a' w) (hi : ops[i]? = some oi := by rfl) (hN : oi.dst = N := by rfl) (hc : anyT T l.toList (l.setIfInBounds i true).toList i = true := by kernel_rfl) (hQ : ∀ c a w, Q (.panic c) (a.put oi.dst undef) w → Q (.panic c) a w := by exact fun _ _ _ h => h)
    (hy : Yields P ops oi undef a := by exact Or.inr ⟨by rfl, by rfl⟩) (ha : a.put N undef = a' := by simp only [Act.put, List.setIfInBounds_toArray, List.set_cons_zero, List.set_cons_succ, i64_w, ybq]; rfl) : yB P .any ops Q S ds (fuel + 1) l a w := ygE _ hi hN (yf3 hT.out hc) hQ hy ha h
theorem pN (h : yB P .any ops Q S ds fuel (l.setIfInBounds i true) a' w) (hi : ops[i]? = some oi := by rfl) (hN : oi.dst = N := by rfl) (hc : anyB .any ops l (l.setIfInBounds i true) i = true := by kernel_rfl) (hQ : ∀ c a w, Q (.panic c) (a.put oi.dst v) w → Q (.panic c) a w := by exact fun _ _ _ h => h)
    (hy : Yields P ops oi v a := by exact Or.inl ⟨by rfl, by intro w'; go_simp; with_reducible rfl⟩) (ha : a.put N v = a' := by simp only [Act.put, List.setIfInBounds_toArray, List.set_cons_zero, List.set_cons_succ, i64_w, ybq]; rfl) : yB P .any ops Q S ds (fuel + 1) l a w := ygE _ hi hN hc hQ hy ha h
theorem tA1 (hT : Aside0 (rtab .any ops = T)) (hB : Aside0 (ybf T.2 B = true)) (hS : S w) (h : yB P .any ops Q S ds fuel (l.setIfInBounds i true) a' w) (hi : ops[i]? = some oi := by rfl) (hN : oi.dst = N := by rfl) (hc : yfD T B ds l.toList (l.setIfInBounds i true).toList i = true := by kernel_rfl) (hQ : ∀ c a w, Q (.panic c) (a.put oi.dst v) w → Q (.panic c) a w := by exact fun _ _ _ h => h)
    (hy : YieldsIf P ops S oi v a := by exact Or.inl ⟨by rfl, by intro w' s0; go_simp; with_reducible rfl⟩) (ha : a.put N v = a' := by simp only [Act.put, List.setIfInBounds_toArray, List.set_cons_zero, List.set_cons_succ, i64_w, ybq]; rfl) : yB P .any ops Q S ds (fuel + 1) l a w := take_ _ hi hN (ybK hT.out hB.out hc) hQ hy hS ha h
theorem tA2 (hT : Aside0 (rtab .any ops = T)) (hB : Aside0 (ybf T.2 B = true)) (hS : S w) (h : yB P .any ops Q S ds fuel (l.setIfInBounds i true) a' w) (hi : ops[i]? = some oi := by rfl) (hN : oi.dst = N := by rfl) (hc : yfD T B ds l.toList (l.setIfInBounds i true).toList i = true := by kernel_rfl) (hQ : ∀ c a w, Q (.panic c) (a.put oi.dst v) w → Q (.panic c) a w := by exact fun _ _ _ h => h)
    (hy : YieldsIf P ops S oi v a := by exact Or.inl ⟨by rfl, by rintro w' ⟨s0, s1⟩; go_simp; with_reducible rfl⟩) (ha : a.put N v = a' := by simp only [Act.put, List.setIfInBounds_toArray, List.set_cons_zero, List.set_cons_succ, i64_w, ybq]; rfl) : yB P .any ops Q S ds (fuel + 1) l a w := take_ _ hi hN (ybK hT.out hB.out hc) hQ hy hS ha h
theorem tN2 (hS : S w) (h : yB P .any ops Q S ds fuel (l.setIfInBounds i true) a' w) (hi : ops[i]? = some oi := by rfl) (hN : oi.dst = N := by rfl) (hc : yd8 .any ops ds l (l.setIfInBounds i true) i = true := by kernel_rfl) (hQ : ∀ c a w, Q (.panic c) (a.put oi.dst v) w → Q (.panic c) a w := by exact fun _ _ _ h => h)
    (hy : YieldsIf P ops S oi v a := by exact Or.inl ⟨by rfl, by rintro w' ⟨s0, s1⟩; go_simp; with_reducible rfl⟩) (ha : a.put N v = a' := by simp only [Act.put, List.setIfInBounds_toArray, List.set_cons_zero, List.set_cons_succ, i64_w, ybq]; rfl) : yB P .any ops Q S ds (fuel + 1) l a w := take_ _ hi hN hc hQ hy hS ha h
theorem tA4 (hT : Aside0 (rtab .any ops = T)) (hB : Aside0 (ybf T.2 B = true)) (hS : S w) (h : yB P .any ops Q S ds fuel (l.setIfInBounds i true) a' w) (hi : ops[i]? = some oi := by rfl) (hN : oi.dst = N := by rfl) (hc : yfD T B ds l.toList (l.setIfInBounds i true).toList i = true := by kernel_rfl) (hQ : ∀ c a w, Q (.panic c) (a.put oi.dst v) w → Q (.panic c) a w := by exact fun _ _ _ h => h)
    (hy : YieldsIf P ops S oi v a := by exact Or.inl ⟨by rfl, by rintro w' ⟨s0, s1, s2, s3⟩; go_simp; with_reducible rfl⟩) (ha : a.put N v = a' := by simp only [Act.put, List.setIfInBounds_toArray, List.set_cons_zero, List.set_cons_succ, i64_w, ybq]; rfl) : yB P .any ops Q S ds (fuel + 1) l a w := take_ _ hi hN (ybK hT.out hB.out hc) hQ hy hS ha h
theorem tN4 (hS : S w) (h : yB P .any ops Q S ds fuel (l.setIfInBounds i true) a' w) (hi : ops[i]? = some oi := by rfl) (hN : oi.dst = N := by rfl) (hc : yd8 .any ops ds l (l.setIfInBounds i true) i = true := by kernel_rfl) (hQ : ∀ c a w, Q (.panic c) (a.put oi.dst v) w → Q (.panic c) a w := by exact fun _ _ _ h => h)
    (hy : YieldsIf P ops S oi v a := by exact Or.inl ⟨by rfl, by rintro w' ⟨s0, s1, s2, s3⟩; go_simp; with_reducible rfl⟩) (ha : a.put N v = a' := by simp only [Act.put, List.setIfInBounds_toArray, List.set_cons_zero, List.set_cons_succ, i64_w, ybq]; rfl) : yB P .any ops Q S ds (fuel + 1) l a w := take_ _ hi hN hc hQ hy hS ha h
end
end Go.Proofs.Ytimkekeaeojpkaa.A
