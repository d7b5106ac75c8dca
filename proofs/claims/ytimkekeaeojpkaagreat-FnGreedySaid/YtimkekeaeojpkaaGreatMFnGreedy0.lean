/- Machine side of the law FnGreedy: Go functions as Lean functions, and proofs that calls come to what these tell. Conditions: those in each theorem. -/
import Derived.Test.YtimkekeaeojpkaaGreatProg
import Derived.Below
import Derived.Deep.Draws
import Derived.Deep.AppendLies
import Derived.Maps.AppendAt
import Derived.OwnWalk
import Derived.Laws.BytesArg
import Derived.Laws.MakeOwn
import Derived.Laws.OwnMore
import Derived.Deep.OwnRows
import Derived.Tactics
import Derived.Lib.ConvBytes
import Derived.Laws.Slices
import Derived.WalkKit
import Derived.KernelRfl
import Derived.RowKit3
import Derived.Deep.LoopGhost
import Derived.Deep.QuietTactic
import Derived.BigQuiet
import Derived.WideLaws
import Derived.Deep.DeepCutAuto
import Derived.Deep.CutBlock
import Derived.Deep.RegionHeld3
import Derived.Laws.Rows
import Derived.Lib.AppendStr
import Derived.ArgAppend
import Derived.Laws.IdiomCopy
import Derived.OrdersHeld
import Derived.Laws.BitsLemmas
import Derived.RowKit
import Derived.Test.YtimkekeaeojpkaaGreatMFnGreedywWords
import Derived.Test.YtimkekeaeojpkaaGreatMFnGreedywLast
import Derived.Test.YtimkekeaeojpkaaGreatMFnGreedywTab
import Derived.Test.YtimkekeaeojpkaaGreatMFnGreedywQPut
import Derived.Test.YtimkekeaeojpkaaGreatMFnGreedywApart
import Derived.Test.YtimkekeaeojpkaaGreatMFnGreedywArr
import Derived.Test.YtimkekeaeojpkaaGreatMFnGreedywZeros
import Derived.Test.YtimkekeaeojpkaaGreatMFnGreedywFoot
import Derived.Test.YtimkekeaeojpkaaGreatMFnGreedywKept
import Derived.Test.YtimkekeaeojpkaaGreatMFnGreedywShare
import Derived.Test.YtimkekeaeojpkaaGreatMFnGreedywN
import Derived.Test.YtimkekeaeojpkaaGreatMFnGreedywGuard
import Derived.Test.YtimkekeaeojpkaaGreatMFnGreedywNEv
import Derived.Test.YtimkekeaeojpkaaGreatMFnGreedywMore
import Derived.Lib.Hide
namespace Go.Proofs.YtimkekeaeojpkaaGreat.A
open Go.RowKit Go.Proofs.YtimkekeaeojpkaaGreatW.PrintWords Go.Proofs.YtimkekeaeojpkaaGreatW.PrintLast Go.Proofs.YtimkekeaeojpkaaGreatW.PrintMore
attribute [local go_sem] cC cE cW cX co cp cD cG
set_option linter.unusedVariables false
set_option linter.unusedSimpArgs false
def errW : Option Int → Value
  | none => .nilIface
  | some c => .iface 0 (.int .i64 c)
theorem errW_none : errW none = .nilIface := rfl
theorem aj (c : Int) : errW (some c) = .iface 0 (.int .i64 c) := rfl
theorem bR : (Tryz.prog.info? 3).map (fun i => (i.zero, i.size, i.bytes)) = some (some (.int .i64 0), 1, 8) := by kernel_rfl
theorem lP : (Tryz.prog.info? 5).map (fun i => (i.zero, i.size, i.bytes)) = some (some (.int .u8 0), 1, 1) := by kernel_rfl
theorem lV : (Tryz.prog.info? 9).map (fun i => (i.zero, i.size, i.bytes)) = some (some (.string ⟨#[]⟩), 1, 16) := by kernel_rfl
def kP (xs : List (List Int)) (i : Int) : (List Int) := xs.getD i.toNat ([] : List Int)
theorem nJ {w : World} {A : Option Addr} {n : Nat} {xs : List (List Int)} (h : Kd.C (Kd.slice 3 (Kd.int .i64)) w A n xs) (i : Int) (h0 : 0 ≤ i) (h1 : i < n) : ∃ ad A0 c0, A = some ad ∧ w.cell? (ad.add i.toNat) = some (.slice A0 (kP xs i).length c0) ∧ (kP xs i).length ≤ c0 ∧ (Kd.int .i64).C w A0 (kP xs i).length (kP xs i) := by
  obtain ⟨ad, c, e, _, hK, hc0⟩ := Kd.C_get h ([] : List Int) i h0 h1
  have hc : ∀ j u, c[j]? = some u → w.cell? (ad.add (i.toNat * 1 + j)) = some u := hc0
  obtain ⟨A0, c0, rfl, l0, g0⟩ := hK
  exact ⟨ad, A0, c0, e, by have hq := hc 0 _ rfl; rwa [Nat.mul_one, Nat.add_zero] at hq, l0, g0⟩
structure S26 where
  f0 : Int
  f1 : (List Int)
def z26 : S26 := ⟨(0 : Int), ([] : List Int)⟩
def k26 : Kd S26 := Kd.iso (Kd.pair (Kd.int .i64) (Kd.slice 3 (Kd.int .i64))) (fun x : S26 => (x.f0, x.f1))
theorem nq : Kd.Heap k26 := Kd.heap_iso _ (Kd.heap_pair (Kd.heap_int .i64) (Kd.heap_slice 3 (Kd.heap_int .i64)))
theorem mv {w : World} {x : S26} {cs : List Value} (h : k26.K w x cs) : ∃ A1 c1, cs = [.int .i64 x.f0, .slice A1 x.f1.length c1] ∧ x.f1.length ≤ c1 ∧ (Kd.int .i64).C w A1 x.f1.length x.f1 := by
  obtain ⟨_, _, rfl, rfl, ⟨A1, c1, rfl, l1, g1⟩⟩ := h
  exact ⟨A1, c1, rfl, l1, g1⟩
theorem nn {w : World} {base : Nat} {ok : Nat → Prop} {x : S26} {cs : List Value} (h : k26.M w base ok x cs) : ∃ v1, cs = [.int .i64 x.f0, v1] ∧ (Kd.int .i64).R 3 w base ok v1 x.f1 := by
  obtain ⟨_, _, rfl, rfl, ⟨v1, rfl, g1⟩⟩ := h
  exact ⟨v1, rfl, g1⟩
theorem nC (w : World) (x : S26) {A1 : Option Addr} {c1 : Nat} (l1 : x.f1.length ≤ c1) (g1 : (Kd.int .i64).C w A1 x.f1.length x.f1) : k26.K w x [.int .i64 x.f0, .slice A1 x.f1.length c1] := ⟨[.int .i64 x.f0], [.slice A1 x.f1.length c1], rfl, rfl, ⟨A1, c1, rfl, l1, g1⟩⟩
theorem nB (w : World) (base : Nat) (ok : Nat → Prop) (x : S26) {v1 : Value} (g1 : (Kd.int .i64).R 3 w base ok v1 x.f1) : k26.M w base ok x [.int .i64 x.f0, v1] := ⟨[.int .i64 x.f0], [v1], rfl, rfl, ⟨v1, rfl, g1⟩⟩
def g5 (xs : List S26) (i : Int) : S26 := xs.getD i.toNat z26
theorem nD {w : World} {A : Option Addr} {n : Nat} {xs : List S26} (h : Kd.C k26 w A n xs) (i : Int) (h0 : 0 ≤ i) (h1 : i < n) : ∃ ad A1 c1, A = some ad ∧ w.cell? (ad.add (i.toNat * 2)) = some (.int .i64 (g5 xs i).f0) ∧ w.cell? ⟨(ad.add (i.toNat * 2)).block, (ad.add (i.toNat * 2)).off + 1, none⟩ = some (.slice A1 (g5 xs i).f1.length c1) ∧ (g5 xs i).f1.length ≤ c1 ∧ (Kd.int .i64).C w A1 (g5 xs i).f1.length (g5 xs i).f1 := by
  obtain ⟨ad, c, e, _, hK, hc0⟩ := Kd.C_get h z26 i h0 h1
  have hc : ∀ j u, c[j]? = some u → w.cell? (ad.add (i.toNat * 2 + j)) = some u := hc0
  obtain ⟨A1, c1, rfl, l1, g1⟩ := mv hK
  exact ⟨ad, A1, c1, e, hc 0 _ rfl, by rw [← fW _ _ 1 (by omega)]; exact hc 1 _ rfl, l1, g1⟩
structure S109 where
  f0 : Int
  f1 : Int
  f2 : Int
def z109 : S109 := ⟨(0 : Int), (0 : Int), (0 : Int)⟩
def k109 : Kd S109 := Kd.iso (Kd.pair (Kd.int .i64) (Kd.pair (Kd.int .i64) (Kd.int .i64))) (fun x : S109 => (x.f0, x.f1, x.f2))
theorem no : Kd.Heap k109 := Kd.heap_iso _ (Kd.heap_pair (Kd.heap_int .i64) (Kd.heap_pair (Kd.heap_int .i64) (Kd.heap_int .i64)))
theorem lr {w : World} {x : S109} {cs : List Value} (h : k109.K w x cs) : cs = [.int .i64 x.f0, .int .i64 x.f1, .int .i64 x.f2] := by
  obtain ⟨_, _, rfl, rfl, ⟨_, _, rfl, rfl, rfl⟩⟩ := h
  exact rfl
theorem nj {w : World} {base : Nat} {ok : Nat → Prop} {x : S109} {cs : List Value} (h : k109.M w base ok x cs) : cs = [.int .i64 x.f0, .int .i64 x.f1, .int .i64 x.f2] := by
  obtain ⟨_, _, rfl, rfl, ⟨_, _, rfl, rfl, rfl⟩⟩ := h
  exact rfl
theorem nz (w : World) (x : S109)  : k109.K w x [.int .i64 x.f0, .int .i64 x.f1, .int .i64 x.f2] := ⟨[.int .i64 x.f0], [.int .i64 x.f1, .int .i64 x.f2], rfl, rfl, ⟨[.int .i64 x.f1], [.int .i64 x.f2], rfl, rfl, rfl⟩⟩
theorem nr (w : World) (base : Nat) (ok : Nat → Prop) (x : S109)  : k109.M w base ok x [.int .i64 x.f0, .int .i64 x.f1, .int .i64 x.f2] := ⟨[.int .i64 x.f0], [.int .i64 x.f1, .int .i64 x.f2], rfl, rfl, ⟨[.int .i64 x.f1], [.int .i64 x.f2], rfl, rfl, rfl⟩⟩
def jq (xs : List S109) (i : Int) : S109 := xs.getD i.toNat z109
theorem nA {w : World} {A : Option Addr} {n : Nat} {xs : List S109} (h : Kd.C k109 w A n xs) (i : Int) (h0 : 0 ≤ i) (h1 : i < n) : ∃ ad , A = some ad ∧ w.cell? (ad.add (i.toNat * 3)) = some (.int .i64 (jq xs i).f0) ∧ w.cell? ⟨(ad.add (i.toNat * 3)).block, (ad.add (i.toNat * 3)).off + 1, none⟩ = some (.int .i64 (jq xs i).f1) ∧ w.cell? ⟨(ad.add (i.toNat * 3)).block, (ad.add (i.toNat * 3)).off + 2, none⟩ = some (.int .i64 (jq xs i).f2) := by
  obtain ⟨ad, c, e, _, hK, hc0⟩ := Kd.C_get h z109 i h0 h1
  have hc : ∀ j u, c[j]? = some u → w.cell? (ad.add (i.toNat * 3 + j)) = some u := hc0
  obtain rfl := lr hK
  exact ⟨ad, e, hc 0 _ rfl, by rw [← fW _ _ 1 (by omega)]; exact hc 1 _ rfl, by rw [← fW _ _ 2 (by omega)]; exact hc 2 _ rfl⟩
theorem aQ {p : Prop} (h : p) : Aside0 p := ⟨h⟩
theorem pB {p q : Prop} (h : q) (f : q → p := by intro h_; repeat (first | (with_reducible first | exact h_ | apply bZ | apply bX | apply a7) | exact h_)) : p := f h
theorem pB1 {p q r : Prop} (h : q) (g : r) (f : q → r → p := by intro h_ g_; repeat (first | (with_reducible first | exact h_ | apply bZ | apply bX | apply a7 | refine cn ?_ g_) | exact h_)) : p := f h g
theorem pB2 {p q r r2 : Prop} (h : q) (g : r) (g2 : r2) (f : q → r → r2 → p := by intro h_ g_ g2_; repeat (first | (with_reducible first | exact h_ | apply bZ | apply bX | apply a7 | refine cn ?_ g_ | refine cn ?_ g2_) | exact h_)) : p := f h g g2
theorem pB4 {p q r r2 r3 r4 : Prop} (h : q) (g : r) (g2 : r2) (g3 : r3) (g4 : r4) (f : q → r → r2 → r3 → r4 → p := by intro h_ g_ g2_ g3_ g4_; repeat (first | (with_reducible first | exact h_ | apply bZ | apply bX | apply a7 | refine cn ?_ g_ | refine cn ?_ g2_ | refine cn ?_ g3_ | refine cn ?_ g4_) | exact h_)) : p := f h g g2 g3 g4
theorem pk {p q : Prop} (h : q) (f : q → p := by intro h_; (with_reducible repeat (first | refine ef ?_ _ | refine b7 ?_ | refine dJ ?_ _)); exact h_) : p := f h
theorem pC {p q : Prop} (h : q) (f : q → p := by intro h_; repeat (first | exact h_ | (with_reducible refine Kd.C_alloc ?_ _) | (with_reducible refine Kd.C_drewN ?_ _) | (with_reducible refine Kd.C_drew ?_))) : p := f h
theorem pR {p q : Prop} (h : q) (f : q → p := by intro h_; (with_reducible repeat (first | apply Kd.R_alloc | apply Kd.R_drewN | apply Kd.R_drew)); exact h_) : p := f h
theorem as_ {p : Prop} (h : p := by first | (with_reducible assumption) | assumption) : p := h
theorem rs_ {p : Prop} (h : p := by first | rfl | (simp; done) | (simp [*]; done)) : p := h
theorem re_ {p : Prop} (h : p := by first | rfl | (simp [errW_none, aj] <;> rfl) | (simp [*, errW_none, aj] <;> rfl)) : p := h
theorem rd_ {p : Prop} (h : p := by repeat (first | exact Drawn0.refl _ | apply Drawn0.step)) : p := h
section
variable {P : Go.Program} {ops : Array Go.Oper} {rest : List Go.Oper} {o : Go.Oper} {a : Go.Act} {Q : Go.Exit → Go.Act → Go.World → Prop}
theorem bc {w : Go.World} {g : Nat} {t : Go.TypeId} {cs : Array Go.Value} {v : Go.Value} (h : w.heap[g]? = some (.cells cs t (0, 0))) (i : Nat) (e : cs[i]? = some v := by exact rfl) : w.cell? ⟨g, i, none⟩ = some v := (ac h i).trans e
end
section
variable {P : Go.Program} {ops : Array Go.Oper} {Q : Go.Exit → Go.Act → Go.World → Prop} {S : Go.World → Prop} {ds : List Nat} {T : Bool × List (List Nat × List Nat)} {B : List Nat} {i fuel : Nat} {N : Option Go.Tmp} {oi : Go.Oper} {v : Go.Value} {l : Array Bool} {a a' : Go.Act} {w : Go.World}
theorem onA (hT : Aside0 (rtab .any ops = T)) (hi : ops[i]? = some oi := by rfl) (hN : oi.dst = N := by rfl) (hc : (fT T.2 l.toList == [i] && l.toList.set i true == (l.setIfInBounds i true).toList) = true := by kernel_rfl) (hd : i ∉ ds := by decide)
    (h : ∀ K : Go.Act → Go.World → Prop, Shut (∀ a' w', S w' → (S w' → aD P .any ops Q S ds fuel (l.setIfInBounds i true) a' w') → K a' w') → if Region.wanted oi (yielded ops a.tmps) = true then Oper.wp P oi a w K Q else K (a.put N undef) w) : aD P .any ops Q S ds (fuel + 1) l a w :=
  one_ _ hi hN (eB hT.out hc) hd h
end
theorem bo {α β : Type} {x : Option α} {f : α → Option β} {r : β} (h : x.bind f = some r) : ∃ a, Aside0 (x = some a) ∧ f a = some r := by
  obtain ⟨a, h1, h2⟩ := Option.bind_eq_some_iff.mp h
  exact ⟨a, ⟨h1⟩, h2⟩
theorem pb {p q : Prop} (h : Aside0 q) (f : Aside0 q → p := by intro h_; repeat (first | (with_reducible first | exact h_.out | apply bZ | apply bX | apply a7 | refine cn ?_ (Aside0.out (by assumption))) | exact h_.out)) : p := f h
theorem pq {p q : Prop} (h : Aside0 q) (f : Aside0 q → p := by intro h_; repeat (first | (with_reducible first | exact h_.out | apply KeepBut.set_ | apply em | apply dQ | apply ek | refine eO ?_ (Aside0.out (by assumption)) _) | exact h_.out)) : p := f h
section
variable {w w1 w2 wa W W' W2 : World} {g gb B : Nat} {o : Obj} {row : Option Nat}
theorem bb (h : Aside0 (wa.heap[g]? = some o)) (hb : Below w1.heap.size w1 w2) (f : w1.heap[g]? = some o := by (with_reducible repeat (first | refine ef ?_ _ | refine b7 ?_ | refine dJ ?_ _)); exact Aside0.out (by assumption)) : Aside0 (w2.heap[g]? = some o) := ⟨bq f hb⟩
theorem bs (h : Aside0 (Below w.heap.size w wa)) (hb : Below w1.heap.size w1 w2) (f : Below w.heap.size w w1 := by repeat (first | (with_reducible first | exact Aside0.out (by assumption) | apply bZ | apply bX | apply a7 | refine cn ?_ (Aside0.out (by assumption))) | exact Aside0.out (by assumption))) : Aside0 (Below w.heap.size w w2) := ⟨cU f hb⟩
theorem nl (h : Aside0 (wa.heap[g]? = some o)) (hg : gb = w1.heap.size) (f : w1.heap[g]? = some o := by (with_reducible repeat (first | refine ef ?_ _ | refine b7 ?_ | refine dJ ?_ _)); exact Aside0.out (by assumption)) : Aside0 (g ≠ gb) := ⟨by rw [hg]; exact Nat.ne_of_lt (dd f)⟩
theorem ng (h : Aside0 (wa.heap[g]? = some o)) (hg : gb = w1.heap.size) (f : w1.heap[g]? = some o := by (with_reducible repeat (first | refine ef ?_ _ | refine b7 ?_ | refine dJ ?_ _)); exact Aside0.out (by assumption)) : Aside0 (gb ≠ g) := ⟨by rw [hg]; exact Nat.ne_of_gt (dd f)⟩
theorem gw (h : Aside0 (KeepBut w wa g row)) (hg : gb = w1.heap.size) (f : KeepBut w w1 g row := by repeat (first | (with_reducible first | exact Aside0.out (by assumption) | apply KeepBut.set_ | apply em | apply dQ | apply ek | refine eO ?_ (Aside0.out (by assumption)) _) | exact Aside0.out (by assumption))) : Aside0 (w.heap.size ≤ gb) := ⟨by rw [hg]; exact bp f⟩
theorem ge (h : Aside0 (KeepBut w wa g row)) (h0 : Aside0 (B ≤ w.heap.size)) (hg : gb = w1.heap.size) (f : KeepBut w w1 g row := by repeat (first | (with_reducible first | exact Aside0.out (by assumption) | apply KeepBut.set_ | apply em | apply dQ | apply ek | refine eO ?_ (Aside0.out (by assumption)) _) | exact Aside0.out (by assumption))) : Aside0 (B ≤ gb) := ⟨Nat.le_trans h0.out (by rw [hg]; exact bp f)⟩
theorem gB (h : Aside0 (Below w.heap.size w wa)) (hg : gb = w1.heap.size) (f : Below w.heap.size w w1 := by repeat (first | (with_reducible first | exact Aside0.out (by assumption) | apply bZ | apply bX | apply a7 | refine cn ?_ (Aside0.out (by assumption))) | exact Aside0.out (by assumption))) : Aside0 (w.heap.size ≤ gb) := ⟨by rw [hg]; exact aa f⟩
theorem kt (h : Aside0 (KeepBut w wa g none)) (hb : Below w1.heap.size w1 w2) (f : KeepBut w w1 g none := by repeat (first | (with_reducible first | exact Aside0.out (by assumption) | apply KeepBut.set_ | apply em | apply dQ | apply ek | refine eO ?_ (Aside0.out (by assumption)) _) | exact Aside0.out (by assumption))) : Aside0 (KeepBut w w2 g none) := ⟨f.trans (KeepBut.of_below hb g none) (.inl rfl)⟩
theorem kh {row1 : Option Nat} (h : Aside0 (KeepBut w wa g row)) (hk : KeepBut w1 w2 g row1) (hr : row1 = row := by rfl) (f : KeepBut w w1 g row := by repeat (first | (with_reducible first | exact Aside0.out (by assumption) | apply KeepBut.set_ | apply em | apply dQ | apply ek | refine eO ?_ (Aside0.out (by assumption)) _) | exact Aside0.out (by assumption))) : Aside0 (KeepBut w w2 g row) := ⟨f.trans hk (.inl hr)⟩
theorem kk (h : Aside0 (wa.heap[gb]? = some o)) (hk : KeepBut w1 w2 g row) (hn : gb ≠ g) (hr : some gb ≠ row := by simp) (f : w1.heap[gb]? = some o := by (with_reducible repeat (first | refine ef ?_ _ | refine b7 ?_ | refine dJ ?_ _)); exact Aside0.out (by assumption)) : Aside0 (w2.heap[gb]? = some o) := ⟨hk.blk f hn hr⟩
end
section
variable {P : Go.Program} {ops : Array Go.Oper} {rest : List Go.Oper} {o : Go.Oper} {a : Go.Act} {Q : Go.Exit → Go.Act → Go.World → Prop} {W : Go.World}
theorem bx (N : Go.Tmp) (cs : Array Value) (t : TypeId) (h : ∀ g, g = W.heap.size → ∀ w1, w1.heap[g]? = some (.cells cs t (0, 0)) → Below W.heap.size W w1 → wpList P ops Q rest (a.put o.dst (.pointer (some ⟨g, 0, none⟩))) w1) (hd : o.dst = some N := by rfl) (hg : o.guard = none := by rfl)
    (hr : (execOp a.eval o).run P W = .ok (.value (.pointer (some ⟨W.heap.size, 0, none⟩))) (W.alloc (.cells cs t (0, 0))) := by first | (go_simp; done) | (go_simp; rfl)) : wpList P ops Q (o :: rest) a W := ls hg hd hr h
end
section
variable {P : Go.Program} {ops : Array Go.Oper} {Q : Go.Exit → Go.Act → Go.World → Prop} {S : Go.World → Prop} {ds : List Nat} {i fuel : Nat} {N : Option Go.Tmp} {oi : Go.Oper} {v : Go.Value} {l : Array Bool} {a a' : Go.Act} {w : Go.World}
theorem noN {a0 : Go.Act} (N : Option Go.Tmp) (e : a = a0.put N v := by exact rfl) (ha : a0.put N v = a' := by simp only [Act.put, List.setIfInBounds_toArray, List.set_cons_zero, List.set_cons_succ, i64_w, cI]; rfl) (h : aD P .any ops Q S ds fuel l a' w) : aD P .any ops Q S ds fuel l a w := ny (e.trans ha) h
theorem onN (hi : ops[i]? = some oi := by rfl) (hN : oi.dst = N := by rfl) (hc : ft .any ops l (l.setIfInBounds i true) i = true := by kernel_rfl) (hd : i ∉ ds := by decide)
    (h : ∀ K : Go.Act → Go.World → Prop, Shut (∀ a' w', S w' → (S w' → aD P .any ops Q S ds fuel (l.setIfInBounds i true) a' w') → K a' w') → if Region.wanted oi (yielded ops a.tmps) = true then Oper.wp P oi a w K Q else K (a.put N undef) w) : aD P .any ops Q S ds (fuel + 1) l a w :=
  one_ _ hi hN hc hd h
end
theorem gd {α : Type} {c : Prop} [Decidable c] {x : Option α} {r : α} (h : (if c then x else none) = some r) : c ∧ x = some r := by
  by_cases hc : c
  · rw [if_pos hc] at h; exact ⟨hc, h⟩
  · rw [if_neg hc] at h; cases h
theorem pkx {p q : Prop} (h : q) (f : q → p := by intro h_; (with_reducible repeat (first | refine ef ?_ _ | refine b7 ?_ | refine dJ ?_ _)); exact h_) : p := f h
theorem pRx {p q : Prop} (h : q) (f : q → p := by intro h_; (with_reducible repeat (first | apply Kd.R_alloc | apply Kd.R_drewN | apply Kd.R_drew)); exact h_) : p := f h
theorem dq_ {p : Prop} (h : p := by first | exact ⟨rfl, _, World.drewN_drewN _ _ _⟩ | exact ⟨rfl, _, Eq.trans (World.drewN_drewN _ _ _) (congrArg (World.drewN _) (Nat.add_assoc _ _ _))⟩) : p := h
theorem c2 {w : World} {g : Nat} {t : TypeId} {v0 v1 : Value} (h : Aside0 (w.heap[g]? = some (.cells #[v0, v1] t (0, 0)))) : w.cell? ⟨g, 0, none⟩ = some v0 ∧ w.cell? ⟨g, 1, none⟩ = some v1 ∧ w.frozen? ⟨g, 0, none⟩ = false ∧ w.frozen? ⟨g, 1, none⟩ = false := ⟨(ac h.out 0).trans rfl, (ac h.out 1).trans rfl, aH h.out 0, aH h.out 1⟩
section
variable {P : Go.Program} {ops : Array Go.Oper} {rest : List Go.Oper} {oi : Go.Oper} {a : Go.Act} {Q : Go.Exit → Go.Act → Go.World → Prop} {w : Go.World}
theorem gl (N : Option Go.Tmp) {f : FuncId} {fn : Func} (hf : P.funcs[f]? = some fn) (args : Array Value) {xs : Array Operand} {ts : Array TypeId} (h : Calls P f args w fun e w' => ∃ v, e = .returned v ∧ wpList P ops Q rest (a.put N v) w') (hop : oi.op = .call { callee := .value (.func f), args := xs, argTypes := ts } := by rfl) (hd : oi.dst = N := by rfl) (hg : oi.guard = none := by rfl)
    (hname : (fn.name == "runtime.NumGoroutine") = false := by kernel_rfl) (hb : fn.body.isSome = true := by rfl) (hargs : xs.map a.eval = args := by (try simp only [List.map_toArray, List.map_cons, List.map_nil]); first | done | rfl | (simp only [List.length_drop, List.length_take]; rfl)) : wpList P ops Q (oi :: rest) a w := fo N hd hg hf hname hb args hop hargs h
theorem gq (f : FuncId) (N : Option Go.Tmp) {fn : Func} (hf : P.funcs[f]? = some fn) (args : Array Value) {xs : Array Operand} {ts : Array TypeId} (h : Calls P f args w fun e w' => ∃ v, e = .returned v ∧ wpList P ops Q rest (a.put N v) w') (hop : oi.op = .call { callee := .value (.func f), args := xs, argTypes := ts } := by with_reducible rfl) (hd : oi.dst = N := by rfl) (hg : oi.guard = none := by rfl)
    (hname : (fn.name == "runtime.NumGoroutine") = false := by kernel_rfl) (hb : fn.body.isSome = true := by rfl) (hargs : xs.map a.eval = args := by (try simp only [List.map_toArray, List.map_cons, List.map_nil]); first | done | rfl | (simp only [List.length_drop, List.length_take]; rfl)) : wpList P ops Q (oi :: rest) a w := fo N hd hg hf hname hb args hop hargs h
theorem gs {N : Option Go.Tmp} {f : FuncId} {fn : Func} (hf : P.funcs[f]? = some fn) (args : Array Value) {xs : Array Operand} {ts : Array TypeId} {K : Go.Act → Go.World → Prop} (h : Calls P f args w fun e w' => ∃ v, e = .returned v ∧ K (a.put N v) w') (hw : Region.wanted oi (yielded ops a.tmps) = true := by rfl) (hN : oi.dst = N := by rfl) (hop : oi.op = .call { callee := .value (.func f), args := xs, argTypes := ts } := by rfl)
    (hname : (fn.name == "runtime.NumGoroutine") = false := by kernel_rfl) (hb : fn.body.isSome = true := by rfl) (hargs : xs.map a.eval = args := by (try simp only [List.map_toArray, List.map_cons, List.map_nil]); first | done | rfl | (simp only [List.length_drop, List.length_take]; rfl)) : if Region.wanted oi (yielded ops a.tmps) = true then Oper.wp P oi a w K Q else K (a.put N undef) w := mn hf hname hb args hw hN hop hargs h
end
theorem yy {α β : Type} {x y : α} {F : α → Option β} {r : β} (e : y = x) (h : ((some x).bind F) = some r) : F y = some r := by subst e; exact h
theorem rf {α : Type} {d : Kd α} {e base g : Nat} {W : World} {v : Value} {xs : List α} {cs : Array Value} {t : TypeId} {u0 u1 : Value} {ok ok' : Nat → Prop} (h : Aside0 (d.R e W base ok v xs)) (hb : Aside0 (W.heap[g]? = some (.cells cs t (0, 0)))) (ht : ∀ q, q ∈ e :: d.E → q ≠ t := by decide) (hm : ∀ k, ok k ∧ k ≠ g → ok' k := by exact fun _ _ => trivial) : d.R e ((W.setCell ⟨g, 0, none⟩ u0).setCell ⟨g, 1, none⟩ u1) base ok' v xs :=
  Kd.R_mono (Kd.R_far (p := ⟨g, 1, none⟩) (Kd.R_far (p := ⟨g, 0, none⟩) (Kd.R_types h.out hb.out ht) (fun _ hk => hk.2) u0) (fun _ hk => hk.2) u1) hm
theorem rf1 {α : Type} {d : Kd α} {e base g : Nat} {W : World} {v : Value} {xs : List α} {cs : Array Value} {t : TypeId} {u1 : Value} {ok ok' : Nat → Prop} (h : Aside0 (d.R e W base ok v xs)) (hb : Aside0 (W.heap[g]? = some (.cells cs t (0, 0)))) (ht : ∀ q, q ∈ e :: d.E → q ≠ t := by decide) (hm : ∀ k, ok k ∧ k ≠ g → ok' k := by exact fun _ _ => trivial) : d.R e (W.setCell ⟨g, 1, none⟩ u1) base ok' v xs :=
  Kd.R_mono (Kd.R_far (p := ⟨g, 1, none⟩) (Kd.R_types h.out hb.out ht) (fun _ hk => hk.2) u1) hm
section
variable {P : Go.Program} {ops : Array Go.Oper} {Q : Go.Exit → Go.Act → Go.World → Prop} {S : Go.World → Prop} {ds : List Nat} {T : Bool × List (List Nat × List Nat)} {B : List Nat} {fuel : Nat} {oi : Go.Oper} {v : Go.Value} {l : Array Bool} {a a' : Go.Act} {w : Go.World} (i : Nat) (N : Option Go.Tmp)
theorem pA (hT : Aside0 (rtab .any ops = T)) (h : aD P .any ops Q S ds fuel (l.setIfInBounds i true) a' w) (hi : ops[i]? = some oi := by rfl) (hN : oi.dst = N := by rfl) (hc : anyT T l.toList (l.setIfInBounds i true).toList i = true := by kernel_rfl) (hQ : ∀ c a w, Q (.panic c) (a.put oi.dst v) w → Q (.panic c) a w := by exact fun _ _ _ h => h)
    (hy : Yields P ops oi v a := by exact Or.inl ⟨by rfl, by intro w'; go_simp; with_reducible rfl⟩) (ha : a.put N v = a' := by simp only [Act.put, List.setIfInBounds_toArray, List.set_cons_zero, List.set_cons_succ, i64_w, cI]; rfl) : aD P .any ops Q S ds (fuel + 1) l a w := kX _ hi hN (ki hT.out hc) hQ hy ha h
theorem pJ (hT : Aside0 (rtab .any ops = T)) (l' : Array Bool) (h : aD P .any ops Q S ds fuel l' a' w) (hi : ops[i]? = some oi := by rfl) (hN : oi.dst = N := by rfl) (hc : anyT T l.toList l'.toList i = true := by kernel_rfl) (hQ : ∀ c a w, Q (.panic c) (a.put oi.dst v) w → Q (.panic c) a w := by exact fun _ _ _ h => h)
    (hy : Yields P ops oi v a := by exact Or.inl ⟨by rfl, by intro w'; go_simp; with_reducible rfl⟩) (ha : a.put N v = a' := by simp only [Act.put, List.setIfInBounds_toArray, List.set_cons_zero, List.set_cons_succ, i64_w, cI]; rfl) : aD P .any ops Q S ds (fuel + 1) l a w := kX _ hi hN (ki hT.out hc) hQ hy ha h
theorem pU (hT : Aside0 (rtab .any ops = T)) (h : aD P .any ops Q S ds fuel (l.setIfInBounds i true) a' w) (hi : ops[i]? = some oi := by rfl) (hN : oi.dst = N := by rfl) (hc : anyT T l.toList (l.setIfInBounds i true).toList i = true := by kernel_rfl) (hQ : ∀ c a w, Q (.panic c) (a.put oi.dst undef) w → Q (.panic c) a w := by exact fun _ _ _ h => h)
    (hy : Yields P ops oi undef a := by exact Or.inr ⟨by rfl, by rfl⟩) (ha : a.put N undef = a' := by simp only [Act.put, List.setIfInBounds_toArray, List.set_cons_zero, List.set_cons_succ, i64_w, cI]; rfl) : aD P .any ops Q S ds (fuel + 1) l a w := kX _ hi hN (ki hT.out hc) hQ hy ha h
theorem pN (h : aD P .any ops Q S ds fuel (l.setIfInBounds i true) a' w) (hi : ops[i]? = some oi := by rfl) (hN : oi.dst = N := by rfl) (hc : anyB .any ops l (l.setIfInBounds i true) i = true := by kernel_rfl) (hQ : ∀ c a w, Q (.panic c) (a.put oi.dst v) w → Q (.panic c) a w := by exact fun _ _ _ h => h)
    (hy : Yields P ops oi v a := by exact Or.inl ⟨by rfl, by intro w'; go_simp; with_reducible rfl⟩) (ha : a.put N v = a' := by simp only [Act.put, List.setIfInBounds_toArray, List.set_cons_zero, List.set_cons_succ, i64_w, cI]; rfl) : aD P .any ops Q S ds (fuel + 1) l a w := kX _ hi hN hc hQ hy ha h
theorem tA1 (hT : Aside0 (rtab .any ops = T)) (hB : Aside0 (cY T.2 B = true)) (hS : S w) (h : aD P .any ops Q S ds fuel (l.setIfInBounds i true) a' w) (hi : ops[i]? = some oi := by rfl) (hN : oi.dst = N := by rfl) (hc : jT T B ds l.toList (l.setIfInBounds i true).toList i = true := by kernel_rfl) (hQ : ∀ c a w, Q (.panic c) (a.put oi.dst v) w → Q (.panic c) a w := by exact fun _ _ _ h => h)
    (hy : YieldsIf P ops S oi v a := by exact Or.inl ⟨by rfl, by intro w' s0; go_simp; with_reducible rfl⟩) (ha : a.put N v = a' := by simp only [Act.put, List.setIfInBounds_toArray, List.set_cons_zero, List.set_cons_succ, i64_w, cI]; rfl) : aD P .any ops Q S ds (fuel + 1) l a w := take_ _ hi hN (dZ hT.out hB.out hc) hQ hy hS ha h
theorem tA2 (hT : Aside0 (rtab .any ops = T)) (hB : Aside0 (cY T.2 B = true)) (hS : S w) (h : aD P .any ops Q S ds fuel (l.setIfInBounds i true) a' w) (hi : ops[i]? = some oi := by rfl) (hN : oi.dst = N := by rfl) (hc : jT T B ds l.toList (l.setIfInBounds i true).toList i = true := by kernel_rfl) (hQ : ∀ c a w, Q (.panic c) (a.put oi.dst v) w → Q (.panic c) a w := by exact fun _ _ _ h => h)
    (hy : YieldsIf P ops S oi v a := by exact Or.inl ⟨by rfl, by rintro w' ⟨s0, s1⟩; go_simp; with_reducible rfl⟩) (ha : a.put N v = a' := by simp only [Act.put, List.setIfInBounds_toArray, List.set_cons_zero, List.set_cons_succ, i64_w, cI]; rfl) : aD P .any ops Q S ds (fuel + 1) l a w := take_ _ hi hN (dZ hT.out hB.out hc) hQ hy hS ha h
theorem tN2 (hS : S w) (h : aD P .any ops Q S ds fuel (l.setIfInBounds i true) a' w) (hi : ops[i]? = some oi := by rfl) (hN : oi.dst = N := by rfl) (hc : iB .any ops ds l (l.setIfInBounds i true) i = true := by kernel_rfl) (hQ : ∀ c a w, Q (.panic c) (a.put oi.dst v) w → Q (.panic c) a w := by exact fun _ _ _ h => h)
    (hy : YieldsIf P ops S oi v a := by exact Or.inl ⟨by rfl, by rintro w' ⟨s0, s1⟩; go_simp; with_reducible rfl⟩) (ha : a.put N v = a' := by simp only [Act.put, List.setIfInBounds_toArray, List.set_cons_zero, List.set_cons_succ, i64_w, cI]; rfl) : aD P .any ops Q S ds (fuel + 1) l a w := take_ _ hi hN hc hQ hy hS ha h
theorem tA3 (hT : Aside0 (rtab .any ops = T)) (hB : Aside0 (cY T.2 B = true)) (hS : S w) (h : aD P .any ops Q S ds fuel (l.setIfInBounds i true) a' w) (hi : ops[i]? = some oi := by rfl) (hN : oi.dst = N := by rfl) (hc : jT T B ds l.toList (l.setIfInBounds i true).toList i = true := by kernel_rfl) (hQ : ∀ c a w, Q (.panic c) (a.put oi.dst v) w → Q (.panic c) a w := by exact fun _ _ _ h => h)
    (hy : YieldsIf P ops S oi v a := by exact Or.inl ⟨by rfl, by rintro w' ⟨s0, s1, s2⟩; go_simp; with_reducible rfl⟩) (ha : a.put N v = a' := by simp only [Act.put, List.setIfInBounds_toArray, List.set_cons_zero, List.set_cons_succ, i64_w, cI]; rfl) : aD P .any ops Q S ds (fuel + 1) l a w := take_ _ hi hN (dZ hT.out hB.out hc) hQ hy hS ha h
end
theorem rwe {α : Type} {d : Kd α} {e : TypeId} {w : World} {base : Nat} {ok : Nat → Prop} {v : Value} {l : List α} (h : d.R e w base ok v l) : ∃ A c, v = .slice A l.length c ∧ Aside0 (l.length ≤ c ∧ d.C w A l.length l) := by
  obtain ⟨A, c, e⟩ := Kd.R_slice h
  subst e
  exact ⟨A, c, rfl, ⟨(Kd.R_reads' h).2⟩⟩
theorem rC {α : Type} {d : Kd α} {w w1 : World} {A : Option Addr} {n c m : Nat} {l : List α} (h : Aside0 (m ≤ c ∧ d.C w A n l)) (f : Below w.heap.size w w1 := by repeat (first | (with_reducible first | exact Aside0.out (by assumption) | apply bZ | apply bX | apply a7 | refine cn ?_ (Aside0.out (by assumption))) | exact Aside0.out (by assumption))) : d.C w1 A n l := Kd.C_below h.out.2 f
theorem bz (w : World) : Aside0 (Below w.heap.size w w) := ⟨Below.refl w.heap.size w⟩
end Go.Proofs.YtimkekeaeojpkaaGreat.A
