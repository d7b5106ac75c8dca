/- Machine side of the law FnRenamed: Go functions as Lean functions, and proofs that calls come to what these tell. Conditions: those in each theorem. -/
import Derived.Test.YtbdloopelidneaaGreatProg
import Derived.Below
import Derived.Deep.Draws
import Derived.Deep.AppendLies
import Derived.Maps.AppendAt
import Derived.OwnWalk
import Derived.Laws.BytesArg
import Derived.Laws.MakeOwn
import Derived.Laws.OwnMore
import Derived.Deep.OwnRows
import Derived.Tactics
import Derived.Lib.ConvBytes
import Derived.Laws.Slices
import Derived.WalkKit
import Derived.KernelRfl
import Derived.RowKit3
import Derived.Deep.LoopGhost
import Derived.Deep.QuietTactic
import Derived.BigQuiet
import Derived.WideLaws
import Derived.Deep.DeepCutAuto
import Derived.Deep.CutBlock
import Derived.Deep.RegionHeld3
import Derived.Laws.Rows
import Derived.Lib.AppendStr
import Derived.ArgAppend
import Derived.Laws.IdiomCopy
import Derived.OrdersHeld
import Derived.Laws.BitsLemmas
import Derived.RowKit
import Derived.Test.YtbdloopelidneaaGreatMFnRenamedwWords
import Derived.Test.YtbdloopelidneaaGreatMFnRenamedwLast
import Derived.Test.YtbdloopelidneaaGreatMFnRenamedwTab
import Derived.Test.YtbdloopelidneaaGreatMFnRenamedwQPut
import Derived.Test.YtbdloopelidneaaGreatMFnRenamedwApart
import Derived.Test.YtbdloopelidneaaGreatMFnRenamedwArr
import Derived.Test.YtbdloopelidneaaGreatMFnRenamedwZeros
import Derived.Test.YtbdloopelidneaaGreatMFnRenamedwFoot
import Derived.Test.YtbdloopelidneaaGreatMFnRenamedwKept
import Derived.Test.YtbdloopelidneaaGreatMFnRenamedwShare
import Derived.Test.YtbdloopelidneaaGreatMFnRenamedwN
import Derived.Test.YtbdloopelidneaaGreatMFnRenamedwGuard
import Derived.Test.YtbdloopelidneaaGreatMFnRenamedwNEv
import Derived.Test.YtbdloopelidneaaGreatMFnRenamedwMore
import Derived.Lib.Hide
namespace Go.Proofs.YtbdloopelidneaaGreat.A
open Go.RowKit Go.Proofs.YtbdloopelidneaaGreatW.PrintWords Go.Proofs.YtbdloopelidneaaGreatW.PrintLast Go.Proofs.YtbdloopelidneaaGreatW.PrintMore
attribute [local go_sem] cy ct cP cN b7 b9 cu cv
set_option linter.unusedVariables false
set_option linter.unusedSimpArgs false
def errW : Option Int → Value
  | none => .nilIface
  | some c => .iface 0 (.int .i64 c)
theorem errW_none : errW none = .nilIface := rfl
theorem bZ (c : Int) : errW (some c) = .iface 0 (.int .i64 c) := rfl
theorem cp : (Tryz.prog.info? 3).map (fun i => (i.zero, i.size, i.bytes)) = some (some (.int .i64 0), 1, 8) := by kernel_rfl
theorem mh : (Tryz.prog.info? 5).map (fun i => (i.zero, i.size, i.bytes)) = some (some (.int .u8 0), 1, 1) := by kernel_rfl
theorem ma : (Tryz.prog.info? 9).map (fun i => (i.zero, i.size, i.bytes)) = some (some (.string ⟨#[]⟩), 1, 16) := by kernel_rfl
theorem aQ {p : Prop} (h : p) : Aside0 p := ⟨h⟩
theorem pB {p q : Prop} (h : q) (f : q → p := by intro h_; repeat (first | (with_reducible first | exact h_ | apply ch | apply bC | apply ai) | exact h_)) : p := f h
theorem pk {p q : Prop} (h : q) (f : q → p := by intro h_; (with_reducible repeat (first | refine dp ?_ _ | refine aH ?_ | refine dn ?_ _)); exact h_) : p := f h
theorem pC {p q : Prop} (h : q) (f : q → p := by intro h_; repeat (first | exact h_ | (with_reducible refine Kd.u9 ?_ _) | (with_reducible refine Kd.y6 ?_ _) | (with_reducible refine Kd.y7 ?_))) : p := f h
theorem pR {p q : Prop} (h : q) (f : q → p := by intro h_; (with_reducible repeat (first | apply Kd.F4 | apply Kd.E8 | apply Kd.u4)); exact h_) : p := f h
theorem as_ {p : Prop} (h : p := by first | (with_reducible assumption) | assumption) : p := h
theorem rs_ {p : Prop} (h : p := by first | rfl | (simp; done) | (simp [*]; done)) : p := h
theorem re_ {p : Prop} (h : p := by first | rfl | (simp [errW_none, bZ] <;> rfl) | (simp [*, errW_none, bZ] <;> rfl)) : p := h
theorem rd_ {p : Prop} (h : p := by repeat (first | exact Drawn0.refl _ | apply Drawn0.step)) : p := h
section
variable {P : Go.Program} {ops : Array Go.Oper} {rest : List Go.Oper} {o : Go.Oper} {a : Go.Act} {Q : Go.Exit → Go.Act → Go.World → Prop}
theorem bc {w : Go.World} {g : Nat} {t : Go.TypeId} {cs : Array Go.Value} {v : Go.Value} (h : w.heap[g]? = some (.cells cs t (0, 0))) (i : Nat) (e : cs[i]? = some v := by exact rfl) : w.cell? ⟨g, i, none⟩ = some v := (ab h i).trans e
end
section
variable {P : Go.Program} {ops : Array Go.Oper} {Q : Go.Exit → Go.Act → Go.World → Prop} {S : Go.World → Prop} {ds : List Nat} {T : Bool × List (List Nat × List Nat)} {B : List Nat} {i fuel : Nat} {N : Option Go.Tmp} {oi : Go.Oper} {v : Go.Value} {l : Array Bool} {a a' : Go.Act} {w : Go.World}
theorem jl (hT : Aside0 (rtab .any ops = T)) (hB : Aside0 (cC T.2 B = true)) (hS : S w) (hi : ops[i]? = some oi := by rfl) (hN : oi.dst = N := by rfl) (hc : i7 T B ds l.toList (l.setIfInBounds i true).toList i = true := by kernel_rfl) (hQ : ∀ c a w, Q (.panic c) (a.put oi.dst v) w → Q (.panic c) a w := by exact fun _ _ _ h => h)
    (hy : YieldsIf P ops S oi v a := by exact Or.inl ⟨by rfl, by rintro w' ⟨s0, s1, s2, s3, s4, s5, s6, s7, s8, s9⟩; go_simp; with_reducible rfl⟩) (ha : a.put N v = a' := by simp only [Act.put, List.setIfInBounds_toArray, List.set_cons_zero, List.set_cons_succ, i64_w, cJ]; rfl) (h : aJ P .any ops Q S ds fuel (l.setIfInBounds i true) a' w) : aJ P .any ops Q S ds (fuel + 1) l a w :=
  take_ _ hi hN (cE hT.out hB.out hc) hQ hy hS ha h
theorem onA (hT : Aside0 (rtab .any ops = T)) (hi : ops[i]? = some oi := by rfl) (hN : oi.dst = N := by rfl) (hc : (fu T.2 l.toList == [i] && l.toList.set i true == (l.setIfInBounds i true).toList) = true := by kernel_rfl) (hd : i ∉ ds := by decide)
    (h : ∀ K : Go.Act → Go.World → Prop, Shut (∀ a' w', S w' → (S w' → aJ P .any ops Q S ds fuel (l.setIfInBounds i true) a' w') → K a' w') → if Region.wanted oi (yielded ops a.tmps) = true then Oper.wp P oi a w K Q else K (a.put N undef) w) : aJ P .any ops Q S ds (fuel + 1) l a w :=
  one_ _ hi hN (cm hT.out hc) hd h
end
theorem bo {α β : Type} {x : Option α} {f : α → Option β} {r : β} (h : x.bind f = some r) : ∃ a, Aside0 (x = some a) ∧ f a = some r := by
  obtain ⟨a, h1, h2⟩ := Option.bind_eq_some_iff.mp h
  exact ⟨a, ⟨h1⟩, h2⟩
theorem pb {p q : Prop} (h : Aside0 q) (f : Aside0 q → p := by intro h_; repeat (first | (with_reducible first | exact h_.out | apply ch | apply bC | apply ai | refine bQ ?_ (Aside0.out (by assumption))) | exact h_.out)) : p := f h
theorem pq {p q : Prop} (h : Aside0 q) (f : Aside0 q → p := by intro h_; repeat (first | (with_reducible first | exact h_.out | apply KeepBut.set_ | apply eN | apply dV | apply eM | refine fo ?_ (Aside0.out (by assumption)) _) | exact h_.out)) : p := f h
theorem pt {p q : Prop} (h : Aside0 q) (f : Aside0 q → p := by intro h_; repeat (first | (with_reducible first | exact h_.out | apply Kept.alloc | apply Kept.drewN | apply Kept.drew) | exact h_.out)) : p := f h
section
variable {w w1 w2 wa W W' W2 : World} {g gb B : Nat} {o : Obj} {row : Option Nat}
theorem bb (h : Aside0 (wa.heap[g]? = some o)) (hb : Below w1.heap.size w1 w2) (f : w1.heap[g]? = some o := by (with_reducible repeat (first | refine dp ?_ _ | refine aH ?_ | refine dn ?_ _)); exact Aside0.out (by assumption)) : Aside0 (w2.heap[g]? = some o) := ⟨aw f hb⟩
theorem bs (h : Aside0 (Below w.heap.size w wa)) (hb : Below w1.heap.size w1 w2) (f : Below w.heap.size w w1 := by repeat (first | (with_reducible first | exact Aside0.out (by assumption) | apply ch | apply bC | apply ai | refine bQ ?_ (Aside0.out (by assumption))) | exact Aside0.out (by assumption))) : Aside0 (Below w.heap.size w w2) := ⟨cQ f hb⟩
theorem nl (h : Aside0 (wa.heap[g]? = some o)) (hg : gb = w1.heap.size) (f : w1.heap[g]? = some o := by (with_reducible repeat (first | refine dp ?_ _ | refine aH ?_ | refine dn ?_ _)); exact Aside0.out (by assumption)) : Aside0 (g ≠ gb) := ⟨by rw [hg]; exact Nat.ne_of_lt (cl f)⟩
theorem ng (h : Aside0 (wa.heap[g]? = some o)) (hg : gb = w1.heap.size) (f : w1.heap[g]? = some o := by (with_reducible repeat (first | refine dp ?_ _ | refine aH ?_ | refine dn ?_ _)); exact Aside0.out (by assumption)) : Aside0 (gb ≠ g) := ⟨by rw [hg]; exact Nat.ne_of_gt (cl f)⟩
theorem gw (h : Aside0 (KeepBut w wa g row)) (hg : gb = w1.heap.size) (f : KeepBut w w1 g row := by repeat (first | (with_reducible first | exact Aside0.out (by assumption) | apply KeepBut.set_ | apply eN | apply dV | apply eM | refine fo ?_ (Aside0.out (by assumption)) _) | exact Aside0.out (by assumption))) : Aside0 (w.heap.size ≤ gb) := ⟨by rw [hg]; exact bR f⟩
theorem ge (h : Aside0 (KeepBut w wa g row)) (h0 : Aside0 (B ≤ w.heap.size)) (hg : gb = w1.heap.size) (f : KeepBut w w1 g row := by repeat (first | (with_reducible first | exact Aside0.out (by assumption) | apply KeepBut.set_ | apply eN | apply dV | apply eM | refine fo ?_ (Aside0.out (by assumption)) _) | exact Aside0.out (by assumption))) : Aside0 (B ≤ gb) := ⟨Nat.le_trans h0.out (by rw [hg]; exact bR f)⟩
theorem gB (h : Aside0 (Below w.heap.size w wa)) (hg : gb = w1.heap.size) (f : Below w.heap.size w w1 := by repeat (first | (with_reducible first | exact Aside0.out (by assumption) | apply ch | apply bC | apply ai | refine bQ ?_ (Aside0.out (by assumption))) | exact Aside0.out (by assumption))) : Aside0 (w.heap.size ≤ gb) := ⟨by rw [hg]; exact aa f⟩
theorem kt (h : Aside0 (KeepBut w wa g none)) (hb : Below w1.heap.size w1 w2) (f : KeepBut w w1 g none := by repeat (first | (with_reducible first | exact Aside0.out (by assumption) | apply KeepBut.set_ | apply eN | apply dV | apply eM | refine fo ?_ (Aside0.out (by assumption)) _) | exact Aside0.out (by assumption))) : Aside0 (KeepBut w w2 g none) := ⟨f.trans (KeepBut.of_below hb g none) (.inl rfl)⟩
theorem kh {row1 : Option Nat} (h : Aside0 (KeepBut w wa g row)) (hk : KeepBut w1 w2 g row1) (hr : row1 = row := by rfl) (f : KeepBut w w1 g row := by repeat (first | (with_reducible first | exact Aside0.out (by assumption) | apply KeepBut.set_ | apply eN | apply dV | apply eM | refine fo ?_ (Aside0.out (by assumption)) _) | exact Aside0.out (by assumption))) : Aside0 (KeepBut w w2 g row) := ⟨f.trans hk (.inl hr)⟩
theorem kk (h : Aside0 (wa.heap[gb]? = some o)) (hk : KeepBut w1 w2 g row) (hn : gb ≠ g) (hr : some gb ≠ row := by simp) (f : w1.heap[gb]? = some o := by (with_reducible repeat (first | refine dp ?_ _ | refine aH ?_ | refine dn ?_ _)); exact Aside0.out (by assumption)) : Aside0 (w2.heap[gb]? = some o) := ⟨hk.blk f hn hr⟩
end
section
variable {P : Go.Program} {ops : Array Go.Oper} {rest : List Go.Oper} {o : Go.Oper} {a : Go.Act} {Q : Go.Exit → Go.Act → Go.World → Prop} {W : Go.World}
theorem bx (N : Go.Tmp) (cs : Array Value) (t : TypeId) (h : ∀ g, g = W.heap.size → ∀ w1, w1.heap[g]? = some (.cells cs t (0, 0)) → Below W.heap.size W w1 → wpList P ops Q rest (a.put o.dst (.pointer (some ⟨g, 0, none⟩))) w1) (hd : o.dst = some N := by rfl) (hg : o.guard = none := by rfl)
    (hr : (execOp a.eval o).run P W = .ok (.value (.pointer (some ⟨W.heap.size, 0, none⟩))) (W.alloc (.cells cs t (0, 0))) := by first | (go_simp; done) | (go_simp; rfl)) : wpList P ops Q (o :: rest) a W := i8 hg hd hr h
end
section
variable {P : Go.Program} {ops : Array Go.Oper} {Q : Go.Exit → Go.Act → Go.World → Prop} {S : Go.World → Prop} {ds : List Nat} {i fuel : Nat} {N : Option Go.Tmp} {oi : Go.Oper} {v : Go.Value} {l : Array Bool} {a a' : Go.Act} {w : Go.World}
theorem noN {a0 : Go.Act} (N : Option Go.Tmp) (e : a = a0.put N v := by exact rfl) (ha : a0.put N v = a' := by simp only [Act.put, List.setIfInBounds_toArray, List.set_cons_zero, List.set_cons_succ, i64_w, cJ]; rfl) (h : aJ P .any ops Q S ds fuel l a' w) : aJ P .any ops Q S ds fuel l a w := eI (e.trans ha) h
theorem onN (hi : ops[i]? = some oi := by rfl) (hN : oi.dst = N := by rfl) (hc : fW .any ops l (l.setIfInBounds i true) i = true := by kernel_rfl) (hd : i ∉ ds := by decide)
    (h : ∀ K : Go.Act → Go.World → Prop, Shut (∀ a' w', S w' → (S w' → aJ P .any ops Q S ds fuel (l.setIfInBounds i true) a' w') → K a' w') → if Region.wanted oi (yielded ops a.tmps) = true then Oper.wp P oi a w K Q else K (a.put N undef) w) : aJ P .any ops Q S ds (fuel + 1) l a w :=
  one_ _ hi hN hc hd h
end
theorem gd {α : Type} {c : Prop} [Decidable c] {x : Option α} {r : α} (h : (if c then x else none) = some r) : c ∧ x = some r := by
  by_cases hc : c
  · rw [if_pos hc] at h; exact ⟨hc, h⟩
  · rw [if_neg hc] at h; cases h
theorem pkx {p q : Prop} (h : q) (f : q → p := by intro h_; (with_reducible repeat (first | refine dp ?_ _ | refine aH ?_ | refine dn ?_ _)); exact h_) : p := f h
theorem pRx {p q : Prop} (h : q) (f : q → p := by intro h_; (with_reducible repeat (first | apply Kd.F4 | apply Kd.E8 | apply Kd.u4)); exact h_) : p := f h
theorem dq_ {p : Prop} (h : p := by first | exact ⟨rfl, _, World.drewN_drewN _ _ _⟩ | exact ⟨rfl, _, Eq.trans (World.drewN_drewN _ _ _) (congrArg (World.drewN _) (Nat.add_assoc _ _ _))⟩) : p := h
theorem cz2 {w : World} {g : Nat} {t : TypeId} {v0 v1 : Value} (h : Aside0 (w.heap[g]? = some (.cells #[v0, v1] t (0, 0)))) : w.cell? ⟨g, 0, none⟩ = some v0 ∧ w.cell? ⟨g, 1, none⟩ = some v1 ∧ w.frozen? ⟨g, 0, none⟩ = false ∧ w.frozen? ⟨g, 1, none⟩ = false := ⟨(ab h.out 0).trans rfl, (ab h.out 1).trans rfl, ag h.out 0, ag h.out 1⟩
section
variable {P : Go.Program} {ops : Array Go.Oper} {rest : List Go.Oper} {oi : Go.Oper} {a : Go.Act} {Q : Go.Exit → Go.Act → Go.World → Prop} {w : Go.World}
theorem gl (N : Option Go.Tmp) {f : FuncId} {fn : Func} (hf : P.funcs[f]? = some fn) (args : Array Value) {xs : Array Operand} {ts : Array TypeId} (h : Calls P f args w fun e w' => ∃ v, e = .returned v ∧ wpList P ops Q rest (a.put N v) w') (hop : oi.op = .call { callee := .value (.func f), args := xs, argTypes := ts } := by rfl) (hd : oi.dst = N := by rfl) (hg : oi.guard = none := by rfl)
    (hname : (fn.name == "runtime.NumGoroutine") = false := by kernel_rfl) (hb : fn.body.isSome = true := by rfl) (hargs : xs.map a.eval = args := by (try simp only [List.map_toArray, List.map_cons, List.map_nil]); first | done | rfl | (simp only [List.length_drop, List.length_take]; rfl)) : wpList P ops Q (oi :: rest) a w := gI N hd hg hf hname hb args hop hargs h
theorem gs {N : Option Go.Tmp} {f : FuncId} {fn : Func} (hf : P.funcs[f]? = some fn) (args : Array Value) {xs : Array Operand} {ts : Array TypeId} {K : Go.Act → Go.World → Prop} (h : Calls P f args w fun e w' => ∃ v, e = .returned v ∧ K (a.put N v) w') (hw : Region.wanted oi (yielded ops a.tmps) = true := by rfl) (hN : oi.dst = N := by rfl) (hop : oi.op = .call { callee := .value (.func f), args := xs, argTypes := ts } := by rfl)
    (hname : (fn.name == "runtime.NumGoroutine") = false := by kernel_rfl) (hb : fn.body.isSome = true := by rfl) (hargs : xs.map a.eval = args := by (try simp only [List.map_toArray, List.map_cons, List.map_nil]); first | done | rfl | (simp only [List.length_drop, List.length_take]; rfl)) : if Region.wanted oi (yielded ops a.tmps) = true then Oper.wp P oi a w K Q else K (a.put N undef) w := gq hf hname hb args hw hN hop hargs h
end
theorem rf {α : Type} {d : Kd α} {e base g : Nat} {W : World} {v : Value} {xs : List α} {cs : Array Value} {t : TypeId} {u0 u1 : Value} {ok ok' : Nat → Prop} (h : Aside0 (d.R e W base ok v xs)) (hb : Aside0 (W.heap[g]? = some (.cells cs t (0, 0)))) (ht : ∀ q, q ∈ e :: d.E → q ≠ t := by decide) (hm : ∀ k, ok k ∧ k ≠ g → ok' k := by exact fun _ _ => trivial) : d.R e ((W.setCell ⟨g, 0, none⟩ u0).setCell ⟨g, 1, none⟩ u1) base ok' v xs :=
  Kd.n7 (Kd.o8 (p := ⟨g, 1, none⟩) (Kd.o8 (p := ⟨g, 0, none⟩) (Kd.o6 h.out hb.out ht) (fun _ hk => hk.2) u0) (fun _ hk => hk.2) u1) hm
theorem rf1 {α : Type} {d : Kd α} {e base g : Nat} {W : World} {v : Value} {xs : List α} {cs : Array Value} {t : TypeId} {u1 : Value} {ok ok' : Nat → Prop} (h : Aside0 (d.R e W base ok v xs)) (hb : Aside0 (W.heap[g]? = some (.cells cs t (0, 0)))) (ht : ∀ q, q ∈ e :: d.E → q ≠ t := by decide) (hm : ∀ k, ok k ∧ k ≠ g → ok' k := by exact fun _ _ => trivial) : d.R e (W.setCell ⟨g, 1, none⟩ u1) base ok' v xs :=
  Kd.n7 (Kd.o8 (p := ⟨g, 1, none⟩) (Kd.o6 h.out hb.out ht) (fun _ hk => hk.2) u1) hm
section
variable {P : Go.Program} {ops : Array Go.Oper} {Q : Go.Exit → Go.Act → Go.World → Prop} {S : Go.World → Prop} {ds : List Nat} {T : Bool × List (List Nat × List Nat)} {B : List Nat} {fuel : Nat} {oi : Go.Oper} {v : Go.Value} {l : Array Bool} {a a' : Go.Act} {w : Go.World} (i : Nat) (N : Option Go.Tmp)
theorem pA (hT : Aside0 (rtab .any ops = T)) (h : aJ P .any ops Q S ds fuel (l.setIfInBounds i true) a' w) (hi : ops[i]? = some oi := by rfl) (hN : oi.dst = N := by rfl) (hc : anyT T l.toList (l.setIfInBounds i true).toList i = true := by kernel_rfl) (hQ : ∀ c a w, Q (.panic c) (a.put oi.dst v) w → Q (.panic c) a w := by exact fun _ _ _ h => h)
    (hy : Yields P ops oi v a := by exact Or.inl ⟨by rfl, by intro w'; go_simp; with_reducible rfl⟩) (ha : a.put N v = a' := by simp only [Act.put, List.setIfInBounds_toArray, List.set_cons_zero, List.set_cons_succ, i64_w, cJ]; rfl) : aJ P .any ops Q S ds (fuel + 1) l a w := kZ _ hi hN (kD hT.out hc) hQ hy ha h
theorem pJ (hT : Aside0 (rtab .any ops = T)) (l' : Array Bool) (h : aJ P .any ops Q S ds fuel l' a' w) (hi : ops[i]? = some oi := by rfl) (hN : oi.dst = N := by rfl) (hc : anyT T l.toList l'.toList i = true := by kernel_rfl) (hQ : ∀ c a w, Q (.panic c) (a.put oi.dst v) w → Q (.panic c) a w := by exact fun _ _ _ h => h)
    (hy : Yields P ops oi v a := by exact Or.inl ⟨by rfl, by intro w'; go_simp; with_reducible rfl⟩) (ha : a.put N v = a' := by simp only [Act.put, List.setIfInBounds_toArray, List.set_cons_zero, List.set_cons_succ, i64_w, cJ]; rfl) : aJ P .any ops Q S ds (fuel + 1) l a w := kZ _ hi hN (kD hT.out hc) hQ hy ha h
theorem pU (hT : Aside0 (rtab .any ops = T)) (h : aJ P .any ops Q S ds fuel (l.setIfInBounds i true) a' w) (hi : ops[i]? = some oi := by rfl) (hN : oi.dst = N := by rfl) (hc : anyT T l.toList (l.setIfInBounds i true).toList i = true := by kernel_rfl) (hQ : ∀ c a w, Q (.panic c) (a.put oi.dst undef) w → Q (.panic c) a w := by exact fun _ _ _ h => h)
    (hy : Yields P ops oi undef a := by exact Or.inr ⟨by rfl, by rfl⟩) (ha : a.put N undef = a' := by simp only [Act.put, List.setIfInBounds_toArray, List.set_cons_zero, List.set_cons_succ, i64_w, cJ]; rfl) : aJ P .any ops Q S ds (fuel + 1) l a w := kZ _ hi hN (kD hT.out hc) hQ hy ha h
theorem pN (h : aJ P .any ops Q S ds fuel (l.setIfInBounds i true) a' w) (hi : ops[i]? = some oi := by rfl) (hN : oi.dst = N := by rfl) (hc : anyB .any ops l (l.setIfInBounds i true) i = true := by kernel_rfl) (hQ : ∀ c a w, Q (.panic c) (a.put oi.dst v) w → Q (.panic c) a w := by exact fun _ _ _ h => h)
    (hy : Yields P ops oi v a := by exact Or.inl ⟨by rfl, by intro w'; go_simp; with_reducible rfl⟩) (ha : a.put N v = a' := by simp only [Act.put, List.setIfInBounds_toArray, List.set_cons_zero, List.set_cons_succ, i64_w, cJ]; rfl) : aJ P .any ops Q S ds (fuel + 1) l a w := kZ _ hi hN hc hQ hy ha h
theorem tA1 (hT : Aside0 (rtab .any ops = T)) (hB : Aside0 (cC T.2 B = true)) (hS : S w) (h : aJ P .any ops Q S ds fuel (l.setIfInBounds i true) a' w) (hi : ops[i]? = some oi := by rfl) (hN : oi.dst = N := by rfl) (hc : i7 T B ds l.toList (l.setIfInBounds i true).toList i = true := by kernel_rfl) (hQ : ∀ c a w, Q (.panic c) (a.put oi.dst v) w → Q (.panic c) a w := by exact fun _ _ _ h => h)
    (hy : YieldsIf P ops S oi v a := by exact Or.inl ⟨by rfl, by intro w' s0; go_simp; with_reducible rfl⟩) (ha : a.put N v = a' := by simp only [Act.put, List.setIfInBounds_toArray, List.set_cons_zero, List.set_cons_succ, i64_w, cJ]; rfl) : aJ P .any ops Q S ds (fuel + 1) l a w := take_ _ hi hN (cE hT.out hB.out hc) hQ hy hS ha h
theorem tA2 (hT : Aside0 (rtab .any ops = T)) (hB : Aside0 (cC T.2 B = true)) (hS : S w) (h : aJ P .any ops Q S ds fuel (l.setIfInBounds i true) a' w) (hi : ops[i]? = some oi := by rfl) (hN : oi.dst = N := by rfl) (hc : i7 T B ds l.toList (l.setIfInBounds i true).toList i = true := by kernel_rfl) (hQ : ∀ c a w, Q (.panic c) (a.put oi.dst v) w → Q (.panic c) a w := by exact fun _ _ _ h => h)
    (hy : YieldsIf P ops S oi v a := by exact Or.inl ⟨by rfl, by rintro w' ⟨s0, s1⟩; go_simp; with_reducible rfl⟩) (ha : a.put N v = a' := by simp only [Act.put, List.setIfInBounds_toArray, List.set_cons_zero, List.set_cons_succ, i64_w, cJ]; rfl) : aJ P .any ops Q S ds (fuel + 1) l a w := take_ _ hi hN (cE hT.out hB.out hc) hQ hy hS ha h
theorem tN2 (hS : S w) (h : aJ P .any ops Q S ds fuel (l.setIfInBounds i true) a' w) (hi : ops[i]? = some oi := by rfl) (hN : oi.dst = N := by rfl) (hc : iK .any ops ds l (l.setIfInBounds i true) i = true := by kernel_rfl) (hQ : ∀ c a w, Q (.panic c) (a.put oi.dst v) w → Q (.panic c) a w := by exact fun _ _ _ h => h)
    (hy : YieldsIf P ops S oi v a := by exact Or.inl ⟨by rfl, by rintro w' ⟨s0, s1⟩; go_simp; with_reducible rfl⟩) (ha : a.put N v = a' := by simp only [Act.put, List.setIfInBounds_toArray, List.set_cons_zero, List.set_cons_succ, i64_w, cJ]; rfl) : aJ P .any ops Q S ds (fuel + 1) l a w := take_ _ hi hN hc hQ hy hS ha h
theorem tA4 (hT : Aside0 (rtab .any ops = T)) (hB : Aside0 (cC T.2 B = true)) (hS : S w) (h : aJ P .any ops Q S ds fuel (l.setIfInBounds i true) a' w) (hi : ops[i]? = some oi := by rfl) (hN : oi.dst = N := by rfl) (hc : i7 T B ds l.toList (l.setIfInBounds i true).toList i = true := by kernel_rfl) (hQ : ∀ c a w, Q (.panic c) (a.put oi.dst v) w → Q (.panic c) a w := by exact fun _ _ _ h => h)
    (hy : YieldsIf P ops S oi v a := by exact Or.inl ⟨by rfl, by rintro w' ⟨s0, s1, s2, s3⟩; go_simp; with_reducible rfl⟩) (ha : a.put N v = a' := by simp only [Act.put, List.setIfInBounds_toArray, List.set_cons_zero, List.set_cons_succ, i64_w, cJ]; rfl) : aJ P .any ops Q S ds (fuel + 1) l a w := take_ _ hi hN (cE hT.out hB.out hc) hQ hy hS ha h
theorem tN4 (hS : S w) (h : aJ P .any ops Q S ds fuel (l.setIfInBounds i true) a' w) (hi : ops[i]? = some oi := by rfl) (hN : oi.dst = N := by rfl) (hc : iK .any ops ds l (l.setIfInBounds i true) i = true := by kernel_rfl) (hQ : ∀ c a w, Q (.panic c) (a.put oi.dst v) w → Q (.panic c) a w := by exact fun _ _ _ h => h)
    (hy : YieldsIf P ops S oi v a := by exact Or.inl ⟨by rfl, by rintro w' ⟨s0, s1, s2, s3⟩; go_simp; with_reducible rfl⟩) (ha : a.put N v = a' := by simp only [Act.put, List.setIfInBounds_toArray, List.set_cons_zero, List.set_cons_succ, i64_w, cJ]; rfl) : aJ P .any ops Q S ds (fuel + 1) l a w := take_ _ hi hN hc hQ hy hS ha h
end
section
variable {P : Go.Program} {ops : Array Go.Oper} {rest : List Go.Oper} {o : Go.Oper} {a : Go.Act} {Q : Go.Exit → Go.Act → Go.World → Prop} {W : Go.World}
theorem bX (N : Go.Tmp) (cs : Array Value) (t : TypeId) (h : ∀ g, g = W.heap.size → ∀ w1, Aside0 (w1.heap[g]? = some (.cells cs t (0, 0))) → Below W.heap.size W w1 → wpList P ops Q rest (a.put o.dst (.pointer (some ⟨g, 0, none⟩))) w1) (hd : o.dst = some N := by with_reducible rfl) (hg : o.guard = none := by rfl)
    (hr : (execOp a.eval o).run P W = .ok (.value (.pointer (some ⟨W.heap.size, 0, none⟩))) (W.alloc (.cells cs t (0, 0))) := by first | (go_simp; done) | (go_simp; rfl)) : wpList P ops Q (o :: rest) a W := i8 hg hd hr (fun g e w1 h1 h2 => h g e w1 ⟨h1⟩ h2)
theorem gt (f : FuncId) {xs : Array Operand} {ts : Array TypeId} (h : wpList P ops Q (o :: rest) a W) (_ho : o.op = .call { callee := .value (.func f), args := xs, argTypes := ts } := by with_reducible rfl) : wpList P ops Q (o :: rest) a W := h
theorem gc (N : Option Go.Tmp) {f : FuncId} {fn : Func} (hf : P.funcs[f]? = some fn) {args : Array Value} {R : Go.Ending → Go.World → Prop} (hc : Calls P f args W R) (h : ∀ e w', R e w' → ∃ v, e = .returned v ∧ wpList P ops Q rest (a.put N v) w') {xs : Array Operand} {ts : Array TypeId} (hop : o.op = .call { callee := .value (.func f), args := xs, argTypes := ts } := by with_reducible rfl) (hd : o.dst = N := by rfl) (hg : o.guard = none := by rfl)
    (hname : (fn.name == "runtime.NumGoroutine") = false := by kernel_rfl) (hb : fn.body.isSome = true := by rfl) (hargs : xs.map a.eval = args := by (try simp only [List.map_toArray, List.map_cons, List.map_nil]); first | done | rfl | (simp only [List.length_drop, List.length_take]; rfl)) : wpList P ops Q (o :: rest) a W := gI N hd hg hf hname hb args hop hargs (hc.mono h)
theorem gcD (N : Option Go.Tmp) {f : FuncId} {fn : Func} (hf : P.funcs[f]? = some fn) {args : Array Value} {v : Value} (hc : Calls P f args W fun e w' => e = .returned v ∧ Drawn0 W w') (h : ∀ nd, wpList P ops Q rest (a.put N v) (W.drewN nd)) {xs : Array Operand} {ts : Array TypeId} (hop : o.op = .call { callee := .value (.func f), args := xs, argTypes := ts } := by with_reducible rfl) (hd : o.dst = N := by rfl) (hg : o.guard = none := by rfl)
    (hname : (fn.name == "runtime.NumGoroutine") = false := by kernel_rfl) (hb : fn.body.isSome = true := by rfl) (hargs : xs.map a.eval = args := by (try simp only [List.map_toArray, List.map_cons, List.map_nil]); first | done | rfl | (simp only [List.length_drop, List.length_take]; rfl)) : wpList P ops Q (o :: rest) a W := gI N hd hg hf hname hb args hop hargs (hc.mono (by rintro e w' ⟨rfl, ⟨nd, rfl⟩⟩; exact ⟨_, rfl, h nd⟩))
theorem gcB (N : Option Go.Tmp) {f : FuncId} {fn : Func} (hf : P.funcs[f]? = some fn) {args : Array Value} {v : Value} (hc : Calls P f args W fun e w' => e = .returned v ∧ Below W.heap.size W w') (h : ∀ w', Below W.heap.size W w' → wpList P ops Q rest (a.put N v) w') {xs : Array Operand} {ts : Array TypeId} (hop : o.op = .call { callee := .value (.func f), args := xs, argTypes := ts } := by with_reducible rfl) (hd : o.dst = N := by rfl) (hg : o.guard = none := by rfl)
    (hname : (fn.name == "runtime.NumGoroutine") = false := by kernel_rfl) (hb : fn.body.isSome = true := by rfl) (hargs : xs.map a.eval = args := by (try simp only [List.map_toArray, List.map_cons, List.map_nil]); first | done | rfl | (simp only [List.length_drop, List.length_take]; rfl)) : wpList P ops Q (o :: rest) a W := gI N hd hg hf hname hb args hop hargs (hc.mono (by rintro e w' ⟨rfl, hb⟩; exact ⟨_, rfl, h w' hb⟩))
theorem lI {α : Type} {d : Kd α} {e : Nat} (N : Go.Tmp) {y : List α} (hy : Aside0 (y = [])) (h : ∀ v1 w1, d.R e w1 W.heap.size (fun _ => True) v1 y → Below W.heap.size W w1 → wpList P ops Q rest (a.put o.dst v1) w1) (hd : o.dst = some N := by with_reducible rfl) (hg : o.guard = none := by rfl)
    (hr : (execOp a.eval o).run P W = .ok (.value (.slice (some ⟨W.heap.size, 0, none⟩) 0 0)) (W.alloc (.cells #[] e)) := by first | (go_simp; done) | (go_simp; rfl)) : wpList P ops Q (o :: rest) a W := by
  refine Kd.C3 d (w0 := W) W.heap.size e hg hd (xs := []) (inner := []) (ok := fun _ => True) (okp := fun _ => True) hr (Reps.none _ _) (fun _ hk => hk) trivial (Below.refl _ _) (Nat.le_refl _) (by simp) (fun v1 w1 h1 h2 _ _ => h v1 w1 ?_ h2)
  rw [hy.out]; exact h1
theorem ap {w0 : World} {e t : TypeId} {ok : Nat → Prop} {ys : List Int} {p : Int} (s x : Operand) (ht : P.underlying t = some (.slice e)) (hinfo : (P.info? e).map (fun i => (i.zero, i.size, i.bytes)) = some (some (.int .i64 0), (Kd.int .i64).sz, 8)) (v : Value) (xs : List Int) (N : Aside0 (ys = xs ++ [p])) (LM : Aside0 (xs.length < 17592186044416)) (HO : (Kd.int .i64).R e W w0.heap.size ok v xs)
    (h : ∀ v1 w1, (Kd.int .i64).R e w1 w0.heap.size ok v1 ys → Below w0.heap.size w0 w1 → W.grownBy w1 v.ownBlock → (v1.ownBlock = v.ownBlock ∨ ∃ b, v1.ownBlock = some b ∧ W.heap.size ≤ b) → wpList P ops Q rest (a.put o.dst v1) w1) (hf : ∀ k, W.heap.size ≤ k → ok k := by exact fun _ _ => trivial) (HB : Below w0.heap.size w0 W := by (repeat (first | (with_reducible first | exact Aside0.out (by assumption) | apply ch | apply bC | apply ai | refine bQ ?_ (Aside0.out (by assumption))) | exact Aside0.out (by assumption))))
    (ho : o.op = .call { callee := .builtin .append, args := #[s, x], argTypes := #[t, t] } := by rfl) (hg : o.guard = none := by rfl) (hs : a.eval s = v := by rfl) (hx : a.eval x = .slice (some ⟨W.heap.size, 0, none⟩) 1 1 := by rfl) : wpList P ops Q (o :: rest) a (W.alloc (.cells #[.int .i64 p] e)) := by
  refine Kd.C4 (Kd.int .i64) (w0 := w0) w0.heap.size hg s x t e (.int .i64 0) 8 ho ht hinfo rfl (by decide) (by omega) v xs p [.int .i64 p] ok (fun _ => False) hs hx rfl (fun _ hk => hk.elim) hf HO HB (aa HB) (by have := LM.out; omega) (fun v1 w1 h1 h2 h3 h4 => h v1 w1 ?_ h2 h3 h4)
  rw [N.out]; exact h1
end
section
variable {w w1 w2 wa : World} {g gb : Nat} {o : Obj} {row : Option Nat}
theorem kf (h : Aside0 (wa.heap[gb]? = some o)) (hk : KeepBut w1 w2 g row) (hn : gb ≠ g) (hr : some gb ≠ row := by simp) (f : w1.heap[gb]? = some o := by ((with_reducible repeat (first | refine dp ?_ _ | refine aH ?_ | refine dn ?_ _ | refine ae ?_ (Aside0.out (by assumption)) _)); exact Aside0.out (by assumption))) : Aside0 (w2.heap[gb]? = some o) := ⟨hk.blk f hn hr⟩
theorem bf (h : Aside0 (wa.heap[g]? = some o)) (hb : Below w1.heap.size w1 w2) (f : w1.heap[g]? = some o := by ((with_reducible repeat (first | refine dp ?_ _ | refine aH ?_ | refine dn ?_ _ | refine ae ?_ (Aside0.out (by assumption)) _)); exact Aside0.out (by assumption))) : Aside0 (w2.heap[g]? = some o) := ⟨aw f hb⟩
end
theorem eqT {α : Type} [BEq α] [LawfulBEq α] {a b : α} (h : a = b) : (a == b) = true ∧ (a != b) = false := ⟨beq_iff_eq.mpr h, bne_eq_false_iff_eq.mpr h⟩
theorem eqF {α : Type} [BEq α] [LawfulBEq α] {a b : α} (h : ¬ a = b) : (a == b) = false ∧ (a != b) = true := ⟨beq_eq_false_iff_ne.mpr h, bne_iff_ne.mpr h⟩
theorem gdD {α : Type} {c : Prop} [Decidable c] {x : Option α} {r : α} (h : (if c then x else none) = some r) : decide c = true ∧ x = some r := ⟨decide_eq_true (gd h).1, (gd h).2⟩
theorem gdB {α : Type} {c : Prop} [Decidable c] {x : Option α} {r : α} (h : (if c then x else none) = some r) : c = True ∧ decide c = true ∧ x = some r := ⟨eq_true (gd h).1, decide_eq_true (gd h).1, (gd h).2⟩
theorem gdA {α : Type} {c : Prop} [Decidable c] {x : Option α} {r : α} (h : (if c then x else none) = some r) : Aside0 c ∧ x = some r := ⟨⟨(gd h).1⟩, (gd h).2⟩
theorem ckD {α : Type} {c : Prop} [Decidable c] {x y : Option α} {r : α} (h : (if c then x else y) = some r) : (decide c = true ∧ x = some r) ∨ (decide c = false ∧ y = some r) := by
  by_cases hc : c
  · rw [if_pos hc] at h; exact .inl ⟨decide_eq_true hc, h⟩
  · rw [if_neg hc] at h; exact .inr ⟨decide_eq_false hc, h⟩
theorem ckE {α β : Type} [BEq β] [LawfulBEq β] {a b : β} [Decidable (a = b)] {x y : Option α} {r : α} (h : (if a = b then x else y) = some r) : ((a == b) = true ∧ (a != b) = false ∧ x = some r) ∨ (¬ a = b ∧ (a == b) = false ∧ (a != b) = true ∧ y = some r) := by
  by_cases hc : a = b
  · rw [if_pos hc] at h; exact .inl ⟨(eqT hc).1, (eqT hc).2, h⟩
  · rw [if_neg hc] at h; exact .inr ⟨hc, (eqF hc).1, (eqF hc).2, h⟩
theorem mn_ {p : Prop} (h : p := by repeat' first | (with_reducible first | apply ih0 | apply ih1 | apply ih2 | apply ih3 | apply ih4 | apply ih5 | exact LeO.refl _ | exact LeO.none _ | refine LeO.ite ?_ ?_ | refine LeO.bind ?_ (fun _ => ?_)) | apply ih0 | apply ih1 | apply ih2 | exact LeO.none _ | refine LeO.ite ?_ ?_ | refine LeO.bind ?_ (fun _ => ?_)) : p := h
theorem yz {α β : Type} {x : α} {F : α → Option β} {r : β} (h : (some x).bind F = some r) : ∃ y, Aside0 (y = x) ∧ F y = some r := ⟨x, ⟨rfl⟩, h⟩
theorem ckB {α : Type} {b : Bool} {x y : Option α} {r : α} (h : (if b = true then x else y) = some r) : (b = true ∧ x = some r) ∨ (b = false ∧ y = some r) := by
  cases b
  · exact .inr ⟨rfl, by rwa [if_neg (show ¬ (false = true) by decide)] at h⟩
  · exact .inl ⟨rfl, by rwa [if_pos rfl] at h⟩
theorem aI {k : IntKind} {w : World} {A : Option Addr} {n : Nat} {l : List Int} (h : (Kd.int k).C w A n l) (i : Int) (p : decide (0 ≤ i) = true := by first | (with_reducible assumption) | assumption) (q : decide (i < (n : Int)) = true := by first | (with_reducible assumption) | assumption) : ∃ ad, A = some ad ∧ w.cell? (ad.add i.toNat) = some (.int k (rd l i)) ∧ (0 ≤ i) = True ∧ (i < (n : Int)) = True := by
  obtain ⟨ad, e, hx⟩ := Kd.o5 h i (of_decide_eq_true p) (of_decide_eq_true q)
  exact ⟨ad, e, hx, eq_true (of_decide_eq_true p), eq_true (of_decide_eq_true q)⟩
theorem aIB {k : IntKind} {w0 w : World} (hb : Below w0.heap.size w0 w) {A : Option Addr} {n : Nat} {l : List Int} (h : (Kd.int k).C w0 A n l) (i : Int) (p : decide (0 ≤ i) = true := by first | (with_reducible assumption) | assumption) (q : decide (i < (n : Int)) = true := by first | (with_reducible assumption) | assumption) : ∃ ad, A = some ad ∧ w.cell? (ad.add i.toNat) = some (.int k (rd l i)) ∧ (0 ≤ i) = True ∧ (i < (n : Int)) = True := by
  obtain ⟨ad, e, hx, z⟩ := aI h i p q
  exact ⟨ad, e, dC hb hx, z⟩
theorem o2 {α0 α1 : Type} {x0 y0 : α0} {x1 y1 : α1} (h : some (x0, x1) = some (y0, y1)) : x0 = y0 ∧ x1 = y1 := by cases h; exact ⟨rfl, rfl⟩
theorem o3 {α0 α1 α2 : Type} {x0 y0 : α0} {x1 y1 : α1} {x2 y2 : α2} (h : some (x0, x1, x2) = some (y0, y1, y2)) : x0 = y0 ∧ x1 = y1 ∧ x2 = y2 := by cases h; exact ⟨rfl, rfl, rfl⟩
theorem o4 {α0 α1 α2 α3 : Type} {x0 y0 : α0} {x1 y1 : α1} {x2 y2 : α2} {x3 y3 : α3} (h : some (x0, x1, x2, x3) = some (y0, y1, y2, y3)) : x0 = y0 ∧ x1 = y1 ∧ x2 = y2 ∧ x3 = y3 := by cases h; exact ⟨rfl, rfl, rfl, rfl⟩
theorem au {p q : Prop} (h : Aside0 q) (f : q → p := by intro h_; repeat (first | (with_reducible first | exact h_ | apply ch | apply bC | apply ai) | exact h_)) : p := f h.out
theorem bv {p q r : Prop} (h : Aside0 q) (g : Aside0 r) (f : q → r → p := by intro h_ g_; repeat (first | (with_reducible first | exact h_ | apply ch | apply bC | apply ai | refine bQ ?_ g_) | exact h_)) : p := f h.out g.out
theorem aq {p q r r2 : Prop} (h : Aside0 q) (g : Aside0 r) (g2 : Aside0 r2) (f : q → r → r2 → p := by intro h_ g_ g2_; repeat (first | (with_reducible first | exact h_ | apply ch | apply bC | apply ai | refine bQ ?_ g_ | refine bQ ?_ g2_) | exact h_)) : p := f h.out g.out g2.out
theorem fZ {p q r r2 r3 : Prop} (h : Aside0 q) (g : Aside0 r) (g2 : Aside0 r2) (g3 : Aside0 r3) (f : q → r → r2 → r3 → p := by intro h_ g_ g2_ g3_; repeat (first | (with_reducible first | exact h_ | apply ch | apply bC | apply ai | refine bQ ?_ g_ | refine bQ ?_ g2_ | refine bQ ?_ g3_) | exact h_)) : p := f h.out g.out g2.out g3.out
theorem ah {p q : Prop} (h : Aside0 q) (f : q → p := by intro h_; (with_reducible repeat (first | refine dp ?_ _ | refine aH ?_ | refine dn ?_ _)); exact h_) : p := f h.out
theorem ac {p q : Prop} (h : Aside0 q) (f : q → p := by intro h_; (with_reducible repeat (first | apply Kd.F4 | apply Kd.E8 | apply Kd.u4)); exact h_) : p := f h.out
theorem bkcl {w : World} {g : Nat} {t : TypeId} {cs : Array Value} (h : Aside0 (w.heap[g]? = some (.cells cs t (0, 0)))) (i : Nat) : w.cell? ⟨g, i, none⟩ = cs[i]? := ab h.out i
theorem Cbel {α : Type} {d : Kd α} {w w1 : World} {xs : List α} {A : Option Addr} {n : Nat} (h : Aside0 (d.C w A n xs)) (hb : Aside0 (Below w.heap.size w w1)) : d.C w1 A n xs := Kd.r5 h.out hb.out
theorem omeg {p q : Prop} (h : Aside0 q) (f : q → p := by intro h_; omega) : p := f h.out
theorem oj {α : Type} {a b : α} (h : some a = some b) : a = b := Option.some.inj h
abbrev CD (P : Go.Program) (f : FuncId) (xs : Array Value) (w : World) (v : Value) : Prop := Calls P f xs w fun e w' => e = .returned v ∧ Drawn0 w w'
abbrev CB (P : Go.Program) (f : FuncId) (xs : Array Value) (w : World) (v : Value) : Prop := Calls P f xs w fun e w' => e = .returned v ∧ Below w.heap.size w w'
def ar (a b : Nat) : Array Bool := (List.replicate a true ++ List.replicate b false).toArray
section
variable {P : Go.Program} {ops : Array Go.Oper} {o : Go.Oper} {a : Go.Act} {Q : Go.Exit → Go.Act → Go.World → Prop} {Kc : Go.Act → Go.World → Prop} {W : Go.World}
theorem lJ (e : Nat) (N : Go.Tmp) {y : List Int} (hy : Aside0 (y = [])) (h : ∀ v1 w1, (Kd.int .i64).R e w1 W.heap.size (fun _ => True) v1 y → Below W.heap.size W w1 → Kc (a.put o.dst v1) w1) (hw : Region.wanted o (yielded ops a.tmps) = true := by rfl) (hd : o.dst = some N := by rfl)
    (hr : (execOp a.eval o).run P W = .ok (.value (.slice (some ⟨W.heap.size, 0, none⟩) 0 0)) (W.alloc (.cells #[] e)) := by first | (go_simp; done) | (go_simp; rfl)) : if Region.wanted o (yielded ops a.tmps) = true then Oper.wp P o a W Kc Q else Kc (a.put o.dst undef) W := by
  refine Kd.B4 (Kd.int .i64) (w0 := W) W.heap.size e hw hd (xs := []) (inner := []) (ok := fun _ => True) (okp := fun _ => True) hr (Reps.none _ _) (fun _ hk => hk) trivial (Below.refl _ _) (Nat.le_refl _) (by simp) (fun v1 w1 h1 h2 _ _ => h v1 w1 ?_ h2)
  rw [hy.out]; exact h1
end
theorem nQ {P : Go.Program} {md : Go.Region.Mode} {ops : Array Go.Oper} {Q : Go.Exit → Go.Act → Go.World → Prop} {S : Go.World → Prop} {ds : List Nat} {fuel : Nat} {l : Array Bool} {a a' : Go.Act} {w : Go.World} (h : aJ P md ops Q S ds fuel l a' w) (ha : a = a' := by first | (simp only [dF, Act.put, List.setIfInBounds_toArray, List.set_cons_zero, List.set_cons_succ]; done) | (simp only [dF, Act.put, List.setIfInBounds_toArray, List.set_cons_zero, List.set_cons_succ]; rfl)) : aJ P md ops Q S ds fuel l a w := eI ha h
theorem rwe {α : Type} {d : Kd α} {e : TypeId} {w : World} {base : Nat} {ok : Nat → Prop} {v : Value} {l : List α} (h : d.R e w base ok v l) : ∃ A c, v = .slice A l.length c ∧ Aside0 (l.length ≤ c ∧ d.C w A l.length l) := by
  obtain ⟨A, c, e⟩ := Kd.n9 h
  subst e
  exact ⟨A, c, rfl, ⟨(Kd.n4 h).2⟩⟩
theorem rC {α : Type} {d : Kd α} {w w1 : World} {A : Option Addr} {n c m : Nat} {l : List α} (h : Aside0 (m ≤ c ∧ d.C w A n l)) (f : Below w.heap.size w w1 := by repeat (first | (with_reducible first | exact Aside0.out (by assumption) | apply ch | apply bC | apply ai | refine bQ ?_ (Aside0.out (by assumption))) | exact Aside0.out (by assumption))) : d.C w1 A n l := Kd.r5 h.out.2 f
theorem bz (w : World) : Aside0 (Below w.heap.size w w) := ⟨Below.refl w.heap.size w⟩
end Go.Proofs.YtbdloopelidneaaGreat.A
