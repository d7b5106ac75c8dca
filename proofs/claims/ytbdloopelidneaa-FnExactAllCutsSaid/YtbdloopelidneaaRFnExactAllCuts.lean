/- For every input the law FnExactAllCuts returns true, and each argument reads behind the call as it read before. No condition beside the statement's own. -/
import Derived.Test.YtbdloopelidneaaMFnExactAllCuts1
import Derived.Test.YtbdloopelidneaaMFnExactAllCuts2
import Derived.Test.YtbdloopelidneaaMFnExactAllCuts3
import Derived.Test.YtbdloopelidneaaMFnExactAllCuts4
import Derived.Test.YtbdloopelidneaaMFnExactAllCuts5
import Derived.Test.YtbdloopelidneaaMFnExactAllCuts6
import Derived.Test.YtbdloopelidneaaMFnExactAllCuts7
import Derived.Test.YtbdloopelidneaaMFnExactAllCutsq1
import Derived.Test.YtbdloopelidneaaRows
import Derived.WalkKit
import Derived.ProofKit
import Derived.OpenShut
import Derived.ShutString
import Derived.ChangeOld
import Derived.Below
import Derived.SizedLaws
import Derived.Lib.SmallJoins
namespace Go.Proofs.Ytbdloopelidneaa.fnExactAllCuts
open Go.ChangeShapes Go.WideShapes Go.ChangeAt Go.RowKit Go.Joins
open Go.ChangeMaps (open_string shut_string)
open Go.Proofs.YtbdloopelidneaaW.PrintWords
set_option linter.unusedVariables false
theorem own : ownKnob Try.prog.godebug = none := by kernel_rfl
theorem laidOut : laidOutB Try.prog = true := by kernel_rfl
def IsRow (k : IntKind) (w : World) (a : Option Addr) (len cap : Nat) (zs : List Int) : Prop :=
  (a = none ∧ len = 0 ∧ cap = 0 ∧ zs = []) ∨
  ∃ x, a = some x ∧ len ≤ cap ∧ cap ≤ maxLen ∧ zs.length = cap ∧ (∀ i, i < zs.length → w.cell? (x.add i) = some (.int k (zs.getD i 0))) ∧ ∀ n ∈ zs, (Lit.int k n).wf = true
theorem row_of {H : Type} {enc : TypeId × Value → H} {w : World} {held : Bool} {n : Nat} {v : Value} {y : DataW H × List MemPlace} (h : DataW.trod enc Try.prog w 0 (fun _ => true) held n 22 [v] = some y) : ∃ a len cap zs, v = .slice a len cap ∧ IsRow .i64 w a len cap zs := by
  rcases open_ints Try.underlying22 Try.underlying3 (by kernel_rfl) h with ⟨hcs, _⟩ | ⟨x, l, c, zs, hcs, _, hl, hm, hz, _, hcell, hwz⟩
  · simp only [List.cons.injEq, and_true] at hcs
    exact ⟨_, _, _, [], hcs, .inl ⟨rfl, rfl, rfl, rfl⟩⟩
  · simp only [List.cons.injEq, and_true] at hcs
    exact ⟨_, _, _, zs, hcs, .inr ⟨_, rfl, hl, hm, by simpa using hz, hcell, hwz⟩⟩
theorem cells24 : Try.prog.cellsOf 24 = 2 := by kernel_rfl
theorem walk (P : A.laws_FnExactAllCuts.Pure) (a0_0 : Int) (a0_1 : Option Addr) (len0_1 cap0_1 : Nat) (z0_1 : List Int) (w : World) (w0_0 : (Lit.int .i64 a0_0).wf = true) (w0_1 : IsRow .i64 w a0_1 len0_1 cap0_1 z0_1) :
    Calls Try.prog 3 #[.agg #[.int .i64 a0_0, .slice a0_1 len0_1 cap0_1]] w fun e w' => e = .returned (.bool true) ∧ Below w.heap.size w w' := by
  obtain ⟨l0_1, rfl, hr0_1, hm0_1, hw0_1, hc0_1⟩ := ReadsInt.ofRowC w0_1
  obtain ⟨k, h⟩ := P a0_0 l0_1 w0_0 hm0_1 hw0_1
  refine (A.laws_FnExactAllCuts.calls k a0_0 _ _ l0_1 w (Kd.C_of_reads (d := (0 : Int)) (h1 := fun _ => rfl) hr0_1) hc0_1 h).mono ?_
  rintro e w' ⟨rfl, hd⟩
  exact ⟨rfl, hd⟩
set_option maxRecDepth 100000 in
theorem lifted (os : Os) (started : os.Started) (H : Type) (enc : TypeId × Value → H) :
    ReturnsInHanded {} Try.checked os 3 .any (Rows.fnExactAllCutsSpec.pre6 enc Try.prog Try.f3 Rows.fnExactAllCutsRow.domain false) (Rows.fnExactAllCutsSpec.post enc Try.prog Try.f3 false true false false) := by
  refine returnsInHanded_of_change_sized (C := Try.checked) own started (by kernel_rfl) Try.func3
    (ChangeSpec.witness6 (enc := enc) (C := Try.checked) false ⟨#[], #[.agg #[.int .i64 0, .slice none 0 0]], []⟩ 8 (by kernel_rfl) (by kernel_rfl) (by kernel_rfl) (by kernel_rfl)) ?_
  intro W base args ds gs before hval0 hW hcnd hsz0 _
  have hval : ∀ (j : Nat) t v, Try.f3.params[j]? = some t → args[j]? = some v → Value.okWide Try.prog W .any base t v := hval0
  have hW' := hW
  obtain ⟨p, q, hA0, hV, rfl, hfz, hnd⟩ := hW
  have hA : DataW.TrodAll enc Try.prog W 0 (fun _ => true) true Try.f3.params.toList args.toList ds p := hA0
  rw [Try.params3] at hA hval
  obtain ⟨v0, vs0, d0, ds0, p0, q0, hargs, rfl, rfl, h0, r0⟩ := trodAll_cons hA
  obtain ⟨rfl, rfl, rfl⟩ := trodAll_nil r0
  obtain rfl : args = #[v0] := by cases args; simp_all
  obtain ⟨rfl, rfl⟩ := trodVars_none hV
  have k0 := h0
  have lt0 : ∀ x ∈ p0, x.block < W.heap.size := by obtain ⟨m, hm⟩ := k0; exact DataW.trod_lt m _ _ _ hm
  obtain ⟨c0_0, c0_1, y0_0, y0_1, n0, rfl, rfl, rfl, hy0_0, hy0_1⟩ := open_agg2 Try.underlying24 (by kernel_rfl) cells24 (hval 0 24 v0 rfl rfl) h0
  obtain ⟨a0_0, e0_0, rfl, w0_0⟩ := DataW.trod_int Try.underlying3 hy0_0
  simp only [List.cons.injEq, and_true] at e0_0
  subst e0_0
  obtain ⟨a0_1, len0_1, cap0_1, z0_1, e0_1, w0_1⟩ := row_of hy0_1
  subst e0_1
  clear hA0 hval0 hsz0
  refine (walk Pure.FnExactAllCuts a0_0 a0_1 len0_1 cap0_1 z0_1 W w0_0 w0_1).mono fun e W' ⟨he, bel⟩ => ?_
  subst he
  exact ⟨_, rfl, _, _, _, [], _, [], hW', trodAll_mk1 (shut_bool Try.underlying4 _), (trodAll_cons_mk (Below.trod laidOut (by kernel_rfl) (of_decide_eq_true (by kernel_rfl)) k0 bel lt0) trodAll_mk0), rfl, bel.frame _, fun h => by cases h⟩
def w1 : List Char := [Char.ofNat 104, Char.ofNat 97, Char.ofNat 114, Char.ofNat 110, Char.ofNat 101, Char.ofNat 115, Char.ofNat 115]
def w2 : List Char := [Char.ofNat 101, Char.ofNat 56, Char.ofNat 101, Char.ofNat 48, Char.ofNat 48, Char.ofNat 98, Char.ofNat 52, Char.ofNat 50, Char.ofNat 50, Char.ofNat 100, Char.ofNat 98, Char.ofNat 102, Char.ofNat 99, Char.ofNat 56, Char.ofNat 50, Char.ofNat 49, Char.ofNat 52, Char.ofNat 101, Char.ofNat 102, Char.ofNat 98, Char.ofNat 100, Char.ofNat 55, Char.ofNat 101, Char.ofNat 50, Char.ofNat 53, Char.ofNat 51, Char.ofNat 53, Char.ofNat 99, Char.ofNat 53, Char.ofNat 54, Char.ofNat 51, Char.ofNat 53, Char.ofNat 49, Char.ofNat 52, Char.ofNat 49, Char.ofNat 99, Char.ofNat 101, Char.ofNat 49, Char.ofNat 100, Char.ofNat 98, Char.ofNat 54, Char.ofNat 101, Char.ofNat 51, Char.ofNat 50, Char.ofNat 54, Char.ofNat 98, Char.ofNat 101, Char.ofNat 100, Char.ofNat 98, Char.ofNat 99, Char.ofNat 57, Char.ofNat 52, Char.ofNat 97, Char.ofNat 50, Char.ofNat 99, Char.ofNat 55, Char.ofNat 102, Char.ofNat 98, Char.ofNat 57, Char.ofNat 49, Char.ofNat 49, Char.ofNat 54, Char.ofNat 54, Char.ofNat 55]
def w3 : List Char := [Char.ofNat 99, Char.ofNat 117, Char.ofNat 116]
def initTail : List Char := [Char.ofNat 97, Char.ofNat 116, Char.ofNat 32, Char.ofNat 108, Char.ofNat 111, Char.ofNat 111, Char.ofNat 112, Char.ofNat 46, Char.ofNat 101, Char.ofNat 120, Char.ofNat 97, Char.ofNat 109, Char.ofNat 112, Char.ofNat 108, Char.ofNat 101, Char.ofNat 47, Char.ofNat 103, Char.ofNat 48, Char.ofNat 48, Char.ofNat 53, Char.ofNat 57, Char.ofNat 51, Char.ofNat 47, Char.ofNat 108, Char.ofNat 97, Char.ofNat 119, Char.ofNat 115, Char.ofNat 46, Char.ofNat 70, Char.ofNat 110, Char.ofNat 69, Char.ofNat 120, Char.ofNat 97, Char.ofNat 99, Char.ofNat 116, Char.ofNat 65, Char.ofNat 108, Char.ofNat 108, Char.ofNat 67, Char.ofNat 117, Char.ofNat 116, Char.ofNat 115]
def initHead (R : List Char) : List Char := Char.ofNat 104 :: Char.ofNat 97 :: Char.ofNat 114 :: Char.ofNat 110 :: Char.ofNat 101 :: Char.ofNat 115 :: Char.ofNat 115 :: Char.ofNat 32 :: Char.ofNat 101 :: Char.ofNat 56 :: Char.ofNat 101 :: Char.ofNat 48 :: Char.ofNat 48 :: Char.ofNat 98 :: Char.ofNat 52 :: Char.ofNat 50 :: Char.ofNat 50 :: Char.ofNat 100 :: Char.ofNat 98 :: Char.ofNat 102 :: Char.ofNat 99 :: Char.ofNat 56 :: Char.ofNat 50 :: Char.ofNat 49 :: Char.ofNat 52 :: Char.ofNat 101 :: Char.ofNat 102 :: Char.ofNat 98 :: Char.ofNat 100 :: Char.ofNat 55 :: Char.ofNat 101 :: Char.ofNat 50 :: Char.ofNat 53 :: Char.ofNat 51 :: Char.ofNat 53 :: Char.ofNat 99 :: Char.ofNat 53 :: Char.ofNat 54 :: Char.ofNat 51 :: Char.ofNat 53 :: Char.ofNat 49 :: Char.ofNat 52 :: Char.ofNat 49 :: Char.ofNat 99 :: Char.ofNat 101 :: Char.ofNat 49 :: Char.ofNat 100 :: Char.ofNat 98 :: Char.ofNat 54 :: Char.ofNat 101 :: Char.ofNat 51 :: Char.ofNat 50 :: Char.ofNat 54 :: Char.ofNat 98 :: Char.ofNat 101 :: Char.ofNat 100 :: Char.ofNat 98 :: Char.ofNat 99 :: Char.ofNat 57 :: Char.ofNat 52 :: Char.ofNat 97 :: Char.ofNat 50 :: Char.ofNat 99 :: Char.ofNat 55 :: Char.ofNat 102 :: Char.ofNat 98 :: Char.ofNat 57 :: Char.ofNat 49 :: Char.ofNat 49 :: Char.ofNat 54 :: Char.ofNat 54 :: Char.ofNat 55 :: Char.ofNat 32 :: Char.ofNat 99 :: Char.ofNat 117 :: Char.ofNat 116 :: Char.ofNat 32 :: R
set_option maxRecDepth 100000 in
theorem init_is : Try.prog.initOrder = String.ofList (initHead initTail) := by kernel_rfl
theorem init_list : Try.prog.initOrder.toList = initHead initTail := by rw [init_is]; exact String.toList_ofList
set_option maxRecDepth 100000 in
theorem head_words (R : List Char) : wordsSigns (initHead R) = w1 :: w2 :: w3 :: wordsSigns R := by kernel_rfl
theorem words_is : ∃ r, wordsSigns Try.prog.initOrder.toList = w1 :: w2 :: w3 :: r := ⟨_, by rw [init_list, head_words]⟩
theorem behind_is (r : List (List Char)) : behindMainWord (w1 :: w2 :: w3 :: r) = w3 :: r := by kernel_rfl
theorem strip_is (r : List (List Char)) : stripLifts liftWords (w3 :: r) = ([], w3 :: r) := by kernel_rfl
theorem not_gc : (w3 == "gc".toList) = false := by kernel_rfl
theorem not_spec : (w3 == "spec".toList) = false := by kernel_rfl
theorem not_carried : (w3 == "carried".toList) = false := by kernel_rfl
theorem is_cut : (w3 == "cut".toList) = true := by kernel_rfl
theorem head_cut (r : List (List Char)) : ((w3 :: r).head? == some "cut".toList) = true := by kernel_rfl
theorem lays_is : Try.prog.laysLater = false := by kernel_rfl
theorem bears_is : Try.prog.bearsReflect = false := by kernel_rfl
theorem door_is : Try.prog.doorFits [] = true := by kernel_rfl
theorem enter_of (P : Program) (r : List (List Char)) (h : wordsSigns P.initOrder.toList = w1 :: w2 :: w3 :: r) (k1 : P.laysLater = false) (k2 : P.bearsReflect = false) (k3 : P.doorFits [] = true) : P.mayEnter = true := by
  unfold Program.mayEnter
  rw [h, behind_is]
  dsimp only
  rw [strip_is, not_gc, not_spec, not_carried, k1, k2]
  dsimp only
  rw [head_cut, k3]
  rfl
theorem enter_is : Try.prog.mayEnter = true := by
  obtain ⟨r, h⟩ := words_is
  exact enter_of _ r h lays_is bears_is door_is
theorem lifts_of (P : Program) (r : List (List Char)) (h : wordsSigns P.initOrder.toList = w1 :: w2 :: w3 :: r) : P.liftsFinal = false := by
  unfold Program.liftsFinal Program.headLifts
  rw [h]
  clear h
  kernel_rfl
theorem lifts_is : Try.prog.liftsFinal = false := by
  obtain ⟨r, h⟩ := words_is
  exact lifts_of _ r h
theorem make_of (P : Program) (r : List (List Char)) (h : wordsSigns P.initOrder.toList = w1 :: w2 :: w3 :: r) : P.make = some .cut := by
  unfold Program.make
  rw [h, behind_is]
  dsimp only
  rw [not_gc, not_spec, is_cut]
  rfl
theorem make_is : Try.prog.make = some .cut := by
  obtain ⟨r, h⟩ := words_is
  exact make_of _ r h
theorem lifted_ok : (Rows.fnExactAllCutsRow.lifted == Try.prog.liftsFinal) = true := by rw [lifts_is]; rfl
theorem make_ok : (Try.prog.make == some Rows.fnExactAllCutsRow.make) = true := by rw [make_is]; rfl
set_option maxHeartbeats 4000000 in
theorem closed : joinedFacts Try.prog 3 Try.f3 Rows.fnExactAllCutsSpec Rows.fnExactAllCutsRow = true := by
  unfold joinedFacts
  simp only [Bool.and_eq_true]
  repeat' apply And.intro
  all_goals (first | with_reducible exact enter_is | with_reducible exact lifted_ok | with_reducible exact make_ok | (as_aux_lemma => kernel_rfl))
theorem over : Rows.fnExactAllCutsRow.holds Try.pinned (OpenSpec.ofChange Rows.fnExactAllCutsSpec) :=
  OpenClaim.holds_of_wide 3 Try.f3 rfl rfl rfl rfl rfl rfl rfl ⟨rfl, rfl, rfl, rfl, rfl⟩ rfl rfl rfl rfl rfl (by kernel_rfl) Try.func3 closed
    (of_decide_eq_true (by kernel_rfl)) (by unfold Func.isWrapper; first | (rw [if_pos (by decide +kernel)]; kernel_rfl) | (rw [if_neg (by decide +kernel)]; exact ⟨rfl, rfl⟩))
    (fun os started H enc _ => lifted os started H enc)
theorem proved : Rows.FnExactAllCutsSaid := over
#print axioms proved
end Go.Proofs.Ytbdloopelidneaa.fnExactAllCuts
namespace Go.Proofs.Ytbdloopelidneaa
/-- The row, under a short name, for the claim. -/
theorem fnExactAllCuts_holds : Rows.FnExactAllCutsSaid := fnExactAllCuts.proved
end Go.Proofs.Ytbdloopelidneaa
