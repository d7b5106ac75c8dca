/- For every input the law FnRenamed returns true, and each argument reads behind the call as it read before. No condition beside the statement's own. -/
import Derived.Test.YtbdloopelidneaaGreatMFnRenamed1
import Derived.Test.YtbdloopelidneaaGreatMFnRenamed2
import Derived.Test.YtbdloopelidneaaGreatMFnRenamed3
import Derived.Test.YtbdloopelidneaaGreatMFnRenamed4
import Derived.Test.YtbdloopelidneaaGreatMFnRenamed5
import Derived.Test.YtbdloopelidneaaGreatMFnRenamed6
import Derived.Test.YtbdloopelidneaaGreatMFnRenamed7
import Derived.Test.YtbdloopelidneaaGreatMFnRenamed8
import Derived.Test.YtbdloopelidneaaGreatMFnRenamed9
import Derived.Test.YtbdloopelidneaaGreatMFnRenamed10
import Derived.Test.YtbdloopelidneaaGreatMFnRenamed11
import Derived.Test.YtbdloopelidneaaGreatMFnRenamed12
import Derived.Test.YtbdloopelidneaaGreatMFnRenamedq3
import Derived.Test.YtbdloopelidneaaGreatRows
import Derived.WalkKit
import Derived.ProofKit
import Derived.OpenShut
import Derived.ShutString
import Derived.ChangeOld
import Derived.Below
import Derived.SizedLaws
import Derived.Test.YtbdloopelidneaaGreatMFnRenamedwSized
namespace Go.Proofs.YtbdloopelidneaaGreat.fnRenamed
open Go.ChangeShapes Go.WideShapes Go.ChangeAt Go.RowKit
open Go.ChangeMaps (open_string shut_string)
set_option linter.unusedVariables false
theorem own : ownKnob Tryz.prog.godebug = none := by kernel_rfl
theorem laidOut : laidOutB Tryz.prog = true := by kernel_rfl
def IsRow (k : IntKind) (w : World) (a : Option Addr) (len cap : Nat) (zs : List Int) : Prop :=
  (a = none ∧ len = 0 ∧ cap = 0 ∧ zs = []) ∨
  ∃ x, a = some x ∧ len ≤ cap ∧ cap ≤ maxLen ∧ zs.length = cap ∧ (∀ i, i < zs.length → w.cell? (x.add i) = some (.int k (zs.getD i 0))) ∧ ∀ n ∈ zs, (Lit.int k n).wf = true
set_option maxRecDepth 100000 in
theorem lifted (os : Os) (started : os.Started) (H : Type) (enc : TypeId × Value → H) :
    ReturnsInHanded {} Tryz.checked os 4 .any (Rows.fnRenamedSpec.pre6 enc Tryz.prog Tryz.f4 Rows.fnRenamedRow.domain false) (Rows.fnRenamedSpec.post enc Tryz.prog Tryz.f4 false true false false) := by
  refine returnsInHanded_of_change_sized (C := Tryz.checked) own started (by kernel_rfl) Tryz.func4
    (ChangeSpec.witness6 (enc := enc) (C := Tryz.checked) false ⟨#[], #[.slice none 0 0], []⟩ 8 (by kernel_rfl) (by kernel_rfl) (by kernel_rfl) (by kernel_rfl)) ?_
  intro W base args ds gs before hval0 hW hcnd hsz0 _
  have hsz : (DataW.weightsEach Tryz.prog (Tryz.f4.params.toList ++ Rows.fnRenamedSpec.plain.varTypes Tryz.prog) (ds ++ gs)).all (· ≤ reachBytes) = true := hsz0
  have hval : ∀ (j : Nat) t v, Tryz.f4.params[j]? = some t → args[j]? = some v → Value.okWide Tryz.prog W .any base t v := hval0
  have hW' := hW
  obtain ⟨p, q, hA0, hV, rfl, hfz, hnd⟩ := hW
  have hA : DataW.TrodAll enc Tryz.prog W 0 (fun _ => true) true Tryz.f4.params.toList args.toList ds p := hA0
  rw [Tryz.params4] at hA hval hsz
  obtain ⟨v0, vs0, d0, ds0, p0, q0, hargs, rfl, rfl, h0, r0⟩ := trodAll_cons hA
  obtain ⟨rfl, rfl, rfl⟩ := trodAll_nil r0
  obtain rfl : args = #[v0] := by cases args; simp_all
  obtain ⟨rfl, rfl⟩ := trodVars_none hV
  obtain ⟨a0, len0, cap0, rfl⟩ := okWide_slice Tryz.underlying22 (hval 0 22 v0 rfl rfl)
  have k0 := h0
  have lt0 : ∀ x ∈ p0, x.block < W.heap.size := by obtain ⟨m, hm⟩ := k0; exact DataW.trod_lt m _ _ _ hm
  obtain ⟨z0, w0⟩ : ∃ zs, IsRow .u8 W a0 len0 cap0 zs := by
    obtain ⟨fuel, hf⟩ := h0
    rcases open_ints Tryz.underlying22 Tryz.underlying5 (by kernel_rfl) hf with ⟨hcs, _⟩ | ⟨x, l, c, zs, hcs, _, hl, hm, hz, _, hcell, hwz⟩
    · simp [Value.cells] at hcs
      obtain ⟨rfl, rfl, rfl⟩ := hcs
      exact ⟨[], .inl ⟨rfl, rfl, rfl, rfl⟩⟩
    · simp [Value.cells] at hcs
      obtain ⟨rfl, rfl, rfl⟩ := hcs
      exact ⟨zs, .inr ⟨_, rfl, hl, hm, by simpa using hz, hcell, hwz⟩⟩
  have y0 : len0 * 1 ≤ 140737488351232 := Go.Proofs.YtbdloopelidneaaGreatW.PrintWords.sized_ints hsz (j := 0) (t := 22) rfl rfl Tryz.underlying22 Tryz.underlying5 (by kernel_rfl) (by kernel_rfl) h0
  clear hA0 hval0 hsz0 hsz
  refine (A.laws_FnRenamed.walk Pure.FnRenamed a0 len0 cap0 z0 W w0 y0).mono fun e W' ⟨he, bel⟩ => ?_
  subst he
  exact ⟨_, rfl, _, _, _, [], _, [], hW', trodAll_mk1 (shut_bool Tryz.underlying4 _), (trodAll_cons_mk (Below.trod laidOut (by kernel_rfl) (of_decide_eq_true (by kernel_rfl)) k0 bel lt0) trodAll_mk0), rfl, bel.frame _, fun h => by cases h⟩
def w1 : List Char := [Char.ofNat 104, Char.ofNat 97, Char.ofNat 114, Char.ofNat 110, Char.ofNat 101, Char.ofNat 115, Char.ofNat 115]
def w2 : List Char := [Char.ofNat 53, Char.ofNat 57, Char.ofNat 56, Char.ofNat 53, Char.ofNat 100, Char.ofNat 101, Char.ofNat 56, Char.ofNat 99, Char.ofNat 54, Char.ofNat 98, Char.ofNat 57, Char.ofNat 48, Char.ofNat 56, Char.ofNat 48, Char.ofNat 100, Char.ofNat 48, Char.ofNat 53, Char.ofNat 51, Char.ofNat 52, Char.ofNat 51, Char.ofNat 97, Char.ofNat 98, Char.ofNat 98, Char.ofNat 56, Char.ofNat 97, Char.ofNat 49, Char.ofNat 97, Char.ofNat 54, Char.ofNat 50, Char.ofNat 53, Char.ofNat 54, Char.ofNat 52, Char.ofNat 53, Char.ofNat 56, Char.ofNat 56, Char.ofNat 49, Char.ofNat 57, Char.ofNat 101, Char.ofNat 51, Char.ofNat 100, Char.ofNat 99, Char.ofNat 101, Char.ofNat 53, Char.ofNat 101, Char.ofNat 53, Char.ofNat 53, Char.ofNat 55, Char.ofNat 56, Char.ofNat 100, Char.ofNat 49, Char.ofNat 99, Char.ofNat 48, Char.ofNat 102, Char.ofNat 48, Char.ofNat 99, Char.ofNat 101, Char.ofNat 97, Char.ofNat 101, Char.ofNat 51, Char.ofNat 52, Char.ofNat 48, Char.ofNat 51, Char.ofNat 99, Char.ofNat 100]
def w3 : List Char := [Char.ofNat 99, Char.ofNat 117, Char.ofNat 116]
def initTail : List Char := [Char.ofNat 97, Char.ofNat 116, Char.ofNat 32, Char.ofNat 108, Char.ofNat 111, Char.ofNat 111, Char.ofNat 112, Char.ofNat 46, Char.ofNat 101, Char.ofNat 120, Char.ofNat 97, Char.ofNat 109, Char.ofNat 112, Char.ofNat 108, Char.ofNat 101, Char.ofNat 47, Char.ofNat 103, Char.ofNat 48, Char.ofNat 48, Char.ofNat 53, Char.ofNat 57, Char.ofNat 51, Char.ofNat 47, Char.ofNat 108, Char.ofNat 97, Char.ofNat 119, Char.ofNat 115, Char.ofNat 46, Char.ofNat 70, Char.ofNat 110, Char.ofNat 69, Char.ofNat 120, Char.ofNat 116, Char.ofNat 101, Char.ofNat 110, Char.ofNat 115, Char.ofNat 105, Char.ofNat 111, Char.ofNat 110, Char.ofNat 115, Char.ofNat 32, Char.ofNat 108, Char.ofNat 111, Char.ofNat 111, Char.ofNat 112, Char.ofNat 46, Char.ofNat 101, Char.ofNat 120, Char.ofNat 97, Char.ofNat 109, Char.ofNat 112, Char.ofNat 108, Char.ofNat 101, Char.ofNat 47, Char.ofNat 103, Char.ofNat 48, Char.ofNat 48, Char.ofNat 53, Char.ofNat 57, Char.ofNat 51, Char.ofNat 47, Char.ofNat 108, Char.ofNat 97, Char.ofNat 119, Char.ofNat 115, Char.ofNat 46, Char.ofNat 70, Char.ofNat 110, Char.ofNat 82, Char.ofNat 101, Char.ofNat 110, Char.ofNat 97, Char.ofNat 109, Char.ofNat 101, Char.ofNat 100]
def initHead (R : List Char) : List Char := Char.ofNat 104 :: Char.ofNat 97 :: Char.ofNat 114 :: Char.ofNat 110 :: Char.ofNat 101 :: Char.ofNat 115 :: Char.ofNat 115 :: Char.ofNat 32 :: Char.ofNat 53 :: Char.ofNat 57 :: Char.ofNat 56 :: Char.ofNat 53 :: Char.ofNat 100 :: Char.ofNat 101 :: Char.ofNat 56 :: Char.ofNat 99 :: Char.ofNat 54 :: Char.ofNat 98 :: Char.ofNat 57 :: Char.ofNat 48 :: Char.ofNat 56 :: Char.ofNat 48 :: Char.ofNat 100 :: Char.ofNat 48 :: Char.ofNat 53 :: Char.ofNat 51 :: Char.ofNat 52 :: Char.ofNat 51 :: Char.ofNat 97 :: Char.ofNat 98 :: Char.ofNat 98 :: Char.ofNat 56 :: Char.ofNat 97 :: Char.ofNat 49 :: Char.ofNat 97 :: Char.ofNat 54 :: Char.ofNat 50 :: Char.ofNat 53 :: Char.ofNat 54 :: Char.ofNat 52 :: Char.ofNat 53 :: Char.ofNat 56 :: Char.ofNat 56 :: Char.ofNat 49 :: Char.ofNat 57 :: Char.ofNat 101 :: Char.ofNat 51 :: Char.ofNat 100 :: Char.ofNat 99 :: Char.ofNat 101 :: Char.ofNat 53 :: Char.ofNat 101 :: Char.ofNat 53 :: Char.ofNat 53 :: Char.ofNat 55 :: Char.ofNat 56 :: Char.ofNat 100 :: Char.ofNat 49 :: Char.ofNat 99 :: Char.ofNat 48 :: Char.ofNat 102 :: Char.ofNat 48 :: Char.ofNat 99 :: Char.ofNat 101 :: Char.ofNat 97 :: Char.ofNat 101 :: Char.ofNat 51 :: Char.ofNat 52 :: Char.ofNat 48 :: Char.ofNat 51 :: Char.ofNat 99 :: Char.ofNat 100 :: Char.ofNat 32 :: Char.ofNat 99 :: Char.ofNat 117 :: Char.ofNat 116 :: Char.ofNat 32 :: R
set_option maxRecDepth 100000 in
theorem init_is : Tryz.prog.initOrder = String.ofList (initHead initTail) := by kernel_rfl
theorem init_list : Tryz.prog.initOrder.toList = initHead initTail := by rw [init_is]; exact String.toList_ofList
set_option maxRecDepth 100000 in
theorem head_words (R : List Char) : wordsSigns (initHead R) = w1 :: w2 :: w3 :: wordsSigns R := by kernel_rfl
theorem words_is : ∃ r, wordsSigns Tryz.prog.initOrder.toList = w1 :: w2 :: w3 :: r := ⟨_, by rw [init_list, head_words]⟩
theorem behind_is (r : List (List Char)) : behindMainWord (w1 :: w2 :: w3 :: r) = w3 :: r := by kernel_rfl
theorem strip_is (r : List (List Char)) : stripLifts liftWords (w3 :: r) = ([], w3 :: r) := by kernel_rfl
theorem not_gc : (w3 == "gc".toList) = false := by kernel_rfl
theorem not_spec : (w3 == "spec".toList) = false := by kernel_rfl
theorem not_carried : (w3 == "carried".toList) = false := by kernel_rfl
theorem is_cut : (w3 == "cut".toList) = true := by kernel_rfl
theorem head_cut (r : List (List Char)) : ((w3 :: r).head? == some "cut".toList) = true := by kernel_rfl
theorem lays_is : Tryz.prog.laysLater = false := by kernel_rfl
theorem bears_is : Tryz.prog.bearsReflect = false := by kernel_rfl
theorem door_is : Tryz.prog.doorFits [] = true := by kernel_rfl
theorem enter_of (P : Program) (r : List (List Char)) (h : wordsSigns P.initOrder.toList = w1 :: w2 :: w3 :: r) (k1 : P.laysLater = false) (k2 : P.bearsReflect = false) (k3 : P.doorFits [] = true) : P.mayEnter = true := by
  unfold Program.mayEnter
  rw [h, behind_is]
  dsimp only
  rw [strip_is, not_gc, not_spec, not_carried, k1, k2]
  dsimp only
  rw [head_cut, k3]
  rfl
theorem enter_is : Tryz.prog.mayEnter = true := by
  obtain ⟨r, h⟩ := words_is
  exact enter_of _ r h lays_is bears_is door_is
theorem lifts_of (P : Program) (r : List (List Char)) (h : wordsSigns P.initOrder.toList = w1 :: w2 :: w3 :: r) : P.liftsFinal = false := by
  unfold Program.liftsFinal Program.headLifts
  rw [h]
  clear h
  kernel_rfl
theorem lifts_is : Tryz.prog.liftsFinal = false := by
  obtain ⟨r, h⟩ := words_is
  exact lifts_of _ r h
theorem make_of (P : Program) (r : List (List Char)) (h : wordsSigns P.initOrder.toList = w1 :: w2 :: w3 :: r) : P.make = some .cut := by
  unfold Program.make
  rw [h, behind_is]
  dsimp only
  rw [not_gc, not_spec, is_cut]
  rfl
theorem make_is : Tryz.prog.make = some .cut := by
  obtain ⟨r, h⟩ := words_is
  exact make_of _ r h
theorem lifted_ok : (Rows.fnRenamedRow.lifted == Tryz.prog.liftsFinal) = true := by rw [lifts_is]; rfl
theorem make_ok : (Tryz.prog.make == some Rows.fnRenamedRow.make) = true := by rw [make_is]; rfl
set_option maxHeartbeats 4000000 in
theorem closed : joinedFacts Tryz.prog 4 Tryz.f4 Rows.fnRenamedSpec Rows.fnRenamedRow = true := by
  unfold joinedFacts
  simp only [Bool.and_eq_true]
  repeat' apply And.intro
  all_goals (first | with_reducible exact enter_is | with_reducible exact lifted_ok | with_reducible exact make_ok | (as_aux_lemma => kernel_rfl))
theorem over : Rows.fnRenamedRow.holds Tryz.pinned (OpenSpec.ofChange Rows.fnRenamedSpec) :=
  OpenClaim.holds_of_wide 4 Tryz.f4 rfl rfl rfl rfl rfl rfl rfl ⟨rfl, rfl, rfl, rfl, rfl⟩ rfl rfl rfl rfl rfl (by kernel_rfl) Tryz.func4 closed
    (of_decide_eq_true (by kernel_rfl)) (by unfold Func.isWrapper; first | (rw [if_pos (by decide +kernel)]; kernel_rfl) | (rw [if_neg (by decide +kernel)]; exact ⟨rfl, rfl⟩))
    (fun os started H enc _ => lifted os started H enc)
theorem proved : Rows.FnRenamedSaid := over
#print axioms proved
end Go.Proofs.YtbdloopelidneaaGreat.fnRenamed
namespace Go.Proofs.YtbdloopelidneaaGreat
theorem fnRenamed_holds : Rows.FnRenamedSaid := fnRenamed.proved
end Go.Proofs.YtbdloopelidneaaGreat
