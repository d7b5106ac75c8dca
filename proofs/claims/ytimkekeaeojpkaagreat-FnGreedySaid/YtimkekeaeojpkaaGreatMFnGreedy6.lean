/- Machine side of the law FnGreedy: Go functions as Lean functions, and proofs that calls come to what these tell. Conditions: those in each theorem. -/
import Derived.Test.YtimkekeaeojpkaaGreatMFnGreedy0
import Derived.Test.YtimkekeaeojpkaaGreatMFnGreedy1
import Derived.Test.YtimkekeaeojpkaaGreatMFnGreedy2
import Derived.Test.YtimkekeaeojpkaaGreatMFnGreedy3
import Derived.Test.YtimkekeaeojpkaaGreatMFnGreedy4
import Derived.Test.YtimkekeaeojpkaaGreatMFnGreedy5
set_option maxHeartbeats 8000000
set_option maxRecDepth 100000
namespace Go.Proofs.YtimkekeaeojpkaaGreat.A
open Go.RowKit Go.Proofs.YtimkekeaeojpkaaGreatW.PrintWords Go.Proofs.YtimkekeaeojpkaaGreatW.PrintLast Go.Proofs.YtimkekeaeojpkaaGreatW.PrintMore
attribute [local go_sem] cC cE cW cX co cp cD cG
set_option linter.unusedVariables false
set_option linter.unusedSimpArgs false
mutual
def laws_FnGreedy.j0 : Nat → List Int → Int → Bool → List Int → Int → Bool → List Int → Int → Int → Bool → Bool → Int → List Int → Int → List Int → Int → List Int → Option (Bool)
 | 0, _, _, _, _, _, _, _, _, _, _, _, _, _, _, _, _, _ => none
 | k + 1, x4, x5, x6, x17, x18, x19, x21, x22, x23, x24, x171, x5010000, x5010001, x5036000, x5036001, x5046000, x5046001 => if x171 = true then (some false) else (laws_FnGreedy.l0 k x4 x5 x6 x17 x18 x19 x21 x22 x23 x24 0 false 0 x5010000 x5010001 x5036000 x5036001 x5046000 x5046001)
def laws_FnGreedy.l0 : Nat → List Int → Int → Bool → List Int → Int → Bool → List Int → Int → Int → Bool → Int → Bool → Int → Int → List Int → Int → List Int → Int → List Int → Option (Bool)
 | 0, _, _, _, _, _, _, _, _, _, _, _, _, _, _, _, _, _, _, _ => none
 | k + 1, x4, x5, x6, x17, x18, x19, x21, x22, x23, x24, x31, x32, x33, x5010000, x5010001, x5036000, x5036001, x5046000, x5046001 => if x33 < (x5010001.length : Int) then (laws_FnGreedy.j2 k x4 x5 x6 x17 x18 x19 x21 x22 x23 x24 x31 x32 x33 x6 x5010000 x5010001 x5036000 x5036001 x5046000 x5046001) else (laws_FnGreedy.j2 k x4 x5 x6 x17 x18 x19 x21 x22 x23 x24 x31 x32 x33 false x5010000 x5010001 x5036000 x5036001 x5046000 x5046001)
def laws_FnGreedy.j2 : Nat → List Int → Int → Bool → List Int → Int → Bool → List Int → Int → Int → Bool → Int → Bool → Int → Bool → Int → List Int → Int → List Int → Int → List Int → Option (Bool)
 | 0, _, _, _, _, _, _, _, _, _, _, _, _, _, _, _, _, _, _, _, _ => none
 | k + 1, x4, x5, x6, x17, x18, x19, x21, x22, x23, x24, x31, x32, x33, x179, x5010000, x5010001, x5036000, x5036001, x5046000, x5046001 => if x179 = true then (if 0 ≤ x33 then (if x33 < (x5010001.length : Int) then ((am.f k x4 (rd x5010001 x33)).bind fun tq0 => ((am.f k x4 x5).bind fun tq1 => (if tq0 > tq1 then (some false) else (laws_FnGreedy.l0 k x4 x5 x6 x17 x18 x19 x21 x22 x23 x24 x31 x32 (wrap64 (x33 + 1)) x5010000 x5010001 x5036000 x5036001 x5046000 x5046001)))) else (none)) else (none)) else (laws_FnGreedy.l1 k x4 x5 x6 x17 x18 x19 x21 x22 x23 x24 x31 x32 0 x5010000 x5010001 x5036000 x5036001 x5046000 x5046001)
def laws_FnGreedy.l1 : Nat → List Int → Int → Bool → List Int → Int → Bool → List Int → Int → Int → Bool → Int → Bool → Int → Int → List Int → Int → List Int → Int → List Int → Option (Bool)
 | 0, _, _, _, _, _, _, _, _, _, _, _, _, _, _, _, _, _, _, _ => none
 | k + 1, x4, x5, x6, x17, x18, x19, x21, x22, x23, x24, x31, x32, x34, x5010000, x5010001, x5036000, x5036001, x5046000, x5046001 => if x34 < (x5046001.length : Int) then (laws_FnGreedy.j4 k x4 x5 x6 x17 x18 x19 x21 x22 x23 x24 x31 x32 x34 x24 x5010000 x5010001 x5036000 x5036001 x5046000 x5046001) else (laws_FnGreedy.j4 k x4 x5 x6 x17 x18 x19 x21 x22 x23 x24 x31 x32 x34 false x5010000 x5010001 x5036000 x5036001 x5046000 x5046001)
def laws_FnGreedy.j4 : Nat → List Int → Int → Bool → List Int → Int → Bool → List Int → Int → Int → Bool → Int → Bool → Int → Bool → Int → List Int → Int → List Int → Int → List Int → Option (Bool)
 | 0, _, _, _, _, _, _, _, _, _, _, _, _, _, _, _, _, _, _, _, _ => none
 | k + 1, x4, x5, x6, x17, x18, x19, x21, x22, x23, x24, x31, x32, x34, x200, x5010000, x5010001, x5036000, x5036001, x5046000, x5046001 => if x200 = true then (if 0 ≤ x34 then (if x34 < (x5046001.length : Int) then ((am.f k x21 (rd x5046001 x34)).bind fun tq2 => (if x34 = 0 then (laws_FnGreedy.l1 k x4 x5 x6 x17 x18 x19 x21 x22 x23 x24 tq2 x32 (wrap64 (x34 + 1)) x5010000 x5010001 x5036000 x5036001 x5046000 x5046001) else (if tq2 > x31 then (laws_FnGreedy.l1 k x4 x5 x6 x17 x18 x19 x21 x22 x23 x24 tq2 x32 (wrap64 (x34 + 1)) x5010000 x5010001 x5036000 x5036001 x5046000 x5046001) else (laws_FnGreedy.l1 k x4 x5 x6 x17 x18 x19 x21 x22 x23 x24 x31 x32 (wrap64 (x34 + 1)) x5010000 x5010001 x5036000 x5036001 x5046000 x5046001)))) else (none)) else (none)) else (laws_FnGreedy.l2 k x4 x5 x6 x17 x18 x19 x21 x22 x23 x24 x31 x32 0 x5010000 x5010001 x5036000 x5036001 x5046000 x5046001)
def laws_FnGreedy.l2 : Nat → List Int → Int → Bool → List Int → Int → Bool → List Int → Int → Int → Bool → Int → Bool → Int → Int → List Int → Int → List Int → Int → List Int → Option (Bool)
 | 0, _, _, _, _, _, _, _, _, _, _, _, _, _, _, _, _, _, _, _ => none
 | k + 1, x4, x5, x6, x17, x18, x19, x21, x22, x23, x24, x31, x32, x36, x5010000, x5010001, x5036000, x5036001, x5046000, x5046001 => if x36 < (x5046001.length : Int) then (laws_FnGreedy.j6 k x4 x5 x6 x17 x18 x19 x21 x22 x23 x24 x31 x32 x36 x24 x5010000 x5010001 x5036000 x5036001 x5046000 x5046001) else (laws_FnGreedy.j6 k x4 x5 x6 x17 x18 x19 x21 x22 x23 x24 x31 x32 x36 false x5010000 x5010001 x5036000 x5036001 x5046000 x5046001)
def laws_FnGreedy.j6 : Nat → List Int → Int → Bool → List Int → Int → Bool → List Int → Int → Int → Bool → Int → Bool → Int → Bool → Int → List Int → Int → List Int → Int → List Int → Option (Bool)
 | 0, _, _, _, _, _, _, _, _, _, _, _, _, _, _, _, _, _, _, _, _ => none
 | k + 1, x4, x5, x6, x17, x18, x19, x21, x22, x23, x24, x31, x32, x36, x225, x5010000, x5010001, x5036000, x5036001, x5046000, x5046001 => if x225 = true then (if x32 = true then (laws_FnGreedy.l2 k x4 x5 x6 x17 x18 x19 x21 x22 x23 x24 x31 true (wrap64 (x36 + 1)) x5010000 x5010001 x5036000 x5036001 x5046000 x5046001) else (if 0 ≤ x36 then (if x36 < (x5046001.length : Int) then ((bJ.f (rd x5046001 x36) x22).bind fun tq3 => (if tq3 = true then ((am.f k x21 (rd x5046001 x36)).bind fun tq4 => (laws_FnGreedy.l2 k x4 x5 x6 x17 x18 x19 x21 x22 x23 x24 x31 (tq4 == x31) (wrap64 (x36 + 1)) x5010000 x5010001 x5036000 x5036001 x5046000 x5046001)) else (laws_FnGreedy.l2 k x4 x5 x6 x17 x18 x19 x21 x22 x23 x24 x31 false (wrap64 (x36 + 1)) x5010000 x5010001 x5036000 x5036001 x5046000 x5046001))) else (none)) else (none))) else (if x24 = true then (if 0 ≤ x22 then (if x22 < (x21.length : Int) then (if (x32 != (decide ((rd x21 x22) ≥ x23))) = true then (laws_FnGreedy.j7 k x17 x18 x19 true x5036000 x5036001) else (if x6 = true then ((aG.f k x5010001 x5).bind fun tq5 => (if tq5 = true then ((ap.f k x5010000 x5010001 x4 x5).bind fun tq6 => (laws_FnGreedy.j7 k x17 x18 x19 (!tq6) x5036000 x5036001)) else (laws_FnGreedy.j7 k x17 x18 x19 true x5036000 x5036001))) else (laws_FnGreedy.j7 k x17 x18 x19 false x5036000 x5036001))) else (none)) else (none)) else (if x6 = true then ((aG.f k x5010001 x5).bind fun tq7 => (if tq7 = true then ((ap.f k x5010000 x5010001 x4 x5).bind fun tq8 => (laws_FnGreedy.j7 k x17 x18 x19 (!tq8) x5036000 x5036001)) else (laws_FnGreedy.j7 k x17 x18 x19 true x5036000 x5036001))) else (laws_FnGreedy.j7 k x17 x18 x19 false x5036000 x5036001)))
def laws_FnGreedy.j7 : Nat → List Int → Int → Bool → Bool → Int → List Int → Option (Bool)
 | 0, _, _, _, _, _, _ => none
 | k + 1, x17, x18, x19, x276, x5036000, x5036001 => if x276 = true then (some false) else ((bg.f k x5036000 x5036001 x17).bind fun btq9 => (if btq9.2 = true then ((aG.f k x5036001 x18).bind fun tqa => (if tqa = true then ((am.f k x17 x18).bind fun tqb => ((am.f k x17 btq9.1).bind fun tqc => (some (x19 == (tqb == tqc))))) else (some true))) else (some true)))
end
def laws_FnGreedy.f (k : Nat) (l0 : List Int) : Option (Bool) := (laws_big.f l0).bind fun tqd => (if tqd = true then (some true) else ((ca.f k l0).bind fun btqe => ((cz.f k btqe.1 btqe.2.1 btqe.2.2).bind fun btqf => ((bg.f k btqe.1 btqe.2.1 btqe.2.2).bind fun btqg => ((cb.f k l0).bind fun btqh => ((cy.f k btqh.1 btqh.2.1 btqh.2.2.1 btqh.2.2.2).bind fun btqi => ((aE.f k btqh.1 btqh.2.1 btqh.2.2.1 btqh.2.2.2).bind fun btqj => ((bd.f k l0).bind fun btqk => ((ap.f k btqk.1 btqk.2.1 btqk.2.2.1 btqk.2.2.2).bind fun tql => ((bY.f k l0).bind fun btqm => ((ai.f k btqm.1 btqm.2.1 btqm.2.2.1 btqm.2.2.2).bind fun btqn => ((aq.f k btqm.1 btqm.2.1 btqm.2.2.1 btqm.2.2.2).bind fun btqo => ((cd.f k l0).bind fun btqp => ((cl.f k l0).bind fun btqq => (if (btqf.2 != btqg.2) = true then (laws_FnGreedy.j0 k btqe.2.2 btqf.1 btqf.2 btqk.2.2.1 btqk.2.2.2 tql btqm.2.2.1 btqm.2.2.2 btqn.1 btqn.2 true btqe.1 btqe.2.1 btqk.1 btqk.2.1 btqm.1 btqm.2.1) else (if btqf.1 = btqg.1 then (if (btqi.2 != btqj.2) = true then (laws_FnGreedy.j0 k btqe.2.2 btqf.1 btqf.2 btqk.2.2.1 btqk.2.2.2 tql btqm.2.2.1 btqm.2.2.2 btqn.1 btqn.2 true btqe.1 btqe.2.1 btqk.1 btqk.2.1 btqm.1 btqm.2.1) else (if btqi.1 = btqj.1 then ((aI.f k btqk.1 btqk.2.1 btqk.2.2.1 btqk.2.2.2).bind fun tqr => (if (tql != tqr) = true then (laws_FnGreedy.j0 k btqe.2.2 btqf.1 btqf.2 btqk.2.2.1 btqk.2.2.2 tql btqm.2.2.1 btqm.2.2.2 btqn.1 btqn.2 true btqe.1 btqe.2.1 btqk.1 btqk.2.1 btqm.1 btqm.2.1) else (if (btqn.2 != btqo.2) = true then (laws_FnGreedy.j0 k btqe.2.2 btqf.1 btqf.2 btqk.2.2.1 btqk.2.2.2 tql btqm.2.2.1 btqm.2.2.2 btqn.1 btqn.2 true btqe.1 btqe.2.1 btqk.1 btqk.2.1 btqm.1 btqm.2.1) else (if btqn.1 = btqo.1 then ((aV.f k btqp.1 btqp.2).bind fun tqs => ((aA.f k btqp.1 btqp.2).bind fun tqt => (if (tqs != tqt) = true then (laws_FnGreedy.j0 k btqe.2.2 btqf.1 btqf.2 btqk.2.2.1 btqk.2.2.2 tql btqm.2.2.1 btqm.2.2.2 btqn.1 btqn.2 true btqe.1 btqe.2.1 btqk.1 btqk.2.1 btqm.1 btqm.2.1) else ((a6.f k btqq.1 btqq.2).bind fun tqu => ((am.f k btqq.1 btqq.2).bind fun tqv => (laws_FnGreedy.j0 k btqe.2.2 btqf.1 btqf.2 btqk.2.2.1 btqk.2.2.2 tql btqm.2.2.1 btqm.2.2.2 btqn.1 btqn.2 (tqu != tqv) btqe.1 btqe.2.1 btqk.1 btqk.2.1 btqm.1 btqm.2.1)))))) else (laws_FnGreedy.j0 k btqe.2.2 btqf.1 btqf.2 btqk.2.2.1 btqk.2.2.2 tql btqm.2.2.1 btqm.2.2.2 btqn.1 btqn.2 true btqe.1 btqe.2.1 btqk.1 btqk.2.1 btqm.1 btqm.2.1))))) else (laws_FnGreedy.j0 k btqe.2.2 btqf.1 btqf.2 btqk.2.2.1 btqk.2.2.2 tql btqm.2.2.1 btqm.2.2.2 btqn.1 btqn.2 true btqe.1 btqe.2.1 btqk.1 btqk.2.1 btqm.1 btqm.2.1))) else (laws_FnGreedy.j0 k btqe.2.2 btqf.1 btqf.2 btqk.2.2.1 btqk.2.2.2 tql btqm.2.2.1 btqm.2.2.2 btqn.1 btqn.2 true btqe.1 btqe.2.1 btqk.1 btqk.2.1 btqm.1 btqm.2.1)))))))))))))))))
theorem laws_FnGreedy.calls (k : Nat) (A0 : Option Addr) (c0 : Nat) (l0 : List Int) (w : World) (hr0 : Kd.C (Kd.int .u8) w A0 l0.length l0) (hc0 : l0.length ≤ c0) (h : laws_FnGreedy.f k l0 = some true) :
  Calls Tryz.prog 4 #[.slice A0 l0.length c0] w fun e w' => e = .returned (.bool true) ∧ Below w.heap.size w w' := by
 have hu26 := Tryz.underlying26
 have HR0 := aQ hr0
 have HC0 := aQ hc0
 clear hr0 hc0
 have HB := aQ (Below.refl w.heap.size w)
 have H := h
 clear h
 unfold laws_FnGreedy.f at H
 (try dsimp only at H)
 replace H := bo H; obtain ⟨tqd, A2, H⟩ := H
 (try dsimp only at H)
 by_cases c3 : tqd = true
 ·subst c3
  have H1 : (some true) = some true := rfl
  clear H
  have H := H1
  clear H1
  have HR_ := Option.some.inj H
  (try (have HS_ := HR_; simp only [bne_iff_ne, ne_eq] at HS_))
  clear H
  go_enter Tryz.func4, Tryz.ntmps4
  go_wp2_with (first | ((with_reducible refine bi (f := 8) rfl ?_); refine gl (some 40) Tryz.func8 #[.slice A0 l0.length c0] ?_; (with_reducible refine (laws_big.calls _ _ l0 true _ ?side1 ?side2 A2.out).mono ?_); (case side1 => exact pC HR0.out); (case side2 => exact HC0.out); rintro e w' ⟨rfl, ⟨nd, rfl⟩⟩; refine ⟨_, rfl, ?_⟩))
  go_ret
  exact ⟨re_, pB HB.out⟩
 ·replace c3 := Bool.eq_false_iff.mpr c3
  subst c3
  have H1 : ((ca.f k l0).bind fun btqe => ((cz.f k btqe.1 btqe.2.1 btqe.2.2).bind fun btqf => ((bg.f k btqe.1 btqe.2.1 btqe.2.2).bind fun btqg => ((cb.f k l0).bind fun btqh => ((cy.f k btqh.1 btqh.2.1 btqh.2.2.1 btqh.2.2.2).bind fun btqi => ((aE.f k btqh.1 btqh.2.1 btqh.2.2.1 btqh.2.2.2).bind fun btqj => ((bd.f k l0).bind fun btqk => ((ap.f k btqk.1 btqk.2.1 btqk.2.2.1 btqk.2.2.2).bind fun tql => ((bY.f k l0).bind fun btqm => ((ai.f k btqm.1 btqm.2.1 btqm.2.2.1 btqm.2.2.2).bind fun btqn => ((aq.f k btqm.1 btqm.2.1 btqm.2.2.1 btqm.2.2.2).bind fun btqo => ((cd.f k l0).bind fun btqp => ((cl.f k l0).bind fun btqq => (if (btqf.2 != btqg.2) = true then (laws_FnGreedy.j0 k btqe.2.2 btqf.1 btqf.2 btqk.2.2.1 btqk.2.2.2 tql btqm.2.2.1 btqm.2.2.2 btqn.1 btqn.2 true btqe.1 btqe.2.1 btqk.1 btqk.2.1 btqm.1 btqm.2.1) else (if btqf.1 = btqg.1 then (if (btqi.2 != btqj.2) = true then (laws_FnGreedy.j0 k btqe.2.2 btqf.1 btqf.2 btqk.2.2.1 btqk.2.2.2 tql btqm.2.2.1 btqm.2.2.2 btqn.1 btqn.2 true btqe.1 btqe.2.1 btqk.1 btqk.2.1 btqm.1 btqm.2.1) else (if btqi.1 = btqj.1 then ((aI.f k btqk.1 btqk.2.1 btqk.2.2.1 btqk.2.2.2).bind fun tqr => (if (tql != tqr) = true then (laws_FnGreedy.j0 k btqe.2.2 btqf.1 btqf.2 btqk.2.2.1 btqk.2.2.2 tql btqm.2.2.1 btqm.2.2.2 btqn.1 btqn.2 true btqe.1 btqe.2.1 btqk.1 btqk.2.1 btqm.1 btqm.2.1) else (if (btqn.2 != btqo.2) = true then (laws_FnGreedy.j0 k btqe.2.2 btqf.1 btqf.2 btqk.2.2.1 btqk.2.2.2 tql btqm.2.2.1 btqm.2.2.2 btqn.1 btqn.2 true btqe.1 btqe.2.1 btqk.1 btqk.2.1 btqm.1 btqm.2.1) else (if btqn.1 = btqo.1 then ((aV.f k btqp.1 btqp.2).bind fun tqs => ((aA.f k btqp.1 btqp.2).bind fun tqt => (if (tqs != tqt) = true then (laws_FnGreedy.j0 k btqe.2.2 btqf.1 btqf.2 btqk.2.2.1 btqk.2.2.2 tql btqm.2.2.1 btqm.2.2.2 btqn.1 btqn.2 true btqe.1 btqe.2.1 btqk.1 btqk.2.1 btqm.1 btqm.2.1) else ((a6.f k btqq.1 btqq.2).bind fun tqu => ((am.f k btqq.1 btqq.2).bind fun tqv => (laws_FnGreedy.j0 k btqe.2.2 btqf.1 btqf.2 btqk.2.2.1 btqk.2.2.2 tql btqm.2.2.1 btqm.2.2.2 btqn.1 btqn.2 (tqu != tqv) btqe.1 btqe.2.1 btqk.1 btqk.2.1 btqm.1 btqm.2.1)))))) else (laws_FnGreedy.j0 k btqe.2.2 btqf.1 btqf.2 btqk.2.2.1 btqk.2.2.2 tql btqm.2.2.1 btqm.2.2.2 btqn.1 btqn.2 true btqe.1 btqe.2.1 btqk.1 btqk.2.1 btqm.1 btqm.2.1))))) else (laws_FnGreedy.j0 k btqe.2.2 btqf.1 btqf.2 btqk.2.2.1 btqk.2.2.2 tql btqm.2.2.1 btqm.2.2.2 btqn.1 btqn.2 true btqe.1 btqe.2.1 btqk.1 btqk.2.1 btqm.1 btqm.2.1))) else (laws_FnGreedy.j0 k btqe.2.2 btqf.1 btqf.2 btqk.2.2.1 btqk.2.2.2 tql btqm.2.2.1 btqm.2.2.2 btqn.1 btqn.2 true btqe.1 btqe.2.1 btqk.1 btqk.2.1 btqm.1 btqm.2.1)))))))))))))))) = some true := by rw [if_neg (show ¬ (false = true) by decide)] at H; exact H
  clear H
  have H := H1
  clear H1
  replace H := bo H; obtain ⟨⟨tqe, tqw, tqx⟩, A4, H⟩ := H
  (try dsimp only at H)
  replace H := bo H; obtain ⟨⟨tqf, tqy⟩, A5, H⟩ := H
  (try dsimp only at H)
  replace H := bo H; obtain ⟨⟨tqg, tqz⟩, A6, H⟩ := H
  (try dsimp only at H)
  replace H := bo H; obtain ⟨⟨tqh, tq10, tq11, tq12⟩, A7, H⟩ := H
  (try dsimp only at H)
  replace H := bo H; obtain ⟨⟨tqi, tq13⟩, A8, H⟩ := H
  (try dsimp only at H)
  replace H := bo H; obtain ⟨⟨tqj, tq14⟩, A9, H⟩ := H
  (try dsimp only at H)
  replace H := bo H; obtain ⟨⟨tqk, tq15, tq16, tq17⟩, A10, H⟩ := H
  (try dsimp only at H)
  replace H := bo H; obtain ⟨tql, A11, H⟩ := H
  (try dsimp only at H)
  replace H := bo H; obtain ⟨⟨tqm, tq18, tq19, tq1a⟩, A12, H⟩ := H
  (try dsimp only at H)
  replace H := bo H; obtain ⟨⟨tqn, tq1b⟩, A13, H⟩ := H
  (try dsimp only at H)
  replace H := bo H; obtain ⟨⟨tqo, tq1c⟩, A14, H⟩ := H
  (try dsimp only at H)
  replace H := bo H; obtain ⟨⟨tqp, tq1d⟩, A15, H⟩ := H
  (try dsimp only at H)
  replace H := bo H; obtain ⟨⟨tqq, tq1e⟩, A16, H⟩ := H
  (try dsimp only at H)
  have HC17 := aQ H
  clear H
  go_enter Tryz.func4, Tryz.ntmps4
  go_upto_region 16 with (first | ((with_reducible refine bi (f := 8) rfl ?_); refine gl (some 40) Tryz.func8 #[.slice A0 l0.length c0] ?_; (with_reducible refine (laws_big.calls _ _ l0 false _ ?side1 ?side2 A2.out).mono ?_); (case side1 => exact pC HR0.out); (case side2 => exact HC0.out); rintro e w' ⟨rfl, ⟨nd, rfl⟩⟩; refine ⟨_, rfl, ?_⟩) | ((with_reducible refine bi (f := 24) rfl ?_); refine gl (some 43) Tryz.func24 #[.slice A0 l0.length c0] ?_; (with_reducible refine (ca.calls k _ _ l0 tqe tqw tqx _ ?side1 ?side2 A4.out).mono ?_); (case side1 => exact pC HR0.out); (case side2 => exact HC0.out); rintro e w18 ⟨vq1f, vq1g, rfl, ho0, ho1, hb⟩; refine ⟨_, rfl, ?_⟩; obtain ⟨Ao21, co21, rfl, HOq1h⟩ := rwe ho0; obtain ⟨Ao22, co22, rfl, HOq1i⟩ := rwe ho1; replace HB := bs HB hb; (try clear hb); have D1 := bz w18) | ((with_reducible refine af (N := 3) rfl ?_); refine bx 3 #[.int .i64 0, .slice none 0 0] 26 ?_; intro gbq1j hg w19 hbox hb; have BKq1j := aQ (hbox); have GWq1j := gB HB hg; have GEq1j := gB HB hg; have GEq1j_D1 := gB D1 hg; replace HB := bs HB hb; replace D1 := bs D1 hb; clear hb hbox hg; obtain ⟨hcz20_0, hcz20_1, hfz20_0, hfz20_1⟩ := c2 BKq1j) | ((with_reducible refine bi (f := 25) rfl ?_); refine gl (some 49) Tryz.func25 #[.agg #[.int .i64 tqe, .slice Ao21 tqw.length co21], .slice Ao22 tqx.length co22] ?_; (with_reducible refine (cz.calls k tqe _ _ tqw _ _ tqx tqf tqy _ ?side1 ?side2 ?side3 ?side4 A5.out).mono ?_); (case side1 => exact rC HOq1h); (case side2 => exact HOq1h.out.1); (case side3 => exact rC HOq1i); (case side4 => exact HOq1i.out.1); rintro e w23 ⟨rfl, hb⟩; refine ⟨_, rfl, ?_⟩; replace BKq1j := aQ (bq (g := gbq1j) (o := .cells #[.int .i64 tqe, .slice Ao21 tqw.length co21] 26 (0, 0)) (by refine pkx ?_; refine al (cs := #[.int .i64 tqe, .slice none 0 0]) ?_ 1 _ rfl; refine pkx ?_; refine al (cs := #[.int .i64 0, .slice none 0 0]) ?_ 0 _ rfl; refine pkx ?_; exact BKq1j.out) hb); replace HB := bs HB hb; replace D1 := bs D1 hb; (try clear hb); (try clear hk); obtain ⟨hcz24_0, hcz24_1, hfz24_0, hfz24_1⟩ := c2 BKq1j) | ((with_reducible refine bi (f := 26) rfl ?_); refine gl (some 55) Tryz.func26 #[.agg #[.int .i64 tqe, .slice Ao21 tqw.length co21], .slice Ao22 tqx.length co22] ?_; (with_reducible refine (bg.calls k tqe _ _ tqw _ _ tqx tqg tqz _ ?side1 ?side2 ?side3 ?side4 A6.out).mono ?_); (case side1 => exact rC HOq1h); (case side2 => exact HOq1h.out.1); (case side3 => exact rC HOq1i); (case side4 => exact HOq1i.out.1); rintro e w25 ⟨rfl, hb⟩; refine ⟨_, rfl, ?_⟩; replace BKq1j := bb BKq1j hb; replace HB := bs HB hb; replace D1 := bs D1 hb; (try clear hb)) | ((with_reducible refine bi (f := 27) rfl ?_); refine gl (some 60) Tryz.func27 #[.slice A0 l0.length c0] ?_; (with_reducible refine (cb.calls k _ _ l0 tqh tq10 tq11 tq12 _ ?side1 ?side2 A7.out).mono ?_); (case side1 => exact pC (Kd.C_below HR0.out HB.out)); (case side2 => exact HC0.out); rintro e w26 ⟨vq1k, vq1l, rfl, ho0, ho1, hb⟩; refine ⟨_, rfl, ?_⟩; obtain ⟨Ao30, co30, rfl, HOq1m⟩ := rwe ho0; obtain ⟨Ao31, co31, rfl, HOq1n⟩ := rwe ho1; replace BKq1j := bb BKq1j hb; replace HB := bs HB hb; replace D1 := bs D1 hb; (try clear hb); have D2 := bz w26) | ((with_reducible refine af (N := 9) rfl ?_); refine bx 9 #[.int .i64 0, .slice none 0 0] 26 ?_; intro gbq1o hg w27 hbox hb; have BKq1o := aQ (hbox); have GWq1o := gB HB hg; have GEq1o := gB HB hg; have GEq1o_D1 := gB D1 hg; have GEq1o_D2 := gB D2 hg; replace HB := bs HB hb; replace D1 := bs D1 hb; replace D2 := bs D2 hb; have NBq1j_q1o := nl BKq1j hg; have NBq1o_q1j := ng BKq1j hg; replace BKq1j := bb BKq1j hb; clear hb hbox hg; have hnb28 := NBq1o_q1j.out; have hnc28 := NBq1j_q1o.out; obtain ⟨hcz29_0, hcz29_1, hfz29_0, hfz29_1⟩ := c2 BKq1o) | ((with_reducible refine bi (f := 28) rfl ?_); refine gl (some 68) Tryz.func28 #[.agg #[.int .i64 tqh, .slice Ao30 tq10.length co30], .slice Ao31 tq11.length co31, .int .i64 tq12] ?_; (with_reducible refine (cy.calls k tqh _ _ tq10 _ _ tq11 tq12 tqi tq13 _ ?side1 ?side2 ?side3 ?side4 A8.out).mono ?_); (case side1 => exact rC HOq1m); (case side2 => exact HOq1m.out.1); (case side3 => exact rC HOq1n); (case side4 => exact HOq1n.out.1); rintro e w32 ⟨rfl, hb⟩; refine ⟨_, rfl, ?_⟩; replace BKq1j := aQ (bq (g := gbq1j) (o := .cells #[.int .i64 tqe, .slice Ao21 tqw.length co21] 26 (0, 0)) (by refine pkx ?_; refine aU ?_ NBq1j_q1o.out _; refine pkx ?_; refine aU ?_ NBq1j_q1o.out _; refine pkx ?_; exact BKq1j.out) hb); replace BKq1o := aQ (bq (g := gbq1o) (o := .cells #[.int .i64 tqh, .slice Ao30 tq10.length co30] 26 (0, 0)) (by refine pkx ?_; refine al (cs := #[.int .i64 tqh, .slice none 0 0]) ?_ 1 _ rfl; refine pkx ?_; refine al (cs := #[.int .i64 0, .slice none 0 0]) ?_ 0 _ rfl; refine pkx ?_; exact BKq1o.out) hb); replace HB := bs HB hb; replace D1 := bs D1 hb; replace D2 := bs D2 hb; (try clear hb); (try clear hk); obtain ⟨hcz33_0, hcz33_1, hfz33_0, hfz33_1⟩ := c2 BKq1o) | ((with_reducible refine bi (f := 29) rfl ?_); refine gl (some 75) Tryz.func29 #[.agg #[.int .i64 tqh, .slice Ao30 tq10.length co30], .slice Ao31 tq11.length co31, .int .i64 tq12] ?_; (with_reducible refine (aE.calls k tqh _ _ tq10 _ _ tq11 tq12 tqj tq14 _ ?side1 ?side2 ?side3 ?side4 A9.out).mono ?_); (case side1 => exact rC HOq1m); (case side2 => exact HOq1m.out.1); (case side3 => exact rC HOq1n); (case side4 => exact HOq1n.out.1); rintro e w34 ⟨rfl, hb⟩; refine ⟨_, rfl, ?_⟩; replace BKq1j := bb BKq1j hb; replace BKq1o := bb BKq1o hb; replace HB := bs HB hb; replace D1 := bs D1 hb; replace D2 := bs D2 hb; (try clear hb)) | ((with_reducible refine bi (f := 30) rfl ?_); refine gl (some 80) Tryz.func30 #[.slice A0 l0.length c0] ?_; (with_reducible refine (bd.calls k _ _ l0 tqk tq15 tq16 tq17 _ ?side1 ?side2 A10.out).mono ?_); (case side1 => exact pC (Kd.C_below HR0.out HB.out)); (case side2 => exact HC0.out); rintro e w35 ⟨vq1p, vq1q, rfl, ho0, ho1, hb⟩; refine ⟨_, rfl, ?_⟩; obtain ⟨Ao40, co40, rfl, HOq1r⟩ := rwe ho0; obtain ⟨Ao41, co41, rfl, HOq1s⟩ := rwe ho1; replace BKq1j := bb BKq1j hb; replace BKq1o := bb BKq1o hb; replace HB := bs HB hb; replace D1 := bs D1 hb; replace D2 := bs D2 hb; (try clear hb); have D3 := bz w35) | ((with_reducible refine af (N := 16) rfl ?_); refine bx 16 #[.int .i64 0, .slice none 0 0] 26 ?_; intro gbq1t hg w36 hbox hb; have BKq1t := aQ (hbox); have GWq1t := gB HB hg; have GEq1t := gB HB hg; have GEq1t_D1 := gB D1 hg; have GEq1t_D2 := gB D2 hg; have GEq1t_D3 := gB D3 hg; replace HB := bs HB hb; replace D1 := bs D1 hb; replace D2 := bs D2 hb; replace D3 := bs D3 hb; have NBq1j_q1t := nl BKq1j hg; have NBq1t_q1j := ng BKq1j hg; replace BKq1j := bb BKq1j hb; have NBq1o_q1t := nl BKq1o hg; have NBq1t_q1o := ng BKq1o hg; replace BKq1o := bb BKq1o hb; clear hb hbox hg; have hnb37 := NBq1t_q1j.out; have hnc37 := NBq1j_q1t.out; have hnb38 := NBq1t_q1o.out; have hnc38 := NBq1o_q1t.out; obtain ⟨hcz39_0, hcz39_1, hfz39_0, hfz39_1⟩ := c2 BKq1t) | ((with_reducible refine bi (f := 31) rfl ?_); refine gl (some 87) Tryz.func31 #[.agg #[.int .i64 tqk, .slice Ao40 tq15.length co40], .slice Ao41 tq16.length co41, .int .i64 tq17] ?_; (with_reducible refine (ap.calls k tqk _ _ tq15 _ _ tq16 tq17 tql _ ?side1 ?side2 ?side3 ?side4 A11.out).mono ?_); (case side1 => exact rC HOq1r); (case side2 => exact HOq1r.out.1); (case side3 => exact rC HOq1s); (case side4 => exact HOq1s.out.1); rintro e w42 ⟨rfl, hb⟩; refine ⟨_, rfl, ?_⟩; replace BKq1j := aQ (bq (g := gbq1j) (o := .cells #[.int .i64 tqe, .slice Ao21 tqw.length co21] 26 (0, 0)) (by refine pkx ?_; refine aU ?_ NBq1j_q1t.out _; refine pkx ?_; refine aU ?_ NBq1j_q1t.out _; refine pkx ?_; exact BKq1j.out) hb); replace BKq1o := aQ (bq (g := gbq1o) (o := .cells #[.int .i64 tqh, .slice Ao30 tq10.length co30] 26 (0, 0)) (by refine pkx ?_; refine aU ?_ NBq1o_q1t.out _; refine pkx ?_; refine aU ?_ NBq1o_q1t.out _; refine pkx ?_; exact BKq1o.out) hb); replace BKq1t := aQ (bq (g := gbq1t) (o := .cells #[.int .i64 tqk, .slice Ao40 tq15.length co40] 26 (0, 0)) (by refine pkx ?_; refine al (cs := #[.int .i64 tqk, .slice none 0 0]) ?_ 1 _ rfl; refine pkx ?_; refine al (cs := #[.int .i64 0, .slice none 0 0]) ?_ 0 _ rfl; refine pkx ?_; exact BKq1t.out) hb); replace HB := bs HB hb; replace D1 := bs D1 hb; replace D2 := bs D2 hb; replace D3 := bs D3 hb; (try clear hb); (try clear hk)) | ((with_reducible refine bi (f := 32) rfl ?_); refine gl (some 90) Tryz.func32 #[.slice A0 l0.length c0] ?_; (with_reducible refine (bY.calls k _ _ l0 tqm tq18 tq19 tq1a _ ?side1 ?side2 A12.out).mono ?_); (case side1 => exact pC (Kd.C_below HR0.out HB.out)); (case side2 => exact HC0.out); rintro e w43 ⟨vq1u, vq1v, rfl, ho0, ho1, hb⟩; refine ⟨_, rfl, ?_⟩; obtain ⟨Ao49, co49, rfl, HOq1w⟩ := rwe ho0; obtain ⟨Ao50, co50, rfl, HOq1x⟩ := rwe ho1; replace BKq1j := bb BKq1j hb; replace BKq1o := bb BKq1o hb; replace BKq1t := bb BKq1t hb; replace HB := bs HB hb; replace D1 := bs D1 hb; replace D2 := bs D2 hb; replace D3 := bs D3 hb; (try clear hb); have D4 := bz w43) | ((with_reducible refine af (N := 20) rfl ?_); refine bx 20 #[.int .i64 0, .slice none 0 0] 26 ?_; intro gbq1y hg w44 hbox hb; have BKq1y := aQ (hbox); have GWq1y := gB HB hg; have GEq1y := gB HB hg; have GEq1y_D1 := gB D1 hg; have GEq1y_D2 := gB D2 hg; have GEq1y_D3 := gB D3 hg; have GEq1y_D4 := gB D4 hg; replace HB := bs HB hb; replace D1 := bs D1 hb; replace D2 := bs D2 hb; replace D3 := bs D3 hb; replace D4 := bs D4 hb; have NBq1j_q1y := nl BKq1j hg; have NBq1y_q1j := ng BKq1j hg; replace BKq1j := bb BKq1j hb; have NBq1o_q1y := nl BKq1o hg; have NBq1y_q1o := ng BKq1o hg; replace BKq1o := bb BKq1o hb; have NBq1t_q1y := nl BKq1t hg; have NBq1y_q1t := ng BKq1t hg; replace BKq1t := bb BKq1t hb; clear hb hbox hg; have hnb45 := NBq1y_q1j.out; have hnc45 := NBq1j_q1y.out; have hnb46 := NBq1y_q1o.out; have hnc46 := NBq1o_q1y.out; have hnb47 := NBq1y_q1t.out; have hnc47 := NBq1t_q1y.out; obtain ⟨hcz48_0, hcz48_1, hfz48_0, hfz48_1⟩ := c2 BKq1y) | ((with_reducible refine bi (f := 33) rfl ?_); refine gl (some 98) Tryz.func33 #[.agg #[.int .i64 tqm, .slice Ao49 tq18.length co49], .slice Ao50 tq19.length co50, .int .i64 tq1a] ?_; (with_reducible refine (ai.calls k tqm _ _ tq18 _ _ tq19 tq1a tqn tq1b _ ?side1 ?side2 ?side3 ?side4 A13.out).mono ?_); (case side1 => exact rC HOq1w); (case side2 => exact HOq1w.out.1); (case side3 => exact rC HOq1x); (case side4 => exact HOq1x.out.1); rintro e w51 ⟨rfl, hb⟩; refine ⟨_, rfl, ?_⟩; replace BKq1j := aQ (bq (g := gbq1j) (o := .cells #[.int .i64 tqe, .slice Ao21 tqw.length co21] 26 (0, 0)) (by refine pkx ?_; refine aU ?_ NBq1j_q1y.out _; refine pkx ?_; refine aU ?_ NBq1j_q1y.out _; refine pkx ?_; exact BKq1j.out) hb); replace BKq1o := aQ (bq (g := gbq1o) (o := .cells #[.int .i64 tqh, .slice Ao30 tq10.length co30] 26 (0, 0)) (by refine pkx ?_; refine aU ?_ NBq1o_q1y.out _; refine pkx ?_; refine aU ?_ NBq1o_q1y.out _; refine pkx ?_; exact BKq1o.out) hb); replace BKq1t := aQ (bq (g := gbq1t) (o := .cells #[.int .i64 tqk, .slice Ao40 tq15.length co40] 26 (0, 0)) (by refine pkx ?_; refine aU ?_ NBq1t_q1y.out _; refine pkx ?_; refine aU ?_ NBq1t_q1y.out _; refine pkx ?_; exact BKq1t.out) hb); replace BKq1y := aQ (bq (g := gbq1y) (o := .cells #[.int .i64 tqm, .slice Ao49 tq18.length co49] 26 (0, 0)) (by refine pkx ?_; refine al (cs := #[.int .i64 tqm, .slice none 0 0]) ?_ 1 _ rfl; refine pkx ?_; refine al (cs := #[.int .i64 0, .slice none 0 0]) ?_ 0 _ rfl; refine pkx ?_; exact BKq1y.out) hb); replace HB := bs HB hb; replace D1 := bs D1 hb; replace D2 := bs D2 hb; replace D3 := bs D3 hb; replace D4 := bs D4 hb; (try clear hb); (try clear hk); obtain ⟨hcz52_0, hcz52_1, hfz52_0, hfz52_1⟩ := c2 BKq1y) | ((with_reducible refine bi (f := 34) rfl ?_); refine gl (some 105) Tryz.func34 #[.agg #[.int .i64 tqm, .slice Ao49 tq18.length co49], .slice Ao50 tq19.length co50, .int .i64 tq1a] ?_; (with_reducible refine (aq.calls k tqm _ _ tq18 _ _ tq19 tq1a tqo tq1c _ ?side1 ?side2 ?side3 ?side4 A14.out).mono ?_); (case side1 => exact rC HOq1w); (case side2 => exact HOq1w.out.1); (case side3 => exact rC HOq1x); (case side4 => exact HOq1x.out.1); rintro e w53 ⟨rfl, hb⟩; refine ⟨_, rfl, ?_⟩; replace BKq1j := bb BKq1j hb; replace BKq1o := bb BKq1o hb; replace BKq1t := bb BKq1t hb; replace BKq1y := bb BKq1y hb; replace HB := bs HB hb; replace D1 := bs D1 hb; replace D2 := bs D2 hb; replace D3 := bs D3 hb; replace D4 := bs D4 hb; (try clear hb)) | ((with_reducible refine bi (f := 35) rfl ?_); refine gl (some 110) Tryz.func35 #[.slice A0 l0.length c0] ?_; (with_reducible refine (cd.calls k _ _ l0 tqp tq1d _ ?side1 ?side2 A15.out).mono ?_); (case side1 => exact pC (Kd.C_below HR0.out HB.out)); (case side2 => exact HC0.out); rintro e w54 ⟨vq1z, rfl, ho0, hb⟩; refine ⟨_, rfl, ?_⟩; obtain ⟨Ao90, co90, rfl, HOq20⟩ := rwe ho0; replace BKq1j := bb BKq1j hb; replace BKq1o := bb BKq1o hb; replace BKq1t := bb BKq1t hb; replace BKq1y := bb BKq1y hb; replace HB := bs HB hb; replace D1 := bs D1 hb; replace D2 := bs D2 hb; replace D3 := bs D3 hb; replace D4 := bs D4 hb; (try clear hb); have D5 := bz w54) | ((with_reducible refine bi (f := 36) rfl ?_); refine gl (some 115) Tryz.func36 #[.slice A0 l0.length c0] ?_; (with_reducible refine (cl.calls k _ _ l0 tqq tq1e _ ?side1 ?side2 A16.out).mono ?_); (case side1 => exact pC (Kd.C_below HR0.out HB.out)); (case side2 => exact HC0.out); rintro e w55 ⟨vq21, rfl, ho0, hb⟩; refine ⟨_, rfl, ?_⟩; obtain ⟨Ao91, co91, rfl, HOq22⟩ := rwe ho0; replace BKq1j := bb BKq1j hb; replace BKq1o := bb BKq1o hb; replace BKq1t := bb BKq1t hb; replace BKq1y := bb BKq1y hb; replace HB := bs HB hb; replace D1 := bs D1 hb; replace D2 := bs D2 hb; replace D3 := bs D3 hb; replace D4 := bs D4 hb; replace D5 := bs D5 hb; (try clear hb); have D6 := bz w55))
  (try simp only [Act.put, List.setIfInBounds_toArray, List.set_cons_zero, List.set_cons_succ])
  go_cut [171] (fun v171 wc => ∃ (kq : Nat) (x171_16 : Bool), v171 = .bool x171_16 ∧ Aside0 (laws_FnGreedy.j0 kq tqx tqf tqy tq16 tq17 tql tq19 tq1a tqn tq1b x171_16 tqe tqw tqk tq15 tqm tq18 = some true) ∧ Aside0 (kq ≤ k) ∧ Aside0 (wc.heap[gbq1j]? = some (.cells #[.int .i64 tqe, (.slice Ao21 tqw.length co21)] 26 (0, 0))) ∧ Aside0 (wc.heap[gbq1o]? = some (.cells #[.int .i64 tqh, (.slice Ao30 tq10.length co30)] 26 (0, 0))) ∧ Aside0 (wc.heap[gbq1t]? = some (.cells #[.int .i64 tqk, (.slice Ao40 tq15.length co40)] 26 (0, 0))) ∧ Aside0 (wc.heap[gbq1y]? = some (.cells #[.int .i64 tqm, (.slice Ao49 tq18.length co49)] 26 (0, 0))) ∧ Aside0 (Below w18.heap.size w18 wc) ∧ Aside0 (Below w26.heap.size w26 wc) ∧ Aside0 (Below w35.heap.size w35 wc) ∧ Aside0 (Below w43.heap.size w43 wc) ∧ Aside0 (Below w54.heap.size w54 wc) ∧ Aside0 (Below w55.heap.size w55 wc) ∧ Aside0 (Below w.heap.size w wc))
  case first =>
   as_aux_lemma =>
   have H := HC17.out
   clear HC17
   by_cases c56 : (tqy != tqz) = true
   ·rw [if_pos c56] at H
    have c56b0 : (tqy != tqz) = true := c56
    (try (have c56b1 : decide (tqy = tqz) = false := by simpa using c56))
    (try (have c56b2 : (tqy == tqz) = false := by simpa using c56))
    (try (have c56b3 : ¬ (tqy = tqz) := by simpa using c56))
    clear c56
    (first | rw [c56b0] | (simp only [i64_w, cI]; rw [c56b0]) | skip)
    exact absurd H (by cases k <;> simp [laws_FnGreedy.j0])
   ·rw [if_neg c56] at H
    have c56b0 : (tqy != tqz) = false := by simpa using c56
    (try (have c56b1 : decide (tqy = tqz) = true := by simpa using c56))
    (try (have c56b2 : (tqy == tqz) = true := by simpa using c56))
    clear c56
    (first | rw [c56b0] | (simp only [i64_w, cI]; rw [c56b0]) | skip)
    by_cases c57 : tqf = tqg
    ·rw [if_pos c57] at H
     have c57b0 : (tqf == tqg) = true := beq_iff_eq.mpr c57
     have c57b1 : (tqf != tqg) = false := bne_eq_false_iff_eq.mpr c57
     clear c57
     by_cases c58 : (tq13 != tq14) = true
     ·rw [if_pos c58] at H
      have c58b0 : (tq13 != tq14) = true := c58
      (try (have c58b1 : decide (tq13 = tq14) = false := by simpa using c58))
      (try (have c58b2 : (tq13 == tq14) = false := by simpa using c58))
      (try (have c58b3 : ¬ (tq13 = tq14) := by simpa using c58))
      clear c58
      exact absurd H (by cases k <;> simp [laws_FnGreedy.j0])
     ·rw [if_neg c58] at H
      have c58b0 : (tq13 != tq14) = false := by simpa using c58
      (try (have c58b1 : decide (tq13 = tq14) = true := by simpa using c58))
      (try (have c58b2 : (tq13 == tq14) = true := by simpa using c58))
      clear c58
      by_cases c59 : tqi = tqj
      ·rw [if_pos c59] at H
       have c59b0 : (tqi == tqj) = true := beq_iff_eq.mpr c59
       have c59b1 : (tqi != tqj) = false := bne_eq_false_iff_eq.mpr c59
       clear c59
       replace H := bo H; obtain ⟨tqr, A60, H⟩ := H
       (try dsimp only at H)
       by_cases c61 : (tql != tqr) = true
       ·rw [if_pos c61] at H
        have c61b0 : (tql != tqr) = true := c61
        (try (have c61b1 : decide (tql = tqr) = false := by simpa using c61))
        (try (have c61b2 : (tql == tqr) = false := by simpa using c61))
        (try (have c61b3 : ¬ (tql = tqr) := by simpa using c61))
        clear c61
        exact absurd H (by cases k <;> simp [laws_FnGreedy.j0])
       ·rw [if_neg c61] at H
        have c61b0 : (tql != tqr) = false := by simpa using c61
        (try (have c61b1 : decide (tql = tqr) = true := by simpa using c61))
        (try (have c61b2 : (tql == tqr) = true := by simpa using c61))
        clear c61
        by_cases c67 : (tq1b != tq1c) = true
        ·rw [if_pos c67] at H
         have c67b0 : (tq1b != tq1c) = true := c67
         (try (have c67b1 : decide (tq1b = tq1c) = false := by simpa using c67))
         (try (have c67b2 : (tq1b == tq1c) = false := by simpa using c67))
         (try (have c67b3 : ¬ (tq1b = tq1c) := by simpa using c67))
         clear c67
         exact absurd H (by cases k <;> simp [laws_FnGreedy.j0])
        ·rw [if_neg c67] at H
         have c67b0 : (tq1b != tq1c) = false := by simpa using c67
         (try (have c67b1 : decide (tq1b = tq1c) = true := by simpa using c67))
         (try (have c67b2 : (tq1b == tq1c) = true := by simpa using c67))
         clear c67
         by_cases c73 : tqn = tqo
         ·rw [if_pos c73] at H
          have c73b0 : (tqn == tqo) = true := beq_iff_eq.mpr c73
          have c73b1 : (tqn != tqo) = false := bne_eq_false_iff_eq.mpr c73
          clear c73
          replace H := bo H; obtain ⟨tqs, A74, H⟩ := H
          (try dsimp only at H)
          replace H := bo H; obtain ⟨tqt, A75, H⟩ := H
          (try dsimp only at H)
          by_cases c76 : (tqs != tqt) = true
          ·rw [if_pos c76] at H
           have c76b0 : (tqs != tqt) = true := c76
           (try (have c76b1 : decide (tqs = tqt) = false := by simpa using c76))
           (try (have c76b2 : (tqs == tqt) = false := by simpa using c76))
           (try (have c76b3 : ¬ (tqs = tqt) := by simpa using c76))
           clear c76
           exact absurd H (by cases k <;> simp [laws_FnGreedy.j0])
          ·rw [if_neg c76] at H
           have c76b0 : (tqs != tqt) = false := by simpa using c76
           (try (have c76b1 : decide (tqs = tqt) = true := by simpa using c76))
           (try (have c76b2 : (tqs == tqt) = true := by simpa using c76))
           clear c76
           replace H := bo H; obtain ⟨tqu, A83, H⟩ := H
           (try dsimp only at H)
           replace H := bo H; obtain ⟨tqv, A84, H⟩ := H
           (try dsimp only at H)
           as_aux_lemma =>
           have H' := aQ H
           clear H
           have hnb85 := NBq1t_q1j.out
           have hnc85 := NBq1j_q1t.out
           have hnb86 := NBq1t_q1o.out
           have hnc86 := NBq1o_q1t.out
           have hnb87 := NBq1t_q1y.out
           have hnc87 := NBq1y_q1t.out
           obtain ⟨hcz88_0, hcz88_1, hfz88_0, hfz88_1⟩ := c2 BKq1t
           go_wp2_with (first | (go_at_call 37; (with_reducible refine (aI.calls k tqk _ _ tq15 _ _ tq16 tq17 tqr _ ?side1 ?side2 ?side3 ?side4 A60.out).mono ?_); (case side1 => exact rC HOq1r); (case side2 => exact HOq1r.out.1); (case side3 => exact rC HOq1s); (case side4 => exact HOq1s.out.1); rintro e w89 ⟨rfl, hb⟩; replace BKq1j := bb BKq1j hb; replace BKq1o := bb BKq1o hb; replace BKq1t := bb BKq1t hb; replace BKq1y := bb BKq1y hb; replace HB := bs HB hb; replace D1 := bs D1 hb; replace D2 := bs D2 hb; replace D3 := bs D3 hb; replace D4 := bs D4 hb; replace D5 := bs D5 hb; replace D6 := bs D6 hb; (try clear hb)) | (go_at_call 38; (with_reducible refine (aV.calls k tqp _ _ tq1d tqs _ ?side1 ?side2 A74.out).mono ?_); (case side1 => exact rC HOq20); (case side2 => exact HOq20.out.1); rintro e w' ⟨rfl, ⟨nd, rfl⟩⟩) | (go_at_call 39; (with_reducible refine (aA.calls k tqp _ _ tq1d tqt _ ?side1 ?side2 A75.out).mono ?_); (case side1 => exact rC HOq20); (case side2 => exact HOq20.out.1); rintro e w' ⟨rfl, ⟨nd, rfl⟩⟩) | (go_at_call 40; (with_reducible refine (a6.calls k _ _ tqq tq1e tqu _ ?side1 ?side2 A83.out).mono ?_); (case side1 => exact rC HOq22); (case side2 => exact HOq22.out.1); rintro e w92 ⟨rfl, hb⟩; replace BKq1j := bb BKq1j hb; replace BKq1o := bb BKq1o hb; replace BKq1t := bb BKq1t hb; replace BKq1y := bb BKq1y hb; replace HB := bs HB hb; replace D1 := bs D1 hb; replace D2 := bs D2 hb; replace D3 := bs D3 hb; replace D4 := bs D4 hb; replace D5 := bs D5 hb; replace D6 := bs D6 hb; (try clear hb)) | (go_at_call 23; (with_reducible refine (am.calls k _ _ tqq tq1e tqv _ ?side1 ?side2 A84.out).mono ?_); (case side1 => exact rC HOq22); (case side2 => exact HOq22.out.1); rintro e w' ⟨rfl, ⟨nd, rfl⟩⟩))
           go_meet
           case rel => exact ⟨_, ((tqu != tqv)), rs_, H', ⟨by first | omega | exact Nat.le_refl _⟩, ⟨pk BKq1j.out⟩, ⟨pk BKq1o.out⟩, ⟨pk BKq1t.out⟩, ⟨pk BKq1y.out⟩, ⟨pb D1⟩, ⟨pb D2⟩, ⟨pb D3⟩, ⟨pb D4⟩, ⟨pb D5⟩, ⟨pb D6⟩, ⟨pB4 HB.out GEq1j.out GEq1o.out GEq1t.out GEq1y.out⟩⟩
         ·rw [if_neg c73] at H
          have c73b0 : (tqn == tqo) = false := beq_eq_false_iff_ne.mpr c73
          have c73b1 : (tqn != tqo) = true := bne_iff_ne.mpr c73
          exact absurd H (by cases k <;> simp [laws_FnGreedy.j0])
      ·rw [if_neg c59] at H
       have c59b0 : (tqi == tqj) = false := beq_eq_false_iff_ne.mpr c59
       have c59b1 : (tqi != tqj) = true := bne_iff_ne.mpr c59
       exact absurd H (by cases k <;> simp [laws_FnGreedy.j0])
    ·rw [if_neg c57] at H
     have c57b0 : (tqf == tqg) = false := beq_eq_false_iff_ne.mpr c57
     have c57b1 : (tqf != tqg) = true := bne_iff_ne.mpr c57
     exact absurd H (by cases k <;> simp [laws_FnGreedy.j0])
  case rest =>
   as_aux_lemma =>
   clear HC17
   try clear c2
   try clear c3
   try clear hcz20_0
   try clear hcz20_1
   try clear hcz24_0
   try clear hcz24_1
   try clear hcz29_0
   try clear hcz29_1
   try clear hcz33_0
   try clear hcz33_1
   try clear hcz39_0
   try clear hcz39_1
   try clear hcz48_0
   try clear hcz48_1
   try clear hcz52_0
   try clear hcz52_1
   try clear hfz20_0
   try clear hfz20_1
   try clear hfz24_0
   try clear hfz24_1
   try clear hfz29_0
   try clear hfz29_1
   try clear hfz33_0
   try clear hfz33_1
   try clear hfz39_0
   try clear hfz39_1
   try clear hfz48_0
   try clear hfz48_1
   try clear hfz52_0
   try clear hfz52_1
   obtain ⟨kq, x171_16, rfl, HA, HJ16, BKq1j, BKq1o, BKq1t, BKq1y, D1, D2, D3, D4, D5, D6, HB⟩ := hcut
   as_aux_lemma =>
   cases kq with
   | zero => exact absurd HA.out (by simp [laws_FnGreedy.j0])
   | succ kj16 =>
    have H := HA.out
    clear HA
    simp only [laws_FnGreedy.j0] at H
    by_cases c98 : x171_16 = true
    ·subst c98
     rw [if_pos rfl] at H
     exact absurd (Option.some.inj H) (by decide)
    ·replace c98 := Bool.eq_false_iff.mpr c98
     subst c98
     have H1 : (laws_FnGreedy.l0 kj16 tqx tqf tqy tq16 tq17 tql tq19 tq1a tqn tq1b 0 false 0 tqe tqw tqk tq15 tqm tq18) = some true := by rw [if_neg (show ¬ (false = true) by decide)] at H; exact H
     clear H
     have H := H1
     clear H1
     as_aux_lemma =>
     have H' := aQ H
     clear H
     go_wp2
     go_loopg [33] kj16 (fun kq v33 w' => ∃ (x33_2 : Int), v33 = .int .i64 x33_2 ∧ Aside0 (laws_FnGreedy.l0 kq tqx tqf tqy tq16 tq17 tql tq19 tq1a tqn tq1b 0 false x33_2 tqe tqw tqk tq15 tqm tq18 = some true) ∧ Aside0 (kq ≤ kj16) ∧ Aside0 (w'.heap[gbq1j]? = some (.cells #[.int .i64 tqe, (.slice Ao21 tqw.length co21)] 26 (0, 0))) ∧ Aside0 (w'.heap[gbq1o]? = some (.cells #[.int .i64 tqh, (.slice Ao30 tq10.length co30)] 26 (0, 0))) ∧ Aside0 (w'.heap[gbq1t]? = some (.cells #[.int .i64 tqk, (.slice Ao40 tq15.length co40)] 26 (0, 0))) ∧ Aside0 (w'.heap[gbq1y]? = some (.cells #[.int .i64 tqm, (.slice Ao49 tq18.length co49)] 26 (0, 0))) ∧ Aside0 (Below w18.heap.size w18 w') ∧ Aside0 (Below w26.heap.size w26 w') ∧ Aside0 (Below w35.heap.size w35 w') ∧ Aside0 (Below w43.heap.size w43 w') ∧ Aside0 (Below w54.heap.size w54 w') ∧ Aside0 (Below w55.heap.size w55 w') ∧ Aside0 (Below w.heap.size w w'))
     case atStart => exact ⟨(0), rs_, H', ⟨Nat.le_refl _⟩, ⟨pk BKq1j.out⟩, ⟨pk BKq1o.out⟩, ⟨pk BKq1t.out⟩, ⟨pk BKq1y.out⟩, ⟨pb D1⟩, ⟨pb D2⟩, ⟨pb D3⟩, ⟨pb D4⟩, ⟨pb D5⟩, ⟨pb D6⟩, ⟨pB4 HB.out GEq1j.out GEq1o.out GEq1t.out GEq1y.out⟩⟩
     clear H'
     try clear c2
     try clear c3
     try clear c98
     try clear hcz20_0
     try clear hcz20_1
     try clear hcz24_0
     try clear hcz24_1
     try clear hcz29_0
     try clear hcz29_1
     try clear hcz33_0
     try clear hcz33_1
     try clear hcz39_0
     try clear hcz39_1
     try clear hcz48_0
     try clear hcz48_1
     try clear hcz52_0
     try clear hcz52_1
     try clear hfz20_0
     try clear hfz20_1
     try clear hfz24_0
     try clear hfz24_1
     try clear hfz29_0
     try clear hfz29_1
     try clear hfz33_0
     try clear hfz33_1
     try clear hfz39_0
     try clear hfz39_1
     try clear hfz48_0
     try clear hfz48_1
     try clear hfz52_0
     try clear hfz52_1
     obtain ⟨x33_2, rfl, HA, HK2, BKq1j, BKq1o, BKq1t, BKq1y, D1, D2, D3, D4, D5, D6, HB⟩ := hrel
     as_aux_lemma =>
     rcases gk with _ | k2
     ·exact absurd HA.out (by simp [laws_FnGreedy.l0])
     have H := HA.out
     clear HA
     simp only [laws_FnGreedy.l0] at H
     have HC99 := aQ H
     clear H
     go_upto_region 21 with (fail)
     go_cut [179] (fun v179 wc => ∃ (kq : Nat) (x179_98 : Bool), v179 = .bool x179_98 ∧ Aside0 (laws_FnGreedy.j2 kq tqx tqf tqy tq16 tq17 tql tq19 tq1a tqn tq1b 0 false x33_2 x179_98 tqe tqw tqk tq15 tqm tq18 = some true) ∧ Aside0 (kq ≤ k2) ∧ Aside0 (wc.heap[gbq1j]? = some (.cells #[.int .i64 tqe, (.slice Ao21 tqw.length co21)] 26 (0, 0))) ∧ Aside0 (wc.heap[gbq1o]? = some (.cells #[.int .i64 tqh, (.slice Ao30 tq10.length co30)] 26 (0, 0))) ∧ Aside0 (wc.heap[gbq1t]? = some (.cells #[.int .i64 tqk, (.slice Ao40 tq15.length co40)] 26 (0, 0))) ∧ Aside0 (wc.heap[gbq1y]? = some (.cells #[.int .i64 tqm, (.slice Ao49 tq18.length co49)] 26 (0, 0))) ∧ Aside0 (Below w18.heap.size w18 wc) ∧ Aside0 (Below w26.heap.size w26 wc) ∧ Aside0 (Below w35.heap.size w35 wc) ∧ Aside0 (Below w43.heap.size w43 wc) ∧ Aside0 (Below w54.heap.size w54 wc) ∧ Aside0 (Below w55.heap.size w55 wc) ∧ Aside0 (Below w.heap.size w wc))
     case first =>
      as_aux_lemma =>
      have H := HC99.out
      clear HC99
      by_cases c100 : x33_2 < (tqw.length : Int)
      ·rw [if_pos c100] at H
       have c100b0 := decide_eq_true c100
       clear c100
       (first | rw [c100b0] | (simp only [i64_w, cI]; rw [c100b0]) | skip)
       as_aux_lemma =>
       have H' := aQ H
       clear H
       have hnb101 := NBq1j_q1o.out
       have hnc101 := NBq1o_q1j.out
       have hnb102 := NBq1j_q1t.out
       have hnc102 := NBq1t_q1j.out
       have hnb103 := NBq1j_q1y.out
       have hnc103 := NBq1y_q1j.out
       obtain ⟨hcz104_0, hcz104_1, hfz104_0, hfz104_1⟩ := c2 BKq1j
       go_wp2
       go_meet
       case rel => exact ⟨_, (tqy), rs_, H', ⟨by have := HJ16.out; have := HK2.out; first | omega | exact Nat.le_refl _⟩, ⟨pk BKq1j.out⟩, ⟨pk BKq1o.out⟩, ⟨pk BKq1t.out⟩, ⟨pk BKq1y.out⟩, ⟨pb D1⟩, ⟨pb D2⟩, ⟨pb D3⟩, ⟨pb D4⟩, ⟨pb D5⟩, ⟨pb D6⟩, ⟨pB4 HB.out GEq1j.out GEq1o.out GEq1t.out GEq1y.out⟩⟩
      ·rw [if_neg c100] at H
       have c100b0 := decide_eq_false c100
       clear c100
       (first | rw [c100b0] | (simp only [i64_w, cI]; rw [c100b0]) | skip)
       as_aux_lemma =>
       have H' := aQ H
       clear H
       have hnb105 := NBq1j_q1o.out
       have hnc105 := NBq1o_q1j.out
       have hnb106 := NBq1j_q1t.out
       have hnc106 := NBq1t_q1j.out
       have hnb107 := NBq1j_q1y.out
       have hnc107 := NBq1y_q1j.out
       obtain ⟨hcz108_0, hcz108_1, hfz108_0, hfz108_1⟩ := c2 BKq1j
       go_wp2
       go_meet
       case rel => exact ⟨_, (false), rs_, H', ⟨by have := HJ16.out; have := HK2.out; first | omega | exact Nat.le_refl _⟩, ⟨pk BKq1j.out⟩, ⟨pk BKq1o.out⟩, ⟨pk BKq1t.out⟩, ⟨pk BKq1y.out⟩, ⟨pb D1⟩, ⟨pb D2⟩, ⟨pb D3⟩, ⟨pb D4⟩, ⟨pb D5⟩, ⟨pb D6⟩, ⟨pB4 HB.out GEq1j.out GEq1o.out GEq1t.out GEq1y.out⟩⟩
     case rest =>
      as_aux_lemma =>
      clear HC99
      try clear c2
      try clear c3
      try clear c98
      try clear hcz20_0
      try clear hcz20_1
      try clear hcz24_0
      try clear hcz24_1
      try clear hcz29_0
      try clear hcz29_1
      try clear hcz33_0
      try clear hcz33_1
      try clear hcz39_0
      try clear hcz39_1
      try clear hcz48_0
      try clear hcz48_1
      try clear hcz52_0
      try clear hcz52_1
      try clear hfz20_0
      try clear hfz20_1
      try clear hfz24_0
      try clear hfz24_1
      try clear hfz29_0
      try clear hfz29_1
      try clear hfz33_0
      try clear hfz33_1
      try clear hfz39_0
      try clear hfz39_1
      try clear hfz48_0
      try clear hfz48_1
      try clear hfz52_0
      try clear hfz52_1
      obtain ⟨kq, x179_98, rfl, HA, HJ98, BKq1j, BKq1o, BKq1t, BKq1y, D1, D2, D3, D4, D5, D6, HB⟩ := hcut
      as_aux_lemma =>
      cases kq with
      | zero => exact absurd HA.out (by simp [laws_FnGreedy.j2])
      | succ kj98 =>
       have H := HA.out
       clear HA
       simp only [laws_FnGreedy.j2] at H
       by_cases c109 : x179_98 = true
       ·subst c109
        rw [if_pos rfl] at H
        replace H := gd H; obtain ⟨c110, H⟩ := H
        have c110b0 := decide_eq_true c110
        clear c110
        replace H := gd H; obtain ⟨c111, H⟩ := H
        have c111b0 := decide_eq_true c111
        clear c111
        replace H := bo H; obtain ⟨tq0, A112, H⟩ := H
        (try dsimp only at H)
        replace H := bo H; obtain ⟨tq1, A113, H⟩ := H
        (try dsimp only at H)
        by_cases c114 : tq0 > tq1
        ·rw [if_pos c114] at H
         have c114b0 := decide_eq_true c114
         clear c114
         exact absurd (Option.some.inj H) (by decide)
        ·rw [if_neg c114] at H
         have c114b0 := decide_eq_false c114
         clear c114
         as_aux_lemma =>
         have H' := aQ H
         clear H
         have hnb119 := NBq1j_q1o.out
         have hnc119 := NBq1o_q1j.out
         have hnb120 := NBq1j_q1t.out
         have hnc120 := NBq1t_q1j.out
         have hnb121 := NBq1j_q1y.out
         have hnc121 := NBq1y_q1j.out
         obtain ⟨hcz122_0, hcz122_1, hfz122_0, hfz122_1⟩ := c2 BKq1j
         have pq23 : 0 ≤ (x33_2 : Int) := of_decide_eq_true as_
         have qq23 : x33_2 < (tqw.length : Int) := of_decide_eq_true as_
         obtain ⟨adq23, eq23, hxq23_0⟩ := Kd.at_int (rC HOq1h) x33_2 pq23 qq23
         cases eq23
         replace pq23 := eq_true pq23
         replace qq23 := eq_true qq23
         go_wp2_with (first | ((with_reducible refine bi (f := 23) rfl ?_); refine gl (some 188) Tryz.func23 #[.slice Ao22 tqx.length co22, .int .i64 (rd tqw x33_2)] ?_; (with_reducible refine (am.calls kj98 _ _ tqx (rd tqw x33_2) tq0 _ ?side1 ?side2 A112.out).mono ?_); (case side1 => exact rC HOq1i); (case side2 => exact HOq1i.out.1); rintro e w' ⟨rfl, ⟨nd, rfl⟩⟩; refine ⟨_, rfl, ?_⟩) | ((with_reducible refine bi (f := 23) rfl ?_); refine gl (some 191) Tryz.func23 #[.slice Ao22 tqx.length co22, .int .i64 tqf] ?_; (with_reducible refine (am.calls kj98 _ _ tqx tqf tq1 _ ?side1 ?side2 A113.out).mono ?_); (case side1 => exact rC HOq1i); (case side2 => exact HOq1i.out.1); rintro e w' ⟨rfl, ⟨nd, rfl⟩⟩; refine ⟨_, rfl, ?_⟩))
         go_roundg kj98
         case measure => have := HJ16.out; have := HK2.out; have := HJ98.out; omega
         case rel => exact ⟨(wrap64 (x33_2 + 1)), rs_, H', ⟨by have := HJ16.out; have := HK2.out; have := HJ98.out; omega⟩, ⟨pk BKq1j.out⟩, ⟨pk BKq1o.out⟩, ⟨pk BKq1t.out⟩, ⟨pk BKq1y.out⟩, ⟨pb D1⟩, ⟨pb D2⟩, ⟨pb D3⟩, ⟨pb D4⟩, ⟨pb D5⟩, ⟨pb D6⟩, ⟨pB4 HB.out GEq1j.out GEq1o.out GEq1t.out GEq1y.out⟩⟩
       ·replace c109 := Bool.eq_false_iff.mpr c109
        subst c109
        have H1 : (laws_FnGreedy.l1 kj98 tqx tqf tqy tq16 tq17 tql tq19 tq1a tqn tq1b 0 false 0 tqe tqw tqk tq15 tqm tq18) = some true := by rw [if_neg (show ¬ (false = true) by decide)] at H; exact H
        clear H
        have H := H1
        clear H1
        as_aux_lemma =>
        have H' := aQ H
        clear H
        go_wp2
        go_loopg [31, 34] kj98 (fun kq v31 v34 w' => ∃ (x31_4 : Int) (x34_4 : Int), v31 = .int .i64 x31_4 ∧ v34 = .int .i64 x34_4 ∧ Aside0 (laws_FnGreedy.l1 kq tqx tqf tqy tq16 tq17 tql tq19 tq1a tqn tq1b x31_4 false x34_4 tqe tqw tqk tq15 tqm tq18 = some true) ∧ Aside0 (kq ≤ kj98) ∧ Aside0 (w'.heap[gbq1j]? = some (.cells #[.int .i64 tqe, (.slice Ao21 tqw.length co21)] 26 (0, 0))) ∧ Aside0 (w'.heap[gbq1o]? = some (.cells #[.int .i64 tqh, (.slice Ao30 tq10.length co30)] 26 (0, 0))) ∧ Aside0 (w'.heap[gbq1t]? = some (.cells #[.int .i64 tqk, (.slice Ao40 tq15.length co40)] 26 (0, 0))) ∧ Aside0 (w'.heap[gbq1y]? = some (.cells #[.int .i64 tqm, (.slice Ao49 tq18.length co49)] 26 (0, 0))) ∧ Aside0 (Below w18.heap.size w18 w') ∧ Aside0 (Below w26.heap.size w26 w') ∧ Aside0 (Below w35.heap.size w35 w') ∧ Aside0 (Below w43.heap.size w43 w') ∧ Aside0 (Below w54.heap.size w54 w') ∧ Aside0 (Below w55.heap.size w55 w') ∧ Aside0 (Below w.heap.size w w'))
        case atStart => exact ⟨(0), (0), rs_, rs_, H', ⟨Nat.le_refl _⟩, ⟨pk BKq1j.out⟩, ⟨pk BKq1o.out⟩, ⟨pk BKq1t.out⟩, ⟨pk BKq1y.out⟩, ⟨pb D1⟩, ⟨pb D2⟩, ⟨pb D3⟩, ⟨pb D4⟩, ⟨pb D5⟩, ⟨pb D6⟩, ⟨pB4 HB.out GEq1j.out GEq1o.out GEq1t.out GEq1y.out⟩⟩
        clear H'
        try clear c2
        try clear c3
        try clear c98
        try clear c109
        try clear hcz20_0
        try clear hcz20_1
        try clear hcz24_0
        try clear hcz24_1
        try clear hcz29_0
        try clear hcz29_1
        try clear hcz33_0
        try clear hcz33_1
        try clear hcz39_0
        try clear hcz39_1
        try clear hcz48_0
        try clear hcz48_1
        try clear hcz52_0
        try clear hcz52_1
        try clear hfz20_0
        try clear hfz20_1
        try clear hfz24_0
        try clear hfz24_1
        try clear hfz29_0
        try clear hfz29_1
        try clear hfz33_0
        try clear hfz33_1
        try clear hfz39_0
        try clear hfz39_1
        try clear hfz48_0
        try clear hfz48_1
        try clear hfz52_0
        try clear hfz52_1
        obtain ⟨x31_4, x34_4, rfl, rfl, HA, HK4, BKq1j, BKq1o, BKq1t, BKq1y, D1, D2, D3, D4, D5, D6, HB⟩ := hrel
        as_aux_lemma =>
        rcases gk with _ | k4
        ·exact absurd HA.out (by simp [laws_FnGreedy.l1])
        have H := HA.out
        clear HA
        simp only [laws_FnGreedy.l1] at H
        have HC123 := aQ H
        clear H
        go_upto_region 26 with (fail)
        go_cut [200] (fun v200 wc => ∃ (kq : Nat) (x200_122 : Bool), v200 = .bool x200_122 ∧ Aside0 (laws_FnGreedy.j4 kq tqx tqf tqy tq16 tq17 tql tq19 tq1a tqn tq1b x31_4 false x34_4 x200_122 tqe tqw tqk tq15 tqm tq18 = some true) ∧ Aside0 (kq ≤ k4) ∧ Aside0 (wc.heap[gbq1j]? = some (.cells #[.int .i64 tqe, (.slice Ao21 tqw.length co21)] 26 (0, 0))) ∧ Aside0 (wc.heap[gbq1o]? = some (.cells #[.int .i64 tqh, (.slice Ao30 tq10.length co30)] 26 (0, 0))) ∧ Aside0 (wc.heap[gbq1t]? = some (.cells #[.int .i64 tqk, (.slice Ao40 tq15.length co40)] 26 (0, 0))) ∧ Aside0 (wc.heap[gbq1y]? = some (.cells #[.int .i64 tqm, (.slice Ao49 tq18.length co49)] 26 (0, 0))) ∧ Aside0 (Below w18.heap.size w18 wc) ∧ Aside0 (Below w26.heap.size w26 wc) ∧ Aside0 (Below w35.heap.size w35 wc) ∧ Aside0 (Below w43.heap.size w43 wc) ∧ Aside0 (Below w54.heap.size w54 wc) ∧ Aside0 (Below w55.heap.size w55 wc) ∧ Aside0 (Below w.heap.size w wc))
        case first =>
         as_aux_lemma =>
         have H := HC123.out
         clear HC123
         by_cases c124 : x34_4 < (tq18.length : Int)
         ·rw [if_pos c124] at H
          have c124b0 := decide_eq_true c124
          clear c124
          (first | rw [c124b0] | (simp only [i64_w, cI]; rw [c124b0]) | skip)
          as_aux_lemma =>
          have H' := aQ H
          clear H
          have hnb125 := NBq1y_q1j.out
          have hnc125 := NBq1j_q1y.out
          have hnb126 := NBq1y_q1o.out
          have hnc126 := NBq1o_q1y.out
          have hnb127 := NBq1y_q1t.out
          have hnc127 := NBq1t_q1y.out
          obtain ⟨hcz128_0, hcz128_1, hfz128_0, hfz128_1⟩ := c2 BKq1y
          go_wp2
          go_meet
          case rel => exact ⟨_, (tq1b), rs_, H', ⟨by have := HJ16.out; have := HK2.out; have := HJ98.out; have := HK4.out; first | omega | exact Nat.le_refl _⟩, ⟨pk BKq1j.out⟩, ⟨pk BKq1o.out⟩, ⟨pk BKq1t.out⟩, ⟨pk BKq1y.out⟩, ⟨pb D1⟩, ⟨pb D2⟩, ⟨pb D3⟩, ⟨pb D4⟩, ⟨pb D5⟩, ⟨pb D6⟩, ⟨pB4 HB.out GEq1j.out GEq1o.out GEq1t.out GEq1y.out⟩⟩
         ·rw [if_neg c124] at H
          have c124b0 := decide_eq_false c124
          clear c124
          (first | rw [c124b0] | (simp only [i64_w, cI]; rw [c124b0]) | skip)
          as_aux_lemma =>
          have H' := aQ H
          clear H
          have hnb129 := NBq1y_q1j.out
          have hnc129 := NBq1j_q1y.out
          have hnb130 := NBq1y_q1o.out
          have hnc130 := NBq1o_q1y.out
          have hnb131 := NBq1y_q1t.out
          have hnc131 := NBq1t_q1y.out
          obtain ⟨hcz132_0, hcz132_1, hfz132_0, hfz132_1⟩ := c2 BKq1y
          go_wp2
          go_meet
          case rel => exact ⟨_, (false), rs_, H', ⟨by have := HJ16.out; have := HK2.out; have := HJ98.out; have := HK4.out; first | omega | exact Nat.le_refl _⟩, ⟨pk BKq1j.out⟩, ⟨pk BKq1o.out⟩, ⟨pk BKq1t.out⟩, ⟨pk BKq1y.out⟩, ⟨pb D1⟩, ⟨pb D2⟩, ⟨pb D3⟩, ⟨pb D4⟩, ⟨pb D5⟩, ⟨pb D6⟩, ⟨pB4 HB.out GEq1j.out GEq1o.out GEq1t.out GEq1y.out⟩⟩
        case rest =>
         as_aux_lemma =>
         clear HC123
         try clear c2
         try clear c3
         try clear c98
         try clear c109
         try clear hcz20_0
         try clear hcz20_1
         try clear hcz24_0
         try clear hcz24_1
         try clear hcz29_0
         try clear hcz29_1
         try clear hcz33_0
         try clear hcz33_1
         try clear hcz39_0
         try clear hcz39_1
         try clear hcz48_0
         try clear hcz48_1
         try clear hcz52_0
         try clear hcz52_1
         try clear hfz20_0
         try clear hfz20_1
         try clear hfz24_0
         try clear hfz24_1
         try clear hfz29_0
         try clear hfz29_1
         try clear hfz33_0
         try clear hfz33_1
         try clear hfz39_0
         try clear hfz39_1
         try clear hfz48_0
         try clear hfz48_1
         try clear hfz52_0
         try clear hfz52_1
         obtain ⟨kq, x200_122, rfl, HA, HJ122, BKq1j, BKq1o, BKq1t, BKq1y, D1, D2, D3, D4, D5, D6, HB⟩ := hcut
         as_aux_lemma =>
         cases kq with
         | zero => exact absurd HA.out (by simp [laws_FnGreedy.j4])
         | succ kj122 =>
          have H := HA.out
          clear HA
          simp only [laws_FnGreedy.j4] at H
          by_cases c133 : x200_122 = true
          ·subst c133
           rw [if_pos rfl] at H
           replace H := gd H; obtain ⟨c134, H⟩ := H
           have c134b0 := decide_eq_true c134
           clear c134
           replace H := gd H; obtain ⟨c135, H⟩ := H
           have c135b0 := decide_eq_true c135
           clear c135
           replace H := bo H; obtain ⟨tq2, A136, H⟩ := H
           (try dsimp only at H)
           by_cases c137 : x34_4 = 0
           ·rw [if_pos c137] at H
            have c137b0 : (x34_4 == 0) = true := beq_iff_eq.mpr c137
            have c137b1 : (x34_4 != 0) = false := bne_eq_false_iff_eq.mpr c137
            clear c137
            as_aux_lemma =>
            have H' := aQ H
            clear H
            have hnb138 := NBq1y_q1j.out
            have hnc138 := NBq1j_q1y.out
            have hnb139 := NBq1y_q1o.out
            have hnc139 := NBq1o_q1y.out
            have hnb140 := NBq1y_q1t.out
            have hnc140 := NBq1t_q1y.out
            obtain ⟨hcz141_0, hcz141_1, hfz141_0, hfz141_1⟩ := c2 BKq1y
            have pq24 : 0 ≤ (x34_4 : Int) := of_decide_eq_true as_
            have qq24 : x34_4 < (tq18.length : Int) := of_decide_eq_true as_
            obtain ⟨adq24, eq24, hxq24_0⟩ := Kd.at_int (rC HOq1w) x34_4 pq24 qq24
            cases eq24
            replace pq24 := eq_true pq24
            replace qq24 := eq_true qq24
            go_wp2_with (first | ((with_reducible refine bi (f := 23) rfl ?_); refine gl (some 209) Tryz.func23 #[.slice Ao50 tq19.length co50, .int .i64 (rd tq18 x34_4)] ?_; (with_reducible refine (am.calls kj122 _ _ tq19 (rd tq18 x34_4) tq2 _ ?side1 ?side2 A136.out).mono ?_); (case side1 => exact rC HOq1x); (case side2 => exact HOq1x.out.1); rintro e w' ⟨rfl, ⟨nd, rfl⟩⟩; refine ⟨_, rfl, ?_⟩))
            go_roundg kj122
            case measure => have := HJ16.out; have := HK2.out; have := HJ98.out; have := HK4.out; have := HJ122.out; omega
            case rel => exact ⟨(tq2), (wrap64 (x34_4 + 1)), rs_, rs_, H', ⟨by have := HJ16.out; have := HK2.out; have := HJ98.out; have := HK4.out; have := HJ122.out; omega⟩, ⟨pk BKq1j.out⟩, ⟨pk BKq1o.out⟩, ⟨pk BKq1t.out⟩, ⟨pk BKq1y.out⟩, ⟨pb D1⟩, ⟨pb D2⟩, ⟨pb D3⟩, ⟨pb D4⟩, ⟨pb D5⟩, ⟨pb D6⟩, ⟨pB4 HB.out GEq1j.out GEq1o.out GEq1t.out GEq1y.out⟩⟩
           ·rw [if_neg c137] at H
            have c137b0 : (x34_4 == 0) = false := beq_eq_false_iff_ne.mpr c137
            have c137b1 : (x34_4 != 0) = true := bne_iff_ne.mpr c137
            by_cases c142 : tq2 > x31_4
            ·rw [if_pos c142] at H
             have c142b0 := decide_eq_true c142
             clear c142
             as_aux_lemma =>
             have H' := aQ H
             clear H
             have hnb143 := NBq1y_q1j.out
             have hnc143 := NBq1j_q1y.out
             have hnb144 := NBq1y_q1o.out
             have hnc144 := NBq1o_q1y.out
             have hnb145 := NBq1y_q1t.out
             have hnc145 := NBq1t_q1y.out
             obtain ⟨hcz146_0, hcz146_1, hfz146_0, hfz146_1⟩ := c2 BKq1y
             have pq24 : 0 ≤ (x34_4 : Int) := of_decide_eq_true as_
             have qq24 : x34_4 < (tq18.length : Int) := of_decide_eq_true as_
             obtain ⟨adq24, eq24, hxq24_0⟩ := Kd.at_int (rC HOq1w) x34_4 pq24 qq24
             cases eq24
             replace pq24 := eq_true pq24
             replace qq24 := eq_true qq24
             go_wp2_with (first | ((with_reducible refine bi (f := 23) rfl ?_); refine gl (some 209) Tryz.func23 #[.slice Ao50 tq19.length co50, .int .i64 (rd tq18 x34_4)] ?_; (with_reducible refine (am.calls kj122 _ _ tq19 (rd tq18 x34_4) tq2 _ ?side1 ?side2 A136.out).mono ?_); (case side1 => exact rC HOq1x); (case side2 => exact HOq1x.out.1); rintro e w' ⟨rfl, ⟨nd, rfl⟩⟩; refine ⟨_, rfl, ?_⟩))
             go_roundg kj122
             case measure => have := HJ16.out; have := HK2.out; have := HJ98.out; have := HK4.out; have := HJ122.out; omega
             case rel => exact ⟨(tq2), (wrap64 (x34_4 + 1)), rs_, rs_, H', ⟨by have := HJ16.out; have := HK2.out; have := HJ98.out; have := HK4.out; have := HJ122.out; omega⟩, ⟨pk BKq1j.out⟩, ⟨pk BKq1o.out⟩, ⟨pk BKq1t.out⟩, ⟨pk BKq1y.out⟩, ⟨pb D1⟩, ⟨pb D2⟩, ⟨pb D3⟩, ⟨pb D4⟩, ⟨pb D5⟩, ⟨pb D6⟩, ⟨pB4 HB.out GEq1j.out GEq1o.out GEq1t.out GEq1y.out⟩⟩
            ·rw [if_neg c142] at H
             have c142b0 := decide_eq_false c142
             clear c142
             as_aux_lemma =>
             have H' := aQ H
             clear H
             have hnb147 := NBq1y_q1j.out
             have hnc147 := NBq1j_q1y.out
             have hnb148 := NBq1y_q1o.out
             have hnc148 := NBq1o_q1y.out
             have hnb149 := NBq1y_q1t.out
             have hnc149 := NBq1t_q1y.out
             obtain ⟨hcz150_0, hcz150_1, hfz150_0, hfz150_1⟩ := c2 BKq1y
             have pq24 : 0 ≤ (x34_4 : Int) := of_decide_eq_true as_
             have qq24 : x34_4 < (tq18.length : Int) := of_decide_eq_true as_
             obtain ⟨adq24, eq24, hxq24_0⟩ := Kd.at_int (rC HOq1w) x34_4 pq24 qq24
             cases eq24
             replace pq24 := eq_true pq24
             replace qq24 := eq_true qq24
             go_wp2_with (first | ((with_reducible refine bi (f := 23) rfl ?_); refine gl (some 209) Tryz.func23 #[.slice Ao50 tq19.length co50, .int .i64 (rd tq18 x34_4)] ?_; (with_reducible refine (am.calls kj122 _ _ tq19 (rd tq18 x34_4) tq2 _ ?side1 ?side2 A136.out).mono ?_); (case side1 => exact rC HOq1x); (case side2 => exact HOq1x.out.1); rintro e w' ⟨rfl, ⟨nd, rfl⟩⟩; refine ⟨_, rfl, ?_⟩))
             go_roundg kj122
             case measure => have := HJ16.out; have := HK2.out; have := HJ98.out; have := HK4.out; have := HJ122.out; omega
             case rel => exact ⟨(x31_4), (wrap64 (x34_4 + 1)), rs_, rs_, H', ⟨by have := HJ16.out; have := HK2.out; have := HJ98.out; have := HK4.out; have := HJ122.out; omega⟩, ⟨pk BKq1j.out⟩, ⟨pk BKq1o.out⟩, ⟨pk BKq1t.out⟩, ⟨pk BKq1y.out⟩, ⟨pb D1⟩, ⟨pb D2⟩, ⟨pb D3⟩, ⟨pb D4⟩, ⟨pb D5⟩, ⟨pb D6⟩, ⟨pB4 HB.out GEq1j.out GEq1o.out GEq1t.out GEq1y.out⟩⟩
          ·replace c133 := Bool.eq_false_iff.mpr c133
           subst c133
           have H1 : (laws_FnGreedy.l2 kj122 tqx tqf tqy tq16 tq17 tql tq19 tq1a tqn tq1b x31_4 false 0 tqe tqw tqk tq15 tqm tq18) = some true := by rw [if_neg (show ¬ (false = true) by decide)] at H; exact H
           clear H
           have H := H1
           clear H1
           as_aux_lemma =>
           have H' := aQ H
           clear H
           go_wp2
           go_loopg [32, 36] kj122 (fun kq v32 v36 w' => ∃ (x32_6 : Bool) (x36_6 : Int), v32 = .bool x32_6 ∧ v36 = .int .i64 x36_6 ∧ Aside0 (laws_FnGreedy.l2 kq tqx tqf tqy tq16 tq17 tql tq19 tq1a tqn tq1b x31_4 x32_6 x36_6 tqe tqw tqk tq15 tqm tq18 = some true) ∧ Aside0 (kq ≤ kj122) ∧ Aside0 (w'.heap[gbq1j]? = some (.cells #[.int .i64 tqe, (.slice Ao21 tqw.length co21)] 26 (0, 0))) ∧ Aside0 (w'.heap[gbq1o]? = some (.cells #[.int .i64 tqh, (.slice Ao30 tq10.length co30)] 26 (0, 0))) ∧ Aside0 (w'.heap[gbq1t]? = some (.cells #[.int .i64 tqk, (.slice Ao40 tq15.length co40)] 26 (0, 0))) ∧ Aside0 (w'.heap[gbq1y]? = some (.cells #[.int .i64 tqm, (.slice Ao49 tq18.length co49)] 26 (0, 0))) ∧ Aside0 (Below w18.heap.size w18 w') ∧ Aside0 (Below w26.heap.size w26 w') ∧ Aside0 (Below w35.heap.size w35 w') ∧ Aside0 (Below w43.heap.size w43 w') ∧ Aside0 (Below w54.heap.size w54 w') ∧ Aside0 (Below w55.heap.size w55 w') ∧ Aside0 (Below w.heap.size w w'))
           case atStart => exact ⟨(false), (0), rs_, rs_, H', ⟨Nat.le_refl _⟩, ⟨pk BKq1j.out⟩, ⟨pk BKq1o.out⟩, ⟨pk BKq1t.out⟩, ⟨pk BKq1y.out⟩, ⟨pb D1⟩, ⟨pb D2⟩, ⟨pb D3⟩, ⟨pb D4⟩, ⟨pb D5⟩, ⟨pb D6⟩, ⟨pB4 HB.out GEq1j.out GEq1o.out GEq1t.out GEq1y.out⟩⟩
           clear H'
           try clear c2
           try clear c3
           try clear c98
           try clear c109
           try clear c133
           try clear hcz20_0
           try clear hcz20_1
           try clear hcz24_0
           try clear hcz24_1
           try clear hcz29_0
           try clear hcz29_1
           try clear hcz33_0
           try clear hcz33_1
           try clear hcz39_0
           try clear hcz39_1
           try clear hcz48_0
           try clear hcz48_1
           try clear hcz52_0
           try clear hcz52_1
           try clear hfz20_0
           try clear hfz20_1
           try clear hfz24_0
           try clear hfz24_1
           try clear hfz29_0
           try clear hfz29_1
           try clear hfz33_0
           try clear hfz33_1
           try clear hfz39_0
           try clear hfz39_1
           try clear hfz48_0
           try clear hfz48_1
           try clear hfz52_0
           try clear hfz52_1
           obtain ⟨x32_6, x36_6, rfl, rfl, HA, HK6, BKq1j, BKq1o, BKq1t, BKq1y, D1, D2, D3, D4, D5, D6, HB⟩ := hrel
           as_aux_lemma =>
           rcases gk with _ | k6
           ·exact absurd HA.out (by simp [laws_FnGreedy.l2])
           have H := HA.out
           clear HA
           simp only [laws_FnGreedy.l2] at H
           have HC151 := aQ H
           clear H
           go_upto_region 32 with (fail)
           go_cut [225] (fun v225 wc => ∃ (kq : Nat) (x225_150 : Bool), v225 = .bool x225_150 ∧ Aside0 (laws_FnGreedy.j6 kq tqx tqf tqy tq16 tq17 tql tq19 tq1a tqn tq1b x31_4 x32_6 x36_6 x225_150 tqe tqw tqk tq15 tqm tq18 = some true) ∧ Aside0 (kq ≤ k6) ∧ Aside0 (wc.heap[gbq1j]? = some (.cells #[.int .i64 tqe, (.slice Ao21 tqw.length co21)] 26 (0, 0))) ∧ Aside0 (wc.heap[gbq1o]? = some (.cells #[.int .i64 tqh, (.slice Ao30 tq10.length co30)] 26 (0, 0))) ∧ Aside0 (wc.heap[gbq1t]? = some (.cells #[.int .i64 tqk, (.slice Ao40 tq15.length co40)] 26 (0, 0))) ∧ Aside0 (wc.heap[gbq1y]? = some (.cells #[.int .i64 tqm, (.slice Ao49 tq18.length co49)] 26 (0, 0))) ∧ Aside0 (Below w18.heap.size w18 wc) ∧ Aside0 (Below w26.heap.size w26 wc) ∧ Aside0 (Below w35.heap.size w35 wc) ∧ Aside0 (Below w43.heap.size w43 wc) ∧ Aside0 (Below w54.heap.size w54 wc) ∧ Aside0 (Below w55.heap.size w55 wc) ∧ Aside0 (Below w.heap.size w wc))
           case first =>
            as_aux_lemma =>
            have H := HC151.out
            clear HC151
            by_cases c152 : x36_6 < (tq18.length : Int)
            ·rw [if_pos c152] at H
             have c152b0 := decide_eq_true c152
             clear c152
             (first | rw [c152b0] | (simp only [i64_w, cI]; rw [c152b0]) | skip)
             as_aux_lemma =>
             have H' := aQ H
             clear H
             have hnb153 := NBq1y_q1j.out
             have hnc153 := NBq1j_q1y.out
             have hnb154 := NBq1y_q1o.out
             have hnc154 := NBq1o_q1y.out
             have hnb155 := NBq1y_q1t.out
             have hnc155 := NBq1t_q1y.out
             obtain ⟨hcz156_0, hcz156_1, hfz156_0, hfz156_1⟩ := c2 BKq1y
             go_wp2
             go_meet
             case rel => exact ⟨_, (tq1b), rs_, H', ⟨by have := HJ16.out; have := HK2.out; have := HJ98.out; have := HK4.out; have := HJ122.out; have := HK6.out; first | omega | exact Nat.le_refl _⟩, ⟨pk BKq1j.out⟩, ⟨pk BKq1o.out⟩, ⟨pk BKq1t.out⟩, ⟨pk BKq1y.out⟩, ⟨pb D1⟩, ⟨pb D2⟩, ⟨pb D3⟩, ⟨pb D4⟩, ⟨pb D5⟩, ⟨pb D6⟩, ⟨pB4 HB.out GEq1j.out GEq1o.out GEq1t.out GEq1y.out⟩⟩
            ·rw [if_neg c152] at H
             have c152b0 := decide_eq_false c152
             clear c152
             (first | rw [c152b0] | (simp only [i64_w, cI]; rw [c152b0]) | skip)
             as_aux_lemma =>
             have H' := aQ H
             clear H
             have hnb157 := NBq1y_q1j.out
             have hnc157 := NBq1j_q1y.out
             have hnb158 := NBq1y_q1o.out
             have hnc158 := NBq1o_q1y.out
             have hnb159 := NBq1y_q1t.out
             have hnc159 := NBq1t_q1y.out
             obtain ⟨hcz160_0, hcz160_1, hfz160_0, hfz160_1⟩ := c2 BKq1y
             go_wp2
             go_meet
             case rel => exact ⟨_, (false), rs_, H', ⟨by have := HJ16.out; have := HK2.out; have := HJ98.out; have := HK4.out; have := HJ122.out; have := HK6.out; first | omega | exact Nat.le_refl _⟩, ⟨pk BKq1j.out⟩, ⟨pk BKq1o.out⟩, ⟨pk BKq1t.out⟩, ⟨pk BKq1y.out⟩, ⟨pb D1⟩, ⟨pb D2⟩, ⟨pb D3⟩, ⟨pb D4⟩, ⟨pb D5⟩, ⟨pb D6⟩, ⟨pB4 HB.out GEq1j.out GEq1o.out GEq1t.out GEq1y.out⟩⟩
           case rest =>
            as_aux_lemma =>
            clear HC151
            try clear c2
            try clear c3
            try clear c98
            try clear c109
            try clear c133
            try clear hcz20_0
            try clear hcz20_1
            try clear hcz24_0
            try clear hcz24_1
            try clear hcz29_0
            try clear hcz29_1
            try clear hcz33_0
            try clear hcz33_1
            try clear hcz39_0
            try clear hcz39_1
            try clear hcz48_0
            try clear hcz48_1
            try clear hcz52_0
            try clear hcz52_1
            try clear hfz20_0
            try clear hfz20_1
            try clear hfz24_0
            try clear hfz24_1
            try clear hfz29_0
            try clear hfz29_1
            try clear hfz33_0
            try clear hfz33_1
            try clear hfz39_0
            try clear hfz39_1
            try clear hfz48_0
            try clear hfz48_1
            try clear hfz52_0
            try clear hfz52_1
            obtain ⟨kq, x225_150, rfl, HA, HJ150, BKq1j, BKq1o, BKq1t, BKq1y, D1, D2, D3, D4, D5, D6, HB⟩ := hcut
            as_aux_lemma =>
            cases kq with
            | zero => exact absurd HA.out (by simp [laws_FnGreedy.j6])
            | succ kj150 =>
             have H := HA.out
             clear HA
             simp only [laws_FnGreedy.j6] at H
             by_cases c161 : x225_150 = true
             ·subst c161
              rw [if_pos rfl] at H
              by_cases c162 : x32_6 = true
              ·subst c162
               rw [if_pos rfl] at H
               as_aux_lemma =>
               have H' := aQ H
               clear H
               go_wp2
               go_roundg kj150
               case measure => have := HJ16.out; have := HK2.out; have := HJ98.out; have := HK4.out; have := HJ122.out; have := HK6.out; have := HJ150.out; omega
               case rel => exact ⟨(true), (wrap64 (x36_6 + 1)), rs_, rs_, H', ⟨by have := HJ16.out; have := HK2.out; have := HJ98.out; have := HK4.out; have := HJ122.out; have := HK6.out; have := HJ150.out; omega⟩, ⟨pk BKq1j.out⟩, ⟨pk BKq1o.out⟩, ⟨pk BKq1t.out⟩, ⟨pk BKq1y.out⟩, ⟨pb D1⟩, ⟨pb D2⟩, ⟨pb D3⟩, ⟨pb D4⟩, ⟨pb D5⟩, ⟨pb D6⟩, ⟨pB4 HB.out GEq1j.out GEq1o.out GEq1t.out GEq1y.out⟩⟩
              ·replace c162 := Bool.eq_false_iff.mpr c162
               subst c162
               have H1 : (if 0 ≤ x36_6 then (if x36_6 < (tq18.length : Int) then ((bJ.f (rd tq18 x36_6) tq1a).bind fun tq3 => (if tq3 = true then ((am.f kj150 tq19 (rd tq18 x36_6)).bind fun tq4 => (laws_FnGreedy.l2 kj150 tqx tqf tqy tq16 tq17 tql tq19 tq1a tqn tq1b x31_4 (tq4 == x31_4) (wrap64 (x36_6 + 1)) tqe tqw tqk tq15 tqm tq18)) else (laws_FnGreedy.l2 kj150 tqx tqf tqy tq16 tq17 tql tq19 tq1a tqn tq1b x31_4 false (wrap64 (x36_6 + 1)) tqe tqw tqk tq15 tqm tq18))) else (none)) else (none)) = some true := by rw [if_neg (show ¬ (false = true) by decide)] at H; exact H
               clear H
               have H := H1
               clear H1
               replace H := gd H; obtain ⟨c163, H⟩ := H
               have c163b0 := decide_eq_true c163
               clear c163
               replace H := gd H; obtain ⟨c164, H⟩ := H
               have c164b0 := decide_eq_true c164
               clear c164
               replace H := bo H; obtain ⟨tq3, A165, H⟩ := H
               (try dsimp only at H)
               by_cases c166 : tq3 = true
               ·subst c166
                rw [if_pos rfl] at H
                replace H := bo H; obtain ⟨tq4, A167, H⟩ := H
                (try dsimp only at H)
                as_aux_lemma =>
                have H' := aQ H
                clear H
                have hnb168 := NBq1y_q1j.out
                have hnc168 := NBq1j_q1y.out
                have hnb169 := NBq1y_q1o.out
                have hnc169 := NBq1o_q1y.out
                have hnb170 := NBq1y_q1t.out
                have hnc170 := NBq1t_q1y.out
                obtain ⟨hcz171_0, hcz171_1, hfz171_0, hfz171_1⟩ := c2 BKq1y
                have pq25 : 0 ≤ (x36_6 : Int) := of_decide_eq_true as_
                have qq25 : x36_6 < (tq18.length : Int) := of_decide_eq_true as_
                obtain ⟨adq25, eq25, hxq25_0⟩ := Kd.at_int (rC HOq1w) x36_6 pq25 qq25
                cases eq25
                replace pq25 := eq_true pq25
                replace qq25 := eq_true qq25
                go_wp2_with (first | (go_at_call 41; (with_reducible refine (bJ.calls (rd tq18 x36_6) tq1a true _ A165.out).mono ?_); rintro e w' ⟨rfl, ⟨nd, rfl⟩⟩; have pq26 : 0 ≤ (x36_6 : Int) := of_decide_eq_true as_; have qq26 : x36_6 < (tq18.length : Int) := of_decide_eq_true as_; obtain ⟨adq26, eq26, hxq26_0⟩ := Kd.at_int (rC HOq1w) x36_6 pq26 qq26; obtain rfl : adq25 = adq26 := (by injection eq26); replace pq26 := eq_true pq26; replace qq26 := eq_true qq26) | (go_at_call 23; (with_reducible refine (am.calls kj150 _ _ tq19 (rd tq18 x36_6) tq4 _ ?side1 ?side2 A167.out).mono ?_); (case side1 => exact rC HOq1x); (case side2 => exact HOq1x.out.1); rintro e w' ⟨rfl, ⟨nd, rfl⟩⟩))
                go_roundg kj150
                case measure => have := HJ16.out; have := HK2.out; have := HJ98.out; have := HK4.out; have := HJ122.out; have := HK6.out; have := HJ150.out; omega
                case rel => exact ⟨((tq4 == x31_4)), (wrap64 (x36_6 + 1)), rs_, rs_, H', ⟨by have := HJ16.out; have := HK2.out; have := HJ98.out; have := HK4.out; have := HJ122.out; have := HK6.out; have := HJ150.out; omega⟩, ⟨pk BKq1j.out⟩, ⟨pk BKq1o.out⟩, ⟨pk BKq1t.out⟩, ⟨pk BKq1y.out⟩, ⟨pb D1⟩, ⟨pb D2⟩, ⟨pb D3⟩, ⟨pb D4⟩, ⟨pb D5⟩, ⟨pb D6⟩, ⟨pB4 HB.out GEq1j.out GEq1o.out GEq1t.out GEq1y.out⟩⟩
               ·replace c166 := Bool.eq_false_iff.mpr c166
                subst c166
                have H1 : (laws_FnGreedy.l2 kj150 tqx tqf tqy tq16 tq17 tql tq19 tq1a tqn tq1b x31_4 false (wrap64 (x36_6 + 1)) tqe tqw tqk tq15 tqm tq18) = some true := by rw [if_neg (show ¬ (false = true) by decide)] at H; exact H
                clear H
                have H := H1
                clear H1
                as_aux_lemma =>
                have H' := aQ H
                clear H
                have hnb172 := NBq1y_q1j.out
                have hnc172 := NBq1j_q1y.out
                have hnb173 := NBq1y_q1o.out
                have hnc173 := NBq1o_q1y.out
                have hnb174 := NBq1y_q1t.out
                have hnc174 := NBq1t_q1y.out
                obtain ⟨hcz175_0, hcz175_1, hfz175_0, hfz175_1⟩ := c2 BKq1y
                have pq25 : 0 ≤ (x36_6 : Int) := of_decide_eq_true as_
                have qq25 : x36_6 < (tq18.length : Int) := of_decide_eq_true as_
                obtain ⟨adq25, eq25, hxq25_0⟩ := Kd.at_int (rC HOq1w) x36_6 pq25 qq25
                cases eq25
                replace pq25 := eq_true pq25
                replace qq25 := eq_true qq25
                go_wp2_with (first | (go_at_call 41; (with_reducible refine (bJ.calls (rd tq18 x36_6) tq1a false _ A165.out).mono ?_); rintro e w' ⟨rfl, ⟨nd, rfl⟩⟩))
                go_roundg kj150
                case measure => have := HJ16.out; have := HK2.out; have := HJ98.out; have := HK4.out; have := HJ122.out; have := HK6.out; have := HJ150.out; omega
                case rel => exact ⟨(false), (wrap64 (x36_6 + 1)), rs_, rs_, H', ⟨by have := HJ16.out; have := HK2.out; have := HJ98.out; have := HK4.out; have := HJ122.out; have := HK6.out; have := HJ150.out; omega⟩, ⟨pk BKq1j.out⟩, ⟨pk BKq1o.out⟩, ⟨pk BKq1t.out⟩, ⟨pk BKq1y.out⟩, ⟨pb D1⟩, ⟨pb D2⟩, ⟨pb D3⟩, ⟨pb D4⟩, ⟨pb D5⟩, ⟨pb D6⟩, ⟨pB4 HB.out GEq1j.out GEq1o.out GEq1t.out GEq1y.out⟩⟩
             ·replace c161 := Bool.eq_false_iff.mpr c161
              subst c161
              have H1 : (if tq1b = true then (if 0 ≤ tq1a then (if tq1a < (tq19.length : Int) then (if (x32_6 != (decide ((rd tq19 tq1a) ≥ tqn))) = true then (laws_FnGreedy.j7 kj150 tq16 tq17 tql true tqk tq15) else (if tqy = true then ((aG.f kj150 tqw tqf).bind fun tq5 => (if tq5 = true then ((ap.f kj150 tqe tqw tqx tqf).bind fun tq6 => (laws_FnGreedy.j7 kj150 tq16 tq17 tql (!tq6) tqk tq15)) else (laws_FnGreedy.j7 kj150 tq16 tq17 tql true tqk tq15))) else (laws_FnGreedy.j7 kj150 tq16 tq17 tql false tqk tq15))) else (none)) else (none)) else (if tqy = true then ((aG.f kj150 tqw tqf).bind fun tq7 => (if tq7 = true then ((ap.f kj150 tqe tqw tqx tqf).bind fun tq8 => (laws_FnGreedy.j7 kj150 tq16 tq17 tql (!tq8) tqk tq15)) else (laws_FnGreedy.j7 kj150 tq16 tq17 tql true tqk tq15))) else (laws_FnGreedy.j7 kj150 tq16 tq17 tql false tqk tq15))) = some true := by rw [if_neg (show ¬ (false = true) by decide)] at H; exact H
              clear H
              have H := H1
              clear H1
              have HC176 := aQ H
              clear H
              go_upto_region 35 with (fail)
              go_cut [276] (fun v276 wc => ∃ (kq : Nat) (x276_175 : Bool), v276 = .bool x276_175 ∧ Aside0 (laws_FnGreedy.j7 kq tq16 tq17 tql x276_175 tqk tq15 = some true) ∧ Aside0 (kq ≤ kj150) ∧ Aside0 (wc.heap[gbq1j]? = some (.cells #[.int .i64 tqe, (.slice Ao21 tqw.length co21)] 26 (0, 0))) ∧ Aside0 (wc.heap[gbq1o]? = some (.cells #[.int .i64 tqh, (.slice Ao30 tq10.length co30)] 26 (0, 0))) ∧ Aside0 (wc.heap[gbq1t]? = some (.cells #[.int .i64 tqk, (.slice Ao40 tq15.length co40)] 26 (0, 0))) ∧ Aside0 (wc.heap[gbq1y]? = some (.cells #[.int .i64 tqm, (.slice Ao49 tq18.length co49)] 26 (0, 0))) ∧ Aside0 (Below w18.heap.size w18 wc) ∧ Aside0 (Below w26.heap.size w26 wc) ∧ Aside0 (Below w35.heap.size w35 wc) ∧ Aside0 (Below w43.heap.size w43 wc) ∧ Aside0 (Below w54.heap.size w54 wc) ∧ Aside0 (Below w55.heap.size w55 wc) ∧ Aside0 (Below w.heap.size w wc))
              case first =>
               as_aux_lemma =>
               have H := HC176.out
               clear HC176
               by_cases c177 : tq1b = true
               ·subst c177
                rw [if_pos rfl] at H
                replace H := gd H; obtain ⟨c178, H⟩ := H
                have c178b0 := decide_eq_true c178
                clear c178
                (first | rw [c178b0] | (simp only [i64_w, cI]; rw [c178b0]) | skip)
                replace H := gd H; obtain ⟨c179, H⟩ := H
                have c179b0 := decide_eq_true c179
                clear c179
                by_cases c180 : (x32_6 != (decide ((rd tq19 tq1a) ≥ tqn))) = true
                ·rw [if_pos c180] at H
                 have c180b0 : (x32_6 != (decide ((rd tq19 tq1a) ≥ tqn))) = true := c180
                 (try (have c180b1 : decide (x32_6 = (decide ((rd tq19 tq1a) ≥ tqn))) = false := by simpa using c180))
                 (try (have c180b2 : (x32_6 == (decide ((rd tq19 tq1a) ≥ tqn))) = false := by simpa using c180))
                 (try (have c180b3 : ¬ (x32_6 = (decide ((rd tq19 tq1a) ≥ tqn))) := by simpa using c180))
                 clear c180
                 exact absurd H (by cases kj150 <;> simp [laws_FnGreedy.j7])
                ·rw [if_neg c180] at H
                 have c180b0 : (x32_6 != (decide ((rd tq19 tq1a) ≥ tqn))) = false := by simpa using c180
                 (try (have c180b1 : decide (x32_6 = (decide ((rd tq19 tq1a) ≥ tqn))) = true := by simpa using c180))
                 (try (have c180b2 : (x32_6 == (decide ((rd tq19 tq1a) ≥ tqn))) = true := by simpa using c180))
                 clear c180
                 by_cases c181 : tqy = true
                 ·subst c181
                  rw [if_pos rfl] at H
                  replace H := bo H; obtain ⟨tq5, A182, H⟩ := H
                  (try dsimp only at H)
                  by_cases c183 : tq5 = true
                  ·subst c183
                   rw [if_pos rfl] at H
                   replace H := bo H; obtain ⟨tq6, A184, H⟩ := H
                   (try dsimp only at H)
                   as_aux_lemma =>
                   have H' := aQ H
                   clear H
                   have pq27 : 0 ≤ (tq1a : Int) := of_decide_eq_true as_
                   have qq27 : tq1a < (tq19.length : Int) := of_decide_eq_true as_
                   obtain ⟨adq27, eq27, hxq27_0⟩ := Kd.at_int (rC HOq1x) tq1a pq27 qq27
                   cases eq27
                   replace pq27 := eq_true pq27
                   replace qq27 := eq_true qq27
                   have hnb185 := NBq1j_q1o.out
                   have hnc185 := NBq1o_q1j.out
                   have hnb186 := NBq1j_q1t.out
                   have hnc186 := NBq1t_q1j.out
                   have hnb187 := NBq1j_q1y.out
                   have hnc187 := NBq1y_q1j.out
                   obtain ⟨hcz188_0, hcz188_1, hfz188_0, hfz188_1⟩ := c2 BKq1j
                   go_wp2_with (first | (go_at_call 42; (with_reducible refine (aG.calls kj150 _ _ tqw tqf true _ ?side1 ?side2 A182.out).mono ?_); (case side1 => exact rC HOq1h); (case side2 => exact HOq1h.out.1); rintro e w' ⟨rfl, ⟨nd, rfl⟩⟩) | (go_at_call 31; (with_reducible refine (ap.calls kj150 tqe _ _ tqw _ _ tqx tqf tq6 _ ?side1 ?side2 ?side3 ?side4 A184.out).mono ?_); (case side1 => exact rC HOq1h); (case side2 => exact HOq1h.out.1); (case side3 => exact rC HOq1i); (case side4 => exact HOq1i.out.1); rintro e w189 ⟨rfl, hb⟩; replace BKq1j := bb BKq1j hb; replace BKq1o := bb BKq1o hb; replace BKq1t := bb BKq1t hb; replace BKq1y := bb BKq1y hb; replace HB := bs HB hb; replace D1 := bs D1 hb; replace D2 := bs D2 hb; replace D3 := bs D3 hb; replace D4 := bs D4 hb; replace D5 := bs D5 hb; replace D6 := bs D6 hb; (try clear hb)))
                   go_meet
                   case rel => exact ⟨_, (!tq6), rs_, H', ⟨by have := HJ16.out; have := HK2.out; have := HJ98.out; have := HK4.out; have := HJ122.out; have := HK6.out; have := HJ150.out; first | omega | exact Nat.le_refl _⟩, ⟨pk BKq1j.out⟩, ⟨pk BKq1o.out⟩, ⟨pk BKq1t.out⟩, ⟨pk BKq1y.out⟩, ⟨pb D1⟩, ⟨pb D2⟩, ⟨pb D3⟩, ⟨pb D4⟩, ⟨pb D5⟩, ⟨pb D6⟩, ⟨pB4 HB.out GEq1j.out GEq1o.out GEq1t.out GEq1y.out⟩⟩
                  ·replace c183 := Bool.eq_false_iff.mpr c183
                   subst c183
                   have H1 : (laws_FnGreedy.j7 kj150 tq16 tq17 tql true tqk tq15) = some true := by rw [if_neg (show ¬ (false = true) by decide)] at H; exact H
                   clear H
                   have H := H1
                   clear H1
                   exact absurd H (by cases kj150 <;> simp [laws_FnGreedy.j7])
                 ·replace c181 := Bool.eq_false_iff.mpr c181
                  subst c181
                  have H1 : (laws_FnGreedy.j7 kj150 tq16 tq17 tql false tqk tq15) = some true := by rw [if_neg (show ¬ (false = true) by decide)] at H; exact H
                  clear H
                  have H := H1
                  clear H1
                  as_aux_lemma =>
                  have H' := aQ H
                  clear H
                  have pq27 : 0 ≤ (tq1a : Int) := of_decide_eq_true as_
                  have qq27 : tq1a < (tq19.length : Int) := of_decide_eq_true as_
                  obtain ⟨adq27, eq27, hxq27_0⟩ := Kd.at_int (rC HOq1x) tq1a pq27 qq27
                  cases eq27
                  replace pq27 := eq_true pq27
                  replace qq27 := eq_true qq27
                  go_wp2
                  go_meet
                  case rel => exact ⟨_, (false), rs_, H', ⟨by have := HJ16.out; have := HK2.out; have := HJ98.out; have := HK4.out; have := HJ122.out; have := HK6.out; have := HJ150.out; first | omega | exact Nat.le_refl _⟩, ⟨pk BKq1j.out⟩, ⟨pk BKq1o.out⟩, ⟨pk BKq1t.out⟩, ⟨pk BKq1y.out⟩, ⟨pb D1⟩, ⟨pb D2⟩, ⟨pb D3⟩, ⟨pb D4⟩, ⟨pb D5⟩, ⟨pb D6⟩, ⟨pB4 HB.out GEq1j.out GEq1o.out GEq1t.out GEq1y.out⟩⟩
               ·replace c177 := Bool.eq_false_iff.mpr c177
                subst c177
                have H1 : (if tqy = true then ((aG.f kj150 tqw tqf).bind fun tq7 => (if tq7 = true then ((ap.f kj150 tqe tqw tqx tqf).bind fun tq8 => (laws_FnGreedy.j7 kj150 tq16 tq17 tql (!tq8) tqk tq15)) else (laws_FnGreedy.j7 kj150 tq16 tq17 tql true tqk tq15))) else (laws_FnGreedy.j7 kj150 tq16 tq17 tql false tqk tq15)) = some true := by rw [if_neg (show ¬ (false = true) by decide)] at H; exact H
                clear H
                have H := H1
                clear H1
                by_cases c194 : tqy = true
                ·subst c194
                 rw [if_pos rfl] at H
                 replace H := bo H; obtain ⟨tq7, A195, H⟩ := H
                 (try dsimp only at H)
                 by_cases c196 : tq7 = true
                 ·subst c196
                  rw [if_pos rfl] at H
                  replace H := bo H; obtain ⟨tq8, A197, H⟩ := H
                  (try dsimp only at H)
                  as_aux_lemma =>
                  have H' := aQ H
                  clear H
                  have hnb198 := NBq1j_q1o.out
                  have hnc198 := NBq1o_q1j.out
                  have hnb199 := NBq1j_q1t.out
                  have hnc199 := NBq1t_q1j.out
                  have hnb200 := NBq1j_q1y.out
                  have hnc200 := NBq1y_q1j.out
                  obtain ⟨hcz201_0, hcz201_1, hfz201_0, hfz201_1⟩ := c2 BKq1j
                  go_wp2_with (first | (go_at_call 42; (with_reducible refine (aG.calls kj150 _ _ tqw tqf true _ ?side1 ?side2 A195.out).mono ?_); (case side1 => exact rC HOq1h); (case side2 => exact HOq1h.out.1); rintro e w' ⟨rfl, ⟨nd, rfl⟩⟩) | (go_at_call 31; (with_reducible refine (ap.calls kj150 tqe _ _ tqw _ _ tqx tqf tq8 _ ?side1 ?side2 ?side3 ?side4 A197.out).mono ?_); (case side1 => exact rC HOq1h); (case side2 => exact HOq1h.out.1); (case side3 => exact rC HOq1i); (case side4 => exact HOq1i.out.1); rintro e w202 ⟨rfl, hb⟩; replace BKq1j := bb BKq1j hb; replace BKq1o := bb BKq1o hb; replace BKq1t := bb BKq1t hb; replace BKq1y := bb BKq1y hb; replace HB := bs HB hb; replace D1 := bs D1 hb; replace D2 := bs D2 hb; replace D3 := bs D3 hb; replace D4 := bs D4 hb; replace D5 := bs D5 hb; replace D6 := bs D6 hb; (try clear hb)))
                  go_meet
                  case rel => exact ⟨_, (!tq8), rs_, H', ⟨by have := HJ16.out; have := HK2.out; have := HJ98.out; have := HK4.out; have := HJ122.out; have := HK6.out; have := HJ150.out; first | omega | exact Nat.le_refl _⟩, ⟨pk BKq1j.out⟩, ⟨pk BKq1o.out⟩, ⟨pk BKq1t.out⟩, ⟨pk BKq1y.out⟩, ⟨pb D1⟩, ⟨pb D2⟩, ⟨pb D3⟩, ⟨pb D4⟩, ⟨pb D5⟩, ⟨pb D6⟩, ⟨pB4 HB.out GEq1j.out GEq1o.out GEq1t.out GEq1y.out⟩⟩
                 ·replace c196 := Bool.eq_false_iff.mpr c196
                  subst c196
                  have H1 : (laws_FnGreedy.j7 kj150 tq16 tq17 tql true tqk tq15) = some true := by rw [if_neg (show ¬ (false = true) by decide)] at H; exact H
                  clear H
                  have H := H1
                  clear H1
                  exact absurd H (by cases kj150 <;> simp [laws_FnGreedy.j7])
                ·replace c194 := Bool.eq_false_iff.mpr c194
                 subst c194
                 have H1 : (laws_FnGreedy.j7 kj150 tq16 tq17 tql false tqk tq15) = some true := by rw [if_neg (show ¬ (false = true) by decide)] at H; exact H
                 clear H
                 have H := H1
                 clear H1
                 as_aux_lemma =>
                 have H' := aQ H
                 clear H
                 go_wp2
                 go_meet
                 case rel => exact ⟨_, (false), rs_, H', ⟨by have := HJ16.out; have := HK2.out; have := HJ98.out; have := HK4.out; have := HJ122.out; have := HK6.out; have := HJ150.out; first | omega | exact Nat.le_refl _⟩, ⟨pk BKq1j.out⟩, ⟨pk BKq1o.out⟩, ⟨pk BKq1t.out⟩, ⟨pk BKq1y.out⟩, ⟨pb D1⟩, ⟨pb D2⟩, ⟨pb D3⟩, ⟨pb D4⟩, ⟨pb D5⟩, ⟨pb D6⟩, ⟨pB4 HB.out GEq1j.out GEq1o.out GEq1t.out GEq1y.out⟩⟩
              case rest =>
               as_aux_lemma =>
               clear HC176
               try clear c2
               try clear c3
               try clear c98
               try clear c109
               try clear c133
               try clear c161
               try clear hcz20_0
               try clear hcz20_1
               try clear hcz24_0
               try clear hcz24_1
               try clear hcz29_0
               try clear hcz29_1
               try clear hcz33_0
               try clear hcz33_1
               try clear hcz39_0
               try clear hcz39_1
               try clear hcz48_0
               try clear hcz48_1
               try clear hcz52_0
               try clear hcz52_1
               try clear hfz20_0
               try clear hfz20_1
               try clear hfz24_0
               try clear hfz24_1
               try clear hfz29_0
               try clear hfz29_1
               try clear hfz33_0
               try clear hfz33_1
               try clear hfz39_0
               try clear hfz39_1
               try clear hfz48_0
               try clear hfz48_1
               try clear hfz52_0
               try clear hfz52_1
               obtain ⟨kq, x276_175, rfl, HA, HJ175, BKq1j, BKq1o, BKq1t, BKq1y, D1, D2, D3, D4, D5, D6, HB⟩ := hcut
               as_aux_lemma =>
               cases kq with
               | zero => exact absurd HA.out (by simp [laws_FnGreedy.j7])
               | succ kj175 =>
                have H := HA.out
                clear HA
                simp only [laws_FnGreedy.j7] at H
                by_cases c207 : x276_175 = true
                ·subst c207
                 rw [if_pos rfl] at H
                 exact absurd (Option.some.inj H) (by decide)
                ·replace c207 := Bool.eq_false_iff.mpr c207
                 subst c207
                 have H1 : ((bg.f kj175 tqk tq15 tq16).bind fun btq9 => (if btq9.2 = true then ((aG.f kj175 tq15 tq17).bind fun tqa => (if tqa = true then ((am.f kj175 tq16 tq17).bind fun tqb => ((am.f kj175 tq16 btq9.1).bind fun tqc => (some (tql == (tqb == tqc))))) else (some true))) else (some true))) = some true := by rw [if_neg (show ¬ (false = true) by decide)] at H; exact H
                 clear H
                 have H := H1
                 clear H1
                 replace H := bo H; obtain ⟨⟨tq9, tq28⟩, A208, H⟩ := H
                 (try dsimp only at H)
                 by_cases c209 : tq28 = true
                 ·subst c209
                  rw [if_pos rfl] at H
                  replace H := bo H; obtain ⟨tqa, A210, H⟩ := H
                  (try dsimp only at H)
                  by_cases c211 : tqa = true
                  ·subst c211
                   rw [if_pos rfl] at H
                   replace H := bo H; obtain ⟨tqb, A212, H⟩ := H
                   (try dsimp only at H)
                   replace H := bo H; obtain ⟨tqc, A213, H⟩ := H
                   (try dsimp only at H)
                   have HR_ := Option.some.inj H
                   (try (have HS_ := HR_; simp only [bne_iff_ne, ne_eq] at HS_))
                   clear H
                   have hnb214 := NBq1t_q1j.out
                   have hnc214 := NBq1j_q1t.out
                   have hnb215 := NBq1t_q1o.out
                   have hnc215 := NBq1o_q1t.out
                   have hnb216 := NBq1t_q1y.out
                   have hnc216 := NBq1y_q1t.out
                   obtain ⟨hcz217_0, hcz217_1, hfz217_0, hfz217_1⟩ := c2 BKq1t
                   go_wp2_with (first | ((with_reducible refine bi (f := 26) rfl ?_); refine gl (some 280) Tryz.func26 #[.agg #[.int .i64 tqk, .slice Ao40 tq15.length co40], .slice Ao41 tq16.length co41] ?_; (with_reducible refine (bg.calls kj175 tqk _ _ tq15 _ _ tq16 tq9 true _ ?side1 ?side2 ?side3 ?side4 A208.out).mono ?_); (case side1 => exact rC HOq1r); (case side2 => exact HOq1r.out.1); (case side3 => exact rC HOq1s); (case side4 => exact HOq1s.out.1); rintro e w218 ⟨rfl, hb⟩; refine ⟨_, rfl, ?_⟩; replace BKq1j := bb BKq1j hb; replace BKq1o := bb BKq1o hb; replace BKq1t := bb BKq1t hb; replace BKq1y := bb BKq1y hb; replace HB := bs HB hb; replace D1 := bs D1 hb; replace D2 := bs D2 hb; replace D3 := bs D3 hb; replace D4 := bs D4 hb; replace D5 := bs D5 hb; replace D6 := bs D6 hb; (try clear hb); obtain ⟨hcz219_0, hcz219_1, hfz219_0, hfz219_1⟩ := c2 BKq1t) | (go_at_call 42; (with_reducible refine (aG.calls kj175 _ _ tq15 tq17 true _ ?side1 ?side2 A210.out).mono ?_); (case side1 => exact rC HOq1r); (case side2 => exact HOq1r.out.1); rintro e w' ⟨rfl, ⟨nd, rfl⟩⟩) | (go_at_call 23; (with_reducible refine (am.calls kj175 _ _ tq16 tq17 tqb _ ?side1 ?side2 A212.out).mono ?_); (case side1 => exact rC HOq1s); (case side2 => exact HOq1s.out.1); rintro e w' ⟨rfl, ⟨nd, rfl⟩⟩) | (go_at_call 23; (with_reducible refine (am.calls kj175 _ _ tq16 tq9 tqc _ ?side1 ?side2 A213.out).mono ?_); (case side1 => exact rC HOq1s); (case side2 => exact HOq1s.out.1); rintro e w' ⟨rfl, ⟨nd, rfl⟩⟩))
                   go_ret
                   exact ⟨re_, pB4 HB.out GEq1j.out GEq1o.out GEq1t.out GEq1y.out⟩
                  ·replace c211 := Bool.eq_false_iff.mpr c211
                   subst c211
                   have H1 : (some true) = some true := rfl
                   clear H
                   have H := H1
                   clear H1
                   have HR_ := Option.some.inj H
                   (try (have HS_ := HR_; simp only [bne_iff_ne, ne_eq] at HS_))
                   clear H
                   have hnb220 := NBq1t_q1j.out
                   have hnc220 := NBq1j_q1t.out
                   have hnb221 := NBq1t_q1o.out
                   have hnc221 := NBq1o_q1t.out
                   have hnb222 := NBq1t_q1y.out
                   have hnc222 := NBq1y_q1t.out
                   obtain ⟨hcz223_0, hcz223_1, hfz223_0, hfz223_1⟩ := c2 BKq1t
                   go_wp2_with (first | ((with_reducible refine bi (f := 26) rfl ?_); refine gl (some 280) Tryz.func26 #[.agg #[.int .i64 tqk, .slice Ao40 tq15.length co40], .slice Ao41 tq16.length co41] ?_; (with_reducible refine (bg.calls kj175 tqk _ _ tq15 _ _ tq16 tq9 true _ ?side1 ?side2 ?side3 ?side4 A208.out).mono ?_); (case side1 => exact rC HOq1r); (case side2 => exact HOq1r.out.1); (case side3 => exact rC HOq1s); (case side4 => exact HOq1s.out.1); rintro e w224 ⟨rfl, hb⟩; refine ⟨_, rfl, ?_⟩; replace BKq1j := bb BKq1j hb; replace BKq1o := bb BKq1o hb; replace BKq1t := bb BKq1t hb; replace BKq1y := bb BKq1y hb; replace HB := bs HB hb; replace D1 := bs D1 hb; replace D2 := bs D2 hb; replace D3 := bs D3 hb; replace D4 := bs D4 hb; replace D5 := bs D5 hb; replace D6 := bs D6 hb; (try clear hb); obtain ⟨hcz225_0, hcz225_1, hfz225_0, hfz225_1⟩ := c2 BKq1t) | (go_at_call 42; (with_reducible refine (aG.calls kj175 _ _ tq15 tq17 false _ ?side1 ?side2 A210.out).mono ?_); (case side1 => exact rC HOq1r); (case side2 => exact HOq1r.out.1); rintro e w' ⟨rfl, ⟨nd, rfl⟩⟩))
                   go_ret
                   exact ⟨re_, pB4 HB.out GEq1j.out GEq1o.out GEq1t.out GEq1y.out⟩
                 ·replace c209 := Bool.eq_false_iff.mpr c209
                  subst c209
                  have H1 : (some true) = some true := rfl
                  clear H
                  have H := H1
                  clear H1
                  have HR_ := Option.some.inj H
                  (try (have HS_ := HR_; simp only [bne_iff_ne, ne_eq] at HS_))
                  clear H
                  have hnb226 := NBq1t_q1j.out
                  have hnc226 := NBq1j_q1t.out
                  have hnb227 := NBq1t_q1o.out
                  have hnc227 := NBq1o_q1t.out
                  have hnb228 := NBq1t_q1y.out
                  have hnc228 := NBq1y_q1t.out
                  obtain ⟨hcz229_0, hcz229_1, hfz229_0, hfz229_1⟩ := c2 BKq1t
                  go_wp2_with (first | ((with_reducible refine bi (f := 26) rfl ?_); refine gl (some 280) Tryz.func26 #[.agg #[.int .i64 tqk, .slice Ao40 tq15.length co40], .slice Ao41 tq16.length co41] ?_; (with_reducible refine (bg.calls kj175 tqk _ _ tq15 _ _ tq16 tq9 false _ ?side1 ?side2 ?side3 ?side4 A208.out).mono ?_); (case side1 => exact rC HOq1r); (case side2 => exact HOq1r.out.1); (case side3 => exact rC HOq1s); (case side4 => exact HOq1s.out.1); rintro e w230 ⟨rfl, hb⟩; refine ⟨_, rfl, ?_⟩; replace BKq1j := bb BKq1j hb; replace BKq1o := bb BKq1o hb; replace BKq1t := bb BKq1t hb; replace BKq1y := bb BKq1y hb; replace HB := bs HB hb; replace D1 := bs D1 hb; replace D2 := bs D2 hb; replace D3 := bs D3 hb; replace D4 := bs D4 hb; replace D5 := bs D5 hb; replace D6 := bs D6 hb; (try clear hb)))
                  go_ret
                  exact ⟨re_, pB4 HB.out GEq1j.out GEq1o.out GEq1t.out GEq1y.out⟩
def laws_FnGreedy.Pure : Prop := ∀ (l0 : List Int), l0.length ≤ maxLen → l0.length * 1 ≤ 140737488351232 → (∀ x ∈ l0, (Lit.int .u8 x).wf = true) → ∃ k, laws_FnGreedy.f k l0 = some true
theorem laws_FnGreedy.walk (P : laws_FnGreedy.Pure) (a0 : Option Addr) (len0 cap0 : Nat) (z0 : List Int) (w : World) (w0 : (a0 = none ∧ len0 = 0 ∧ cap0 = 0 ∧ z0 = []) ∨ ∃ x, a0 = some x ∧ len0 ≤ cap0 ∧ cap0 ≤ maxLen ∧ z0.length = cap0 ∧ (∀ i, i < z0.length → w.cell? (x.add i) = some (.int .u8 (z0.getD i 0))) ∧ ∀ n ∈ z0, (Lit.int .u8 n).wf = true) (y0 : len0 * 1 ≤ 140737488351232) :
  Calls Tryz.prog 4 #[.slice a0 len0 cap0] w fun e w' => e = .returned (.bool true) ∧ Below w.heap.size w w' := by
 obtain ⟨l0, rfl, hr0, hm0, hw0, hc0⟩ := ReadsInt.ofRowC w0
 obtain ⟨k, h⟩ := P l0 hm0 y0 hw0
 refine (laws_FnGreedy.calls k _ _ l0 w (Kd.C_of_reads (d := (0 : Int)) (h1 := fun _ => rfl) hr0) hc0 h).mono ?_
 rintro e w' ⟨rfl, hd⟩
 exact ⟨rfl, hd⟩
end Go.Proofs.YtimkekeaeojpkaaGreat.A
