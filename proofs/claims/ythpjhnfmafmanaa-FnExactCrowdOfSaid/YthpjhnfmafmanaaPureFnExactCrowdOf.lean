/- The program's CrowdOf and the reference's answer alike at every argument, the pure form of the law. No condition beside the statement's own. -/
import Derived.Test.YthpjhnfmafmanaaA10
import Derived.Test.YthpjhnfmafmanaaQtoInt
import Derived.Test.YthpjhnfmafmanaaQcrowd
namespace Go.Proofs.Ythpjhnfmafmanaa.Pure
open Go Go.RowKit Go.Proofs.Ythpjhnfmafmanaa.A Go.Proofs.YthpjhnfmafmanaaW.PrintWords Go.Proofs.YthpjhnfmafmanaaW.PrintLast Go.Proofs.YthpjhnfmafmanaaW.PrintMore Go.Proofs.Ythpjhnfmafmanaa.Z Go.Proofs.Ythpjhnfmafmanaa.Q
set_option linter.unusedVariables false
set_option linter.unusedSimpArgs false

theorem FnExactCrowdOf : laws_FnExactCrowdOf.Pure := by
  intro n l s hn hm hl hw hs
  have hl' : l.length ≤ 17592186044416 := by omega
  unfold laws_FnExactCrowdOf.f
  refine Ev.rounds ?_
  by_cases hb : (l.length : Int) > 1048576
  · exact Ev.ifp hb (Ev.now _)
  · refine Ev.ifn hb ?_
    refine Ev.bind (toInt_ev l hl') (Ev.bind (specCrowd_ev n l s hl') (Ev.bind (toInt_ev l hl') (Ev.bind (implCrowd_ev n l s hl') ?_)))
    refine Ev.ifp rfl ?_
    apply Ev.step
    · intro k
      rw [laws_FnExactCrowdOf.j0]
    · refine Ev.ifn (by simp) (Ev.bind (toInt_ev l hl') (Ev.bind (eqInt_self l hl') ?_))
      exact Ev.ifp rfl (Ev.now _)

end Go.Proofs.Ythpjhnfmafmanaa.Pure
