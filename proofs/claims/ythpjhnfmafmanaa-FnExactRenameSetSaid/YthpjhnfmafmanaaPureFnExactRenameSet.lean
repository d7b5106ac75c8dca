/- The program's RenameSet and the reference's answer alike at every argument, the pure form of the law. No condition beside the statement's own. -/
import Derived.Test.YthpjhnfmafmanaaA8
import Derived.Test.YthpjhnfmafmanaaQtoInt
import Derived.Test.YthpjhnfmafmanaaQrenameSet
namespace Go.Proofs.Ythpjhnfmafmanaa.Pure
open Go Go.RowKit Go.Proofs.Ythpjhnfmafmanaa.A Go.Proofs.YthpjhnfmafmanaaW.PrintWords Go.Proofs.YthpjhnfmafmanaaW.PrintLast Go.Proofs.YthpjhnfmafmanaaW.PrintMore Go.Proofs.Ythpjhnfmafmanaa.Z Go.Proofs.Ythpjhnfmafmanaa.Q
set_option linter.unusedVariables false
set_option linter.unusedSimpArgs false

theorem FnExactRenameSet : laws_FnExactRenameSet.Pure := by
  intro l s hm hl hw hn
  have hl' : l.length ≤ 17592186044416 := by omega
  unfold laws_FnExactRenameSet.f
  refine Ev.rounds ?_
  by_cases hb : (l.length : Int) > 1048576
  · exact Ev.ifp hb (Ev.now _)
  · refine Ev.ifn hb ?_
    refine Ev.bind (toInt_ev l hl') (Ev.bind (specRenameSet_ev l s hl') (Ev.bind (toInt_ev l hl') (Ev.bind (implRenameSet_ev l s hl') ?_)))
    refine Ev.ifp rfl (Ev.bind (toInt_ev l hl') (Ev.bind (eqInt_self l hl') ?_))
    exact Ev.ifp rfl (Ev.now _)

end Go.Proofs.Ythpjhnfmafmanaa.Pure
