/- The program's AddWeights and the reference's answer alike at every argument, and what is handed back is apart from the arguments: the pure form of the law. No condition beside the statement's own. -/
import Derived.Test.YthpjhnfmafmanaaA7
import Derived.Test.YthpjhnfmafmanaaQtoInt
import Derived.Test.YthpjhnfmafmanaaQmarks
import Derived.Test.YthpjhnfmafmanaaQaddWeights
namespace Go.Proofs.Ythpjhnfmafmanaa.Pure
open Go Go.RowKit Go.Proofs.Ythpjhnfmafmanaa.A Go.Proofs.YthpjhnfmafmanaaW.PrintWords Go.Proofs.YthpjhnfmafmanaaW.PrintLast Go.Proofs.YthpjhnfmafmanaaW.PrintMore Go.Proofs.Ythpjhnfmafmanaa.Z Go.Proofs.Ythpjhnfmafmanaa.Q
set_option linter.unusedVariables false
set_option linter.unusedSimpArgs false

theorem FnExactAddWeights : laws_FnExactAddWeights.Pure := by
  intro u v hm hl hw hm2 hl2 hw2
  have hl' : u.length ≤ 17592186044416 := by omega
  have hv' : v.length ≤ 17592186044416 := by omega
  unfold laws_FnExactAddWeights.f
  refine Ev.rounds ?_
  by_cases hb : (u.length : Int) > 1048576
  · exact Ev.ifp hb (Ev.now _)
  refine Ev.ifn hb ?_
  by_cases hb2 : (v.length : Int) > 1048576
  · exact Ev.ifp hb2 (Ev.now _)
  refine Ev.ifn hb2 ?_
  have hg := addB_len u v
  have hs := specAdd_ev u v (by omega)
  have hi := implAdd_ev u v (by omega)
  have hge : (addB u v).length ≤ 17592186044416 := by omega
  refine Ev.bind (toInt_ev u hl') (Ev.bind (toInt_ev v hv') (Ev.bind hs (Ev.bind (toInt_ev u hl') (Ev.bind (toInt_ev v hv') (Ev.bind hi (Ev.bind (eqInt_self _ hge) (Ev.ifp rfl ?_)))))))
  refine Ev.bind (toInt_ev u hl') (Ev.bind (eqInt_self u hl') (Ev.ifp rfl (Ev.bind (toInt_ev v hv') (Ev.bind (eqInt_self v hv') (Ev.ifp rfl ?_)))))
  refine Ev.bind (mark_ev u 1 (by omega) (by omega) hl') ?_
  refine Ev.bind (mark_ev v (1 + (u.length : Int)) (by omega) (by omega) hv') ?_
  refine Ev.ifn (by simp only []; omega) (Ev.bind (eqInt_self _ hge) ?_)
  apply Ev.step
  · intro k
    rw [laws_FnExactAddWeights.j0]
  refine Ev.ifn (by decide) ?_
  refine Ev.bind (mark_ev (addB u v) 1 (by omega) (by omega) hge) (Ev.bind (held_ev _ 1 (by omega) (by omega) hge) ?_)
  refine Ev.ifn (by omega) (Ev.ifp rfl ?_)
  refine Ev.bind (toInt_ev u hl') (Ev.bind (toInt_ev v hv') (Ev.bind hi (Ev.bind (eqInt_self _ hge) (Ev.ifp rfl ?_))))
  refine Ev.bind (held_ev _ 1 (by omega) (by omega) hge) ?_
  exact Ev.ifn (by omega) (Ev.ifp rfl (Ev.now _))

end Go.Proofs.Ythpjhnfmafmanaa.Pure
