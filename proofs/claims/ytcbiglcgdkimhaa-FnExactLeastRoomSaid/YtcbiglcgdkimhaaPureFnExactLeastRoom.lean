/- The program's LeastRoom answers as the reference's: the law FnExactLeastRoom answers true. It has no conditions. -/
import Derived.Test.YtcbiglcgdkimhaaPx0
import Derived.Test.YtcbiglcgdkimhaaPx13
import Derived.Test.YtcbiglcgdkimhaaQLeast
namespace Go.Proofs.Ytcbiglcgdkimhaa.Pure
open Go.RowKit Go.Proofs.Ytcbiglcgdkimhaa.P Go.Proofs.Ytcbiglcgdkimhaa.Q Go.Proofs.YtcbiglcgdkimhaaW.PrintWords Go.Proofs.YtcbiglcgdkimhaaW.PrintLast
set_option linter.unusedVariables false
set_option linter.unusedSimpArgs false

theorem FnExactLeastRoom : laws_FnExactLeastRoom.Pure := by
  intro l0 a1
  intros
  refine Ev.rounds (g := fun k => laws_FnExactLeastRoom.f k l0 a1) ?_
  unfold laws_FnExactLeastRoom.f
  refine Ev.ite (fun _ => Ev.now true) (fun h0 => ?_)
  have hl0 : l0.length ≤ 1048576 := by omega
  obtain ⟨r, hs, hi⟩ := leastRoom_both l0 a1 hl0
  refine Ev.bind (toIntS_ev l0 hl0) ?_
  refine Ev.bind hs ?_
  refine Ev.bind (toIntS_ev l0 hl0) ?_
  refine Ev.bind hi ?_
  refine Ev.pos rfl ?_
  refine Ev.step (fun k => by rw [laws_FnExactLeastRoom.j0]) ?_
  refine Ev.neg (by simp) ?_
  refine Ev.bind (toIntS_ev l0 hl0) ?_
  refine Ev.bind (eqIntS_ev l0 hl0) ?_
  refine Ev.pos rfl ?_
  exact Ev.now true

end Go.Proofs.Ytcbiglcgdkimhaa.Pure
