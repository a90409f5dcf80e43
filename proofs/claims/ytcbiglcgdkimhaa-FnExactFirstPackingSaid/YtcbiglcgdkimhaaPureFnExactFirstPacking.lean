/- The program's FirstPacking answers as the reference's: the law FnExactFirstPacking answers true. It has no conditions. -/
import Derived.Test.YtcbiglcgdkimhaaPx0
import Derived.Test.YtcbiglcgdkimhaaPx18
import Derived.Test.YtcbiglcgdkimhaaQPlansB
import Derived.Test.YtcbiglcgdkimhaaQMark
namespace Go.Proofs.Ytcbiglcgdkimhaa.Pure
open Go.RowKit Go.Proofs.Ytcbiglcgdkimhaa.P Go.Proofs.Ytcbiglcgdkimhaa.Q Go.Proofs.YtcbiglcgdkimhaaW.PrintWords Go.Proofs.YtcbiglcgdkimhaaW.PrintLast
set_option linter.unusedVariables false
set_option linter.unusedSimpArgs false

theorem FnExactFirstPacking : laws_FnExactFirstPacking.Pure := by
  intro l0 a1
  intros
  refine Ev.rounds (g := fun k => laws_FnExactFirstPacking.f k l0 a1) ?_
  unfold laws_FnExactFirstPacking.f
  refine Ev.ite (fun _ => Ev.now true) (fun h0 => ?_)
  have hl0 : l0.length ≤ 1048576 := by omega
  obtain ⟨v, b, hs, hi, hv⟩ := firstPacking_both l0 a1 hl0
  obtain ⟨m0, hm0, _⟩ := mark_both l0 hl0 (1) (by omega)
  obtain ⟨m, hm, hh⟩ := mark_both v hv 1 (by omega)
  refine Ev.bind (toIntS_ev l0 hl0) ?_
  refine Ev.bind hs ?_
  refine Ev.bind (toIntS_ev l0 hl0) ?_
  refine Ev.bind hi ?_
  refine Ev.bind (eqIntS_ev v hv) ?_
  refine Ev.pos rfl ?_
  refine Ev.step (fun k => by rw [laws_FnExactFirstPacking.j0]) ?_
  refine Ev.neg (by simp) ?_
  refine Ev.bind (toIntS_ev l0 hl0) ?_
  refine Ev.bind (eqIntS_ev l0 hl0) ?_
  refine Ev.pos rfl ?_
  refine Ev.bind hm0 ?_
  refine Ev.neg (by omega) ?_
  refine Ev.bind (eqIntS_ev v hv) ?_
  refine Ev.pos rfl ?_
  refine Ev.step (fun k => by rw [laws_FnExactFirstPacking.j1]) ?_
  refine Ev.neg (by simp) ?_
  refine Ev.bind hm ?_
  refine Ev.bind hh ?_
  refine Ev.neg (by omega) ?_
  refine Ev.pos rfl ?_
  refine Ev.bind (toIntS_ev l0 hl0) ?_
  refine Ev.bind hi ?_
  refine Ev.bind (eqIntS_ev v hv) ?_
  refine Ev.pos rfl ?_
  refine Ev.step (fun k => by rw [laws_FnExactFirstPacking.j2]) ?_
  refine Ev.neg (by simp) ?_
  refine Ev.bind hh ?_
  refine Ev.neg (by omega) ?_
  refine Ev.pos rfl ?_
  exact Ev.now true

end Go.Proofs.Ytcbiglcgdkimhaa.Pure
