/- The program's NextFit answers as the reference's: the law FnExactNextFit answers true. It has no conditions. -/
import Derived.Test.YtcbiglcgdkimhaaPx0
import Derived.Test.YtcbiglcgdkimhaaPx6
import Derived.Test.YtcbiglcgdkimhaaPx12
import Derived.Test.YtcbiglcgdkimhaaPx14
import Derived.Test.YtcbiglcgdkimhaaQNext
import Derived.Test.YtcbiglcgdkimhaaQMark
namespace Go.Proofs.Ytcbiglcgdkimhaa.Pure
open Go.RowKit Go.Proofs.Ytcbiglcgdkimhaa.P Go.Proofs.Ytcbiglcgdkimhaa.Q Go.Proofs.YtcbiglcgdkimhaaW.PrintWords Go.Proofs.YtcbiglcgdkimhaaW.PrintLast
set_option linter.unusedVariables false
set_option linter.unusedSimpArgs false

theorem FnExactNextFit : laws_FnExactNextFit.Pure := by
  intro l0 a1
  intros
  refine Ev.rounds (g := fun k => laws_FnExactNextFit.f k l0 a1) ?_
  unfold laws_FnExactNextFit.f
  refine Ev.ite (fun _ => Ev.now true) (fun h0 => ?_)
  have hl0 : l0.length ≤ 1048576 := by omega
  obtain ⟨v, b, hs, hi, hv⟩ : ∃ v b, Ev (fun k => spec_NextFit.f k l0 a1) (v, b) ∧ Ev (fun k => impl_NextFit.f k l0 a1) (v, b) ∧ v.length ≤ 1048576 :=
    ⟨_, _, specRule_ev 110 a1 l0 hl0, nextFit_ev l0 a1 hl0, rule_len 110 a1 l0 hl0⟩
  obtain ⟨m0, hm0, _⟩ := mark_both l0 hl0 (1) (by omega)
  obtain ⟨m, hm, hh⟩ := mark_both v hv 1 (by omega)
  refine Ev.bind (toIntS_ev l0 hl0) ?_
  refine Ev.bind hs ?_
  refine Ev.bind (toIntS_ev l0 hl0) ?_
  refine Ev.bind hi ?_
  refine Ev.bind (eqIntS_ev v hv) ?_
  refine Ev.pos rfl ?_
  refine Ev.step (fun k => by rw [laws_FnExactNextFit.j0]) ?_
  refine Ev.neg (by simp) ?_
  refine Ev.bind (toIntS_ev l0 hl0) ?_
  refine Ev.bind (eqIntS_ev l0 hl0) ?_
  refine Ev.pos rfl ?_
  refine Ev.bind hm0 ?_
  refine Ev.neg (by omega) ?_
  refine Ev.bind (eqIntS_ev v hv) ?_
  refine Ev.pos rfl ?_
  refine Ev.step (fun k => by rw [laws_FnExactNextFit.j1]) ?_
  refine Ev.neg (by simp) ?_
  refine Ev.bind hm ?_
  refine Ev.bind hh ?_
  refine Ev.neg (by omega) ?_
  refine Ev.pos rfl ?_
  refine Ev.bind (toIntS_ev l0 hl0) ?_
  refine Ev.bind hi ?_
  refine Ev.bind (eqIntS_ev v hv) ?_
  refine Ev.pos rfl ?_
  refine Ev.step (fun k => by rw [laws_FnExactNextFit.j2]) ?_
  refine Ev.neg (by simp) ?_
  refine Ev.bind hh ?_
  refine Ev.neg (by omega) ?_
  refine Ev.pos rfl ?_
  exact Ev.now true

end Go.Proofs.Ytcbiglcgdkimhaa.Pure
