/- The program's LoadsOf answers as the reference's: the law FnExactLoadsOf answers true. It has no conditions. -/
import Derived.Test.YtcbiglcgdkimhaaPx0
import Derived.Test.YtcbiglcgdkimhaaPx26
import Derived.Test.YtcbiglcgdkimhaaPx27
import Derived.Test.YtcbiglcgdkimhaaQPlanC
import Derived.Test.YtcbiglcgdkimhaaQMark
namespace Go.Proofs.Ytcbiglcgdkimhaa.Pure
open Go.RowKit Go.Proofs.Ytcbiglcgdkimhaa.P Go.Proofs.Ytcbiglcgdkimhaa.Q Go.Proofs.YtcbiglcgdkimhaaW.PrintWords Go.Proofs.YtcbiglcgdkimhaaW.PrintLast
set_option linter.unusedVariables false
set_option linter.unusedSimpArgs false

theorem FnExactLoadsOf : laws_FnExactLoadsOf.Pure := by
  intro l0 a1 l2
  intros
  refine Ev.rounds (g := fun k => laws_FnExactLoadsOf.f k l0 a1 l2) ?_
  unfold laws_FnExactLoadsOf.f
  refine Ev.ite (fun _ => Ev.now true) (fun h0 => ?_)
  have hl0 : l0.length ≤ 1048576 := by omega
  refine Ev.ite (fun _ => Ev.now true) (fun h1 => ?_)
  have hl1 : l2.length ≤ 1048576 := by omega
  obtain ⟨v, b, hs, hi, hv⟩ : ∃ v b, Ev (fun k => spec_LoadsOf.f k l0 a1 l2) (v, b) ∧ Ev (fun k => impl_LoadsOf.f k l0 a1 l2) (v, b) ∧ v.length ≤ 1048576 :=
    ⟨_, _, specLoadsOf_ev l0 a1 l2 hl0, LoadsOf_ev l0 a1 l2 hl0 hl1, loadsV_len l0 a1 l2 hl1⟩
  obtain ⟨m0, hm0, _⟩ := mark_both l0 hl0 (1) (by omega)
  obtain ⟨m1, hm1, _⟩ := mark_both l2 hl1 (1 + l0.length) (by omega)
  obtain ⟨m, hm, hh⟩ := mark_both v hv 1 (by omega)
  refine Ev.bind (toIntS_ev l0 hl0) ?_
  refine Ev.bind (toIntS_ev l2 hl1) ?_
  refine Ev.bind hs ?_
  refine Ev.bind (toIntS_ev l0 hl0) ?_
  refine Ev.bind (toIntS_ev l2 hl1) ?_
  refine Ev.bind hi ?_
  refine Ev.bind (eqIntS_ev v hv) ?_
  refine Ev.pos rfl ?_
  refine Ev.step (fun k => by rw [laws_FnExactLoadsOf.j0]) ?_
  refine Ev.neg (by simp) ?_
  refine Ev.bind (toIntS_ev l0 hl0) ?_
  refine Ev.bind (eqIntS_ev l0 hl0) ?_
  refine Ev.pos rfl ?_
  refine Ev.bind (toIntS_ev l2 hl1) ?_
  refine Ev.bind (eqIntS_ev l2 hl1) ?_
  refine Ev.pos rfl ?_
  refine Ev.bind hm0 ?_
  refine Ev.bind hm1 ?_
  refine Ev.neg (by omega) ?_
  refine Ev.bind (eqIntS_ev v hv) ?_
  refine Ev.pos rfl ?_
  refine Ev.step (fun k => by rw [laws_FnExactLoadsOf.j1]) ?_
  refine Ev.neg (by simp) ?_
  refine Ev.bind hm ?_
  refine Ev.bind hh ?_
  refine Ev.neg (by omega) ?_
  refine Ev.pos rfl ?_
  refine Ev.bind (toIntS_ev l0 hl0) ?_
  refine Ev.bind (toIntS_ev l2 hl1) ?_
  refine Ev.bind hi ?_
  refine Ev.bind (eqIntS_ev v hv) ?_
  refine Ev.pos rfl ?_
  refine Ev.step (fun k => by rw [laws_FnExactLoadsOf.j2]) ?_
  refine Ev.neg (by simp) ?_
  refine Ev.bind hh ?_
  refine Ev.neg (by omega) ?_
  refine Ev.pos rfl ?_
  exact Ev.now true

end Go.Proofs.Ytcbiglcgdkimhaa.Pure
