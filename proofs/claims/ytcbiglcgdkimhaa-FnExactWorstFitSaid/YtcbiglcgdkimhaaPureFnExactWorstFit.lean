/- The program's WorstFit answers as the reference's: the law FnExactWorstFit answers true. It has no conditions. -/
import Derived.Test.YtcbiglcgdkimhaaPx0
import Derived.Test.YtcbiglcgdkimhaaPx17
import Derived.Test.YtcbiglcgdkimhaaPx18
import Derived.Test.YtcbiglcgdkimhaaPx19
import Derived.Test.YtcbiglcgdkimhaaQRule
import Derived.Test.YtcbiglcgdkimhaaQMark
namespace Go.Proofs.Ytcbiglcgdkimhaa.Pure
open Go.RowKit Go.Proofs.Ytcbiglcgdkimhaa.P Go.Proofs.Ytcbiglcgdkimhaa.Q Go.Proofs.YtcbiglcgdkimhaaW.PrintWords Go.Proofs.YtcbiglcgdkimhaaW.PrintLast
set_option linter.unusedVariables false
set_option linter.unusedSimpArgs false

theorem FnExactWorstFit : laws_FnExactWorstFit.Pure := by
  intro l0 a1
  intros
  refine Ev.rounds (g := fun k => laws_FnExactWorstFit.f k l0 a1) ?_
  unfold laws_FnExactWorstFit.f
  refine Ev.ite (fun _ => Ev.now true) (fun h0 => ?_)
  have hl0 : l0.length ≤ 1048576 := by omega
  obtain ⟨v, b, hs, hi, hv⟩ : ∃ v b, Ev (fun k => spec_WorstFit.f k l0 a1) (v, b) ∧ Ev (fun k => impl_WorstFit.f k l0 a1) (v, b) ∧ v.length ≤ 1048576 :=
    ⟨_, _, specRule_ev 119 a1 l0 hl0, byScore_ev 119 a1 scoreW (by omega) l0 hl0 (fun loads b k h hb hk => by have := h b hb; have := h k hk; unfold scoreW; rw [w64 (by omega) (by omega), w64 (by omega) (by omega)]; omega), rule_len 119 a1 l0 hl0⟩
  obtain ⟨m0, hm0, _⟩ := mark_both l0 hl0 (1) (by omega)
  obtain ⟨m, hm, hh⟩ := mark_both v hv 1 (by omega)
  refine Ev.bind (toIntS_ev l0 hl0) ?_
  refine Ev.bind hs ?_
  refine Ev.bind (toIntS_ev l0 hl0) ?_
  refine Ev.bind hi ?_
  refine Ev.bind (eqIntS_ev v hv) ?_
  refine Ev.pos rfl ?_
  refine Ev.step (fun k => by rw [laws_FnExactWorstFit.j0]) ?_
  refine Ev.neg (by simp) ?_
  refine Ev.bind (toIntS_ev l0 hl0) ?_
  refine Ev.bind (eqIntS_ev l0 hl0) ?_
  refine Ev.pos rfl ?_
  refine Ev.bind hm0 ?_
  refine Ev.neg (by omega) ?_
  refine Ev.bind (eqIntS_ev v hv) ?_
  refine Ev.pos rfl ?_
  refine Ev.step (fun k => by rw [laws_FnExactWorstFit.j1]) ?_
  refine Ev.neg (by simp) ?_
  refine Ev.bind hm ?_
  refine Ev.bind hh ?_
  refine Ev.neg (by omega) ?_
  refine Ev.pos rfl ?_
  refine Ev.bind (toIntS_ev l0 hl0) ?_
  refine Ev.bind hi ?_
  refine Ev.bind (eqIntS_ev v hv) ?_
  refine Ev.pos rfl ?_
  refine Ev.step (fun k => by rw [laws_FnExactWorstFit.j2]) ?_
  refine Ev.neg (by simp) ?_
  refine Ev.bind hh ?_
  refine Ev.neg (by omega) ?_
  refine Ev.pos rfl ?_
  exact Ev.now true

end Go.Proofs.Ytcbiglcgdkimhaa.Pure
