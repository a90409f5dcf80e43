/- The program's BestOrder answers as the reference's: the law FnExactBestOrder answers true. It has no conditions. -/
import Derived.Test.YtclfjjinfbfajaaPx0
import Derived.Test.YtclfjjinfbfajaaPx16
import Derived.Test.YtclfjjinfbfajaaPx23
import Derived.Test.YtclfjjinfbfajaaPx24
import Derived.Test.YtclfjjinfbfajaaQOrdB
import Derived.Test.YtclfjjinfbfajaaQMark
namespace Go.Proofs.Ytclfjjinfbfajaa.Pure
open Go.RowKit Go.Proofs.Ytclfjjinfbfajaa.P Go.Proofs.Ytclfjjinfbfajaa.Q Go.Proofs.YtclfjjinfbfajaaW.PrintWords Go.Proofs.YtclfjjinfbfajaaW.PrintLast
set_option linter.unusedVariables false
set_option linter.unusedSimpArgs false

theorem FnExactBestOrder : laws_FnExactBestOrder.Pure := by
  intro l0 a1
  intros
  refine Ev.rounds (g := fun k => laws_FnExactBestOrder.f k l0 a1) ?_
  unfold laws_FnExactBestOrder.f
  refine Ev.ite (fun _ => Ev.now true) (fun h0 => ?_)
  have hl0 : l0.length ≤ 1048576 := by omega
  obtain ⟨v, n, b, hs, hi, hv⟩ : ∃ (v : List Int) (n : Int) (b : Bool), Ev (fun k => spec_BestOrder.f k l0 a1) (v, n, b) ∧ Ev (fun k => impl_BestOrder.f k l0 a1) (v, n, b) ∧ v.length ≤ 1048576 := order_both false scBest best_sc l0 a1 hl0
  obtain ⟨m0, hm0, _⟩ := mark_both l0 hl0 (1) (by omega)
  obtain ⟨m, hm, hh⟩ := mark_both v hv 1 (by omega)
  refine Ev.bind (toIntS_ev l0 hl0) ?_
  refine Ev.bind hs ?_
  refine Ev.bind (toIntS_ev l0 hl0) ?_
  refine Ev.bind hi ?_
  refine Ev.bind (eqIntS_ev v hv) ?_
  refine Ev.pos rfl ?_
  refine Ev.pos rfl ?_
  refine Ev.step (fun k => by rw [laws_FnExactBestOrder.j0]) ?_
  refine Ev.neg (by simp) ?_
  refine Ev.bind (toIntS_ev l0 hl0) ?_
  refine Ev.bind (eqIntS_ev l0 hl0) ?_
  refine Ev.pos rfl ?_
  refine Ev.bind hm0 ?_
  refine Ev.neg (by omega) ?_
  refine Ev.bind (eqIntS_ev v hv) ?_
  refine Ev.pos rfl ?_
  refine Ev.pos rfl ?_
  refine Ev.step (fun k => by rw [laws_FnExactBestOrder.j1]) ?_
  refine Ev.neg (by simp) ?_
  refine Ev.bind hm ?_
  refine Ev.bind hh ?_
  refine Ev.neg (by omega) ?_
  refine Ev.pos rfl ?_
  refine Ev.bind (toIntS_ev l0 hl0) ?_
  refine Ev.bind hi ?_
  refine Ev.bind (eqIntS_ev v hv) ?_
  refine Ev.pos rfl ?_
  refine Ev.pos rfl ?_
  refine Ev.step (fun k => by rw [laws_FnExactBestOrder.j2]) ?_
  refine Ev.neg (by simp) ?_
  refine Ev.bind hh ?_
  refine Ev.neg (by omega) ?_
  refine Ev.pos rfl ?_
  exact Ev.now true

end Go.Proofs.Ytclfjjinfbfajaa.Pure
