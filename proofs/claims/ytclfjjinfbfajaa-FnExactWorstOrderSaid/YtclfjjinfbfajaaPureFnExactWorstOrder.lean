/- The program's WorstOrder answers as the reference's: the law FnExactWorstOrder answers true. It has no conditions. -/
import Derived.Test.YtclfjjinfbfajaaPx0
import Derived.Test.YtclfjjinfbfajaaPx15
import Derived.Test.YtclfjjinfbfajaaPx34
import Derived.Test.YtclfjjinfbfajaaPx36
import Derived.Test.YtclfjjinfbfajaaQOrdB
import Derived.Test.YtclfjjinfbfajaaQMark
namespace Go.Proofs.Ytclfjjinfbfajaa.Pure
open Go.RowKit Go.Proofs.Ytclfjjinfbfajaa.P Go.Proofs.Ytclfjjinfbfajaa.Q Go.Proofs.YtclfjjinfbfajaaW.PrintWords Go.Proofs.YtclfjjinfbfajaaW.PrintLast
set_option linter.unusedVariables false
set_option linter.unusedSimpArgs false

theorem FnExactWorstOrder : laws_FnExactWorstOrder.Pure := by
  intro l0 a1
  intros
  refine Ev.rounds (g := fun k => laws_FnExactWorstOrder.f k l0 a1) ?_
  unfold laws_FnExactWorstOrder.f
  refine Ev.ite (fun _ => Ev.now true) (fun h0 => ?_)
  have hl0 : l0.length ≤ 1048576 := by omega
  obtain ⟨v, n, b, hs, hi, hv⟩ : ∃ (v : List Int) (n : Int) (b : Bool), Ev (fun k => spec_WorstOrder.f k l0 a1) (v, n, b) ∧ Ev (fun k => impl_WorstOrder.f k l0 a1) (v, n, b) ∧ v.length ≤ 1048576 := order_both true scWorst worst_sc l0 a1 hl0
  obtain ⟨m0, hm0, _⟩ := mark_both l0 hl0 (1) (by omega)
  obtain ⟨m, hm, hh⟩ := mark_both v hv 1 (by omega)
  refine Ev.bind (toIntS_ev l0 hl0) ?_
  refine Ev.bind hs ?_
  refine Ev.bind (toIntS_ev l0 hl0) ?_
  refine Ev.bind hi ?_
  refine Ev.bind (eqIntS_ev v hv) ?_
  refine Ev.pos rfl ?_
  refine Ev.pos rfl ?_
  refine Ev.step (fun k => by rw [laws_FnExactWorstOrder.j0]) ?_
  refine Ev.neg (by simp) ?_
  refine Ev.bind (toIntS_ev l0 hl0) ?_
  refine Ev.bind (eqIntS_ev l0 hl0) ?_
  refine Ev.pos rfl ?_
  refine Ev.bind hm0 ?_
  refine Ev.neg (by omega) ?_
  refine Ev.bind (eqIntS_ev v hv) ?_
  refine Ev.pos rfl ?_
  refine Ev.pos rfl ?_
  refine Ev.step (fun k => by rw [laws_FnExactWorstOrder.j1]) ?_
  refine Ev.neg (by simp) ?_
  refine Ev.bind hm ?_
  refine Ev.bind hh ?_
  refine Ev.neg (by omega) ?_
  refine Ev.pos rfl ?_
  refine Ev.bind (toIntS_ev l0 hl0) ?_
  refine Ev.bind hi ?_
  refine Ev.bind (eqIntS_ev v hv) ?_
  refine Ev.pos rfl ?_
  refine Ev.pos rfl ?_
  refine Ev.step (fun k => by rw [laws_FnExactWorstOrder.j2]) ?_
  refine Ev.neg (by simp) ?_
  refine Ev.bind hh ?_
  refine Ev.neg (by omega) ?_
  refine Ev.pos rfl ?_
  exact Ev.now true

end Go.Proofs.Ytclfjjinfbfajaa.Pure
