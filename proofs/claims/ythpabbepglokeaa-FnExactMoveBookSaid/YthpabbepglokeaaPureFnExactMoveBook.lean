/- The program's MoveBook answers as the reference's: the law FnExactMoveBook answers true. It has no conditions. -/
import Derived.Test.YthpabbepglokeaaPx0
import Derived.Test.YthpabbepglokeaaPx15
import Derived.Test.YthpabbepglokeaaQMv
import Derived.Test.YthpabbepglokeaaQMarkC
namespace Go.Proofs.Ythpabbepglokeaa.Pure
open Go.RowKit Go.Proofs.Ythpabbepglokeaa.P Go.Proofs.Ythpabbepglokeaa.Q Go.Proofs.YthpabbepglokeaaW.PrintWords Go.Proofs.YthpabbepglokeaaW.PrintLast
set_option linter.unusedVariables false
set_option linter.unusedSimpArgs false

theorem FnExactMoveBook : laws_FnExactMoveBook.Pure := by
  intro l0 a1 a2 hmax
  intros
  refine Ev.rounds (g := fun k => laws_FnExactMoveBook.f k l0 a1 a2) ?_
  unfold laws_FnExactMoveBook.f
  by_cases hl0 : l0.length ≤ 1048576
  case neg => exact Ev.call (szBook_big l0 hmax hl0) (Ev.pos (by omega) (Ev.now true))
  refine Ev.call (szBook_small l0 hl0) (Ev.neg (by omega) ?_)
  have hb0 : (toB l0).length ≤ 1048576 := by rw [toB_len]; exact hl0
  obtain ⟨v, b, hs, hi, hv⟩ := moveBook_both (toB l0) a1 a2 hb0
  refine Ev.bind (toBookS_ev l0 hl0) ?_
  refine Ev.bind hs ?_
  refine Ev.bind (toBookS_ev l0 hl0) ?_
  refine Ev.call hi ?_
  refine Ev.bind (eqBookS_ev v hv) ?_
  refine Ev.pos rfl ?_
  refine Ev.step (fun k => by rw [laws_FnExactMoveBook.j0]) ?_
  refine Ev.neg (by simp) ?_
  refine Ev.bind (toBookS_ev l0 hl0) ?_
  refine Ev.bind (eqBookS_ev (toB l0) hb0) ?_
  refine Ev.pos rfl ?_
  obtain ⟨mb, hmb, _⟩ := markB_both (toB l0) hb0
  refine Ev.bind hmb ?_
  obtain ⟨m, hm, hh⟩ := markB_both v hv
  refine Ev.neg (by omega) ?_
  refine Ev.bind (eqBookS_ev v hv) ?_
  refine Ev.pos rfl ?_
  refine Ev.step (fun k => by rw [laws_FnExactMoveBook.j1]) ?_
  refine Ev.neg (by simp) ?_
  refine Ev.bind hm ?_
  refine Ev.bind hh ?_
  refine Ev.neg (by omega) ?_
  refine Ev.pos rfl ?_
  refine Ev.bind (toBookS_ev l0 hl0) ?_
  refine Ev.call hi ?_
  refine Ev.bind (eqBookS_ev v hv) ?_
  refine Ev.pos rfl ?_
  refine Ev.step (fun k => by rw [laws_FnExactMoveBook.j2]) ?_
  refine Ev.neg (by simp) ?_
  refine Ev.bind hh ?_
  refine Ev.neg (by omega) ?_
  refine Ev.pos rfl ?_
  exact Ev.now true

end Go.Proofs.Ythpabbepglokeaa.Pure
