/- The program's TallestFirst answers as the reference's: the law FnExactTallestFirst answers true. It has no conditions. -/
import Derived.Test.YthpabbepglokeaaPx0
import Derived.Test.YthpabbepglokeaaPx14
import Derived.Test.YthpabbepglokeaaQTf
import Derived.Test.YthpabbepglokeaaQMarkC
namespace Go.Proofs.Ythpabbepglokeaa.Pure
open Go.RowKit Go.Proofs.Ythpabbepglokeaa.P Go.Proofs.Ythpabbepglokeaa.Q Go.Proofs.YthpabbepglokeaaW.PrintWords Go.Proofs.YthpabbepglokeaaW.PrintLast
set_option linter.unusedVariables false
set_option linter.unusedSimpArgs false

theorem FnExactTallestFirst : laws_FnExactTallestFirst.Pure := by
  intro l0 hmax
  intros
  refine Ev.rounds (g := fun k => laws_FnExactTallestFirst.f k l0) ?_
  unfold laws_FnExactTallestFirst.f
  by_cases hl0 : l0.length ≤ 1048576
  case neg => exact Ev.call (szBook_big l0 hmax hl0) (Ev.pos (by omega) (Ev.now true))
  refine Ev.call (szBook_small l0 hl0) (Ev.neg (by omega) ?_)
  have hb0 : (toB l0).length ≤ 1048576 := by rw [toB_len]; exact hl0
  obtain ⟨v, b, hs, hi, hv⟩ := tallest_both (toB l0) hb0
  refine Ev.bind (toBookS_ev l0 hl0) ?_
  refine Ev.bind hs ?_
  refine Ev.bind (toBookS_ev l0 hl0) ?_
  refine Ev.bind hi ?_
  refine Ev.bind (eqBookS_ev v hv) ?_
  refine Ev.pos rfl ?_
  refine Ev.step (fun k => by rw [laws_FnExactTallestFirst.j0]) ?_
  refine Ev.neg (by simp) ?_
  refine Ev.bind (toBookS_ev l0 hl0) ?_
  refine Ev.bind (eqBookS_ev (toB l0) hb0) ?_
  refine Ev.pos rfl ?_
  obtain ⟨mb, hmb, _⟩ := markB_both (toB l0) hb0
  refine Ev.bind hmb ?_
  obtain ⟨m, hm, hh⟩ := markB_both v hv
  refine Ev.neg (by omega) ?_
  refine Ev.bind (eqBookS_ev v hv) ?_
  refine Ev.pos rfl ?_
  refine Ev.step (fun k => by rw [laws_FnExactTallestFirst.j1]) ?_
  refine Ev.neg (by simp) ?_
  refine Ev.bind hm ?_
  refine Ev.bind hh ?_
  refine Ev.neg (by omega) ?_
  refine Ev.pos rfl ?_
  refine Ev.bind (toBookS_ev l0 hl0) ?_
  refine Ev.bind hi ?_
  refine Ev.bind (eqBookS_ev v hv) ?_
  refine Ev.pos rfl ?_
  refine Ev.step (fun k => by rw [laws_FnExactTallestFirst.j2]) ?_
  refine Ev.neg (by simp) ?_
  refine Ev.bind hh ?_
  refine Ev.neg (by omega) ?_
  refine Ev.pos rfl ?_
  exact Ev.now true

end Go.Proofs.Ythpabbepglokeaa.Pure
