/- The program's SmoothestCase answers as the reference's: the law FnExactSmoothestCase answers true. It has no conditions. -/
import Derived.Test.YthdfkgehgkfffaaPx0
import Derived.Test.YthdfkgehgkfffaaPx20
import Derived.Test.YthdfkgehgkfffaaQShF
import Derived.Test.YthdfkgehgkfffaaQMarkB
namespace Go.Proofs.Ythdfkgehgkfffaa.Pure
open Go.RowKit Go.Proofs.Ythdfkgehgkfffaa.P Go.Proofs.Ythdfkgehgkfffaa.Q Go.Proofs.YthdfkgehgkfffaaW.PrintWords Go.Proofs.YthdfkgehgkfffaaW.PrintLast
set_option linter.unusedVariables false
set_option linter.unusedSimpArgs false

theorem FnExactSmoothestCase : laws_FnExactSmoothestCase.Pure := by
  intro l0 a1 hmax
  intros
  refine Ev.rounds (g := fun k => laws_FnExactSmoothestCase.f k l0 a1) ?_
  unfold laws_FnExactSmoothestCase.f
  by_cases hl0 : l0.length ≤ 1048576
  case neg => exact Ev.call (szBook_big l0 hmax hl0) (Ev.pos (by omega) (Ev.now true))
  refine Ev.call (szBook_small l0 hl0) (Ev.neg (by omega) ?_)
  have hb0 : (toB l0).length ≤ 1048576 := by rw [toB_len]; exact hl0
  obtain ⟨v, n, b, hs, hi, hv⟩ := smooth_both (toB l0) a1 hb0
  refine Ev.bind (toBookS_ev l0 hl0) ?_
  refine Ev.bind hs ?_
  refine Ev.bind (toBookS_ev l0 hl0) ?_
  refine Ev.bind hi ?_
  refine Ev.bind (eqIntS_ev v hv) ?_
  refine Ev.pos rfl ?_
  refine Ev.pos rfl ?_
  refine Ev.step (fun k => by rw [laws_FnExactSmoothestCase.j0]) ?_
  refine Ev.neg (by simp) ?_
  refine Ev.bind (toBookS_ev l0 hl0) ?_
  refine Ev.bind (eqBookS_ev (toB l0) hb0) ?_
  refine Ev.pos rfl ?_
  obtain ⟨mb, hmb⟩ := markB_ev (toB l0) hb0
  refine Ev.bind hmb ?_
  obtain ⟨m, hm, hh⟩ := mark_both v hv 1 (by omega)
  refine Ev.neg (by omega) ?_
  refine Ev.bind (eqIntS_ev v hv) ?_
  refine Ev.pos rfl ?_
  refine Ev.pos rfl ?_
  refine Ev.step (fun k => by rw [laws_FnExactSmoothestCase.j1]) ?_
  refine Ev.neg (by simp) ?_
  refine Ev.bind hm ?_
  refine Ev.bind hh ?_
  refine Ev.neg (by omega) ?_
  refine Ev.pos rfl ?_
  refine Ev.bind (toBookS_ev l0 hl0) ?_
  refine Ev.bind hi ?_
  refine Ev.bind (eqIntS_ev v hv) ?_
  refine Ev.pos rfl ?_
  refine Ev.pos rfl ?_
  refine Ev.step (fun k => by rw [laws_FnExactSmoothestCase.j2]) ?_
  refine Ev.neg (by simp) ?_
  refine Ev.bind hh ?_
  refine Ev.neg (by omega) ?_
  refine Ev.pos rfl ?_
  exact Ev.now true

end Go.Proofs.Ythdfkgehgkfffaa.Pure
