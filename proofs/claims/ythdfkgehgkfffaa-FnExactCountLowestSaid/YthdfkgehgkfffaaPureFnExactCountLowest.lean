/- The program's CountLowest answers as the reference's: the law FnExactCountLowest answers true. It has no conditions. -/
import Derived.Test.YthdfkgehgkfffaaPx0
import Derived.Test.YthdfkgehgkfffaaPx22
import Derived.Test.YthdfkgehgkfffaaQShE
namespace Go.Proofs.Ythdfkgehgkfffaa.Pure
open Go.RowKit Go.Proofs.Ythdfkgehgkfffaa.P Go.Proofs.Ythdfkgehgkfffaa.Q Go.Proofs.YthdfkgehgkfffaaW.PrintWords Go.Proofs.YthdfkgehgkfffaaW.PrintLast
set_option linter.unusedVariables false
set_option linter.unusedSimpArgs false

theorem FnExactCountLowest : laws_FnExactCountLowest.Pure := by
  intro l0 a1 hmax
  intros
  refine Ev.rounds (g := fun k => laws_FnExactCountLowest.f k l0 a1) ?_
  unfold laws_FnExactCountLowest.f
  by_cases hl0 : l0.length ≤ 1048576
  case neg => exact Ev.call (szBook_big l0 hmax hl0) (Ev.pos (by omega) (Ev.now true))
  refine Ev.call (szBook_small l0 hl0) (Ev.neg (by omega) ?_)
  have hb0 : (toB l0).length ≤ 1048576 := by rw [toB_len]; exact hl0
  obtain ⟨r, hs, hi⟩ := countLowest_both (toB l0) a1 hb0
  refine Ev.bind (toBookS_ev l0 hl0) ?_
  refine Ev.bind hs ?_
  refine Ev.bind (toBookS_ev l0 hl0) ?_
  refine Ev.bind hi ?_
  refine Ev.pos rfl ?_
  refine Ev.step (fun k => by rw [laws_FnExactCountLowest.j0]) ?_
  refine Ev.neg (by simp) ?_
  refine Ev.bind (toBookS_ev l0 hl0) ?_
  refine Ev.bind (eqBookS_ev (toB l0) hb0) ?_
  refine Ev.pos rfl ?_
  exact Ev.now true

end Go.Proofs.Ythdfkgehgkfffaa.Pure
