/- The program's FewestShelves answers as the reference's: the law FnExactFewestShelves answers true. It has no conditions. -/
import Derived.Test.YtphpdgjcmocdcaaPx0
import Derived.Test.YtphpdgjcmocdcaaPx8
import Derived.Test.YtphpdgjcmocdcaaQBookB
namespace Go.Proofs.Ytphpdgjcmocdcaa.Pure
open Go.RowKit Go.Proofs.Ytphpdgjcmocdcaa.P Go.Proofs.Ytphpdgjcmocdcaa.Q Go.Proofs.YtphpdgjcmocdcaaW.PrintWords Go.Proofs.YtphpdgjcmocdcaaW.PrintLast
set_option linter.unusedVariables false
set_option linter.unusedSimpArgs false

theorem FnExactFewestShelves : laws_FnExactFewestShelves.Pure := by
  intro l0 a1 hmax
  intros
  refine Ev.rounds (g := fun k => laws_FnExactFewestShelves.f k l0 a1) ?_
  unfold laws_FnExactFewestShelves.f
  by_cases hl0 : l0.length ≤ 1048576
  case neg => exact Ev.call (szBook_big l0 hmax hl0) (Ev.pos (by omega) (Ev.now true))
  refine Ev.call (szBook_small l0 hl0) (Ev.neg (by omega) ?_)
  have hb0 : (toB l0).length ≤ 1048576 := by rw [toB_len]; exact hl0
  obtain ⟨r, hs, hi⟩ := fewestShelves_both (toB l0) a1 hb0
  refine Ev.bind (toBookS_ev l0 hl0) ?_
  refine Ev.bind hs ?_
  refine Ev.bind (toBookS_ev l0 hl0) ?_
  refine Ev.bind hi ?_
  refine Ev.pos rfl ?_
  refine Ev.step (fun k => by rw [laws_FnExactFewestShelves.j0]) ?_
  refine Ev.neg (by simp) ?_
  refine Ev.bind (toBookS_ev l0 hl0) ?_
  refine Ev.bind (eqBookS_ev (toB l0) hb0) ?_
  refine Ev.pos rfl ?_
  exact Ev.now true

end Go.Proofs.Ytphpdgjcmocdcaa.Pure
