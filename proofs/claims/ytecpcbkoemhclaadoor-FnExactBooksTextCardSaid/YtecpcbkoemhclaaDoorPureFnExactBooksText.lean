/- The program's BooksText answers as the reference's: the law FnExactBooksText answers true. It has no conditions. -/
import Derived.Test.YtecpcbkoemhclaaDoorPx0
import Derived.Test.YtecpcbkoemhclaaDoorPx26
import Derived.Test.YtecpcbkoemhclaaDoorQTxtB
namespace Go.Proofs.YtecpcbkoemhclaaDoor.Pure
open Go.RowKit Go.Proofs.YtecpcbkoemhclaaDoor.P Go.Proofs.YtecpcbkoemhclaaDoor.Q Go.Proofs.YtecpcbkoemhclaaDoorW.PrintWords Go.Proofs.YtecpcbkoemhclaaDoorW.PrintLast
set_option linter.unusedVariables false
set_option linter.unusedSimpArgs false

theorem FnExactBooksText : laws_FnExactBooksText.Pure := by
  intro l0 hmax
  refine Ev.rounds (g := fun k => laws_FnExactBooksText.f k l0) ?_
  unfold laws_FnExactBooksText.f
  by_cases hl0 : l0.length ≤ 1048576
  case neg => exact Ev.call (szBook_big l0 hmax hl0) (Ev.pos (by omega) (Ev.now true))
  refine Ev.call (szBook_small l0 hl0) (Ev.neg (by omega) ?_)
  have hb0 : (toB l0).length ≤ 1048576 := by rw [toB_len]; exact hl0
  refine Ev.bind (toBookS_ev l0 hl0) ?_
  refine Ev.bind (specBooksText_ev (toB l0) hb0) ?_
  refine Ev.bind (toBookS_ev l0 hl0) ?_
  refine Ev.bind (implBooksText_ev (toB l0)) ?_
  refine Ev.pos rfl ?_
  refine Ev.step (fun k => by rw [laws_FnExactBooksText.j0]) ?_
  refine Ev.neg (by simp) ?_
  refine Ev.bind (toBookS_ev l0 hl0) ?_
  refine Ev.bind (eqBookS_ev (toB l0) hb0) ?_
  exact Ev.pos rfl (Ev.now true)

end Go.Proofs.YtecpcbkoemhclaaDoor.Pure
