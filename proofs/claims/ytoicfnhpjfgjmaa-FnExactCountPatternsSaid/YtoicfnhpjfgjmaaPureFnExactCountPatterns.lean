/- The program's CountPatterns answers as the reference's: the law FnExactCountPatterns answers true. It has no conditions. -/
import Derived.Test.YtoicfnhpjfgjmaaPx0
import Derived.Test.YtoicfnhpjfgjmaaPx16
import Derived.Test.YtoicfnhpjfgjmaaQPat
namespace Go.Proofs.Ytoicfnhpjfgjmaa.Pure
open Go.RowKit Go.Proofs.Ytoicfnhpjfgjmaa.P Go.Proofs.Ytoicfnhpjfgjmaa.Q Go.Proofs.YtoicfnhpjfgjmaaW.PrintWords Go.Proofs.YtoicfnhpjfgjmaaW.PrintLast
set_option linter.unusedVariables false
set_option linter.unusedSimpArgs false

theorem FnExactCountPatterns : laws_FnExactCountPatterns.Pure := by
  intro a0 l1
  intros
  refine Ev.rounds (g := fun k => laws_FnExactCountPatterns.f k a0 l1) ?_
  unfold laws_FnExactCountPatterns.f
  refine Ev.ite (fun _ => Ev.now true) (fun h0 => ?_)
  have hl0 : l1.length ≤ 1048576 := by omega
  obtain ⟨r, hs, hi⟩ := countPatterns_both a0 l1 hl0
  refine Ev.bind (toIntS_ev l1 hl0) ?_
  refine Ev.bind hs ?_
  refine Ev.bind (toIntS_ev l1 hl0) ?_
  refine Ev.bind hi ?_
  refine Ev.pos rfl ?_
  refine Ev.step (fun k => by rw [laws_FnExactCountPatterns.j0]) ?_
  refine Ev.neg (by simp) ?_
  refine Ev.bind (toIntS_ev l1 hl0) ?_
  refine Ev.bind (eqIntS_ev l1 hl0) ?_
  refine Ev.pos rfl ?_
  exact Ev.now true

end Go.Proofs.Ytoicfnhpjfgjmaa.Pure
