/- The program's BoxesBound answers as the reference's: the law FnExactBoxesBound answers true. It has no conditions. -/
import Derived.Test.YtoicfnhpjfgjmaaPx0
import Derived.Test.YtoicfnhpjfgjmaaPx11
import Derived.Test.YtoicfnhpjfgjmaaQRodD
namespace Go.Proofs.Ytoicfnhpjfgjmaa.Pure
open Go.RowKit Go.Proofs.Ytoicfnhpjfgjmaa.P Go.Proofs.Ytoicfnhpjfgjmaa.Q Go.Proofs.YtoicfnhpjfgjmaaW.PrintWords Go.Proofs.YtoicfnhpjfgjmaaW.PrintLast
set_option linter.unusedVariables false
set_option linter.unusedSimpArgs false

theorem FnExactBoxesBound : laws_FnExactBoxesBound.Pure := by
  intro l0 a1
  intros
  refine Ev.rounds (g := fun k => laws_FnExactBoxesBound.f k l0 a1) ?_
  unfold laws_FnExactBoxesBound.f
  refine Ev.ite (fun _ => Ev.now true) (fun h0 => ?_)
  have hl0 : l0.length ≤ 1048576 := by omega
  obtain ⟨r, hs, hi⟩ := boxesBound_both l0 a1 hl0
  refine Ev.bind (toIntS_ev l0 hl0) ?_
  refine Ev.bind hs ?_
  refine Ev.bind (toIntS_ev l0 hl0) ?_
  refine Ev.bind hi ?_
  refine Ev.pos rfl ?_
  refine Ev.step (fun k => by rw [laws_FnExactBoxesBound.j0]) ?_
  refine Ev.neg (by simp) ?_
  refine Ev.bind (toIntS_ev l0 hl0) ?_
  refine Ev.bind (eqIntS_ev l0 hl0) ?_
  refine Ev.pos rfl ?_
  exact Ev.now true

end Go.Proofs.Ytoicfnhpjfgjmaa.Pure
