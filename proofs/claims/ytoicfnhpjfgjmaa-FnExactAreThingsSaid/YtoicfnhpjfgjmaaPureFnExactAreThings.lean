/- The program's AreThings answers as the reference's: the law FnExactAreThings answers true. It has no conditions. -/
import Derived.Test.YtoicfnhpjfgjmaaPx0
import Derived.Test.YtoicfnhpjfgjmaaPx6
import Derived.Test.YtoicfnhpjfgjmaaQRod
namespace Go.Proofs.Ytoicfnhpjfgjmaa.Pure
open Go.RowKit Go.Proofs.Ytoicfnhpjfgjmaa.P Go.Proofs.Ytoicfnhpjfgjmaa.Q Go.Proofs.YtoicfnhpjfgjmaaW.PrintWords Go.Proofs.YtoicfnhpjfgjmaaW.PrintLast

theorem FnExactAreThings : laws_FnExactAreThings.Pure := by
  intro l0 _ _ _
  refine Ev.rounds (g := fun k => laws_FnExactAreThings.f k l0) ?_
  unfold laws_FnExactAreThings.f
  refine Ev.ite (fun _ => Ev.now true) (fun h => ?_)
  have hl : l0.length ≤ 1048576 := by omega
  refine Ev.bind (toIntS_ev l0 hl) ?_
  refine Ev.bind (specAreThings_ev l0 hl) ?_
  refine Ev.bind (toIntS_ev l0 hl) ?_
  refine Ev.call (AreThings_eq l0) ?_
  refine Ev.neg (by simp) ?_
  refine Ev.bind (toIntS_ev l0 hl) ?_
  refine Ev.bind (eqIntS_ev l0 hl) ?_
  exact Ev.pos rfl (Ev.now true)

end Go.Proofs.Ytoicfnhpjfgjmaa.Pure
