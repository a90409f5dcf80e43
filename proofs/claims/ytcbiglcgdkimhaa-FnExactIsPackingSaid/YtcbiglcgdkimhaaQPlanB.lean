/- IsPacking and LoadsOf: both texts answer the same pair. Conditions: at most 1048576 elements. -/
import Derived.Test.YtcbiglcgdkimhaaPx0
import Derived.Test.YtcbiglcgdkimhaaPx20
import Derived.Test.YtcbiglcgdkimhaaPx22
import Derived.Test.YtcbiglcgdkimhaaQPlan
namespace Go.Proofs.Ytcbiglcgdkimhaa.Q
open Go.RowKit Go.Proofs.Ytcbiglcgdkimhaa.P Go.Proofs.YtcbiglcgdkimhaaW.PrintWords Go.Proofs.YtcbiglcgdkimhaaW.PrintLast
set_option linter.unusedVariables false
set_option linter.unusedSimpArgs false

theorem isPacking_both (l : List Int) (room : Int) (p : List Int) (hl : l.length ≤ 1048576) (hp : p.length ≤ 1048576) : ∃ r, Ev (fun k => spec_IsPacking.f k l room p) r ∧ Ev (fun k => impl_IsPacking.f k l room p) r := by
  unfold spec_IsPacking.f impl_IsPacking.f
  by_cases h : askedB l room = true
  · exact ⟨_, Ev.bind (bxAsked_ev l room hl) (Ev.pos h (Ev.bind (specLoads_ev l p room hl (asked_good h)) (Ev.now _))), Ev.bind (areRoomy_ev l room hl) (Ev.pos h (Ev.bind (isPlan_ev l p room hl hp (asked_good h)) (Ev.now _)))⟩
  · exact ⟨_, Ev.bind (bxAsked_ev l room hl) (Ev.neg h (Ev.now _)), Ev.bind (areRoomy_ev l room hl) (Ev.neg h (Ev.now _))⟩
end Go.Proofs.Ytcbiglcgdkimhaa.Q
