/- LoadsOf: both texts answer the same pair. Conditions: at most 1048576 elements. -/
import Derived.Test.YtchbjdoneanhpaaPx0
import Derived.Test.YtchbjdoneanhpaaPx4
import Derived.Test.YtchbjdoneanhpaaPx8
import Derived.Test.YtchbjdoneanhpaaPx10
import Derived.Test.YtchbjdoneanhpaaQPlan
namespace Go.Proofs.Ytchbjdoneanhpaa.Q
open Go.RowKit Go.Proofs.Ytchbjdoneanhpaa.P Go.Proofs.YtchbjdoneanhpaaW.PrintWords Go.Proofs.YtchbjdoneanhpaaW.PrintLast
set_option linter.unusedVariables false
set_option linter.unusedSimpArgs false

def loadsV (l : List Int) (room : Int) (p : List Int) : List Int × Bool := if askedB l room = true then planV l room p else ([], false)
theorem planV_no {l : List Int} {room : Int} {p : List Int} (h : ¬ (planV l room p).2 = true) : planV l room p = ([], false) := by
  unfold planV at h ⊢
  by_cases hc : p.length = l.length ∧ canonB 0 p = true ∧ allIn (addL (List.replicate (cntM 0 p) 0) p l) 0 room = true
  · rw [if_pos hc] at h; exact absurd rfl h
  · rw [if_neg hc]
theorem planV_yes {l : List Int} {room : Int} {p : List Int} (h : (planV l room p).2 = true) : planV l room p = (addL (List.replicate (cntM 0 p) 0) p l, true) ∧ p.length = l.length ∧ canonB 0 p = true := by
  unfold planV at h ⊢
  by_cases hc : p.length = l.length ∧ canonB 0 p = true ∧ allIn (addL (List.replicate (cntM 0 p) 0) p l) 0 room = true
  · rw [if_pos hc]; exact ⟨rfl, hc.1, hc.2.1⟩
  · rw [if_neg hc] at h; cases h
theorem specLoadsOf_ev (l : List Int) (room : Int) (p : List Int) (hl : l.length ≤ 1048576) : Ev (fun k => spec_LoadsOf.f k l room p) (loadsV l room p) := by
  unfold spec_LoadsOf.f loadsV
  refine Ev.bind (bxAsked_ev l room hl) (Ev.ite (fun h => ?_) (fun h => ?_))
  · rw [if_pos h]; exact Ev.bind (specLoads_ev l p room hl (asked_good h)) (Ev.now _)
  · rw [if_neg h]; exact Ev.now _
theorem LoadsOf_ev (l : List Int) (room : Int) (p : List Int) (hl : l.length ≤ 1048576) (hp : p.length ≤ 1048576) : Ev (fun k => impl_LoadsOf.f k l room p) (loadsV l room p) := by
  unfold impl_LoadsOf.f loadsV
  refine Ev.bind (areRoomy_ev l room hl) (Ev.ite (fun h => ?_) (fun h => ?_))
  · rw [if_pos h]
    refine Ev.bind (isPlan_ev l p room hl hp (asked_good h)) (Ev.ite (fun h2 => ?_) (fun h2 => ?_))
    · obtain ⟨e, h3, h4⟩ := planV_yes h2
      rw [e]
      exact Ev.bind (loads_ev l p hl h3 (good_mem (asked_good h)).2.1 h4) (Ev.now _)
    · rw [planV_no h2]; exact Ev.now _
  · rw [if_neg h]; exact Ev.now _
theorem loadsV_len (l : List Int) (room : Int) (p : List Int) (hp : p.length ≤ 1048576) : (loadsV l room p).1.length ≤ 1048576 := by
  unfold loadsV
  split
  · by_cases h : (planV l room p).2 = true
    · rw [(planV_yes h).1]; simp only [addL_len, List.length_replicate]; have := cnt_le p 0; omega
    · rw [planV_no h]; simp
  · simp
end Go.Proofs.Ytchbjdoneanhpaa.Q
