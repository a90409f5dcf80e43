/- The rule of the last box: both texts take the same one. Conditions: at most 9 things from 1 to 100. -/
import Derived.Test.YtcbiglcgdkimhaaPx0
import Derived.Test.YtcbiglcgdkimhaaPx11
import Derived.Test.YtcbiglcgdkimhaaPx12
import Derived.Test.YtcbiglcgdkimhaaQRule
namespace Go.Proofs.Ytcbiglcgdkimhaa.Q
open Go.RowKit Go.Proofs.Ytcbiglcgdkimhaa.P Go.Proofs.YtcbiglcgdkimhaaW.PrintWords Go.Proofs.YtcbiglcgdkimhaaW.PrintLast
set_option linter.unusedVariables false
set_option linter.unusedSimpArgs false

theorem pick_last (room : Int) (loads : List Int) (x : Int) (hl : loads.length ≤ 100) : ∀ (d k : Nat), k + (d + 1) = loads.length → pickB 110 room loads x (d + 1) k (-1) = if wrap64 (rd loads ((loads.length : Int) - 1) + x) > room then -1 else (loads.length : Int) - 1
  | 0, k, h => by
    have hk : (loads.length : Int) - 1 = (k : Int) := by omega
    have hw : wrap64 ((loads.length : Int) - 1) = (k : Int) := by rw [w64 (by omega) (by omega)]; exact hk
    have hs : skipB 110 room loads x k = decide (wrap64 (rd loads k + x) > room) := by
      unfold skipB
      rw [hw, decide_eq_false (show ¬ (k : Int) < (k : Int) by omega)]; simp
    have ht : takeB 110 loads (-1) k = true := by unfold takeB; simp
    show (if skipB 110 room loads x k = true then (-1 : Int) else if takeB 110 loads (-1) k = true then (k : Int) else -1) = _
    rw [hs, hk, if_pos ht]
    by_cases c : wrap64 (rd loads k + x) > room
    · rw [if_pos (decide_eq_true c), if_pos c]
    · rw [if_neg (by rw [decide_eq_false c]; simp), if_neg c]
  | d + 1, k, h => by
    have hw : wrap64 ((loads.length : Int) - 1) = (loads.length : Int) - 1 := w64 (by omega) (by omega)
    have hs : skipB 110 room loads x k = true := by
      unfold skipB
      rw [hw, decide_eq_true (show (k : Int) < (loads.length : Int) - 1 by omega)]; simp
    have : pickB 110 room loads x (d + 1 + 1) k (-1) = pickB 110 room loads x (d + 1) (k + 1) (-1) := by
      conv => lhs; unfold pickB
      rw [if_pos hs]
    rw [this]
    exact pick_last room loads x hl d (k + 1) (by omega)
theorem next_eq (room : Int) (loads : List Int) (x : Int) (hl : loads.length ≤ 100) : nextRule room loads x = ruleB 110 room loads x := by
  unfold nextRule ruleB
  by_cases h : loads.length = 0
  · rw [if_pos h, h]; rfl
  · obtain ⟨d, hd⟩ : ∃ d, loads.length = d + 1 := ⟨loads.length - 1, by omega⟩
    rw [if_neg h]
    have := pick_last room loads x hl d 0 (by omega)
    rw [← hd] at this
    exact this.symm
theorem nextFit_ev (l : List Int) (room : Int) (hl : l.length ≤ 1048576) : Ev (fun k => impl_NextFit.f k l room) (if askedB l room = true then ((packL (ruleB 110 room) ([], []) l).1, true) else ([], false)) := by
  unfold impl_NextFit.f
  refine Ev.bind (areRoomy_ev l room hl) (Ev.ite (fun h => ?_) (fun h => ?_))
  · rw [if_pos h]
    unfold askedB at h
    rw [Bool.and_eq_true] at h
    have hg := (goodT_iff l).1 h.1
    rw [packL_congr (nextRule room) (ruleB 110 room) (nextRule_lt room) l.length l [] [] 0 (fun x hx => by
      obtain ⟨j, hj, rfl⟩ := List.mem_iff_getElem.1 hx
      rw [← rd_get hj]; exact hg.2 j hj) (by omega) (fun j hj => by simp at hj) rfl (Nat.le_refl _) (fun loads x _ _ h3 _ => next_eq room loads x h3)]
    exact Ev.now _
  · rw [if_neg h]; exact Ev.now _

end Go.Proofs.Ytcbiglcgdkimhaa.Q
