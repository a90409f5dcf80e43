/- Sums of boxes' things: both texts' loops. Conditions: at most 1048576 elements. -/
import Derived.Test.YtcbiglcgdkimhaaPx0
import Derived.Test.YtcbiglcgdkimhaaPx6
import Derived.Test.YtcbiglcgdkimhaaPx11
import Derived.Test.YtcbiglcgdkimhaaQBoxA
namespace Go.Proofs.Ytcbiglcgdkimhaa.Q
open Go.RowKit Go.Proofs.Ytcbiglcgdkimhaa.P Go.Proofs.YtcbiglcgdkimhaaW.PrintWords Go.Proofs.YtcbiglcgdkimhaaW.PrintLast
set_option linter.unusedVariables false
set_option linter.unusedSimpArgs false

/-! ### loops that are alike in both texts -/
theorem sum_l0_eq (k : Nat) : ∀ a b c d, impl_sum.l0 k a b c d = spec_bxSum.l0 k a b c d := by
  induction k with
  | zero => intros; rfl
  | succ k ih => intros; simp only [impl_sum.l0, spec_bxSum.l0, ih]
theorem sum_eq (k : Nat) (l : List Int) : impl_sum.f k l = spec_bxSum.f k l := sum_l0_eq k _ _ _ _

/-! ### sums -/
def sumW : Int → List Int → Int
  | a, [] => a
  | a, x :: xs => sumW (wrap64 (a + x)) xs
theorem bxSum_l0 (l : List Int) (hl : l.length ≤ 1048576) (d : Nat) : ∀ (i : Nat) (a : Int), i + d = l.length → Ev (fun k => spec_bxSum.l0 k a l l.length i) (sumW a (l.drop i)) := by
  induction d with
  | zero =>
    intro i a hi
    refine Ev.step (f := fun _ => some a) (fun k => ?_) ?_
    · rw [spec_bxSum.l0, if_neg (by omega)]
    · rw [List.drop_of_length_le (by omega)]; exact Ev.now a
  | succ d ih =>
    intro i a hi
    have hlt : i < l.length := by omega
    rw [drop_rd hlt]
    refine Ev.step (f := fun k => spec_bxSum.l0 k (wrap64 (a + rd l i)) l l.length ((i + 1 : Nat) : Int)) (fun k => ?_) (ih (i + 1) _ (by omega))
    rw [spec_bxSum.l0, if_pos (by omega), if_pos (by omega), if_pos (by omega), w64i i (by omega)]
theorem bxSum_ev (l : List Int) (hl : l.length ≤ 1048576) : Ev (fun k => spec_bxSum.f k l) (sumW 0 l) := by
  unfold spec_bxSum.f
  exact bxSum_l0 l hl l.length 0 0 (by omega)
theorem sum_ev (l : List Int) (hl : l.length ≤ 1048576) : Ev (fun k => impl_sum.f k l) (sumW 0 l) := Ev.congr (fun k => sum_eq k l) (bxSum_ev l hl)

end Go.Proofs.Ytcbiglcgdkimhaa.Q
