/- The loops of the rods' and the boxes' small functions: sums, bounds, rising lists, lengths of pieces. Conditions: at most 1048576 elements. -/
import Derived.Test.YtoicfnhpjfgjmaaPx0
import Derived.Test.YtoicfnhpjfgjmaaPx3
import Derived.Test.YtoicfnhpjfgjmaaPx6
import Derived.Test.YtoicfnhpjfgjmaaPx7
import Derived.Test.YtoicfnhpjfgjmaaPx9
import Derived.Test.YtoicfnhpjfgjmaaQEv
namespace Go.Proofs.Ytoicfnhpjfgjmaa.Q
open Go.RowKit Go.Proofs.Ytoicfnhpjfgjmaa.P Go.Proofs.YtoicfnhpjfgjmaaW.PrintWords Go.Proofs.YtoicfnhpjfgjmaaW.PrintLast
set_option linter.unusedVariables false
set_option linter.unusedSimpArgs false

theorem l1In_eq (n lo hi : Int) : spec_l1In.f n lo hi = some (inB lo hi n) := by
  unfold spec_l1In.f inB
  by_cases h : lo ≤ n <;> simp [h]
theorem any_drop_cons {l : List Int} {i : Nat} (h : i < l.length) (p : Int → Bool) : (l.drop i).any p = (p (rd l i) || (l.drop (i + 1)).any p) := by
  rw [drop_rd h, List.any_cons]
theorem l1All_l0 (l : List Int) (lo hi : Int) (hl : l.length ≤ 1048576) (d : Nat) : ∀ i : Nat, i + d = l.length → Ev (fun k => spec_l1All.l0 k lo hi l l.length i) (allIn (l.drop i) lo hi) := by
  induction d with
  | zero =>
    intro i hi'
    refine Ev.step (f := fun _ => some true) (fun k => ?_) ?_
    · rw [spec_l1All.l0, if_neg (by omega)]
    · rw [List.drop_of_length_le (by omega)]; exact Ev.now true
  | succ d ih =>
    intro i hi'
    have hlt : i < l.length := by omega
    have e : allIn (l.drop i) lo hi = (inB lo hi (rd l i) && allIn (l.drop (i + 1)) lo hi) := by
      unfold allIn; rw [any_drop_cons hlt]; cases inB lo hi (rd l i) <;> simp
    rw [e]
    refine Ev.step (f := fun k => if inB lo hi (rd l i) = true then spec_l1All.l0 k lo hi l l.length ((i + 1 : Nat) : Int) else some false) (fun k => ?_) ?_
    · rw [spec_l1All.l0, if_pos (by omega), if_pos (by omega), if_pos (by omega), l1In_eq, w64i i (by omega)]
      simp
    · refine Ev.ite (fun h => ?_) (fun h => ?_)
      · rw [h]; exact ih (i + 1) (by omega)
      · rw [Bool.eq_false_iff.mpr h]; exact Ev.now false
theorem l1All_ev (l : List Int) (lo hi : Int) (hl : l.length ≤ 1048576) : Ev (fun k => spec_l1All.f k l lo hi) (allIn l lo hi) := by
  unfold spec_l1All.f
  exact l1All_l0 l lo hi hl l.length 0 (by omega)

theorem bind_some' {α : Type} (o : Option α) : (o.bind fun t => some t) = o := by cases o <;> rfl

/-! ### things -/
def goodT (l : List Int) : Bool := inB 1 9 l.length && allIn l 1 100
theorem bxGood_ev (l : List Int) (hl : l.length ≤ 1048576) : Ev (fun k => spec_bxGood.f k l) (goodT l) := by
  unfold spec_bxGood.f goodT
  refine Ev.call (l1In_eq _ _ _) ?_
  refine Ev.ite (fun h => ?_) (fun h => ?_)
  · rw [h]; exact Ev.bind (l1All_ev l 1 100 hl) (Ev.now _)
  · rw [Bool.eq_false_iff.mpr h]; exact Ev.now false
theorem specAreThings_ev (l : List Int) (hl : l.length ≤ 1048576) : Ev (fun k => spec_AreThings.f k l) (goodT l) := by
  unfold spec_AreThings.f
  exact Ev.bind (bxGood_ev l hl) (Ev.now _)
theorem AreThings_eq (l : List Int) : impl_AreThings.f l = some (goodT l) := by
  unfold impl_AreThings.f goodT impl_areWithin.f
  rw [within_inB]
  cases h : inB 1 9 (l.length : Int) <;> simp

/-! ### loops that are alike in both texts -/
theorem sum_l0_eq (k : Nat) : ∀ a b c d, impl_sum.l0 k a b c d = spec_bxSum.l0 k a b c d := by
  induction k with
  | zero => intros; rfl
  | succ k ih => intros; simp only [impl_sum.l0, spec_bxSum.l0, ih]
theorem sum_eq (k : Nat) (l : List Int) : impl_sum.f k l = spec_bxSum.f k l := sum_l0_eq k _ _ _ _

/-! ### sums -/
def sumW : Int → List Int → Int
  | a, [] => a
  | a, x :: xs => sumW (wrap64 (a + x)) xs
theorem bxSum_l0 (l : List Int) (hl : l.length ≤ 1048576) (d : Nat) : ∀ (i : Nat) (a : Int), i + d = l.length → Ev (fun k => spec_bxSum.l0 k a l l.length i) (sumW a (l.drop i)) := by
  induction d with
  | zero =>
    intro i a hi
    refine Ev.step (f := fun _ => some a) (fun k => ?_) ?_
    · rw [spec_bxSum.l0, if_neg (by omega)]
    · rw [List.drop_of_length_le (by omega)]; exact Ev.now a
  | succ d ih =>
    intro i a hi
    have hlt : i < l.length := by omega
    rw [drop_rd hlt]
    refine Ev.step (f := fun k => spec_bxSum.l0 k (wrap64 (a + rd l i)) l l.length ((i + 1 : Nat) : Int)) (fun k => ?_) (ih (i + 1) _ (by omega))
    rw [spec_bxSum.l0, if_pos (by omega), if_pos (by omega), if_pos (by omega), w64i i (by omega)]
theorem bxSum_ev (l : List Int) (hl : l.length ≤ 1048576) : Ev (fun k => spec_bxSum.f k l) (sumW 0 l) := by
  unfold spec_bxSum.f
  exact bxSum_l0 l hl l.length 0 0 (by omega)
theorem sum_ev (l : List Int) (hl : l.length ≤ 1048576) : Ev (fun k => impl_sum.f k l) (sumW 0 l) := Ev.congr (fun k => sum_eq k l) (bxSum_ev l hl)

end Go.Proofs.Ytoicfnhpjfgjmaa.Q
