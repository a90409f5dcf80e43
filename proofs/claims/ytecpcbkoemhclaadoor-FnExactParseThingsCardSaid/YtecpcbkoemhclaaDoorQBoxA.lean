/- The boxes' small functions: bounds, sums, the greatest thing, what is asked. Conditions: at most 1048576 elements. -/
import Derived.Test.YtecpcbkoemhclaaDoorPx0
import Derived.Test.YtecpcbkoemhclaaDoorPx7
import Derived.Test.YtecpcbkoemhclaaDoorPx23
import Derived.Test.YtecpcbkoemhclaaDoorPx24
import Derived.Test.YtecpcbkoemhclaaDoorQEv
namespace Go.Proofs.YtecpcbkoemhclaaDoor.Q
open Go.RowKit Go.Proofs.YtecpcbkoemhclaaDoor.P Go.Proofs.YtecpcbkoemhclaaDoorW.PrintWords Go.Proofs.YtecpcbkoemhclaaDoorW.PrintLast
set_option linter.unusedVariables false
set_option linter.unusedSimpArgs false

theorem l1In_eq (n lo hi : Int) : spec_l1In.f n lo hi = some (inB lo hi n) := by
  unfold spec_l1In.f inB
  by_cases h : lo ≤ n <;> simp [h]
theorem any_drop_cons {l : List Int} {i : Nat} (h : i < l.length) (p : Int → Bool) : (l.drop i).any p = (p (rd l i) || (l.drop (i + 1)).any p) := by
  rw [drop_rd h, List.any_cons]
theorem l1All_l0 (l : List Int) (lo hi : Int) (hl : l.length ≤ 1048576) (d : Nat) : ∀ i : Nat, i + d = l.length → Ev (fun k => spec_l1All.l0 k lo hi l l.length i) (allIn (l.drop i) lo hi) := by
  induction d with
  | zero =>
    intro i hi'
    refine Ev.step (f := fun _ => some true) (fun k => ?_) ?_
    · rw [spec_l1All.l0, if_neg (by omega)]
    · rw [List.drop_of_length_le (by omega)]; exact Ev.now true
  | succ d ih =>
    intro i hi'
    have hlt : i < l.length := by omega
    have e : allIn (l.drop i) lo hi = (inB lo hi (rd l i) && allIn (l.drop (i + 1)) lo hi) := by
      unfold allIn; rw [any_drop_cons hlt]; cases inB lo hi (rd l i) <;> simp
    rw [e]
    refine Ev.step (f := fun k => if inB lo hi (rd l i) = true then spec_l1All.l0 k lo hi l l.length ((i + 1 : Nat) : Int) else some false) (fun k => ?_) ?_
    · rw [spec_l1All.l0, if_pos (by omega), if_pos (by omega), if_pos (by omega), l1In_eq, w64i i (by omega)]
      simp
    · refine Ev.ite (fun h => ?_) (fun h => ?_)
      · rw [h]; exact ih (i + 1) (by omega)
      · rw [Bool.eq_false_iff.mpr h]; exact Ev.now false
theorem l1All_ev (l : List Int) (lo hi : Int) (hl : l.length ≤ 1048576) : Ev (fun k => spec_l1All.f k l lo hi) (allIn l lo hi) := by
  unfold spec_l1All.f
  exact l1All_l0 l lo hi hl l.length 0 (by omega)

theorem bind_some' {α : Type} (o : Option α) : (o.bind fun t => some t) = o := by cases o <;> rfl

/-! ### things -/
def goodT (l : List Int) : Bool := inB 1 9 l.length && allIn l 1 100
theorem bxGood_ev (l : List Int) (hl : l.length ≤ 1048576) : Ev (fun k => spec_bxGood.f k l) (goodT l) := by
  unfold spec_bxGood.f goodT
  refine Ev.call (l1In_eq _ _ _) ?_
  refine Ev.ite (fun h => ?_) (fun h => ?_)
  · rw [h]; exact Ev.bind (l1All_ev l 1 100 hl) (Ev.now _)
  · rw [Bool.eq_false_iff.mpr h]; exact Ev.now false
theorem AreThings_eq (l : List Int) : impl_AreThings.f l = some (goodT l) := by
  unfold impl_AreThings.f goodT impl_areWithin.f
  rw [within_inB]
  cases h : inB 1 9 (l.length : Int) <;> simp

theorem allIn_iff (l : List Int) (lo hi : Int) : allIn l lo hi = true ↔ ∀ j : Nat, j < l.length → lo ≤ rd l j ∧ rd l j ≤ hi := by
  unfold allIn inB
  simp only [Bool.not_eq_true', List.any_eq_false, Bool.not_eq_true, Bool.not_eq_false', Bool.and_eq_true, decide_eq_true_eq]
  constructor
  · intro h j hj
    rw [rd_get hj]
    have := h _ (List.getElem_mem hj)
    simpa using this
  · intro h x hx
    obtain ⟨j, hj, rfl⟩ := List.mem_iff_getElem.1 hx
    have := h j hj
    rw [rd_get hj] at this
    simpa using this
theorem inB_iff (lo hi n : Int) : inB lo hi n = true ↔ lo ≤ n ∧ n ≤ hi := by simp [inB]

theorem goodT_iff (l : List Int) : goodT l = true ↔ (1 ≤ l.length ∧ l.length ≤ 9) ∧ ∀ j : Nat, j < l.length → 1 ≤ rd l j ∧ rd l j ≤ 100 := by
  unfold goodT
  rw [Bool.and_eq_true, inB_iff, allIn_iff]
  constructor
  · rintro ⟨h1, h2⟩; exact ⟨by omega, h2⟩
  · rintro ⟨h1, h2⟩; exact ⟨by omega, h2⟩
end Go.Proofs.YtecpcbkoemhclaaDoor.Q
