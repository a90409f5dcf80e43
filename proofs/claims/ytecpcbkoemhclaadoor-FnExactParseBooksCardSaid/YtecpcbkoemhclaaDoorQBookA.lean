/- Books: copies, comparisons, what a book is, the thickest, the shelves filled in order. Conditions: at most 1048576 books. -/
import Derived.Test.YtecpcbkoemhclaaDoorPx0
import Derived.Test.YtecpcbkoemhclaaDoorPx7
import Derived.Test.YtecpcbkoemhclaaDoorPx17
import Derived.Test.YtecpcbkoemhclaaDoorPx20
import Derived.Test.YtecpcbkoemhclaaDoorQEv
namespace Go.Proofs.YtecpcbkoemhclaaDoor.Q
open Go.RowKit Go.Proofs.YtecpcbkoemhclaaDoor.P Go.Proofs.YtecpcbkoemhclaaDoorW.PrintWords Go.Proofs.YtecpcbkoemhclaaDoorW.PrintLast
set_option linter.unusedVariables false
set_option linter.unusedSimpArgs false

theorem dropB {l : List S48} {i : Nat} (h : i < l.length) : l.drop i = rd_T48 l i :: l.drop (i + 1) := by
  rw [List.drop_eq_getElem_cons h]
  congr 1
  simp [rd_T48, List.getD_eq_getElem?_getD, List.getElem?_eq_getElem h]
theorem rdB {l : List S48} {i : Nat} (h : i < l.length) : rd_T48 l i = l[i] := by
  simp [rd_T48, List.getD_eq_getElem?_getD, List.getElem?_eq_getElem h]
theorem eqBookS_l0 (l : List S48) (hl : l.length ≤ 1048576) (d : Nat) : ∀ i : Nat, i + d = l.length → Ev (fun k => laws_eqBookS.l0 k l l i) true := by
  induction d with
  | zero =>
    intro i hi
    refine Ev.step (f := fun _ => some true) (fun k => ?_) (Ev.now true)
    rw [laws_eqBookS.l0, if_neg (by omega)]
  | succ d ih =>
    intro i hi
    refine Ev.step (f := fun k => laws_eqBookS.l0 k l l ((i + 1 : Nat) : Int)) (fun k => ?_) (ih (i + 1) (by omega))
    rw [laws_eqBookS.l0, if_pos (by omega), if_pos (by omega), if_pos (by omega), w64i i (by omega)]
    unfold laws_eqBook.f
    rw [if_pos rfl, if_pos rfl, Option.bind_some, if_pos rfl]
theorem eqBookS_ev (l : List S48) (hl : l.length ≤ 1048576) : Ev (fun k => laws_eqBookS.f k l l) true := by
  unfold laws_eqBookS.f
  exact Ev.pos rfl (eqBookS_l0 l hl l.length 0 (by omega))

/-! ### what books are -/
theorem l1In_inK (n lo hi : Int) : spec_l1In.f n lo hi = some (inK lo hi n) := by
  unfold spec_l1In.f inK
  by_cases h : lo ≤ n <;> simp [h]
def goodK (l : List S48) : Bool := inK 1 12 l.length && !l.any badB
theorem shGood_l0 (l : List S48) (hl : l.length ≤ 1048576) (d : Nat) : ∀ i : Nat, i + d = l.length → Ev (fun k => spec_shGood.l0 k l l.length i) (!(l.drop i).any badB) := by
  induction d with
  | zero =>
    intro i hi
    rw [List.drop_of_length_le (by omega)]
    refine Ev.step (f := fun _ => some true) (fun k => ?_) (Ev.now true)
    rw [spec_shGood.l0, if_neg (by omega)]
  | succ d ih =>
    intro i hi
    have hlt : i < l.length := by omega
    rw [dropB hlt, List.any_cons]
    have hb : badB (rd_T48 l i) = (!inK 1 100 (rd_T48 l i).f0 || !inK 1 100 (rd_T48 l i).f1) := rfl
    rw [hb]
    refine Ev.step (f := fun k => if inK 1 100 (rd_T48 l i).f0 = true then (if inK 1 100 (rd_T48 l i).f1 = true then spec_shGood.l0 k l l.length ((i + 1 : Nat) : Int) else some false) else some false) (fun k => ?_) ?_
    · rw [spec_shGood.l0, if_pos (by omega), if_pos (by omega), if_pos (by omega), l1In_inK, l1In_inK, w64i i (by omega)]
      simp
    · refine Ev.ite (fun h => ?_) (fun h => ?_)
      · rw [h]
        refine Ev.ite (fun h2 => ?_) (fun h2 => ?_)
        · rw [h2]; exact Ev.val (ih (i + 1) (by omega)) (by simp)
        · rw [Bool.eq_false_iff.mpr h2]; exact Ev.val (Ev.now false) (by simp)
      · rw [Bool.eq_false_iff.mpr h]; exact Ev.val (Ev.now false) (by simp)
theorem shGood_ev (l : List S48) (hl : l.length ≤ 1048576) : Ev (fun k => spec_shGood.f k l) (goodK l) := by
  unfold spec_shGood.f goodK
  refine Ev.call (l1In_inK _ _ _) (Ev.ite (fun h => ?_) (fun h => ?_))
  · rw [h]; exact Ev.val (shGood_l0 l hl l.length 0 (by omega)) (by simp)
  · rw [Bool.eq_false_iff.mpr h]; exact Ev.now _
theorem AreBooks_eq (l : List S48) : impl_AreBooks.f l = some (goodK l) := rfl
theorem goodK_iff {l : List S48} (h : goodK l = true) : 1 ≤ l.length ∧ l.length ≤ 12 ∧ ∀ b ∈ l, (1 ≤ b.f0 ∧ b.f0 ≤ 100) ∧ 1 ≤ b.f1 ∧ b.f1 ≤ 100 := by
  unfold goodK inK at h
  rw [Bool.and_eq_true, Bool.and_eq_true, decide_eq_true_eq, decide_eq_true_eq] at h
  refine ⟨by omega, by omega, fun b hb => ?_⟩
  have := h.2
  rw [Bool.not_eq_true', List.any_eq_false] at this
  have := this b hb
  unfold badB inK at this
  simp at this
  omega
end Go.Proofs.YtecpcbkoemhclaaDoor.Q
