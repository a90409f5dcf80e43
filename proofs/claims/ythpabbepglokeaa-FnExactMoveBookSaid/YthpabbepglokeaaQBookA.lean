/- Books: copies, comparisons, what a book is, the thickest, the shelves filled in order. Conditions: at most 1048576 books. -/
import Derived.Test.YthpabbepglokeaaPx0
import Derived.Test.YthpabbepglokeaaPx2
import Derived.Test.YthpabbepglokeaaPx4
import Derived.Test.YthpabbepglokeaaPx7
import Derived.Test.YthpabbepglokeaaPx14
import Derived.Test.YthpabbepglokeaaQEv
namespace Go.Proofs.Ythpabbepglokeaa.Q
open Go.RowKit Go.Proofs.Ythpabbepglokeaa.P Go.Proofs.YthpabbepglokeaaW.PrintWords Go.Proofs.YthpabbepglokeaaW.PrintLast
set_option linter.unusedVariables false
set_option linter.unusedSimpArgs false

theorem szBook_big (l : List S38) (h : l.length ≤ maxLen) (h2 : ¬ l.length ≤ 1048576) : laws_szBookS.f l 1048576 = some (-1) := by
  have : maxLen = 9223372036854775807 := rfl
  unfold laws_szBookS.f
  rw [if_pos]
  rw [w64 (by omega) (by omega)]; omega
theorem szBook_small (l : List S38) (h2 : l.length ≤ 1048576) : laws_szBookS.f l 1048576 = some (1048576 - (l.length : Int)) := by
  unfold laws_szBookS.f
  rw [w64 (by omega) (by omega), if_neg (by omega)]
theorem dropB {l : List S36} {i : Nat} (h : i < l.length) : l.drop i = rd_T36 l i :: l.drop (i + 1) := by
  rw [List.drop_eq_getElem_cons h]
  congr 1
  simp [rd_T36, List.getD_eq_getElem?_getD, List.getElem?_eq_getElem h]
theorem rdB {l : List S36} {i : Nat} (h : i < l.length) : rd_T36 l i = l[i] := by
  simp [rd_T36, List.getD_eq_getElem?_getD, List.getElem?_eq_getElem h]
/-- The laws' books as the program's. -/
def toB (l : List S38) : List S36 := l.map fun b => ⟨b.f0, b.f1⟩
theorem toB_len (l : List S38) : (toB l).length = l.length := by simp [toB]
theorem rd_toB {l : List S38} {i : Nat} (h : i < l.length) : (⟨(rd_T38 l i).f0, (rd_T38 l i).f1⟩ : S36) = (toB l)[i]'(by rw [toB_len]; exact h) := by
  simp [toB, rd_T38, List.getD_eq_getElem?_getD, List.getElem?_eq_getElem h]
theorem toBookS_l0 (l : List S38) (hl : l.length ≤ 1048576) (d : Nat) : ∀ i : Nat, i + d = l.length → ∀ y : List S36, y.length = l.length → y.take i = (toB l).take i → Ev (fun k => laws_toBookS.l0 k l y i) (toB l) := by
  induction d with
  | zero =>
    intro i hi y hy ht
    refine Ev.step (f := fun _ => some y) (fun k => ?_) ?_
    · rw [laws_toBookS.l0, if_neg (by omega)]
    · have : y = toB l := by
        have h1 : y.take i = y := List.take_of_length_le (by omega)
        have h2 : (toB l).take i = toB l := List.take_of_length_le (by rw [toB_len]; omega)
        rw [h1, h2] at ht; exact ht
      rw [this]; exact Ev.now _
  | succ d ih =>
    intro i hi y hy ht
    have hlt : i < l.length := by omega
    refine Ev.step (f := fun k => laws_toBookS.l0 k l (y.set i ⟨(rd_T38 l i).f0, (rd_T38 l i).f1⟩) ((i + 1 : Nat) : Int)) (fun k => ?_) ?_
    · rw [laws_toBookS.l0, if_pos (by omega), if_pos (by omega)]
      show (if (i : Int) < (y.length : Int) then _ else _) = _
      rw [if_pos (by omega), w64i i (by omega)]
      simp
    · refine ih (i + 1) (by omega) _ (by simpa using hy) ?_
      rw [List.take_succ_eq_append_getElem (by simpa [hy] using hlt), List.take_succ_eq_append_getElem (by rw [toB_len]; exact hlt), List.take_set_of_le (Nat.le_refl i), ht, ← rd_toB hlt]
      simp
theorem toBookS_ev (l : List S38) (hl : l.length ≤ 1048576) : Ev (fun k => laws_toBookS.f k l) (toB l) := by
  unfold laws_toBookS.f
  refine Ev.pos (by omega) (Ev.pos (by omega) ?_)
  exact toBookS_l0 l hl l.length 0 (by omega) _ (by simp) rfl
theorem eqBookS_l0 (l : List S36) (hl : l.length ≤ 1048576) (d : Nat) : ∀ i : Nat, i + d = l.length → Ev (fun k => laws_eqBookS.l0 k l l i) true := by
  induction d with
  | zero =>
    intro i hi
    refine Ev.step (f := fun _ => some true) (fun k => ?_) (Ev.now true)
    rw [laws_eqBookS.l0, if_neg (by omega)]
  | succ d ih =>
    intro i hi
    refine Ev.step (f := fun k => laws_eqBookS.l0 k l l ((i + 1 : Nat) : Int)) (fun k => ?_) (ih (i + 1) (by omega))
    rw [laws_eqBookS.l0, if_pos (by omega), if_pos (by omega), if_pos (by omega), w64i i (by omega)]
    unfold laws_eqBook.f
    rw [if_pos rfl, if_pos rfl, Option.bind_some, if_pos rfl]
theorem eqBookS_ev (l : List S36) (hl : l.length ≤ 1048576) : Ev (fun k => laws_eqBookS.f k l l) true := by
  unfold laws_eqBookS.f
  exact Ev.pos rfl (eqBookS_l0 l hl l.length 0 (by omega))

/-! ### what books are -/
theorem l1In_inK (n lo hi : Int) : spec_l1In.f n lo hi = some (inK lo hi n) := by
  unfold spec_l1In.f inK
  by_cases h : lo ≤ n <;> simp [h]
def goodK (l : List S36) : Bool := inK 1 12 l.length && !l.any badB
theorem shGood_l0 (l : List S36) (hl : l.length ≤ 1048576) (d : Nat) : ∀ i : Nat, i + d = l.length → Ev (fun k => spec_shGood.l0 k l l.length i) (!(l.drop i).any badB) := by
  induction d with
  | zero =>
    intro i hi
    rw [List.drop_of_length_le (by omega)]
    refine Ev.step (f := fun _ => some true) (fun k => ?_) (Ev.now true)
    rw [spec_shGood.l0, if_neg (by omega)]
  | succ d ih =>
    intro i hi
    have hlt : i < l.length := by omega
    rw [dropB hlt, List.any_cons]
    have hb : badB (rd_T36 l i) = (!inK 1 100 (rd_T36 l i).f0 || !inK 1 100 (rd_T36 l i).f1) := rfl
    rw [hb]
    refine Ev.step (f := fun k => if inK 1 100 (rd_T36 l i).f0 = true then (if inK 1 100 (rd_T36 l i).f1 = true then spec_shGood.l0 k l l.length ((i + 1 : Nat) : Int) else some false) else some false) (fun k => ?_) ?_
    · rw [spec_shGood.l0, if_pos (by omega), if_pos (by omega), if_pos (by omega), l1In_inK, l1In_inK, w64i i (by omega)]
      simp
    · refine Ev.ite (fun h => ?_) (fun h => ?_)
      · rw [h]
        refine Ev.ite (fun h2 => ?_) (fun h2 => ?_)
        · rw [h2]; exact Ev.val (ih (i + 1) (by omega)) (by simp)
        · rw [Bool.eq_false_iff.mpr h2]; exact Ev.val (Ev.now false) (by simp)
      · rw [Bool.eq_false_iff.mpr h]; exact Ev.val (Ev.now false) (by simp)
theorem shGood_ev (l : List S36) (hl : l.length ≤ 1048576) : Ev (fun k => spec_shGood.f k l) (goodK l) := by
  unfold spec_shGood.f goodK
  refine Ev.call (l1In_inK _ _ _) (Ev.ite (fun h => ?_) (fun h => ?_))
  · rw [h]; exact Ev.val (shGood_l0 l hl l.length 0 (by omega)) (by simp)
  · rw [Bool.eq_false_iff.mpr h]; exact Ev.now _
theorem AreBooks_eq (l : List S36) : impl_AreBooks.f l = some (goodK l) := rfl
theorem goodK_iff {l : List S36} (h : goodK l = true) : 1 ≤ l.length ∧ l.length ≤ 12 ∧ ∀ b ∈ l, (1 ≤ b.f0 ∧ b.f0 ≤ 100) ∧ 1 ≤ b.f1 ∧ b.f1 ≤ 100 := by
  unfold goodK inK at h
  rw [Bool.and_eq_true, Bool.and_eq_true, decide_eq_true_eq, decide_eq_true_eq] at h
  refine ⟨by omega, by omega, fun b hb => ?_⟩
  have := h.2
  rw [Bool.not_eq_true', List.any_eq_false] at this
  have := this b hb
  unfold badB inK at this
  simp at this
  omega
end Go.Proofs.Ythpabbepglokeaa.Q
