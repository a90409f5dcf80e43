/- A book moved: the reference's lists put together are the program's. Conditions: at most 12 books from 1 to 100. -/
import Derived.Test.YthpabbepglokeaaPx0
import Derived.Test.YthpabbepglokeaaPx3
import Derived.Test.YthpabbepglokeaaPx7
import Derived.Test.YthpabbepglokeaaPx13
import Derived.Test.YthpabbepglokeaaQBookA
namespace Go.Proofs.Ythpabbepglokeaa.Q
open Go.RowKit Go.Proofs.Ythpabbepglokeaa.P Go.Proofs.YthpabbepglokeaaW.PrintWords Go.Proofs.YthpabbepglokeaaW.PrintLast
set_option linter.unusedVariables false
set_option linter.unusedSimpArgs false
theorem moveV_len (l : List S36) (i t : Nat) : (moveV l i t).length ≤ l.length + 1 := by
  unfold moveV
  have h := List.length_eraseIdx_le l i
  simp only [List.length_append, List.length_cons, List.length_take, List.length_drop]
  omega
theorem moveBook_both (l : List S36) (a1 a2 : Int) (hl : l.length ≤ 1048576) : ∃ v b, Ev (fun k => spec_MoveBook.f k l a1 a2) (v, b) ∧ impl_MoveBook.f l a1 a2 = some (v, b) ∧ v.length ≤ 1048576 := by
  unfold spec_MoveBook.f impl_MoveBook.f
  by_cases h : goodK l = true
  · have h' : (inK 1 12 l.length && !l.any badB) = true := h
    obtain ⟨g1, g2, g3⟩ := goodK_iff h
    have hw0 : wrap64 ((l.length : Int) - 1) = (l.length : Int) - 1 := w64 (by omega) (by omega)
    by_cases b1 : inK 0 ((l.length : Int) - 1) a1 = true
    · by_cases b2 : inK 0 ((l.length : Int) - 1) a2 = true
      · have q1 : 0 ≤ a1 ∧ a1 ≤ (l.length : Int) - 1 := by simpa [inK] using b1
        have q2 : 0 ≤ a2 ∧ a2 ≤ (l.length : Int) - 1 := by simpa [inK] using b2
        refine ⟨moveV l a1.toNat a2.toNat, true, ?_, ?_, by have := moveV_len l a1.toNat a2.toNat; omega⟩
        · refine Ev.bind (shGood_ev l hl) (Ev.pos h ?_)
          refine Ev.call (by rw [hw0]; exact l1In_inK _ _ _) (Ev.pos b1 ?_)
          refine Ev.call (by rw [hw0]; exact l1In_inK _ _ _) (Ev.pos b2 ?_)
          refine Ev.eq ?_
          clear b1 b2
          obtain ⟨i, rfl⟩ : ∃ i : Nat, a1 = i := ⟨a1.toNat, by omega⟩
          obtain ⟨t, rfl⟩ : ∃ t : Nat, a2 = t := ⟨a2.toNat, by omega⟩
          have hw : wrap64 ((i : Int) + 1) = ((i + 1 : Nat) : Int) := w64i i (by omega)
          simp only [Option.bind_some, hw, Int.toNat_natCast, List.nil_append]
          have e1 : (l.take i ++ l.drop (i + 1)) = l.eraseIdx i := (List.eraseIdx_eq_take_drop_succ l i).symm
          have e2 : (l.eraseIdx i).length = l.length - 1 := by rw [List.length_eraseIdx, if_pos (by omega)]
          rw [if_pos (by omega), if_pos (by omega), if_pos (by rw [List.length_take]; simp; omega), if_pos (by omega), if_pos (by omega), if_pos (by rw [List.length_take, List.length_drop]; omega), e1, if_pos (by omega), if_pos (by omega), if_pos (by rw [List.length_take]; simp; omega), if_pos (by omega), if_pos (by rw [List.length_take]; simp; omega), if_pos (by rw [List.length_append, List.length_take, List.length_drop]; simp; omega)]
          unfold moveV
          simp
        · rw [if_pos h', if_pos b1, if_pos b2]
      · refine ⟨[], false, ?_, ?_, by simp⟩
        · refine Ev.bind (shGood_ev l hl) (Ev.pos h ?_)
          refine Ev.call (by rw [hw0]; exact l1In_inK _ _ _) (Ev.pos b1 ?_)
          exact Ev.call (by rw [hw0]; exact l1In_inK _ _ _) (Ev.neg b2 (Ev.now _))
        · rw [if_pos h', if_pos b1, if_neg b2]
    · refine ⟨[], false, ?_, ?_, by simp⟩
      · refine Ev.bind (shGood_ev l hl) (Ev.pos h ?_)
        exact Ev.call (by rw [hw0]; exact l1In_inK _ _ _) (Ev.neg b1 (Ev.now _))
      · rw [if_pos h', if_neg b1]
  · have h' : ¬ (inK 1 12 l.length && !l.any badB) = true := h
    exact ⟨[], false, Ev.bind (shGood_ev l hl) (Ev.neg h (Ev.now _)), by rw [if_neg h'], by simp⟩
end Go.Proofs.Ythpabbepglokeaa.Q
