/- The rods' functions: lengths, pieces, worth of a cut. Conditions: at most 1048576 elements. -/
import Derived.Test.YtoicfnhpjfgjmaaPx0
import Derived.Test.YtoicfnhpjfgjmaaPx1
import Derived.Test.YtoicfnhpjfgjmaaPx6
import Derived.Test.YtoicfnhpjfgjmaaPx7
import Derived.Test.YtoicfnhpjfgjmaaQRod
namespace Go.Proofs.Ytoicfnhpjfgjmaa.Q
open Go.RowKit Go.Proofs.Ytoicfnhpjfgjmaa.P Go.Proofs.YtoicfnhpjfgjmaaW.PrintWords Go.Proofs.YtoicfnhpjfgjmaaW.PrintLast
set_option linter.unusedVariables false
set_option linter.unusedSimpArgs false

theorem allIn_iff (l : List Int) (lo hi : Int) : allIn l lo hi = true ↔ ∀ j : Nat, j < l.length → lo ≤ rd l j ∧ rd l j ≤ hi := by
  unfold allIn inB
  simp only [Bool.not_eq_true', List.any_eq_false, Bool.not_eq_true, Bool.not_eq_false', Bool.and_eq_true, decide_eq_true_eq]
  constructor
  · intro h j hj
    rw [rd_get hj]
    have := h _ (List.getElem_mem hj)
    simpa using this
  · intro h x hx
    obtain ⟨j, hj, rfl⟩ := List.mem_iff_getElem.1 hx
    have := h j hj
    rw [rd_get hj] at this
    simpa using this
theorem inB_iff (lo hi n : Int) : inB lo hi n = true ↔ lo ≤ n ∧ n ≤ hi := by simp [inB]

/-! ### lengths -/
def GoodL (l : List Int) : Prop := (1 ≤ l.length ∧ l.length ≤ 4) ∧ (∀ j : Nat, j < l.length → 1 ≤ rd l j ∧ rd l j ≤ 60) ∧ ∀ j : Nat, 1 ≤ j → j < l.length → rd l (j - 1 : Nat) < rd l j
theorem l1Rising_l0 (l : List Int) (lo hi : Int) (hl : l.length ≤ 1048576) (d : Nat) : ∀ i : Nat, i + d = l.length → ∃ b, Ev (fun k => spec_l1Rising.l0 k l lo hi l l.length i) b ∧ (b = true ↔ ∀ j : Nat, i ≤ j → j < l.length → (lo ≤ rd l j ∧ rd l j ≤ hi) ∧ (1 ≤ j → rd l (j - 1 : Nat) < rd l j)) := by
  induction d with
  | zero =>
    intro i hi'
    refine ⟨true, Ev.step (f := fun _ => some true) (fun k => ?_) (Ev.now true), by simp; intro j h1 h2; omega⟩
    rw [spec_l1Rising.l0, if_neg (by omega)]
  | succ d ih =>
    intro i hi'
    have hlt : i < l.length := by omega
    obtain ⟨b, hb, hi2⟩ := ih (i + 1) (by omega)
    by_cases h1 : inB lo hi (rd l i) = true
    · by_cases h0 : 1 ≤ i
      · have e1 : wrap64 ((i : Int) - 1) = ((i - 1 : Nat) : Int) := by rw [w64 (by omega) (by omega)]; omega
        by_cases h2 : rd l (i - 1 : Nat) ≥ rd l i
        · refine ⟨false, Ev.step (f := fun _ => some false) (fun k => ?_) (Ev.now false), ?_⟩
          · rw [spec_l1Rising.l0, if_pos (by omega), if_pos (by omega), if_pos (by omega), l1In_eq, Option.bind_some, if_pos h1, if_pos (by omega), e1, if_pos (by omega), if_pos (by omega), if_pos h2]
          · constructor
            · intro h; cases h
            · intro h; have := (h i (Nat.le_refl _) hlt).2 h0; omega
        · refine ⟨b, Ev.step (fun k => ?_) hb, ?_⟩
          · rw [spec_l1Rising.l0, if_pos (by omega), if_pos (by omega), if_pos (by omega), l1In_eq, Option.bind_some, if_pos h1, if_pos (by omega), e1, if_pos (by omega), if_pos (by omega), if_neg h2, w64i i (by omega)]
          · rw [hi2]
            constructor
            · intro h j hj hjl
              rcases Nat.eq_or_lt_of_le hj with rfl | hj'
              · exact ⟨(inB_iff _ _ _).1 h1, fun _ => by omega⟩
              · exact h j hj' hjl
            · intro h j hj hjl
              exact h j (by omega) hjl
      · refine ⟨b, Ev.step (fun k => ?_) hb, ?_⟩
        · rw [spec_l1Rising.l0, if_pos (by omega), if_pos (by omega), if_pos (by omega), l1In_eq, Option.bind_some, if_pos h1, if_neg (by omega), w64i i (by omega)]
        · rw [hi2]
          constructor
          · intro h j hj hjl
            rcases Nat.eq_or_lt_of_le hj with rfl | hj'
            · exact ⟨(inB_iff _ _ _).1 h1, fun h => by omega⟩
            · exact h j hj' hjl
          · intro h j hj hjl
            exact h j (by omega) hjl
    · refine ⟨false, Ev.step (f := fun _ => some false) (fun k => ?_) (Ev.now false), ?_⟩
      · rw [spec_l1Rising.l0, if_pos (by omega), if_pos (by omega), if_pos (by omega), l1In_eq, Option.bind_some, if_neg h1]
      · constructor
        · intro h; cases h
        · intro h; exact absurd ((inB_iff _ _ _).2 (h i (Nat.le_refl _) hlt).1) h1
theorem rdLengths_ev (l : List Int) (hl : l.length ≤ 1048576) : ∃ b, Ev (fun k => spec_rdLengths.f k l) b ∧ (b = true ↔ GoodL l) := by
  unfold spec_rdLengths.f spec_l1Rising.f
  obtain ⟨b, hb, hi⟩ := l1Rising_l0 l 1 60 hl l.length 0 (by omega)
  by_cases h : inB 1 4 (l.length : Int) = true
  · refine ⟨b, Ev.call (l1In_eq _ _ _) (Ev.pos h (Ev.bind hb (Ev.now b))), ?_⟩
    rw [hi]
    have := (inB_iff _ _ _).1 h
    constructor
    · intro h; exact ⟨by omega, fun j hj => (h j (by omega) hj).1, fun j h1 hj => (h j (by omega) hj).2 h1⟩
    · intro h j _ hj; exact ⟨h.2.1 j hj, fun h1 => h.2.2 j h1 hj⟩
  · refine ⟨false, Ev.call (l1In_eq _ _ _) (Ev.neg h (Ev.now false)), ?_⟩
    constructor
    · intro h; cases h
    · intro h2; exact absurd ((inB_iff _ _ _).2 (by have := h2.1; omega)) h
theorem AreLengths_l0 (l : List Int) (hl : l.length ≤ 1048576) (d : Nat) : ∀ i : Nat, 1 ≤ i → i + d = max 1 l.length → ∃ b, Ev (fun k => impl_AreLengths.l0 k l i) b ∧ (b = true ↔ (∀ j : Nat, i ≤ j → j < l.length → rd l (j - 1 : Nat) < rd l j) ∧ inB 1 4 l.length = true ∧ allIn l 1 60 = true) := by
  induction d with
  | zero =>
    intro i h0 hi
    refine ⟨inB 1 4 l.length && allIn l 1 60, Ev.step (f := fun _ => some (inB 1 4 l.length && allIn l 1 60)) (fun k => ?_) (Ev.now _), ?_⟩
    · rw [impl_AreLengths.l0, if_neg (by omega), within_inB, Option.bind_some]
      unfold impl_areWithin.f
      cases inB 1 4 (l.length : Int) <;> simp
    · rw [Bool.and_eq_true]
      constructor
      · intro h; exact ⟨fun j hj hjl => by omega, h⟩
      · intro h; exact h.2
  | succ d ih =>
    intro i h0 hi
    have hlt : i < l.length := by omega
    obtain ⟨b, hb, hi2⟩ := ih (i + 1) (by omega) (by omega)
    have e1 : wrap64 ((i : Int) - 1) = ((i - 1 : Nat) : Int) := by rw [w64 (by omega) (by omega)]; omega
    by_cases h2 : rd l i ≤ rd l (i - 1 : Nat)
    · refine ⟨false, Ev.step (f := fun _ => some false) (fun k => ?_) (Ev.now false), ?_⟩
      · rw [impl_AreLengths.l0, if_pos (by omega), if_pos (by omega), e1, if_pos (by omega), if_pos (by omega), if_pos h2]
      · constructor
        · intro h; cases h
        · intro h; have := h.1 i (Nat.le_refl _) hlt; omega
    · refine ⟨b, Ev.step (fun k => ?_) hb, ?_⟩
      · rw [impl_AreLengths.l0, if_pos (by omega), if_pos (by omega), e1, if_pos (by omega), if_pos (by omega), if_neg h2, w64i i (by omega)]
      · rw [hi2]
        constructor
        · rintro ⟨h, h3⟩
          refine ⟨fun j hj hjl => ?_, h3⟩
          rcases Nat.eq_or_lt_of_le hj with rfl | hj'
          · omega
          · exact h j hj' hjl
        · rintro ⟨h, h3⟩
          exact ⟨fun j hj hjl => h j (by omega) hjl, h3⟩
theorem AreLengths_ev (l : List Int) (hl : l.length ≤ 1048576) : ∃ b, Ev (fun k => impl_AreLengths.f k l) b ∧ (b = true ↔ GoodL l) := by
  unfold impl_AreLengths.f
  obtain ⟨b, hb, hi⟩ := AreLengths_l0 l hl (max 1 l.length - 1) 1 (Nat.le_refl _) (by omega)
  refine ⟨b, hb, ?_⟩
  rw [hi, inB_iff, allIn_iff]
  constructor
  · rintro ⟨h1, h2, h3⟩; exact ⟨by omega, h3, h1⟩
  · rintro ⟨h1, h2, h3⟩; exact ⟨h3, by omega, h2⟩
open Classical in
/-- Are these lengths? As one Bool. -/
noncomputable def goodL (l : List Int) : Bool := decide (GoodL l)
theorem goodL_iff (l : List Int) : goodL l = true ↔ GoodL l := by simp [goodL]
theorem rdLengths_ev' (l : List Int) (hl : l.length ≤ 1048576) : Ev (fun k => spec_rdLengths.f k l) (goodL l) := by
  obtain ⟨b, hb, hi⟩ := rdLengths_ev l hl
  rw [show goodL l = b from Bool.eq_iff_iff.2 ((goodL_iff l).trans hi.symm)]; exact hb
theorem AreLengths_ev' (l : List Int) (hl : l.length ≤ 1048576) : Ev (fun k => impl_AreLengths.f k l) (goodL l) := by
  obtain ⟨b, hb, hi⟩ := AreLengths_ev l hl
  rw [show goodL l = b from Bool.eq_iff_iff.2 ((goodL_iff l).trans hi.symm)]; exact hb
theorem specAreLengths_ev (l : List Int) (hl : l.length ≤ 1048576) : Ev (fun k => spec_AreLengths.f k l) (goodL l) := by
  unfold spec_AreLengths.f
  exact Ev.bind (rdLengths_ev' l hl) (Ev.now _)

end Go.Proofs.Ytoicfnhpjfgjmaa.Q
