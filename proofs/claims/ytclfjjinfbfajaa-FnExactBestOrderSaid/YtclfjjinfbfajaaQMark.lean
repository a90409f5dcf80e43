/- Marks laid into a slice and read back: what markIntS lays, heldIntS finds. Conditions: at most 1048576 elements and a first mark of at most 4194304. -/
import Derived.Test.YtclfjjinfbfajaaPx0
import Derived.Test.YtclfjjinfbfajaaPx12
import Derived.Test.YtclfjjinfbfajaaQEv
namespace Go.Proofs.Ytclfjjinfbfajaa.Q
open Go.RowKit Go.Proofs.Ytclfjjinfbfajaa.P Go.Proofs.YtclfjjinfbfajaaW.PrintWords Go.Proofs.YtclfjjinfbfajaaW.PrintLast
set_option linter.unusedVariables false
set_option linter.unusedSimpArgs false

theorem rd_set_self {l : List Int} {i : Nat} (h : i < l.length) (x : Int) : rd (l.set i x) i = x := by
  simp [rd, List.getD_eq_getElem?_getD, List.getElem?_set_self h]
theorem rd_set_ne {l : List Int} {i j : Nat} (h : i ≠ j) (x : Int) : rd (l.set i x) j = rd l j := by
  simp [rd, List.getD_eq_getElem?_getD, List.getElem?_set_ne h]
theorem markIntS_l0 (a : Nat) (ha : a ≤ 4194304) (d : Nat) : ∀ (i : Nat) (y : List Int), y.length ≤ 1048576 → i + d = y.length →
    ∃ m, Ev (fun k => laws_markIntS.l0 k y ((a + i : Nat) : Int) i) (((a + y.length : Nat) : Int), m) ∧ m.length = y.length ∧ ∀ j : Nat, j < y.length → (j < i → rd m j = rd y j) ∧ (i ≤ j → rd m j = ((a + j : Nat) : Int)) := by
  induction d with
  | zero =>
    intro i y hy hi
    refine ⟨y, Ev.step (f := fun _ => some (((a + y.length : Nat) : Int), y)) (fun k => ?_) (Ev.now _), rfl, fun j hj => ⟨fun _ => rfl, fun h => by omega⟩⟩
    rw [laws_markIntS.l0, if_neg (by omega)]
    congr 3; omega
  | succ d ih =>
    intro i y hy hi
    obtain ⟨m, h1, h2, h3⟩ := ih (i + 1) (y.set i ((a + i : Nat) : Int)) (by simpa using hy) (by simp; omega)
    rw [List.length_set] at h1 h2 h3
    refine ⟨m, Ev.step (fun k => ?_) h1, h2, fun j hj => ⟨fun h => ?_, fun h => ?_⟩⟩
    · rw [laws_markIntS.l0, if_pos (by omega), if_pos (by omega), w64i i (by omega), w64 (by omega) (by omega)]
      rw [Int.toNat_natCast]
      congr 1
    · rw [(h3 j hj).1 (by omega), rd_set_ne (by omega)]
    · rcases Nat.eq_or_lt_of_le h with rfl | h'
      · rw [(h3 i hj).1 (by omega), rd_set_self hj]
      · exact (h3 j hj).2 h'
theorem heldIntS_l0 (a : Nat) (ha : a ≤ 4194304) (m : List Int) (hm : m.length ≤ 1048576) (h : ∀ j : Nat, j < m.length → rd m j = ((a + j : Nat) : Int)) (d : Nat) : ∀ i : Nat, i + d = m.length → Ev (fun k => laws_heldIntS.l0 k m ((a + i : Nat) : Int) i) ((a + m.length : Nat) : Int) := by
  induction d with
  | zero =>
    intro i hi
    refine Ev.step (f := fun _ => some ((a + m.length : Nat) : Int)) (fun k => ?_) (Ev.now _)
    rw [laws_heldIntS.l0, if_neg (by omega)]
    congr 2; omega
  | succ d ih =>
    intro i hi
    refine Ev.step (fun k => ?_) (ih (i + 1) (by omega))
    rw [laws_heldIntS.l0, if_pos (by omega), if_pos (by omega), if_pos (h i (by omega)), w64i i (by omega), w64 (by omega) (by omega)]
    congr 1
/-- What is marked is held. -/
theorem mark_both (l : List Int) (hl : l.length ≤ 1048576) (a : Nat) (ha : a ≤ 4194304) : ∃ m, Ev (fun k => laws_markIntS.f k l (a : Int)) (((a + l.length : Nat) : Int), m) ∧ Ev (fun k => laws_heldIntS.f k m (a : Int)) ((a + l.length : Nat) : Int) := by
  obtain ⟨m, h1, h2, h3⟩ := markIntS_l0 a ha l.length 0 l hl (by omega)
  refine ⟨m, h1, ?_⟩
  have := heldIntS_l0 a ha m (by omega) (fun j hj => (h3 j (by omega)).2 (by omega)) m.length 0 (by omega)
  rw [h2] at this
  exact this

end Go.Proofs.Ytclfjjinfbfajaa.Q
