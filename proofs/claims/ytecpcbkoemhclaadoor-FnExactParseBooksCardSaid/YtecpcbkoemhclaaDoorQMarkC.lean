/- Marks laid into books and read back: what markBookS lays, heldBookS finds. Conditions: at most 1048576 books and a first mark of at most 4194304. -/
import Derived.Test.YtecpcbkoemhclaaDoorPx0
import Derived.Test.YtecpcbkoemhclaaDoorPx1
import Derived.Test.YtecpcbkoemhclaaDoorPx20
import Derived.Test.YtecpcbkoemhclaaDoorPx21
import Derived.Test.YtecpcbkoemhclaaDoorQBookA
namespace Go.Proofs.YtecpcbkoemhclaaDoor.Q
open Go.RowKit Go.Proofs.YtecpcbkoemhclaaDoor.P Go.Proofs.YtecpcbkoemhclaaDoorW.PrintWords Go.Proofs.YtecpcbkoemhclaaDoorW.PrintLast
set_option linter.unusedVariables false
set_option linter.unusedSimpArgs false
theorem rdBs_self {l : List S48} {i : Nat} (h : i < l.length) (x : S48) : rd_T48 (l.set i x) i = x := by
  simp [rd_T48, List.getD_eq_getElem?_getD, List.getElem?_set_self h]
theorem rdBs_ne {l : List S48} {i j : Nat} (h : i ≠ j) (x : S48) : rd_T48 (l.set i x) j = rd_T48 l j := by
  simp [rd_T48, List.getD_eq_getElem?_getD, List.getElem?_set_ne h]
theorem markBookC_l0 (a : Nat) (ha : a ≤ 4194304) (d : Nat) : ∀ (i : Nat) (y : List S48), y.length ≤ 1048576 → i + d = y.length → ∃ m, Ev (fun k => laws_markBookS.l0 k y ((a + 2 * i : Nat) : Int) i) (((a + 2 * y.length : Nat) : Int), m) ∧ m.length = y.length ∧ ∀ j : Nat, j < y.length → (j < i → rd_T48 m j = rd_T48 y j) ∧ (i ≤ j → rd_T48 m j = ⟨((a + 2 * j : Nat) : Int), ((a + 2 * j : Nat) : Int) + 1⟩) := by
  induction d with
  | zero =>
    intro i y hy hi
    refine ⟨y, Ev.step (f := fun _ => some (((a + 2 * y.length : Nat) : Int), y)) (fun k => ?_) (Ev.now _), rfl, fun j hj => ⟨fun _ => rfl, fun h => by omega⟩⟩
    rw [laws_markBookS.l0, if_neg (by omega)]
    congr 3; omega
  | succ d ih =>
    intro i y hy hi
    have hlt : i < y.length := by omega
    have e : (y.set i ⟨((a + 2 * i : Nat) : Int), (rd_T48 y i).f1⟩).set i ⟨(rd_T48 (y.set i ⟨((a + 2 * i : Nat) : Int), (rd_T48 y i).f1⟩) i).f0, ((a + 2 * i : Nat) : Int) + 1⟩ = y.set i ⟨((a + 2 * i : Nat) : Int), ((a + 2 * i : Nat) : Int) + 1⟩ := by
      rw [rdBs_self hlt, List.set_set]
    obtain ⟨m, h1, h2, h3⟩ := ih (i + 1) (y.set i ⟨((a + 2 * i : Nat) : Int), ((a + 2 * i : Nat) : Int) + 1⟩) (by simpa using hy) (by simp; omega)
    rw [List.length_set] at h1 h2 h3
    refine ⟨m, Ev.step (fun k => ?_) h1, h2, fun j hj => ⟨fun h => ?_, fun h => ?_⟩⟩
    · rw [laws_markBookS.l0, if_pos (by omega), if_pos (by omega), Option.bind_some, w64i i (by omega), w64 (x := ((a + 2 * i : Nat) : Int) + 1) (by omega) (by omega), w64 (x := ((a + 2 * i : Nat) : Int) + 1 + 1) (by omega) (by omega), Int.toNat_natCast, e]
      congr 1
    · rw [(h3 j hj).1 (by omega), rdBs_ne (by omega)]
    · rcases Nat.eq_or_lt_of_le h with rfl | h'
      · rw [(h3 i hj).1 (by omega), rdBs_self hj]
      · exact (h3 j hj).2 h'
theorem heldBookC_l0 (a : Nat) (ha : a ≤ 4194304) (m : List S48) (hm : m.length ≤ 1048576) (h : ∀ j : Nat, j < m.length → rd_T48 m j = ⟨((a + 2 * j : Nat) : Int), ((a + 2 * j : Nat) : Int) + 1⟩) (d : Nat) : ∀ i : Nat, i + d = m.length → Ev (fun k => laws_heldBookS.l0 k m ((a + 2 * i : Nat) : Int) i) ((a + 2 * m.length : Nat) : Int) := by
  induction d with
  | zero =>
    intro i hi
    refine Ev.step (f := fun _ => some ((a + 2 * m.length : Nat) : Int)) (fun k => ?_) (Ev.now _)
    rw [laws_heldBookS.l0, if_neg (by omega)]
    congr 2; omega
  | succ d ih =>
    intro i hi
    refine Ev.step (fun k => ?_) (ih (i + 1) (by omega))
    rw [laws_heldBookS.l0, if_pos (by omega), if_pos (by omega), h i (by omega), if_pos rfl, w64i i (by omega), w64 (x := ((a + 2 * i : Nat) : Int) + 1) (by omega) (by omega), if_pos rfl, w64 (x := ((a + 2 * i : Nat) : Int) + 1 + 1) (by omega) (by omega)]
    congr 1
theorem markB_both (l : List S48) (hl : l.length ≤ 1048576) : ∃ m, Ev (fun k => laws_markBookS.f k l 1) (((1 + 2 * l.length : Nat) : Int), m) ∧ Ev (fun k => laws_heldBookS.f k m 1) ((1 + 2 * l.length : Nat) : Int) := by
  obtain ⟨m, h1, h2, h3⟩ := markBookC_l0 1 (by omega) l.length 0 l hl (by omega)
  refine ⟨m, h1, ?_⟩
  have := heldBookC_l0 1 (by omega) m (by omega) (fun j hj => (h3 j (by omega)).2 (by omega)) m.length 0 (by omega)
  rw [h2] at this
  exact this
end Go.Proofs.YtecpcbkoemhclaaDoor.Q
