/- Marks laid into books. Conditions: at most 1048576 books. -/
import Derived.Test.YthdfkgehgkfffaaPx0
import Derived.Test.YthdfkgehgkfffaaPx1
import Derived.Test.YthdfkgehgkfffaaPx8
import Derived.Test.YthdfkgehgkfffaaQBookA
namespace Go.Proofs.Ythdfkgehgkfffaa.Q
open Go.RowKit Go.Proofs.Ythdfkgehgkfffaa.P Go.Proofs.YthdfkgehgkfffaaW.PrintWords Go.Proofs.YthdfkgehgkfffaaW.PrintLast
set_option linter.unusedVariables false
set_option linter.unusedSimpArgs false
theorem markBookS_l0 (a : Nat) (ha : a ≤ 4194304) (d : Nat) : ∀ (i : Nat) (y : List S40), y.length ≤ 1048576 → i + d = y.length → ∃ m, Ev (fun k => laws_markBookS.l0 k y ((a + 2 * i : Nat) : Int) i) (((a + 2 * y.length : Nat) : Int), m) := by
  induction d with
  | zero =>
    intro i y hy hi
    refine ⟨y, Ev.step (f := fun _ => some (((a + 2 * y.length : Nat) : Int), y)) (fun k => ?_) (Ev.now _)⟩
    rw [laws_markBookS.l0, if_neg (by omega)]
    congr 3; omega
  | succ d ih =>
    intro i y hy hi
    obtain ⟨m, h1⟩ := ih (i + 1) ((y.set i ⟨((a + 2 * i : Nat) : Int), (rd_T40 y i).f1⟩).set i ⟨(rd_T40 (y.set i ⟨((a + 2 * i : Nat) : Int), (rd_T40 y i).f1⟩) i).f0, ((a + 2 * i : Nat) : Int) + 1⟩) (by simpa using hy) (by simp; omega)
    rw [List.length_set, List.length_set] at h1
    refine ⟨m, Ev.step (fun k => ?_) h1⟩
    rw [laws_markBookS.l0, if_pos (by omega), if_pos (by omega), Option.bind_some, w64i i (by omega), w64 (x := ((a + 2 * i : Nat) : Int) + 1) (by omega) (by omega), w64 (x := ((a + 2 * i : Nat) : Int) + 1 + 1) (by omega) (by omega), Int.toNat_natCast]
    congr 1
theorem markB_ev (l : List S40) (hl : l.length ≤ 1048576) : ∃ m, Ev (fun k => laws_markBookS.f k l 1) (((1 + 2 * l.length : Nat) : Int), m) := by
  obtain ⟨m, h⟩ := markBookS_l0 1 (by omega) l.length 0 l hl (by omega)
  exact ⟨m, h⟩
end Go.Proofs.Ythdfkgehgkfffaa.Q
