-- Laid by wip/myprint.py of this project (a wrapper over the kit's print.py); Lean checks it.
import Derived.Test.YtclfjjinfbfajaaPx0
import Derived.Test.YtclfjjinfbfajaaPx17
import Derived.Test.YtclfjjinfbfajaaPx21
namespace Go.Proofs.Ytclfjjinfbfajaa.P
open Go.RowKit Go.Proofs.YtclfjjinfbfajaaW.PrintWords Go.Proofs.YtclfjjinfbfajaaW.PrintLast Go.Proofs.YtclfjjinfbfajaaW.PrintMore
attribute [local go_sem] max2_int min2_int max_two min_two max_three min_three max_four min_four   -- for this text's walks alone
set_option linter.unusedVariables false
set_option linter.unusedSimpArgs false

/-! ### slices_Collect_int: function 38 (by hand) -/
theorem R_of_own {w : World} {base e : Nat} {v : Value} {zs : List Int} (h : w.ownsRow base e 1 v zs.length (zs.map (Value.int .i64))) : Kd.R (Kd.int .i64) e w base (fun _ => True) v zs := by
  refine ⟨fun _ _ => trivial, zs.map (Value.int .i64), h, ⟨by simp [Kd.int, Kd.scalar], fun j y hj => ?_⟩⟩
  have hlt : j < zs.length := (List.getElem?_eq_some_iff.1 hj).1
  show ((zs.map (Value.int .i64)).drop (j * 1)).take 1 = [Value.int .i64 y]
  rw [Nat.mul_one, List.drop_eq_getElem_cons (by simpa using hlt)]
  have : zs[j] = y := (List.getElem?_eq_some_iff.1 hj).2
  simp [this]
set_option maxRecDepth 100000 in
set_option maxHeartbeats 2000000 in
/-- What an iterator over a slice gives is collected. -/
theorem collect_calls (Bs : Nat) (sv : Value) (zs : List Int) (hlen : zs.length ≤ maxLen) (hreach : zs.length * 8 ≤ 140737488351232) (w : World) (hBs : Bs < w.heap.size) (hcs : w.cell? ⟨Bs, 0, none⟩ = some sv) (hI : vals_Ints w.heap.size w sv zs) :
    Calls Try.prog 38 #[.func (.func 40) #[] #[.pointer (some ⟨Bs, 0, none⟩)]] w fun e W' => ∃ v, e = .returned v ∧ W'.ownsRow w.heap.size 3 1 v zs.length (zs.map (Value.int .i64)) ∧ (v = .slice none 0 0 ↔ zs = []) ∧ Below w.heap.size w W' := by
  have HA := Aside0.mk (callsIn_wide.1 (apq_in Fence.wide 3 trivial trivial rfl (Nat.le_refl _) Bs sv zs hlen hreach w hBs hcs hI))
  clear hcs hI
  go_enter Try.func38, Try.ntmps38
  go_wp2_with (go_at_call 44; refine HA.out.mono ?_; rintro e w1 ⟨v, rfl, hr, hn, hb⟩)
  go_ret
  exact ⟨_, rfl, hr, hn, hb⟩


end Go.Proofs.Ytclfjjinfbfajaa.P
