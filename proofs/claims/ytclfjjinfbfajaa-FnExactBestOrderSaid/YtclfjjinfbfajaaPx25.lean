-- Laid by wip/myprint.py of this project (a wrapper over the kit's print.py); Lean checks it.
import Derived.Test.YtclfjjinfbfajaaPx0
import Derived.Test.YtclfjjinfbfajaaPx1
import Derived.Test.YtclfjjinfbfajaaPx22
namespace Go.Proofs.Ytclfjjinfbfajaa.P
open Go.RowKit Go.Proofs.YtclfjjinfbfajaaW.PrintWords Go.Proofs.YtclfjjinfbfajaaW.PrintLast Go.Proofs.YtclfjjinfbfajaaW.PrintMore
attribute [local go_sem] max2_int min2_int max_two min_two max_three min_three max_four min_four   -- for this text's walks alone
set_option linter.unusedVariables false
set_option linter.unusedSimpArgs false

/-! ### impl_WorstOrder: function 7 (by hand) -/
def scWorst (x : Int) : Int := x
set_option maxHeartbeats 2000000 in
theorem scWorst_score : Score1 16 scWorst := by
  intro W x
  go_enter Try.func16, Try.ntmps16
  go_wp2
  go_ret
  exact ⟨rfl, Drawn0.refl _⟩
def impl_WorstOrder.f (k : Nat) (l0 : List Int) (a1 : Int) : Option (List Int × Int × Bool) := ordO scWorst k l0 a1
theorem impl_WorstOrder.mono : ∀ a0 a1 k, LeO (impl_WorstOrder.f k a0 a1) (impl_WorstOrder.f (k + 1) a0 a1) := fun a0 a1 k => ordO_mono scWorst a0 a1 k
set_option maxHeartbeats 2000000 in
theorem impl_WorstOrder.calls (k : Nat) (A0 : Option Addr) (c0 : Nat) (l0 : List Int) (a1 : Int) (r1 : List Int) (r2 : Int) (r3 : Bool) (w : World) (hr0 : Kd.C (Kd.int .i64) w A0 l0.length l0) (hc0 : l0.length ≤ c0) (h : impl_WorstOrder.f k l0 a1 = some (r1, r2, r3)) :
    Calls Try.prog 7 #[.slice A0 l0.length c0, .int .i64 a1] w fun e w' => ∃ v0_ : Value, e = .returned (.tuple #[v0_, .int .i64 r2, .bool r3]) ∧ Kd.R (Kd.int .i64) 3 w' w.heap.size (fun _ => True) v0_ r1 ∧ Below w.heap.size w w' := by
  have HC := Aside0.mk (ordered_calls 16 (entersOf Try.func16 (by kernel_rfl) rfl) scWorst scWorst_score k A0 c0 l0 a1 (r1, r2, r3) w hr0 hc0 h)
  clear hr0 hc0 h
  go_enter Try.func7, Try.ntmps7
  go_wp2_with (go_at_call 15; refine HC.out.mono ?_; rintro e w1 ⟨v, rfl, ho1, hb1⟩; have HO1 := Aside0.mk ho1; have HB1 := Aside0.mk hb1; clear ho1 hb1)
  go_ret3
  exact ⟨_, rfl, HO1.out, HB1.out⟩


end Go.Proofs.Ytclfjjinfbfajaa.P
