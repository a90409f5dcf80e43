-- Laid by wip/myprint.py of this project (a wrapper over the kit's print.py); Lean checks it.
import Derived.Test.YtclfjjinfbfajaaPx0
import Derived.Test.YtclfjjinfbfajaaPx1
import Derived.Test.YtclfjjinfbfajaaPx10
namespace Go.Proofs.Ytclfjjinfbfajaa.P
open Go.RowKit Go.Proofs.YtclfjjinfbfajaaW.PrintWords Go.Proofs.YtclfjjinfbfajaaW.PrintLast Go.Proofs.YtclfjjinfbfajaaW.PrintMore
attribute [local go_sem] max2_int min2_int max_two min_two max_three min_three max_four min_four   -- for this text's walks alone
set_option linter.unusedVariables false
set_option linter.unusedSimpArgs false

/-! ### impl_FirstFit: function 28 (by hand) -/
def scoreF (l : List Int) (k : Int) : Int := 0
set_option maxHeartbeats 2000000 in
theorem firstScore : Score2 42 scoreF := by
  intro W A c l k h0 h1 hr
  clear hr
  go_enter Try.func42, Try.ntmps42
  go_wp2
  go_ret
  exact ⟨rfl, Drawn0.refl _⟩
def impl_FirstFit.f (k : Nat) (l0 : List Int) (a1 : Int) : Option (List Int × Bool) := byScoreF scoreF k l0 a1
theorem impl_FirstFit.mono : ∀ a0 a1 k, LeO (impl_FirstFit.f k a0 a1) (impl_FirstFit.f (k + 1) a0 a1) := fun a0 a1 k => byScoreF_mono scoreF a0 a1 k
set_option maxHeartbeats 2000000 in
theorem impl_FirstFit.calls (k : Nat) (A0 : Option Addr) (c0 : Nat) (l0 : List Int) (a1 : Int) (r1 : List Int) (r2 : Bool) (w : World) (hr0 : Kd.C (Kd.int .i64) w A0 l0.length l0) (hc0 : l0.length ≤ c0) (h : impl_FirstFit.f k l0 a1 = some (r1, r2)) :
    Calls Try.prog 28 #[.slice A0 l0.length c0, .int .i64 a1] w fun e w' => ∃ v0_ : Value, e = .returned (.tuple #[v0_, .bool r2]) ∧ Kd.R (Kd.int .i64) 3 w' w.heap.size (fun _ => True) v0_ r1 ∧ Below w.heap.size w w' := by
  have HC := Aside0.mk (byScore_calls 42 scoreF firstScore (entersOf Try.func42 (by kernel_rfl) rfl) k A0 c0 l0 a1 r1 r2 w hr0 hc0 h)
  clear hr0 hc0 h
  go_enter Try.func28, Try.ntmps28
  go_wp2_with (go_at_call 41; refine HC.out.mono ?_; rintro e w1 ⟨v, rfl, ho1, hb1⟩; have HO1 := Aside0.mk ho1; have HB1 := Aside0.mk hb1; clear ho1 hb1)
  go_ret2
  exact ⟨_, rfl, HO1.out, HB1.out⟩


end Go.Proofs.Ytclfjjinfbfajaa.P
