-- Laid by wip/myprint.py of this project (a wrapper over the kit's print.py); Lean checks it.
import Derived.Test.YtclfjjinfbfajaaPx0
import Derived.Test.YtclfjjinfbfajaaPx1
import Derived.Test.YtclfjjinfbfajaaPx5
namespace Go.Proofs.Ytclfjjinfbfajaa.P
open Go.RowKit Go.Proofs.YtclfjjinfbfajaaW.PrintWords Go.Proofs.YtclfjjinfbfajaaW.PrintLast Go.Proofs.YtclfjjinfbfajaaW.PrintMore
attribute [local go_sem] max2_int min2_int max_two min_two max_three min_three max_four min_four   -- for this text's walks alone
set_option linter.unusedVariables false
set_option linter.unusedSimpArgs false

/-! ### slices_ContainsFunc_int_int: function 51 (by hand) -/
set_option maxHeartbeats 2000000 in
theorem slices_ContainsFunc.at (g : Nat) (lb : Array Value) (p : Int → Bool) (eg : ∀ args w, (callFunc g args).run Try.prog w = .ok (.enter g args) w) (A0 : Option Addr) (c0 : Nat) (l0 : List Int) (w : World)
    (hr0 : Kd.C (Kd.int .i64) w A0 l0.length l0) (hp : Asks g lb p w) :
    Calls Try.prog 51 #[.slice A0 l0.length c0, .func (.func g) #[] lb] w fun e w' => e = .returned (.bool (l0.any p)) ∧ Drawn0 w w' := by
  have H := Aside0.mk (slices_IndexFunc.at g lb p eg A0 c0 l0 w hr0 hp)
  have HN := Aside0.mk (idxOf_nonneg p l0 0 (by omega))
  clear hp hr0 eg
  go_enter Try.func51, Try.ntmps51
  go_wp2_with ((with_reducible refine H.out.mono ?_); rintro e w' ⟨rfl, hd'⟩)
  go_ret
  exact ⟨by rw [← HN.out]; rfl, hd'⟩


end Go.Proofs.Ytclfjjinfbfajaa.P
