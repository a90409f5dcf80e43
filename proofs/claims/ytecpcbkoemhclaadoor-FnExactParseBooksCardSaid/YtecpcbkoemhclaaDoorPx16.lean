-- Laid by wip/myprint.py of this project (a wrapper over the kit's print.py); Lean checks it.
import Derived.Test.YtecpcbkoemhclaaDoorPx0
import Derived.Test.YtecpcbkoemhclaaDoorPx15
namespace Go.Proofs.YtecpcbkoemhclaaDoor.P
open Go.RowKit Go.Proofs.YtecpcbkoemhclaaDoorW.PrintWords Go.Proofs.YtecpcbkoemhclaaDoorW.PrintLast Go.Proofs.YtecpcbkoemhclaaDoorW.PrintMore
attribute [local go_sem] max2_int min2_int max_two min_two max_three min_three max_four min_four   -- for this text's walks alone
set_option linter.unusedVariables false
set_option linter.unusedSimpArgs false

/-! ### slices_ContainsFunc_Book: function 50 (by hand) -/
--! full slices.ContainsFunc[[]loop.example/g01334/impl.Book,loop.example/g01334/impl.Book]
set_option maxHeartbeats 2000000 in
theorem slices_ContainsFuncB.at (g : Nat) (lb : Array Value) (p : S48 → Bool) (eg : ∀ args w, (callFunc g args).run Tryd.prog w = .ok (.enter g args) w) (A0 : Option Addr) (c0 : Nat) (l0 : List S48) (w : World)
    (hr0 : Kd.C k48 w A0 l0.length l0) (hp : AsksB g lb p w) :
    Calls Tryd.prog 50 #[.slice A0 l0.length c0, .func (.func g) #[] lb] w fun e w' => e = .returned (.bool (l0.any p)) ∧ Below w.heap.size w w' := by
  have H := Aside0.mk (slices_IndexFuncB.at g lb p eg A0 c0 l0 w hr0 hp)
  have HN := Aside0.mk (idxB_nonneg p l0 0 (by omega))
  clear hp hr0 eg
  go_enter Tryd.func50, Tryd.ntmps50
  go_wp2_with ((with_reducible refine H.out.mono ?_); rintro e w' ⟨rfl, hd'⟩)
  go_ret
  exact ⟨by rw [← HN.out]; rfl, hd'⟩


end Go.Proofs.YtecpcbkoemhclaaDoor.P
