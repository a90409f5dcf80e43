-- Laid by wip/myprint.py of this project (a wrapper over the kit's print.py); Lean checks it.
import Derived.Test.YtecpcbkoemhclaaDoorPx0
import Derived.Test.YtecpcbkoemhclaaDoorPx1
import Derived.Test.YtecpcbkoemhclaaDoorPx7
import Derived.Test.YtecpcbkoemhclaaDoorPx15
import Derived.Test.YtecpcbkoemhclaaDoorPx18
namespace Go.Proofs.YtecpcbkoemhclaaDoor.P
open Go.RowKit Go.Proofs.YtecpcbkoemhclaaDoorW.PrintWords Go.Proofs.YtecpcbkoemhclaaDoorW.PrintLast Go.Proofs.YtecpcbkoemhclaaDoorW.PrintMore
attribute [local go_sem] max2_int min2_int max_two min_two max_three min_three max_four min_four   -- for this text's walks alone
set_option linter.unusedVariables false
set_option linter.unusedSimpArgs false

/-! ### impl_ThingsText: function 19 (by hand) -/
/-- What ThingsText answers. -/
def ttV (b : Bool) (l : List Int) : ByteArray := if b = true then joinB l ⟨#[45]⟩ else ⟨#[]⟩
theorem bo_then {w W W' : World} (h : Below w.heap.size w W) (h2 : Below W.heap.size W W') : Below w.heap.size w W' := below_then h h.size h2
theorem bo_drawn {W W' : World} (h : Drawn0 W W') : Below W.heap.size W W' := by
  obtain ⟨m, rfl⟩ := h
  exact pw_below_drewN (Below.refl _ _) m
theorem bo_neq (b : Bool) : (b != b) = false := by cases b <;> rfl
set_option maxRecDepth 100000 in
set_option maxHeartbeats 8000000 in
theorem impl_ThingsText.calls (A0 : Option Addr) (c0 : Nat) (l0 : List Int) (b : Bool) (w : World) (hr0 : Kd.C (Kd.int .i64) w A0 l0.length l0) (hc0 : l0.length ≤ c0) (hb : impl_AreThings.f l0 = some b) (hx : b = true → l0.length ≤ 1048576 ∧ ∀ x ∈ l0, 0 ≤ x ∧ x ≤ 1048576) (ht : Pow10 w) :
    Calls Tryd.prog 19 #[.slice A0 l0.length c0] w fun e w' => e = .returned (.tuple #[.string (ttV b l0), .bool b]) ∧ Below w.heap.size w w' := by
  have T := Aside0.mk (impl_AreThings.calls A0 c0 l0 b w hr0 hc0 hb)
  cases b with
  | false =>
    clear hr0 hc0 hb hx ht
    go_enter Tryd.func19, Tryd.ntmps19
    go_wp2_with (go_at_call 26; refine T.out.mono ?_; rintro e w1 ⟨rfl, hb1⟩; have HB1 := Aside0.mk hb1; clear hb1)
    go_ret2
    exact ⟨by rfl, HB1.out⟩
  | true =>
    have T2 := Aside0.mk (fun (W : World) (hb : Below w.heap.size w W) => joined_calls A0 c0 l0 ⟨#[45]⟩ W (C_below (Kd.heap_int _) hr0 hb) (hx rfl).1 (hx rfl).2 (by decide) (pow10_below ht hb (Nat.le_refl _)))
    clear hr0 hc0 hb hx ht
    go_enter Tryd.func19, Tryd.ntmps19
    go_wp2_with (first
      | (go_at_call 26; refine T.out.mono ?_; rintro e w1 ⟨rfl, hb1⟩; have HB1 := Aside0.mk hb1; clear hb1)
      | (go_at_call 27; refine (T2.out w1 HB1.out).mono ?_; rintro e w2 ⟨rfl, hb1⟩; have HB2 := Aside0.mk (bo_then HB1.out hb1); clear hb1))
    go_ret2
    exact ⟨by rfl, HB2.out⟩


end Go.Proofs.YtecpcbkoemhclaaDoor.P
