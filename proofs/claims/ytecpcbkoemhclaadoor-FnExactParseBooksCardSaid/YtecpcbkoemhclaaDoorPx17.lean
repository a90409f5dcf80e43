-- Laid by wip/myprint.py of this project (a wrapper over the kit's print.py); Lean checks it.
import Derived.Test.YtecpcbkoemhclaaDoorPx0
import Derived.Test.YtecpcbkoemhclaaDoorPx1
import Derived.Test.YtecpcbkoemhclaaDoorPx9
import Derived.Test.YtecpcbkoemhclaaDoorPx15
import Derived.Test.YtecpcbkoemhclaaDoorPx16
namespace Go.Proofs.YtecpcbkoemhclaaDoor.P
open Go.RowKit Go.Proofs.YtecpcbkoemhclaaDoorW.PrintWords Go.Proofs.YtecpcbkoemhclaaDoorW.PrintLast Go.Proofs.YtecpcbkoemhclaaDoorW.PrintMore
attribute [local go_sem] max2_int min2_int max_two min_two max_three min_three max_four min_four   -- for this text's walks alone
set_option linter.unusedVariables false
set_option linter.unusedSimpArgs false

/-! ### impl_AreBooks: function 33 (by hand) -/
def inK (lo hi n : Int) : Bool := decide (lo ≤ n) && decide (n ≤ hi)
theorem within_inK (lo hi n : Int) : impl_within.f n lo hi = some (inK lo hi n) := by
  unfold impl_within.f inK
  by_cases h : lo ≤ n <;> simp [h]
/-- A book out of bounds. -/
def badB (b : S48) : Bool := !inK 1 100 b.f0 || !inK 1 100 b.f1
theorem cell_box2 (w : World) (u v : Value) (t : TypeId) : (w.alloc (.cells #[u, v] t)).cell? ⟨w.heap.size, 1, none⟩ = some v := by
  rw [World.cell?_alloc_at _ _ _ _ rfl]; rfl
set_option maxRecDepth 100000 in
set_option maxHeartbeats 2000000 in
theorem areBooks_asks (w : World) : AsksB 51 #[] badB w := by
  intro W x _
  have hc0 := fun W => Aside0.mk (impl_within.calls x.f0 1 100 (inK 1 100 x.f0) W (within_inK 1 100 x.f0))
  have hc1 := fun W => Aside0.mk (impl_within.calls x.f1 1 100 (inK 1 100 x.f1) W (within_inK 1 100 x.f1))
  have hB : Aside0 (Below W.heap.size W (W.alloc (.cells #[.int .i64 x.f0, .int .i64 x.f1] 48))) := ⟨below_alloc (Below.refl _ _) _⟩
  have c1 := cell_box2 W (.int .i64 x.f0) (.int .i64 x.f1) 48
  have HV : Aside0 (badB x = (!inK 1 100 x.f0 || !inK 1 100 x.f1)) := ⟨rfl⟩
  generalize inK 1 100 x.f0 = b0 at hc0 HV
  generalize inK 1 100 x.f1 = b1 at hc1 HV
  cases b0 <;> cases b1
  all_goals
    go_enter Tryd.func51, Tryd.ntmps51
    go_wp2_with (go_at_call 43; first | ((with_reducible refine (hc0 _).out.mono ?_); rintro e w1 ⟨rfl, hd1⟩; have HD1 : Aside0 (Below W.heap.size W w1) := ⟨below_then hB.out hB.out.size hd1.below⟩; replace c1 := pw_cell_below hd1.below c1; clear hd1) | ((with_reducible refine (hc1 _).out.mono ?_); rintro e w2 ⟨rfl, hd2⟩; have HD2 : Aside0 (Below W.heap.size W w2) := ⟨below_then HD1.out HD1.out.size hd2.below⟩; clear hd2))
    go_ret
    first | exact ⟨by rw [HV.out]; rfl, HD2.out⟩ | exact ⟨by rw [HV.out]; rfl, HD1.out⟩
def impl_AreBooks.f (l0 : List S48) : Option Bool := some (inK 1 12 l0.length && !l0.any badB)
set_option maxRecDepth 100000 in
set_option maxHeartbeats 2000000 in
theorem impl_AreBooks.calls (A0 : Option Addr) (c0 : Nat) (l0 : List S48) (r : Bool) (w : World) (hr0 : Kd.C k48 w A0 l0.length l0) (hc0 : l0.length ≤ c0) (h : impl_AreBooks.f l0 = some r) :
    Calls Tryd.prog 33 #[.slice A0 l0.length c0] w fun e w' => e = .returned (.bool r) ∧ Below w.heap.size w w' := by
  obtain rfl := Option.some.inj h
  clear h hc0
  have hmax : l0.length ≤ 9223372036854775807 := hr0.2.1
  have HW := Aside0.mk (impl_within.calls (l0.length : Int) 1 12 (inK 1 12 (l0.length : Int)) w (within_inK 1 12 (l0.length : Int)))
  have HC := Aside0.mk (fun (W : World) (hb : Below w.heap.size w W) => slices_ContainsFuncB.at 51 #[] badB (entersOf Tryd.func51 (by kernel_rfl) rfl) A0 c0 l0 W (Kd.C_below hr0 hb) (areBooks_asks W))
  clear hr0
  generalize inK 1 12 (l0.length : Int) = b0 at HW ⊢
  cases b0
  all_goals
    go_enter Tryd.func33, Tryd.ntmps33
    go_wp2_with (first | (go_at_call 43; refine HW.out.mono ?_; rintro e w1 ⟨rfl, hd1⟩; have HD1 : Aside0 (Below w.heap.size w w1) := ⟨hd1.below⟩; clear hd1) | (go_at_call 50; refine (HC.out w1 HD1.out).mono ?_; rintro e w2 ⟨rfl, hb2⟩; have HD2 : Aside0 (Below w.heap.size w w2) := ⟨below_then HD1.out HD1.out.size hb2⟩; clear hb2))
    go_ret
    first | exact ⟨rfl, HD2.out⟩ | exact ⟨rfl, HD1.out⟩


end Go.Proofs.YtecpcbkoemhclaaDoor.P
