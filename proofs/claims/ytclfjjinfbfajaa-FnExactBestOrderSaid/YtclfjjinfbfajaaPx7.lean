-- Laid by wip/myprint.py of this project (a wrapper over the kit's print.py); Lean checks it.
import Derived.Test.YtclfjjinfbfajaaPx0
import Derived.Test.YtclfjjinfbfajaaPx1
import Derived.Test.YtclfjjinfbfajaaPx4
import Derived.Test.YtclfjjinfbfajaaPx6
namespace Go.Proofs.Ytclfjjinfbfajaa.P
open Go.RowKit Go.Proofs.YtclfjjinfbfajaaW.PrintWords Go.Proofs.YtclfjjinfbfajaaW.PrintLast Go.Proofs.YtclfjjinfbfajaaW.PrintMore
attribute [local go_sem] max2_int min2_int max_two min_two max_three min_three max_four min_four   -- for this text's walks alone
set_option linter.unusedVariables false
set_option linter.unusedSimpArgs false

/-! ### impl_areWithin: function 43 (by hand) -/
def inB (lo hi n : Int) : Bool := decide (lo ≤ n) && decide (n ≤ hi)
def allIn (l : List Int) (lo hi : Int) : Bool := !l.any fun n => !inB lo hi n
theorem within_inB (lo hi n : Int) : impl_within.f n lo hi = some (inB lo hi n) := by
  unfold impl_within.f inB
  by_cases h : lo ≤ n <;> simp [h]
set_option maxHeartbeats 2000000 in
theorem areWithin_asks (lo hi : Int) (B1 B2 : Nat) (w : World) (hB1 : w.cell? ⟨B1, 0, none⟩ = some (.int .i64 lo)) (hB2 : w.cell? ⟨B2, 0, none⟩ = some (.int .i64 hi)) :
    Asks 52 #[.pointer (some ⟨B1, 0, none⟩), .pointer (some ⟨B2, 0, none⟩)] (fun n => !inB lo hi n) w := by
  intro W x hb
  have h1 := (hb.cell (World.block_lt_of_cell? w _ hB1)).trans hB1
  have h2 := (hb.cell (World.block_lt_of_cell? w _ hB2)).trans hB2
  clear hB1 hB2 hb
  have hc := fun W => Aside0.mk (impl_within.calls x lo hi (inB lo hi x) W (within_inB lo hi x))
  go_enter Try.func52, Try.ntmps52
  go_wp2_with (go_at_call 37; refine (hc _).out.mono ?_; rintro e w' ⟨rfl, hd'⟩)
  go_ret
  exact ⟨rfl, hd'⟩
def impl_areWithin.f (l0 : List Int) (a1 a2 : Int) : Option Bool := some (allIn l0 a1 a2)
theorem impl_areWithin.calls (A0 : Option Addr) (c0 : Nat) (l0 : List Int) (a1 a2 : Int) (r : Bool) (w : World) (hr0 : Kd.C (Kd.int .i64) w A0 l0.length l0) (hc0 : l0.length ≤ c0) (h : impl_areWithin.f l0 a1 a2 = some r) :
    Calls Try.prog 43 #[.slice A0 l0.length c0, .int .i64 a1, .int .i64 a2] w fun e w' => e = .returned (.bool r) ∧ Below w.heap.size w w' := by
  obtain rfl := Option.some.inj h
  clear h hc0
  have hW : Below w.heap.size w ((w.alloc (.cells #[.int .i64 a1] 3)).alloc (.cells #[.int .i64 a2] 3)) := below_alloc (below_alloc (Below.refl _ _) _) _
  have HC := Aside0.mk (slices_ContainsFunc.at 52 _ _ (entersOf Try.func52 (by kernel_rfl) rfl) A0 c0 l0 _ (C_below (Kd.heap_int _) hr0 hW)
    (areWithin_asks a1 a2 _ _ _ (cell_past (cell_box w _ 3) _) (cell_box (w.alloc (.cells #[.int .i64 a1] 3)) _ 3)))
  have HW := Aside0.mk hW
  clear hr0 hW
  rw [World.size_alloc] at HC
  go_enter Try.func43, Try.ntmps43
  go_wp2_with ((with_reducible refine HC.out.mono ?_); rintro e w' ⟨rfl, hd'⟩)
  go_ret
  exact ⟨rfl, below_then HW.out HW.out.size hd'.below⟩


end Go.Proofs.Ytclfjjinfbfajaa.P
