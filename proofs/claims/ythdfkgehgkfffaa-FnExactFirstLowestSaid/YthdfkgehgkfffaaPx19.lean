-- Laid by wip/myprint.py of this project (a wrapper over the kit's print.py); Lean checks it.
import Derived.Test.YthdfkgehgkfffaaPx0
import Derived.Test.YthdfkgehgkfffaaPx1
import Derived.Test.YthdfkgehgkfffaaPx7
import Derived.Test.YthdfkgehgkfffaaPx14
namespace Go.Proofs.Ythdfkgehgkfffaa.P
open Go.RowKit Go.Proofs.YthdfkgehgkfffaaW.PrintWords Go.Proofs.YthdfkgehgkfffaaW.PrintLast Go.Proofs.YthdfkgehgkfffaaW.PrintMore
attribute [local go_sem] max2_int min2_int max_two min_two max_three min_three max_four min_four   -- for this text's walks alone
set_option linter.unusedVariables false
set_option linter.unusedSimpArgs false

/-! ### impl_lowest: function 32 (by hand) -/
/-- The score of 'lowest': the height of the shelves. -/
def lowF (k : Nat) (l : List (List S40)) : Option Int := (impl_heights.f k l).bind fun h => impl_sum.f k h
theorem lowF_mono : ∀ l k, LeO (lowF k l) (lowF (k + 1) l) := fun l k => LeO.bind (impl_heights.mono l k) (fun h => impl_sum.mono h k)
set_option maxHeartbeats 2000000 in
theorem low_score (kk : Nat) (W : World) (v : Value) (b : Nat) (ok : Nat → Prop) (list : List (List S40)) (n : Int) (_ : True) (h : lowF kk list = some n) (hN : Kd.N (Kd.slice 40 k40) 26 W b ok v list) :
    Calls Try.prog 46 (#[v] ++ #[]) W fun e W' => e = .returned (.int .i64 n) ∧ Below W.heap.size W W' := by
  unfold lowF at h
  obtain ⟨hs, h1, h2⟩ := Option.bind_eq_some_iff.mp h
  obtain ⟨A, c, rfl, hc, hr⟩ := Kd.N_reads hN
  have H1 := Aside0.mk (impl_heights.calls kk A c list hs W hr hc h1)
  have H2 := Aside0.mk h2
  clear hN h h1 h2 hr
  go_enter Try.func46, Try.ntmps46
  go_wp2_with (first
    | (go_at_call 48; refine H1.out.mono ?_; rintro e w1 ⟨v1, rfl, ho1, hb1⟩; obtain ⟨A1, c1, rfl, hc1, hr1⟩ := Kd.R_reads ho1; have HR1 := Aside0.mk hr1; have HB1 := Aside0.mk hb1; clear ho1 hb1 hr1)
    | (go_at_call 47; refine (impl_sum.calls kk _ c1 hs n w1 HR1.out hc1 H2.out).mono ?_; rintro e w2 ⟨rfl, hb2⟩; have HB2 := Aside0.mk hb2; clear hb2))
  go_ret
  exact ⟨rfl, below_then HB1.out HB1.out.size HB2.out.below⟩
def impl_lowest.f (k : Nat) (l0 : List S40) (a1 : Int) : Option (List Int × Int × Int) := bestO k (lowF k) l0 a1
theorem impl_lowest.mono : ∀ a0 a1 k, LeO (impl_lowest.f k a0 a1) (impl_lowest.f (k + 1) a0 a1) := fun a0 a1 k => bestO_mono lowF lowF_mono a0 a1 k
set_option maxHeartbeats 2000000 in
theorem impl_lowest.calls (k : Nat) (A0 : Option Addr) (c0 : Nat) (l0 : List S40) (a1 : Int) (r1 : List Int) (r2 r3 : Int) (w : World) (hr0 : Kd.C k40 w A0 l0.length l0) (hc0 : l0.length ≤ c0) (h : impl_lowest.f k l0 a1 = some (r1, r2, r3)) :
    Calls Try.prog 32 #[.slice A0 l0.length c0, .int .i64 a1] w fun e w' => ∃ v0_ : Value, e = .returned (.tuple #[v0_, .int .i64 r2, .int .i64 r3]) ∧ Kd.R (Kd.int .i64) 3 w' w.heap.size (fun _ => True) v0_ r1 ∧ Below w.heap.size w w' := by
  have HC := Aside0.mk (best_told 46 #[] (entersOf Try.func46 (by kernel_rfl) rfl) (lowF k) (fun _ => True) w (fun _ _ _ _ => trivial) (fun _ _ _ _ _ _ => trivial) (low_score k) A0 c0 l0 a1 k trivial hr0 hc0 (r1, r2, r3) h)
  clear hr0 h
  go_enter Try.func32, Try.ntmps32
  go_wp2_with (go_at_call 28; refine HC.out.mono ?_; rintro e w1 ⟨v1, rfl, ho1, hb1⟩; have HO1 := Aside0.mk ho1; have HB1 := Aside0.mk hb1; clear ho1 hb1)
  go_ret3
  exact ⟨_, rfl, HO1.out, HB1.out⟩


end Go.Proofs.Ythdfkgehgkfffaa.P
