-- Laid by wip/myprint.py of this project (a wrapper over the kit's print.py); Lean checks it.
import Derived.Test.YthdfkgehgkfffaaPx0
import Derived.Test.YthdfkgehgkfffaaPx1
import Derived.Test.YthdfkgehgkfffaaPx12
import Derived.Test.YthdfkgehgkfffaaPx14
namespace Go.Proofs.Ythdfkgehgkfffaa.P
open Go.RowKit Go.Proofs.YthdfkgehgkfffaaW.PrintWords Go.Proofs.YthdfkgehgkfffaaW.PrintLast Go.Proofs.YthdfkgehgkfffaaW.PrintMore
attribute [local go_sem] max2_int min2_int max_two min_two max_three min_three max_four min_four   -- for this text's walks alone
set_option linter.unusedVariables false
set_option linter.unusedSimpArgs false

/-! ### impl_CountShelvings: function 11 (by hand) -/
def zeroF (k : Nat) (l : List (List S40)) : Option Int := some 0
set_option maxHeartbeats 2000000 in
theorem zero_score (kk : Nat) (W : World) (v : Value) (b : Nat) (ok : Nat → Prop) (list : List (List S40)) (n : Int) (_ : True) (h : zeroF kk list = some n) (hN : Kd.N (Kd.slice 40 k40) 26 W b ok v list) :
    Calls Try.prog 29 (#[v] ++ #[]) W fun e W' => e = .returned (.int .i64 n) ∧ Below W.heap.size W W' := by
  obtain rfl := Option.some.inj h
  clear hN h
  go_enter Try.func29, Try.ntmps29
  go_wp2
  go_ret
  exact ⟨rfl, Below.refl _ _⟩
def impl_CountShelvings.f (k : Nat) (l0 : List S40) (a1 : Int) : Option (Int × Bool) := (impl_areShelved.f k l0 a1).bind fun b => if b = true then (bestO k (zeroF k) l0 a1).bind fun r => some (r.2.2, true) else some (0, false)
theorem impl_CountShelvings.mono : ∀ a0 a1 k, LeO (impl_CountShelvings.f k a0 a1) (impl_CountShelvings.f (k + 1) a0 a1) := fun a0 a1 k =>
  LeO.bind (impl_areShelved.mono a0 a1 k) (fun b => LeO.ite (LeO.bind (bestO_mono zeroF (fun _ _ => LeO.refl _) a0 a1 k) (fun _ => LeO.refl _)) (LeO.refl _))
set_option maxHeartbeats 4000000 in
theorem impl_CountShelvings.calls (k : Nat) (A0 : Option Addr) (c0 : Nat) (l0 : List S40) (a1 : Int) (r1 : Int) (r2 : Bool) (w : World) (hr0 : Kd.C k40 w A0 l0.length l0) (hc0 : l0.length ≤ c0) (h : impl_CountShelvings.f k l0 a1 = some (r1, r2)) :
    Calls Try.prog 11 #[.slice A0 l0.length c0, .int .i64 a1] w fun e w' => e = .returned (.tuple #[.int .i64 r1, .bool r2]) ∧ Below w.heap.size w w' := by
  unfold impl_CountShelvings.f at h
  obtain ⟨b, hb, h⟩ := Option.bind_eq_some_iff.mp h
  have HA := Aside0.mk (impl_areShelved.calls k A0 c0 l0 a1 b w hr0 hc0 hb)
  cases b with
  | false =>
    simp only [Bool.false_eq_true, if_false, Option.some.injEq, Prod.mk.injEq] at h
    obtain ⟨rfl, rfl⟩ := h
    clear hr0 hb
    go_enter Try.func11, Try.ntmps11
    go_wp2_with (go_at_call 27; refine HA.out.mono ?_; rintro e w1 ⟨rfl, hb1⟩; have HB1 := Aside0.mk hb1; clear hb1)
    go_ret2
    exact ⟨rfl, HB1.out⟩
  | true =>
    simp only [if_true] at h
    obtain ⟨r, hr, h⟩ := Option.bind_eq_some_iff.mp h
    simp only [Option.some.injEq, Prod.mk.injEq] at h
    obtain ⟨rfl, rfl⟩ := h
    have HC := Aside0.mk (fun (W : World) (hB : Below w.heap.size w W) => best_told 29 #[] (entersOf Try.func29 (by kernel_rfl) rfl) (zeroF k) (fun _ => True) W (fun _ _ _ _ => trivial) (fun _ _ _ _ _ _ => trivial) (zero_score k) A0 c0 l0 a1 k trivial (k40_heap.C (fun i hi => hB.block i hi) hr0) hc0 r hr)
    clear hr0 hb hr
    go_enter Try.func11, Try.ntmps11
    go_wp2_with (first
      | (go_at_call 27; refine HA.out.mono ?_; rintro e w1 ⟨rfl, hb1⟩; have HB1 := Aside0.mk hb1; clear hb1)
      | (go_at_call 28; refine (HC.out w1 HB1.out).mono ?_; rintro e w2 ⟨v2, rfl, ho2, hb2⟩; have HB2 := Aside0.mk hb2; clear ho2 hb2))
    go_ret2
    exact ⟨rfl, below_then HB1.out HB1.out.size HB2.out⟩


end Go.Proofs.Ythdfkgehgkfffaa.P
