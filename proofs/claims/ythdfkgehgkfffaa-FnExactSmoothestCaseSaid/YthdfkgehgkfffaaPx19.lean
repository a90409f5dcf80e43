-- Laid by wip/myprint.py of this project (a wrapper over the kit's print.py); Lean checks it.
import Derived.Test.YthdfkgehgkfffaaPx0
import Derived.Test.YthdfkgehgkfffaaPx1
import Derived.Test.YthdfkgehgkfffaaPx7
import Derived.Test.YthdfkgehgkfffaaPx16
import Derived.Test.YthdfkgehgkfffaaPx18
namespace Go.Proofs.Ythdfkgehgkfffaa.P
open Go.RowKit Go.Proofs.YthdfkgehgkfffaaW.PrintWords Go.Proofs.YthdfkgehgkfffaaW.PrintLast Go.Proofs.YthdfkgehgkfffaaW.PrintMore
attribute [local go_sem] max2_int min2_int max_two min_two max_three min_three max_four min_four   -- for this text's walks alone
set_option linter.unusedVariables false
set_option linter.unusedSimpArgs false

/-! ### impl_SmoothestCase: function 24 (by hand) -/
/-- The score of 'SmoothestCase': the roughness of the shelves, for a width. -/
def roughF (width : Int) (k : Nat) (l : List (List S40)) : Option Int := impl_roughness.f k width l
set_option maxHeartbeats 2000000 in
theorem rough_score (bw : Nat) (width : Int) (kk : Nat) (W : World) (v : Value) (b : Nat) (ok : Nat → Prop) (list : List (List S40)) (n : Int) (hw : W.cell? ⟨bw, 0, none⟩ = some (.int .i64 width)) (h : roughF width kk list = some n) (hN : Kd.N (Kd.slice 40 k40) 26 W b ok v list) :
    Calls Try.prog 35 (#[v] ++ #[.pointer (some ⟨bw, 0, none⟩)]) W fun e W' => e = .returned (.int .i64 n) ∧ Below W.heap.size W W' := by
  obtain ⟨A, c, rfl, hc, hr⟩ := Kd.N_reads hN
  have H1 := Aside0.mk (impl_roughness.calls kk width A c list n W hr hc h)
  clear hN h hr
  go_enter Try.func35, Try.ntmps35
  go_wp2_with (go_at_call 36; refine H1.out.mono ?_; rintro e w1 ⟨rfl, hb1⟩; have HB1 := Aside0.mk hb1; clear hb1)
  go_ret
  exact ⟨rfl, HB1.out⟩
def impl_SmoothestCase.f (k : Nat) (l0 : List S40) (a1 : Int) : Option (List Int × Int × Bool) := (impl_areShelved.f k l0 a1).bind fun b => if b = true then (bestO k (roughF a1 k) l0 a1).bind fun r => some (r.1, r.2.1, true) else some ([], 0, false)
theorem impl_SmoothestCase.mono : ∀ a0 a1 k, LeO (impl_SmoothestCase.f k a0 a1) (impl_SmoothestCase.f (k + 1) a0 a1) := fun a0 a1 k =>
  LeO.bind (impl_areShelved.mono a0 a1 k) (fun b => LeO.ite (LeO.bind (bestO_mono (roughF a1) (fun l k => impl_roughness.mono a1 l k) a0 a1 k) (fun _ => LeO.refl _)) (LeO.refl _))
set_option maxHeartbeats 4000000 in
theorem impl_SmoothestCase.calls (k : Nat) (A0 : Option Addr) (c0 : Nat) (l0 : List S40) (a1 : Int) (r1 : List Int) (r2 : Int) (r3 : Bool) (w : World) (hr0 : Kd.C k40 w A0 l0.length l0) (hc0 : l0.length ≤ c0) (h : impl_SmoothestCase.f k l0 a1 = some (r1, r2, r3)) :
    Calls Try.prog 24 #[.slice A0 l0.length c0, .int .i64 a1] w fun e w' => ∃ v0_ : Value, e = .returned (.tuple #[v0_, .int .i64 r2, .bool r3]) ∧ Kd.R (Kd.int .i64) 3 w' w.heap.size (fun _ => True) v0_ r1 ∧ Below w.heap.size w w' := by
  unfold impl_SmoothestCase.f at h
  obtain ⟨b, hb, h⟩ := Option.bind_eq_some_iff.mp h
  obtain ⟨W0, hW0⟩ : ∃ W0, W0 = w.alloc (.cells #[.int .i64 a1] 3) := ⟨_, rfl⟩
  have hB0 : Below w.heap.size w W0 := by rw [hW0]; exact below_alloc (Below.refl _ _) _
  have hcw : W0.cell? ⟨w.heap.size, 0, none⟩ = some (.int .i64 a1) := by rw [hW0]; exact cell_box w _ _
  have hs0 : W0.heap.size = w.heap.size + 1 := by rw [hW0]; simp
  have hr1 : Kd.C k40 W0 A0 l0.length l0 := k40_heap.C (fun i hi => hB0.block i hi) hr0
  have HA := Aside0.mk (impl_areShelved.calls k A0 c0 l0 a1 b W0 hr1 hc0 hb)
  have HB0 := Aside0.mk hB0
  cases b with
  | false =>
    simp only [Bool.false_eq_true, if_false, Option.some.injEq, Prod.mk.injEq] at h
    obtain ⟨rfl, rfl, rfl⟩ := h
    clear hr0 hr1 hb hB0 hs0
    subst hW0
    go_enter Try.func24, Try.ntmps24
    go_wp2_with (go_at_call 27; refine HA.out.mono ?_; rintro e w1 ⟨rfl, hb1⟩; have HB1 := Aside0.mk hb1; clear hb1)
    go_ret3
    exact ⟨_, rfl, R_nil_ _ _ _ _, below_then HB0.out HB0.out.size HB1.out⟩
  | true =>
    simp only [if_true] at h
    obtain ⟨r, hr, h⟩ := Option.bind_eq_some_iff.mp h
    simp only [Option.some.injEq, Prod.mk.injEq] at h
    obtain ⟨rfl, rfl, rfl⟩ := h
    have HC := Aside0.mk (fun (W : World) (hB : Below W0.heap.size W0 W) => best_told 35 #[.pointer (some ⟨w.heap.size, 0, none⟩)] (entersOf Try.func35 (by kernel_rfl) rfl) (roughF a1 k) (fun W => W.cell? ⟨w.heap.size, 0, none⟩ = some (.int .i64 a1)) W (fun _ _ hc hb => pw_cell_below hb hc) (fun S _ _ hc hS hm => hm.cell hc (fun hs => by have h : W.heap.size ≤ w.heap.size := hS _ hs; have := hB.size; omega)) (rough_score w.heap.size a1 k) A0 c0 l0 a1 k (pw_cell_below hB hcw) (k40_heap.C (fun i hi => hB.block i hi) hr1) hc0 r hr)
    have HS0 := Aside0.mk hs0
    clear hr0 hr1 hb hr hB0 hs0
    subst hW0
    go_enter Try.func24, Try.ntmps24
    go_wp2_with (first
      | (go_at_call 27; refine HA.out.mono ?_; rintro e w1 ⟨rfl, hb1⟩; replace hcw := pw_cell_below hb1 hcw; have HB1 := Aside0.mk hb1; clear hb1)
      | (go_at_call 28; refine (HC.out w1 HB1.out).mono ?_; rintro e w2 ⟨v2, rfl, ho2, hb2⟩; have HO2 := Aside0.mk ho2; have HB2 := Aside0.mk hb2; clear ho2 hb2))
    go_ret3
    exact ⟨_, rfl, Kd.R_lower HO2.out (by have := HB1.out.size; have := HS0.out; omega), below_then HB0.out HB0.out.size (below_then HB1.out HB1.out.size HB2.out)⟩


end Go.Proofs.Ythdfkgehgkfffaa.P
