-- Laid by wip/myprint.py of this project (a wrapper over the kit's print.py); Lean checks it.
import Derived.Test.YthpabbepglokeaaPx0
import Derived.Test.YthpabbepglokeaaPx1
import Derived.Test.YthpabbepglokeaaPx8
import Derived.Test.YthpabbepglokeaaPx9
import Derived.Test.YthpabbepglokeaaPx10
import Derived.Test.YthpabbepglokeaaPx12
namespace Go.Proofs.Ythpabbepglokeaa.P
open Go.RowKit Go.Proofs.YthpabbepglokeaaW.PrintWords Go.Proofs.YthpabbepglokeaaW.PrintLast Go.Proofs.YthpabbepglokeaaW.PrintMore
attribute [local go_sem] max2_int min2_int max_two min_two max_three min_three max_four min_four   -- for this text's walks alone
set_option linter.unusedVariables false
set_option linter.unusedSimpArgs false

/-! ### impl_TallestFirst: function 13 (by hand) -/
/-- The comparison of 'TallestFirst'. -/
def tfC (a b : S36) : Int := wrap64 (b.f1 - a.f1)
set_option maxHeartbeats 4000000 in
theorem tf_cmp : CmpB 24 #[] tfC (fun _ => True) (fun _ => True) := by
  rintro W x y _ _ _
  have Hc : Aside0 (tfC x y = wrap64 (y.f1 - x.f1)) := ⟨rfl⟩
  go_enter Try.func24, Try.ntmps24
  go_wp2
  go_ret
  exact ⟨by rw [Hc.out]; rfl, below_alloc (below_alloc (Below.refl _ _) _) _⟩
theorem insB_len (cf : S36 → S36 → Int) : ∀ (j : Nat) (xs : List S36), (insB cf j xs).length = xs.length
  | 0, xs => rfl
  | j + 1, xs => by
    rw [insB]
    split
    · rw [insB_len cf j, swpB_len]
    · rfl
theorem sortB_len (cf : S36 → S36 → Int) : ∀ (d i : Nat) (xs : List S36), (sortB cf d i xs).length = xs.length
  | 0, i, xs => rfl
  | d + 1, i, xs => by rw [sortB, sortB_len cf d, insB_len]
def impl_TallestFirst.f (l0 : List S36) : Option (List S36 × Bool) := (impl_AreBooks.f l0).bind fun b => if b = true then (if 1 ≤ l0.length ∧ l0.length ≤ 12 then some (sortB tfC (l0.length - 1) 1 l0, true) else none) else some ([], false)
set_option maxHeartbeats 4000000 in
theorem impl_TallestFirst.calls (A0 : Option Addr) (c0 : Nat) (l0 : List S36) (r1 : List S36) (r2 : Bool) (w : World) (hr0 : Kd.C k36 w A0 l0.length l0) (hc0 : l0.length ≤ c0) (h : impl_TallestFirst.f l0 = some (r1, r2)) :
    Calls Try.prog 13 #[.slice A0 l0.length c0] w fun e w' => ∃ v0_ : Value, e = .returned (.tuple #[v0_, .bool r2]) ∧ Kd.R k36 36 w' w.heap.size (fun _ => True) v0_ r1 ∧ Below w.heap.size w w' := by
  unfold impl_TallestFirst.f at h
  obtain ⟨b, hb, h⟩ := Option.bind_eq_some_iff.mp h
  have HA := Aside0.mk (impl_AreBooks.calls A0 c0 l0 b w hr0 hc0 hb)
  have HR := Aside0.mk hr0
  clear hr0 hb
  cases b with
  | false =>
    simp only [Bool.false_eq_true, if_false, Option.some.injEq, Prod.mk.injEq] at h
    obtain ⟨rfl, rfl⟩ := h
    go_enter Try.func13, Try.ntmps13
    go_wp2_with (go_at_call 17; refine HA.out.mono ?_; rintro e w1 ⟨rfl, hb1⟩; have HB1 := Aside0.mk hb1; clear hb1)
    go_ret2
    exact ⟨_, rfl, Kd.R_nil _ _ _ _ _, HB1.out⟩
  | true =>
    rw [if_pos rfl] at h
    by_cases hg : 1 ≤ l0.length ∧ l0.length ≤ 12
    case neg => rw [if_neg hg] at h; cases h
    rw [if_pos hg] at h
    simp only [Option.some.injEq, Prod.mk.injEq] at h
    obtain ⟨rfl, rfl⟩ := h
    obtain ⟨g1, g9⟩ := hg
    have HCl := Aside0.mk (fun (W : World) (hB : Below w.heap.size w W) => slices_Clone_Book.calls A0 c0 l0 l0 W (C_below (Kd.heap_iso _ (Kd.heap_pair (Kd.heap_int .i64) (Kd.heap_int .i64)) : Kd.Heap k36) HR.out hB) hc0 (cloneB_small (by omega)))
    go_enter Try.func13, Try.ntmps13
    go_wp2_with (first
      | (go_at_call 17; (with_reducible refine HA.out.mono ?_); rintro e w1 ⟨rfl, hb1⟩; have HB1 := Aside0.mk hb1; clear hb1)
      | (go_at_call 20; (with_reducible refine (HCl.out w1 HB1.out).mono ?_); rintro e w2 ⟨v9, rfl, ho2, hb2⟩; obtain ⟨g, c9, e9, gb9, gl9, _⟩ := Kd.R_form ho2 (by omega); subst e9; have HO2 := Aside0.mk ho2; have HB2 := Aside0.mk hb2; have GB9 := Aside0.mk gb9; clear ho2 hb2 gb9 gl9)
      | (go_at_call 23; refine (sortStable_book 24 #[] (entersOf Try.func24 (by kernel_rfl) rfl) tfC (fun _ => True) (fun _ => True) w1.heap.size g c9 (fun _ _ _ _ => trivial) tf_cmp w2 l0 (fun _ _ => trivial) g1 (by omega) HO2.out trivial).mono ?_; rintro e w3 ⟨rfl, ho3, hm3⟩; have HO3 := Aside0.mk ho3; have HM3 := Aside0.mk hm3; clear ho3 hm3))
    go_ret2
    exact ⟨_, rfl, Kd.R_lower HO3.out HB1.out.size, below_then HB1.out HB1.out.size (HB2.out.trans (HM3.out.belowB (B := w1.heap.size) HB2.out.size (fun k hk => by have h1 : k = g := hk; have := GB9.out; omega)))⟩


end Go.Proofs.Ythpabbepglokeaa.P
