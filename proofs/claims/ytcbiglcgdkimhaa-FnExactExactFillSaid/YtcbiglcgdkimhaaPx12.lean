-- Laid by wip/myprint.py of this project (a wrapper over the kit's print.py); Lean checks it.
import Derived.Test.YtcbiglcgdkimhaaPx0
import Derived.Test.YtcbiglcgdkimhaaPx1
import Derived.Test.YtcbiglcgdkimhaaPx10
import Derived.Test.YtcbiglcgdkimhaaPx11
import Derived.Test.YtcbiglcgdkimhaaPx19
namespace Go.Proofs.Ytcbiglcgdkimhaa.P
open Go.RowKit Go.Proofs.YtcbiglcgdkimhaaW.PrintWords Go.Proofs.YtcbiglcgdkimhaaW.PrintLast Go.Proofs.YtcbiglcgdkimhaaW.PrintMore
attribute [local go_sem] max2_int min2_int max_two min_two max_three min_three max_four min_four   -- for this text's walks alone
set_option linter.unusedVariables false
set_option linter.unusedSimpArgs false

/-! ### impl_NextFit: function 19 (by hand) -/
/-- The rule of the last box. -/
def nextRule (room : Int) (l : List Int) (x : Int) : Int := if l.length = 0 then -1 else if wrap64 (rd l ((l.length : Int) - 1) + x) > room then -1 else (l.length : Int) - 1
theorem nextRule_lt (room : Int) (l : List Int) (x : Int) : nextRule room l x < l.length := by
  unfold nextRule
  split
  · omega
  · split <;> omega
set_option maxHeartbeats 4000000 in
theorem next_rules (B1 : Nat) (room : Int) (w : World) (h1 : w.cell? ⟨B1, 0, none⟩ = some (.int .i64 room)) : Rules 57 #[.pointer (some ⟨B1, 0, none⟩)] (nextRule room) w := by
  intro W A c l x hb hr hc
  have c1 := pw_cell_below hb h1
  have hmax : l.length ≤ 9223372036854775807 := hr.2.1
  by_cases hl : l.length = 0
  · have Hv : Aside0 (nextRule room l x = -1) := ⟨by unfold nextRule; rw [if_pos hl]⟩
    have hlt : decide ((l.length : Int) - 1 < 0) = true := decide_eq_true (by omega)
    have hlt2 : (l.length : Int) - 1 < 0 := by omega
    clear h1 hb hr hl
    go_enter Try.func57, Try.ntmps57
    go_wp2
    go_quiet (fail)
    go_wp2
    go_ret
    exact ⟨by rw [Hv.out]; rfl, pw_below_drewN (Below.refl _ _) _⟩
  · have hl1 : 0 ≤ (l.length : Int) - 1 := by omega
    have hl2 : (l.length : Int) - 1 < (l.length : Int) := by omega
    obtain ⟨ad, e1, hx⟩ := Kd.at_int hr ((l.length : Int) - 1) (by omega) (by omega)
    subst e1
    obtain ⟨y, hy⟩ : ∃ y, y = rd l ((l.length : Int) - 1) := ⟨_, rfl⟩
    rw [← hy, show ((l.length : Int) - 1).toNat = l.length - 1 by omega] at hx
    have hl3 : 1 ≤ l.length := by omega
    have hl4 : 0 < l.length := by omega
    have hl5 : l.length - 1 < l.length := by omega
    have hl6 : (1 : Int) ≤ (l.length : Int) := by omega
    have hl7 : ¬ (l.length : Int) - 1 < 0 := by omega
    have hlt : decide ((l.length : Int) - 1 < 0) = false := decide_eq_false (by omega)
    have Hy := Aside0.mk hy
    by_cases hc2 : wrap64 (y + x) > room
    · have Hv : Aside0 (nextRule room l x = -1) := ⟨by unfold nextRule; rw [if_neg hl, if_pos (by rw [← Hy.out]; exact hc2)]⟩
      have hcb : decide (wrap64 (y + x) > room) = true := decide_eq_true hc2
      have hc3 : room < IntKind.i64.wrap (y + x) := by rw [IntKind.wrap_i64]; unfold wrap64 at hc2; exact hc2
      clear h1 hb hr hl hy hc2
      go_enter Try.func57, Try.ntmps57
      go_wp2
      go_region_held3 (fun w' => w'.cell? ⟨B1, 0, none⟩ = some (.int .i64 room) ∧ w'.cell? (ad.add (l.length - 1)) = some (.int .i64 y)) (go_keep) (fail)
      all_goals first | (exfalso; omega) | skip
      go_wp2
      go_ret
      exact ⟨by rw [Hv.out]; rfl, pw_below_drewN (Below.refl _ _) _⟩
    · have Hv : Aside0 (nextRule room l x = (l.length : Int) - 1) := ⟨by unfold nextRule; rw [if_neg hl, if_neg (by rw [← Hy.out]; exact hc2)]⟩
      have hcb : decide (wrap64 (y + x) > room) = false := decide_eq_false hc2
      have hc3 : ¬ room < IntKind.i64.wrap (y + x) := by rw [IntKind.wrap_i64]; unfold wrap64 at hc2; exact hc2
      have hc4 : IntKind.i64.wrap (y + x) ≤ room := by omega
      clear h1 hb hr hl hy hc2
      go_enter Try.func57, Try.ntmps57
      go_wp2
      go_region_held3 (fun w' => w'.cell? ⟨B1, 0, none⟩ = some (.int .i64 room) ∧ w'.cell? (ad.add (l.length - 1)) = some (.int .i64 y)) (go_keep) (fail)
      all_goals first | (exfalso; omega) | skip
      go_wp2
      go_ret
      exact ⟨by rw [Hv.out]; rfl, pw_below_drewN (Below.refl _ _) _⟩
/-- The rule's answer, asked. -/
def impl_NextFit.f (k : Nat) (l0 : List Int) (a1 : Int) : Option (List Int × Bool) := (impl_areRoomy.f k l0 a1).bind fun t => if t = true then some ((packL (nextRule a1) ([], []) l0).1, true) else some ([], false)
theorem impl_NextFit.mono : ∀ a0 a1 k, LeO (impl_NextFit.f k a0 a1) (impl_NextFit.f (k + 1) a0 a1) := by
  intro a0 a1 k
  unfold impl_NextFit.f
  exact LeO.bind (impl_areRoomy.mono a0 a1 k) (fun _ => LeO.refl _)
set_option maxHeartbeats 4000000 in
theorem impl_NextFit.calls (k : Nat) (A0 : Option Addr) (c0 : Nat) (l0 : List Int) (a1 : Int) (r1 : List Int) (r2 : Bool) (w : World) (hr0 : Kd.C (Kd.int .i64) w A0 l0.length l0) (hc0 : l0.length ≤ c0) (h : impl_NextFit.f k l0 a1 = some (r1, r2)) :
    Calls Try.prog 19 #[.slice A0 l0.length c0, .int .i64 a1] w fun e w' => ∃ v0_ : Value, e = .returned (.tuple #[v0_, .bool r2]) ∧ Kd.R (Kd.int .i64) 3 w' w.heap.size (fun _ => True) v0_ r1 ∧ Below w.heap.size w w' := by
  unfold impl_NextFit.f at h
  obtain ⟨t, ht, h⟩ := Option.bind_eq_some_iff.mp h
  have hB0 : Below w.heap.size w (w.alloc (.cells #[.int .i64 a1] 3)) := below_alloc (Below.refl _ _) _
  have c1 := cell_box w (.int .i64 a1) 3
  have HA := Aside0.mk (impl_areRoomy.calls k A0 c0 l0 a1 t _ (C_below (Kd.heap_int _) hr0 hB0) hc0 ht)
  have HB := Aside0.mk hB0
  have HR := Aside0.mk hr0
  have HT := Aside0.mk ht
  clear hB0 hr0 ht
  cases t with
  | false =>
    simp only [Bool.false_eq_true, if_false, Option.some.injEq, Prod.mk.injEq] at h
    obtain ⟨rfl, rfl⟩ := h
    go_enter Try.func19, Try.ntmps19
    go_wp2_with (go_at_call 55; refine HA.out.mono ?_; rintro e w1 ⟨rfl, hb1⟩)
    go_ret2
    exact ⟨_, rfl, R_nil_ _ _ _ _, below_then HB.out HB.out.size hb1⟩
  | true =>
    simp only [if_true, Option.some.injEq, Prod.mk.injEq] at h
    obtain ⟨rfl, rfl⟩ := h
    have hl := areRoomy_inv HT.out
    go_enter Try.func19, Try.ntmps19
    go_wp2_with (first | (go_at_call 55; refine HA.out.mono ?_; rintro e w1 ⟨rfl, hb1⟩; have HB1 : Aside0 (Below w.heap.size w w1) := ⟨below_then HB.out HB.out.size hb1⟩; replace c1 := pw_cell_below hb1 c1; clear hb1) | (go_at_call 56; refine (packed_calls 57 _ (nextRule a1) (entersOf Try.func57 (by kernel_rfl) rfl) (nextRule_lt a1) A0 c0 l0 a1 _ (by omega) (C_below (Kd.heap_int _) HR.out HB1.out) (next_rules _ a1 _ c1)).mono ?_; rintro e w2 ⟨v, rfl, ho2, hb2⟩; have HO2 := Aside0.mk ho2; have HB2 := Aside0.mk hb2; clear ho2 hb2))
    go_ret2
    exact ⟨_, rfl, Kd.R_lower HO2.out HB1.out.size, below_then HB1.out HB1.out.size HB2.out⟩


end Go.Proofs.Ytcbiglcgdkimhaa.P
