-- Laid by wip/myprint.py of this project (a wrapper over the kit's print.py); Lean checks it.
import Derived.Test.YtcbiglcgdkimhaaPx0
import Derived.Test.YtcbiglcgdkimhaaPx1
import Derived.Test.YtcbiglcgdkimhaaPx6
import Derived.Test.YtcbiglcgdkimhaaPx9
import Derived.Test.YtcbiglcgdkimhaaPx10
import Derived.Test.YtcbiglcgdkimhaaPx11
namespace Go.Proofs.Ytcbiglcgdkimhaa.P
open Go.RowKit Go.Proofs.YtcbiglcgdkimhaaW.PrintWords Go.Proofs.YtcbiglcgdkimhaaW.PrintLast Go.Proofs.YtcbiglcgdkimhaaW.PrintMore
attribute [local go_sem] max2_int min2_int max_two min_two max_three min_three max_four min_four   -- for this text's walks alone
set_option linter.unusedVariables false
set_option linter.unusedSimpArgs false

/-! ### impl_LeastRoom: function 34 (by hand) -/
theorem no_each (N0 : Nat) : EachP 77 #[] (fun _ => False) N0 false (fun _ _ => True) := by
  intro pre W A c p hj hr
  clear hj hr
  go_enter Try.func77, Try.ntmps77
  go_wp2
  go_ret
  exact ⟨rfl, trivial, Mod.refl _ W⟩
/-- The least room, from one on, with which there is a plan. -/
def leastL : Nat → List Int → Int → Int → Option Int
  | 0, _, _, _ => none
  | k + 1, l, boxes, room => if (plansL room boxes l [] []).isEmpty = true then leastL k l boxes (wrap64 (room + 1)) else some room
theorem leastL_mono (k : Nat) : ∀ l boxes room, LeO (leastL k l boxes room) (leastL (k + 1) l boxes room) := by
  induction k with
  | zero => intro l boxes room r h; simp [leastL] at h
  | succ k ih =>
    intro l boxes room
    unfold leastL
    exact LeO.ite (ih _ _ _) (LeO.refl _)
theorem things_inv2 {l : List Int} (h : impl_AreThings.f l = some true) : l.length ≤ 9 := by
  unfold impl_AreThings.f impl_areWithin.f at h
  rw [within_inB] at h
  simp only [Option.bind_some] at h
  by_cases h1 : inB 1 9 (l.length : Int) = true
  · have : 1 ≤ (l.length : Int) ∧ (l.length : Int) ≤ 9 := by simpa [inB] using h1
    omega
  · rw [if_neg h1] at h; simp at h
def impl_LeastRoom.f (k : Nat) (l0 : List Int) (a1 : Int) : Option (Int × Bool) := (impl_AreThings.f l0).bind fun t => if t = true then (if inB 1 9 a1 = true then ((slices_Max_int_int.f k l0).bind fun m => (leastL k l0 a1 m).bind fun r => some (r, true)) else some (0, false)) else some (0, false)
theorem impl_LeastRoom.mono : ∀ a0 a1 k, LeO (impl_LeastRoom.f k a0 a1) (impl_LeastRoom.f (k + 1) a0 a1) := by
  intro a0 a1 k
  unfold impl_LeastRoom.f
  exact LeO.bind (LeO.refl _) (fun _ => LeO.ite (LeO.ite (LeO.bind (slices_Max_int_int.mono a0 k) (fun _ => LeO.bind (leastL_mono _ _ _ _) (fun _ => LeO.refl _))) (LeO.refl _)) (LeO.refl _))
set_option maxRecDepth 100000 in
set_option maxHeartbeats 4000000 in
theorem impl_LeastRoom.calls (k : Nat) (A0 : Option Addr) (c0 : Nat) (l0 : List Int) (a1 : Int) (r1 : Int) (r2 : Bool) (w : World) (hr0 : Kd.C (Kd.int .i64) w A0 l0.length l0) (hc0 : l0.length ≤ c0) (h : impl_LeastRoom.f k l0 a1 = some (r1, r2)) :
    Calls Try.prog 34 #[.slice A0 l0.length c0, .int .i64 a1] w fun e w' => e = .returned (.tuple #[.int .i64 r1, .bool r2]) ∧ Below w.heap.size w w' := by
  unfold impl_LeastRoom.f at h
  obtain ⟨t, ht, h⟩ := Option.bind_eq_some_iff.mp h
  have HA := Aside0.mk (impl_AreThings.calls A0 c0 l0 t w hr0 hc0 ht)
  have HW := Aside0.mk (fun W => impl_within.calls a1 1 9 (inB 1 9 a1) W (within_inB 1 9 a1))
  have HR := Aside0.mk hr0
  have HT := Aside0.mk ht
  clear hr0 ht
  cases t with
  | false =>
    simp only [Bool.false_eq_true, if_false, Option.some.injEq, Prod.mk.injEq] at h
    obtain ⟨rfl, rfl⟩ := h
    go_enter Try.func34, Try.ntmps34
    go_wp2_with (go_at_call 67; refine HA.out.mono ?_; rintro e w1 ⟨rfl, hb1⟩)
    go_ret2
    exact ⟨rfl, hb1⟩
  | true =>
    simp only [if_true] at h
    have hl := things_inv2 HT.out
    obtain ⟨b, hb⟩ : ∃ b, b = inB 1 9 a1 := ⟨_, rfl⟩
    rw [← hb] at h HW
    clear hb
    cases b with
    | false =>
      simp only [Bool.false_eq_true, if_false, Option.some.injEq, Prod.mk.injEq] at h
      obtain ⟨rfl, rfl⟩ := h
      go_enter Try.func34, Try.ntmps34
      go_wp2_with (first
        | (go_at_call 67; refine HA.out.mono ?_; rintro e w1 ⟨rfl, hb1⟩; have HB1 := Aside0.mk hb1; clear hb1)
        | (go_at_call 68; refine (HW.out _).mono ?_; rintro e w2 ⟨rfl, hd2⟩))
      go_ret2
      exact ⟨rfl, below_then HB1.out HB1.out.size hd2.below⟩
    | true =>
      simp only [if_true] at h
      obtain ⟨mx0, hmx, h⟩ := Option.bind_eq_some_iff.mp h
      obtain ⟨r, hle, h⟩ := Option.bind_eq_some_iff.mp h
      simp only [Option.some.injEq, Prod.mk.injEq] at h
      obtain ⟨rfl, rfl⟩ := h
      have HX := Aside0.mk (fun (W : World) (hr : Kd.C (Kd.int .i64) W A0 l0.length l0) => slices_Max_int_int.calls k A0 c0 l0 mx0 W hr hc0 hmx)
      have HLe := Aside0.mk hle
      have HP := Aside0.mk (fun (W : World) (room : Int) => plans_calls (fun _ => False) 77 #[] (entersOf Try.func77 (by kernel_rfl) rfl) false (fun _ _ => True) (fun _ _ _ _ _ => trivial) A0 c0 l0 a1 room W (no_each _) hl (fun _ h => h.elim) trivial)
      clear hle hmx
      go_enter Try.func34, Try.ntmps34
      go_wp2_with (first
        | (go_at_call 67; refine HA.out.mono ?_; rintro e w1 ⟨rfl, hb1⟩; have HB1 := Aside0.mk hb1; clear hb1)
        | (go_at_call 68; refine (HW.out _).mono ?_; rintro e w2 ⟨rfl, hd2⟩; have HB2 : Aside0 (Below w.heap.size w w2) := ⟨below_then HB1.out HB1.out.size hd2.below⟩; clear hd2)
        | (go_at_call 75; refine (HX.out _ (C_below (Kd.heap_int _) HR.out HB2.out)).mono ?_; rintro e w3 ⟨rfl, hb3⟩; have HB3 : Aside0 (Below w.heap.size w w3) := ⟨below_then HB2.out HB2.out.size hb3⟩; clear hb3))
      go_loopg [6] k (fun gk v6 wr => ∃ (j : Nat) (room : Int), j ≤ gk ∧ v6 = .int .i64 room ∧ Aside0 (leastL j l0 a1 room = some r) ∧ Aside0 (Below w.heap.size w wr))
      case atStart => exact ⟨k, mx0, Nat.le_refl _, rfl, HLe, HB3⟩
      case round =>
        obtain ⟨j, room, hj, rfl, HF, HB⟩ := hrel
        obtain ⟨j', rfl⟩ : ∃ j', j = j' + 1 := by
          cases j with
          | zero => exact absurd HF.out (by simp [leastL])
          | succ j => exact ⟨j, rfl⟩
        have HFu : Aside0 ((if (plansL room a1 l0 [] []).isEmpty = true then leastL j' l0 a1 (wrap64 (room + 1)) else some room) = some r) := ⟨HF.out⟩
        obtain ⟨b, hb⟩ : ∃ b, b = outB false (plansL room a1 l0 [] []) := ⟨_, rfl⟩
        have Hb := Aside0.mk hb
        clear hb
        cases b with
        | true =>
          have HF2 : Aside0 (leastL j' l0 a1 (wrap64 (room + 1)) = some r) := ⟨by have h := HFu.out; rw [if_pos (by have h2 := Hb.out; unfold outB at h2; simpa using h2.symm)] at h; exact h⟩
          go_wp2_with (go_at_call 76; refine (HP.out _ room (C_below (Kd.heap_int _) HR.out HB.out) (fun _ _ _ h => h.elim)).mono ?_; rw [← Hb.out]; rintro e w4 ⟨rfl, _, hm4⟩; have HB4 : Aside0 (Below w.heap.size w w4) := ⟨below_then HB.out HB.out.size (hm4.below (fun _ h => h.elim))⟩; clear hm4)
          go_roundg j'
          case measure => omega
          case rel => exact ⟨j', _, Nat.le_refl _, rfl, HF2, HB4⟩
        | false =>
          have HF2 : Aside0 (room = r) := ⟨by
            have h := HFu.out
            have h2 := Hb.out
            unfold outB at h2
            rw [if_neg (by rw [Bool.false_or] at h2; rw [← h2]; simp)] at h
            simpa using h⟩
          go_wp2_with (go_at_call 76; refine (HP.out _ room (C_below (Kd.heap_int _) HR.out HB.out) (fun _ _ _ h => h.elim)).mono ?_; rw [← Hb.out]; rintro e w4 ⟨rfl, _, hm4⟩; have HB4 : Aside0 (Below w.heap.size w w4) := ⟨below_then HB.out HB.out.size (hm4.below (fun _ h => h.elim))⟩; clear hm4)
          go_ret2
          exact ⟨by rw [HF2.out]; rfl, HB4.out⟩


end Go.Proofs.Ytcbiglcgdkimhaa.P
