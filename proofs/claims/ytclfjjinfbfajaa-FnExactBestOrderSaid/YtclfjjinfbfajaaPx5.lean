-- Laid by wip/myprint.py of this project (a wrapper over the kit's print.py); Lean checks it.
import Derived.Test.YtclfjjinfbfajaaPx0
import Derived.Test.YtclfjjinfbfajaaPx1
namespace Go.Proofs.Ytclfjjinfbfajaa.P
open Go.RowKit Go.Proofs.YtclfjjinfbfajaaW.PrintWords Go.Proofs.YtclfjjinfbfajaaW.PrintLast Go.Proofs.YtclfjjinfbfajaaW.PrintMore
attribute [local go_sem] max2_int min2_int max_two min_two max_three min_three max_four min_four   -- for this text's walks alone
set_option linter.unusedVariables false
set_option linter.unusedSimpArgs false

/-! ### slices_IndexFunc_int_int: function 64 (by hand) -/
/-- The place of the first number of which p holds, or -1. -/
def idxOf (p : Int → Bool) : List Int → Int → Int
  | [], _ => -1
  | x :: xs, k => if p x then k else idxOf p xs (k + 1)
theorem idxOf_hit (p : Int → Bool) : ∀ (l : List Int) (k : Nat) (s : Int), (hk : k < l.length) → (∀ j, j < k → p (l.getD j 0) = false) → p (l.getD k 0) = true → idxOf p l s = s + k
  | [], k, s, hk, _, _ => by simp at hk
  | x :: xs, 0, s, _, _, h => by simp at h; simp [idxOf, h]
  | x :: xs, k + 1, s, hk, hb, h => by
    have h0 := hb 0 (by omega)
    simp at h0
    simp only [idxOf, h0, Bool.false_eq_true, if_false]
    rw [idxOf_hit p xs k (s + 1) (by simpa using hk) (fun j hj => by have := hb (j + 1) (by omega); simpa using this) (by simpa using h)]
    omega
theorem idxOf_miss (p : Int → Bool) : ∀ (l : List Int) (s : Int), (∀ j, j < l.length → p (l.getD j 0) = false) → idxOf p l s = -1
  | [], s, _ => rfl
  | x :: xs, s, hb => by
    have h0 := hb 0 (by simp)
    simp at h0
    simp only [idxOf, h0, Bool.false_eq_true, if_false]
    exact idxOf_miss p xs (s + 1) (fun j hj => by have := hb (j + 1) (by simp; omega); simpa using this)
theorem idxOf_nonneg (p : Int → Bool) : ∀ (l : List Int) (s : Int), 0 ≤ s → decide (0 ≤ idxOf p l s) = l.any p
  | [], s, _ => by simp [idxOf]
  | x :: xs, s, hs => by
    by_cases hx : p x = true
    · simp [idxOf, hx, hs]
    · simp only [idxOf, hx, List.any_cons, if_false, Bool.false_eq_true]
      rw [idxOf_nonneg p xs (s + 1) (by omega)]
      simp [hx]
set_option maxHeartbeats 2000000 in
theorem slices_IndexFunc.at (g : Nat) (lb : Array Value) (p : Int → Bool) (eg : ∀ args w, (callFunc g args).run Try.prog w = .ok (.enter g args) w) (A0 : Option Addr) (c0 : Nat) (l0 : List Int) (w : World)
    (hr0 : Kd.C (Kd.int .i64) w A0 l0.length l0) (hp : Asks g lb p w) :
    Calls Try.prog 64 #[.slice A0 l0.length c0, .func (.func g) #[] lb] w fun e w' => e = .returned (.int .i64 (idxOf p l0 0)) ∧ Drawn0 w w' := by
  have HP := Aside0.mk hp
  have HR := Aside0.mk hr0
  clear hp
  have hmax : l0.length ≤ 9223372036854775807 := hr0.2.1
  clear hr0
  go_enter Try.func64, Try.ntmps64
  go_wp2
  go_loopg [5, 8] l0.length (fun gg _ s8 wr => ∃ kk : Nat, kk ≤ l0.length ∧ l0.length - kk ≤ gg ∧ s8 = .int .i64 kk ∧ Aside0 (Drawn0 w wr) ∧ Aside0 (∀ j, j < kk → p (l0.getD j 0) = false))
  case atStart => exact ⟨0, Nat.zero_le _, by omega, rfl, ⟨Drawn0.refl _⟩, ⟨fun j hj => absurd hj (Nat.not_lt_zero _)⟩⟩
  case round =>
    obtain ⟨kk, hkk, hg, rfl, HD, HA⟩ := hrel
    by_cases hlt : kk < l0.length
    · have hltz : (kk : Int) < (l0.length : Int) := by omega
      obtain ⟨ad, e1, hx⟩ := Kd.at_int HR.out (kk : Int) (by omega) (by omega)
      subst e1
      rw [Int.toNat_natCast] at hx
      replace hx := (HD.out.below.cell (World.block_lt_of_cell? w _ hx)).trans hx
      have hcall := HP.out wr (rd l0 kk) HD.out.below
      cases hq : p (rd l0 kk) with
      | true =>
        rw [hq] at hcall
        have hc := Aside0.mk hcall
        have hq' := Aside0.mk hq
        clear hcall hq
        go_wp2_with ((with_reducible refine hc.out.mono ?_); rintro e w' ⟨rfl, hd'⟩)
        go_ret
        refine ⟨?_, Drawn0.trans HD.out hd'⟩
        rw [idxOf_hit p l0 kk 0 hlt HA.out (by simpa [rd] using hq'.out)]; simp
      | false =>
        rw [hq] at hcall
        have hc := Aside0.mk hcall
        have hq' := Aside0.mk hq
        clear hcall hq
        go_wp2_with ((with_reducible refine hc.out.mono ?_); rintro e w' ⟨rfl, hd'⟩)
        go_roundg (l0.length - (kk + 1))
        case measure => omega
        case rel =>
          refine ⟨kk + 1, by omega, by omega, by go_num, ⟨Drawn0.trans HD.out hd'⟩, ⟨fun j hj => ?_⟩⟩
          by_cases e : j = kk
          · subst e
            simpa [rd] using hq'.out
          · exact HA.out j (by omega)
    · have hltz : ¬ (kk : Int) < (l0.length : Int) := by omega
      obtain rfl : kk = l0.length := by omega
      go_wp2
      go_ret
      exact ⟨by rw [idxOf_miss p l0 0 HA.out]; rfl, HD.out⟩


end Go.Proofs.Ytclfjjinfbfajaa.P
