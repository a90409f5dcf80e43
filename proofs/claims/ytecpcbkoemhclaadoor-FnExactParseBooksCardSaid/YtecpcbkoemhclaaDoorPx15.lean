-- Laid by wip/myprint.py of this project (a wrapper over the kit's print.py); Lean checks it.
import Derived.Test.YtecpcbkoemhclaaDoorPx0
namespace Go.Proofs.YtecpcbkoemhclaaDoor.P
open Go.RowKit Go.Proofs.YtecpcbkoemhclaaDoorW.PrintWords Go.Proofs.YtecpcbkoemhclaaDoorW.PrintLast Go.Proofs.YtecpcbkoemhclaaDoorW.PrintMore
attribute [local go_sem] max2_int min2_int max_two min_two max_three min_three max_four min_four   -- for this text's walks alone
set_option linter.unusedVariables false
set_option linter.unusedSimpArgs false

/-! ### slices_IndexFunc_Book: function 61 (by hand) -/
--! full slices.IndexFunc[[]loop.example/g01334/impl.Book,loop.example/g01334/impl.Book]
/-- What is asked of a predicate over books: it answers p. -/
def AsksB (g : Nat) (lb : Array Value) (p : S48 → Bool) (w : World) : Prop :=
  ∀ (W : World) (x : S48), Below w.heap.size w W → Calls Tryd.prog g (#[.agg #[.int .i64 x.f0, .int .i64 x.f1]] ++ lb) W fun e W' => e = .returned (.bool (p x)) ∧ Below W.heap.size W W'
/-- The place of the first book of which p holds, or -1. -/
def idxB (p : S48 → Bool) : List S48 → Int → Int
  | [], _ => -1
  | x :: xs, k => if p x then k else idxB p xs (k + 1)
theorem idxB_hit (p : S48 → Bool) : ∀ (l : List S48) (k : Nat) (s : Int), (hk : k < l.length) → (∀ j, j < k → p (l.getD j z48) = false) → p (l.getD k z48) = true → idxB p l s = s + k
  | [], k, s, hk, _, _ => by simp at hk
  | x :: xs, 0, s, _, _, h => by simp at h; simp [idxB, h]
  | x :: xs, k + 1, s, hk, hb, h => by
    have h0 := hb 0 (by omega)
    simp at h0
    simp only [idxB, h0, Bool.false_eq_true, if_false]
    rw [idxB_hit p xs k (s + 1) (by simpa using hk) (fun j hj => by have := hb (j + 1) (by omega); simpa using this) (by simpa using h)]
    omega
theorem idxB_miss (p : S48 → Bool) : ∀ (l : List S48) (s : Int), (∀ j, j < l.length → p (l.getD j z48) = false) → idxB p l s = -1
  | [], s, _ => rfl
  | x :: xs, s, hb => by
    have h0 := hb 0 (by simp)
    simp at h0
    simp only [idxB, h0, Bool.false_eq_true, if_false]
    exact idxB_miss p xs (s + 1) (fun j hj => by have := hb (j + 1) (by simp; omega); simpa using this)
theorem idxB_nonneg (p : S48 → Bool) : ∀ (l : List S48) (s : Int), 0 ≤ s → decide (0 ≤ idxB p l s) = l.any p
  | [], s, _ => by simp [idxB]
  | x :: xs, s, hs => by
    by_cases hx : p x = true
    · simp [idxB, hx, hs]
    · simp only [idxB, hx, List.any_cons, if_false, Bool.false_eq_true]
      rw [idxB_nonneg p xs (s + 1) (by omega)]
      simp [hx]
set_option maxHeartbeats 2000000 in
theorem slices_IndexFuncB.at (g : Nat) (lb : Array Value) (p : S48 → Bool) (eg : ∀ args w, (callFunc g args).run Tryd.prog w = .ok (.enter g args) w) (A0 : Option Addr) (c0 : Nat) (l0 : List S48) (w : World)
    (hr0 : Kd.C k48 w A0 l0.length l0) (hp : AsksB g lb p w) :
    Calls Tryd.prog 61 #[.slice A0 l0.length c0, .func (.func g) #[] lb] w fun e w' => e = .returned (.int .i64 (idxB p l0 0)) ∧ Below w.heap.size w w' := by
  have HP := Aside0.mk hp
  have HR := Aside0.mk hr0
  clear hp
  have hmax : l0.length ≤ 9223372036854775807 := hr0.2.1
  clear hr0
  go_enter Tryd.func61, Tryd.ntmps61
  go_wp2
  go_loopg [5, 8] l0.length (fun gg _ s8 wr => ∃ kk : Nat, kk ≤ l0.length ∧ l0.length - kk ≤ gg ∧ s8 = .int .i64 kk ∧ Aside0 (Below w.heap.size w wr) ∧ Aside0 (∀ j, j < kk → p (l0.getD j z48) = false))
  case atStart => exact ⟨0, Nat.zero_le _, by omega, rfl, ⟨Below.refl _ _⟩, ⟨fun j hj => absurd hj (Nat.not_lt_zero _)⟩⟩
  case round =>
    obtain ⟨kk, hkk, hg, rfl, HD, HA⟩ := hrel
    by_cases hlt : kk < l0.length
    · have hltz : (kk : Int) < (l0.length : Int) := by omega
      obtain ⟨ad, e1, hx0, hx1⟩ := at_T48 HR.out (kk : Int) (by omega) (by omega)
      subst e1
      rw [Int.toNat_natCast] at hx0 hx1
      replace hx0 := pw_cell_below HD.out hx0
      replace hx1 := pw_cell_below HD.out hx1
      have hcall := HP.out wr (rd_T48 l0 kk) HD.out
      have Hrd : Aside0 (rd_T48 l0 kk = l0.getD kk z48) := ⟨rfl⟩
      obtain ⟨x, hxe⟩ : ∃ x, x = rd_T48 l0 kk := ⟨_, rfl⟩
      rw [← hxe] at hx0 hx1 hcall
      have Hxe := Aside0.mk hxe
      clear hxe
      cases hq : p x with
      | true =>
        rw [hq] at hcall
        have hc := Aside0.mk hcall
        have hq' := Aside0.mk hq
        clear hcall hq
        go_wp2_with ((with_reducible refine hc.out.mono ?_); rintro e w' ⟨rfl, hd'⟩)
        go_ret
        refine ⟨?_, below_then HD.out HD.out.size hd'⟩
        rw [idxB_hit p l0 kk 0 hlt HA.out (by rw [← Hrd.out, ← Hxe.out]; exact hq'.out)]; simp
      | false =>
        rw [hq] at hcall
        have hc := Aside0.mk hcall
        have hq' := Aside0.mk hq
        clear hcall hq
        go_wp2_with ((with_reducible refine hc.out.mono ?_); rintro e w' ⟨rfl, hd'⟩)
        go_roundg (l0.length - (kk + 1))
        case measure => omega
        case rel =>
          refine ⟨kk + 1, by omega, by omega, by go_num, ⟨below_then HD.out HD.out.size hd'⟩, ⟨fun j hj => ?_⟩⟩
          by_cases e : j = kk
          · subst e
            rw [← Hrd.out, ← Hxe.out]; exact hq'.out
          · exact HA.out j (by omega)
    · have hltz : ¬ (kk : Int) < (l0.length : Int) := by omega
      obtain rfl : kk = l0.length := by omega
      go_wp2
      go_ret
      exact ⟨by rw [idxB_miss p l0 0 HA.out]; rfl, HD.out⟩


end Go.Proofs.YtecpcbkoemhclaaDoor.P
