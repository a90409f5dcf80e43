-- Laid by wip/myprint.py of this project (a wrapper over the kit's print.py); Lean checks it.
import Derived.Test.YtclfjjinfbfajaaPx0
import Derived.Test.YtclfjjinfbfajaaPx1
namespace Go.Proofs.Ytclfjjinfbfajaa.P
open Go.RowKit Go.Proofs.YtclfjjinfbfajaaW.PrintWords Go.Proofs.YtclfjjinfbfajaaW.PrintLast Go.Proofs.YtclfjjinfbfajaaW.PrintMore
attribute [local go_sem] max2_int min2_int max_two min_two max_three min_three max_four min_four   -- for this text's walks alone
set_option linter.unusedVariables false
set_option linter.unusedSimpArgs false

/-! ### impl_chosen: function 49 (by hand) -/
/-- The place of the element that fits and has the greatest score, the first of several; b is the best one so far, k the place of the first element. -/
def chosenL (sc : Int → Int) (size room : Int) : List Int → Int → Int → Int
  | [], _, b => b
  | x :: xs, k, b => chosenL sc size room xs (k + 1) (if wrap64 (x + size) ≤ room ∧ (b < 0 ∨ sc b < sc k) then k else b)
/-- What is asked of a score: it answers sc at each place below n. -/
def Scores (g : Nat) (lb : Array Value) (sc : Int → Int) (n : Nat) (w : World) : Prop :=
  ∀ (W : World) (k : Int), 0 ≤ k → k < n → Below w.heap.size w W → Calls Try.prog g (#[.int .i64 k] ++ lb) W fun e W' => e = .returned (.int .i64 (sc k)) ∧ Drawn0 W W'
theorem Drawn0.below' {w W W' : World} (h : Below w.heap.size w W) (k : Drawn0 W W') : Below w.heap.size w W' := below_then h h.size k.below
set_option maxHeartbeats 4000000 in
theorem chosen_calls (g : Nat) (lb : Array Value) (sc : Int → Int) (eg : ∀ args w, (callFunc g args).run Try.prog w = .ok (.enter g args) w) (A : Option Addr) (c : Nat) (l : List Int) (size room : Int) (w : World) (hr : Kd.C (Kd.int .i64) w A l.length l) (hs : Scores g lb sc l.length w) :
    Calls Try.prog 49 #[.slice A l.length c, .int .i64 size, .int .i64 room, .func (.func g) #[] lb] w fun e w' => e = .returned (.int .i64 (chosenL sc size room l 0 (-1))) ∧ Drawn0 w w' := by
  have HR := Aside0.mk hr
  have HS := Aside0.mk hs
  have hmax : l.length ≤ 9223372036854775807 := hr.2.1
  clear hr hs
  go_enter Try.func49, Try.ntmps49
  go_wp2
  go_loopg [9, 14] l.length (fun gk v9 v14 wr => ∃ (kk : Nat) (b : Int), kk ≤ l.length ∧ l.length - kk ≤ gk ∧ v9 = .int .i64 b ∧ v14 = .int .i64 kk ∧ Aside0 (b < kk) ∧ Aside0 (Drawn0 w wr) ∧ Aside0 (chosenL sc size room l 0 (-1) = chosenL sc size room (l.drop kk) kk b))
  case atStart => exact ⟨0, -1, Nat.zero_le _, by omega, rfl, rfl, ⟨by omega⟩, ⟨Drawn0.refl _⟩, ⟨rfl⟩⟩
  case round =>
    obtain ⟨kk, b, hkk, hg, rfl, rfl, Hb, HD, HV⟩ := hrel
    by_cases hlt : kk < l.length
    · have hltz : (kk : Int) < (l.length : Int) := by omega
      have hk0 : (0 : Int) ≤ kk := by omega
      obtain ⟨ad, e1, hx⟩ := Kd.at_int HR.out (kk : Int) (by omega) (by omega)
      subst e1
      rw [Int.toNat_natCast] at hx
      replace hx := (HD.out.below.cell (World.block_lt_of_cell? w _ hx)).trans hx
      have Hdrop := Aside0.mk (drop_rd' hlt)
      obtain ⟨x, hxe⟩ : ∃ x, x = rd l kk := ⟨_, rfl⟩
      rw [← hxe] at hx
      have Hxe := Aside0.mk hxe
      clear hxe
      have Hstep : Aside0 (chosenL sc size room l 0 (-1) = chosenL sc size room (l.drop (kk + 1)) ((kk + 1 : Nat) : Int) (if wrap64 (x + size) ≤ room ∧ (b < 0 ∨ sc b < sc kk) then (kk : Int) else b)) := ⟨by rw [HV.out, Hdrop.out, ← Hxe.out]; rfl⟩
      by_cases c1 : wrap64 (x + size) ≤ room
      · have c1b : decide (wrap64 (x + size) ≤ room) = true := decide_eq_true c1
        by_cases c2 : b < 0
        · have c2b : decide (b < 0) = true := decide_eq_true c2
          have Hif : Aside0 ((if wrap64 (x + size) ≤ room ∧ (b < 0 ∨ sc b < sc kk) then (kk : Int) else b) = kk) := ⟨if_pos ⟨c1, .inl c2⟩⟩
          clear c1
          go_wp2
          go_roundg (l.length - (kk + 1))
          case measure => omega
          case rel => exact ⟨kk + 1, kk, by omega, by omega, rfl, by go_num, ⟨by omega⟩, HD, ⟨by rw [Hstep.out, Hif.out]⟩⟩
        · have c2b : decide (b < 0) = false := decide_eq_false c2
          have hb0 : 0 ≤ b := by omega
          have hc1 := HS.out wr (kk : Int) (by omega) (by omega) HD.out.below
          have Hc1 := Aside0.mk hc1
          clear hc1
          by_cases c3 : sc b < sc kk
          · have c3b : decide (sc b < sc kk) = true := decide_eq_true c3
            have Hif : Aside0 ((if wrap64 (x + size) ≤ room ∧ (b < 0 ∨ sc b < sc kk) then (kk : Int) else b) = kk) := ⟨if_pos ⟨c1, .inr c3⟩⟩
            clear c1 c3
            go_wp2_with (first | ((with_reducible refine Hc1.out.mono ?_); rintro e w1 ⟨rfl, hd1⟩; have HD1 := Aside0.mk (Drawn0.trans HD.out hd1); clear hd1; have Hc2 := Aside0.mk (HS.out w1 b hb0 (by have := Hb.out; omega) HD1.out.below)) | ((with_reducible refine Hc2.out.mono ?_); rintro e w2 ⟨rfl, hd2⟩; have HD2 := Aside0.mk (Drawn0.trans HD1.out hd2); clear hd2))
            go_roundg (l.length - (kk + 1))
            case measure => omega
            case rel => exact ⟨kk + 1, kk, by omega, by omega, rfl, by go_num, ⟨by omega⟩, HD2, ⟨by rw [Hstep.out, Hif.out]⟩⟩
          · have c3b : decide (sc b < sc kk) = false := decide_eq_false c3
            have Hif : Aside0 ((if wrap64 (x + size) ≤ room ∧ (b < 0 ∨ sc b < sc kk) then (kk : Int) else b) = b) := ⟨if_neg (fun h => h.2.elim c2 c3)⟩
            clear c1 c3
            go_wp2_with (first | ((with_reducible refine Hc1.out.mono ?_); rintro e w1 ⟨rfl, hd1⟩; have HD1 := Aside0.mk (Drawn0.trans HD.out hd1); clear hd1; have Hc2 := Aside0.mk (HS.out w1 b hb0 (by have := Hb.out; omega) HD1.out.below)) | ((with_reducible refine Hc2.out.mono ?_); rintro e w2 ⟨rfl, hd2⟩; have HD2 := Aside0.mk (Drawn0.trans HD1.out hd2); clear hd2))
            go_roundg (l.length - (kk + 1))
            case measure => omega
            case rel => exact ⟨kk + 1, b, by omega, by omega, rfl, by go_num, ⟨by have := Hb.out; omega⟩, HD2, ⟨by rw [Hstep.out, Hif.out]⟩⟩
      · have c1b : decide (wrap64 (x + size) ≤ room) = false := decide_eq_false c1
        have Hif : Aside0 ((if wrap64 (x + size) ≤ room ∧ (b < 0 ∨ sc b < sc kk) then (kk : Int) else b) = b) := ⟨if_neg (fun h => c1 h.1)⟩
        clear c1
        go_wp2
        go_roundg (l.length - (kk + 1))
        case measure => omega
        case rel => exact ⟨kk + 1, b, by omega, by omega, rfl, by go_num, ⟨by have := Hb.out; omega⟩, HD, ⟨by rw [Hstep.out, Hif.out]⟩⟩
    · have hltz : ¬ (kk : Int) < (l.length : Int) := by omega
      obtain rfl : kk = l.length := by omega
      go_wp2
      go_ret
      exact ⟨by rw [HV.out, List.drop_of_length_le (Nat.le_refl _)]; rfl, HD.out⟩


end Go.Proofs.Ytclfjjinfbfajaa.P
