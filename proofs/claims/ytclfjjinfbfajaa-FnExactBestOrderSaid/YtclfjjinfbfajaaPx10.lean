-- Laid by wip/myprint.py of this project (a wrapper over the kit's print.py); Lean checks it.
import Derived.Test.YtclfjjinfbfajaaPx0
import Derived.Test.YtclfjjinfbfajaaPx1
import Derived.Test.YtclfjjinfbfajaaPx3
import Derived.Test.YtclfjjinfbfajaaPx7
import Derived.Test.YtclfjjinfbfajaaPx8
import Derived.Test.YtclfjjinfbfajaaPx9
namespace Go.Proofs.Ytclfjjinfbfajaa.P
open Go.RowKit Go.Proofs.YtclfjjinfbfajaaW.PrintWords Go.Proofs.YtclfjjinfbfajaaW.PrintLast Go.Proofs.YtclfjjinfbfajaaW.PrintMore
attribute [local go_sem] max2_int min2_int max_two min_two max_three min_three max_four min_four   -- for this text's walks alone
set_option linter.unusedVariables false
set_option linter.unusedSimpArgs false

/-! ### impl_byScore: function 41 (by hand) -/
/-- What is asked of a score over loads. -/
def Score2 (gs : Nat) (G : List Int → Int → Int) : Prop :=
  ∀ (W : World) (A : Option Addr) (c : Nat) (l : List Int) (k : Int), 0 ≤ k → k < l.length → Kd.C (Kd.int .i64) W A l.length l → Calls Try.prog gs #[.slice A l.length c, .int .i64 k] W fun e W' => e = .returned (.int .i64 (G l k)) ∧ Drawn0 W W'
set_option maxHeartbeats 2000000 in
theorem byScore_scores (gs : Nat) (G : List Int → Int → Int) (hG : Score2 gs G) (egs : ∀ args w, (callFunc gs args).run Try.prog w = .ok (.enter gs args) w) (B1 B2 : Nat) (A : Option Addr) (c : Nat) (l : List Int) (w : World) (h1 : w.cell? ⟨B1, 0, none⟩ = some (.func (.func gs) #[] #[])) (h2 : w.cell? ⟨B2, 0, none⟩ = some (.slice A l.length c)) (hr : Kd.C (Kd.int .i64) w A l.length l) :
    Scores 50 #[.pointer (some ⟨B1, 0, none⟩), .pointer (some ⟨B2, 0, none⟩)] (G l) l.length w := by
  intro W k hk0 hk1 hb
  have c1 := pw_cell_below hb h1
  have c2 := pw_cell_below hb h2
  have Hc := Aside0.mk (hG W A c l k hk0 hk1 (C_below (Kd.heap_int _) hr hb))
  clear hG h1 h2 hr hb
  go_enter Try.func50, Try.ntmps50
  go_wp2_with ((with_reducible refine Hc.out.mono ?_); rintro e w1 ⟨rfl, hd1⟩)
  go_ret
  exact ⟨rfl, hd1⟩
theorem chosenL_lt (sc : Int → Int) (size room : Int) : ∀ (l : List Int) (k b : Int), b < k → chosenL sc size room l k b < k + l.length
  | [], k, b, h => by simpa [chosenL] using h
  | x :: xs, k, b, h => by
    simp only [chosenL, List.length_cons]
    have := chosenL_lt sc size room xs (k + 1) (if wrap64 (x + size) ≤ room ∧ (b < 0 ∨ sc b < sc k) then k else b) (by split <;> omega)
    omega
/-- The rule by a score. -/
def scoreRule (G : List Int → Int → Int) (room : Int) (l : List Int) (x : Int) : Int := chosenL (G l) x room l 0 (-1)
theorem scoreRule_lt (G : List Int → Int → Int) (room : Int) (l : List Int) (x : Int) : scoreRule G room l x < l.length := by
  have := chosenL_lt (G l) x room l 0 (-1) (by omega)
  unfold scoreRule; omega
set_option maxHeartbeats 2000000 in
theorem byScore_rules (gs : Nat) (G : List Int → Int → Int) (hG : Score2 gs G) (egs : ∀ args w, (callFunc gs args).run Try.prog w = .ok (.enter gs args) w) (B1 B2 : Nat) (room : Int) (w : World) (h1 : w.cell? ⟨B1, 0, none⟩ = some (.int .i64 room)) (h2 : w.cell? ⟨B2, 0, none⟩ = some (.func (.func gs) #[] #[])) :
    Rules 48 #[.pointer (some ⟨B1, 0, none⟩), .pointer (some ⟨B2, 0, none⟩)] (scoreRule G room) w := by
  intro W A c l x hb hr hc
  have c1 := cell_past (pw_cell_below hb h1) (.cells #[.slice A l.length c] 22)
  have c2 := cell_past (pw_cell_below hb h2) (.cells #[.slice A l.length c] 22)
  have c3 := cell_box W (.slice A l.length c) 22
  have hr' : Kd.C (Kd.int .i64) (W.alloc (.cells #[.slice A l.length c] 22)) A l.length l := C_below (Kd.heap_int _) hr (below_alloc (Below.refl _ W) _)
  have HC := Aside0.mk (chosen_calls 50 #[.pointer (some ⟨B2, 0, none⟩), .pointer (some ⟨W.heap.size, 0, none⟩)] (G l) (entersOf Try.func50 (by kernel_rfl) rfl) A c l x room _ hr' (byScore_scores gs G hG egs B2 W.heap.size A c l _ c2 c3 hr'))
  clear hG h1 h2 hr hr' hb c2 c3
  go_enter Try.func48, Try.ntmps48
  go_wp2_with (go_at_call 49; refine HC.out.mono ?_; rintro e w1 ⟨rfl, hd1⟩)
  go_ret
  exact ⟨rfl, below_then (below_alloc (Below.refl _ W) _) (by simp) hd1.below⟩
theorem areRoomy_inv {k : Nat} {l : List Int} {room : Int} (h : impl_areRoomy.f k l room = some true) : l.length ≤ 9 := by
  unfold impl_areRoomy.f impl_AreThings.f impl_areWithin.f at h
  rw [within_inB] at h
  simp only [Option.bind_some] at h
  by_cases h1 : inB 1 9 (l.length : Int) = true
  · have : 1 ≤ (l.length : Int) ∧ (l.length : Int) ≤ 9 := by simpa [inB] using h1
    omega
  · rw [if_neg h1] at h; simp at h
def byScoreF (G : List Int → Int → Int) (k : Nat) (l0 : List Int) (a1 : Int) : Option (List Int × Bool) := (impl_areRoomy.f k l0 a1).bind fun t => if t = true then some ((packL (scoreRule G a1) ([], []) l0).1, true) else some ([], false)
theorem byScoreF_mono (G : List Int → Int → Int) (a0 : List Int) (a1 : Int) (k : Nat) : LeO (byScoreF G k a0 a1) (byScoreF G (k + 1) a0 a1) := by
  unfold byScoreF
  exact LeO.bind (impl_areRoomy.mono a0 a1 k) (fun _ => LeO.refl _)
set_option maxHeartbeats 4000000 in
theorem byScore_calls (gs : Nat) (G : List Int → Int → Int) (hG : Score2 gs G) (egs : ∀ args w, (callFunc gs args).run Try.prog w = .ok (.enter gs args) w) (k : Nat) (A0 : Option Addr) (c0 : Nat) (l0 : List Int) (a1 : Int) (r1 : List Int) (r2 : Bool) (w : World) (hr0 : Kd.C (Kd.int .i64) w A0 l0.length l0) (hc0 : l0.length ≤ c0) (h : byScoreF G k l0 a1 = some (r1, r2)) :
    Calls Try.prog 41 #[.slice A0 l0.length c0, .int .i64 a1, .func (.func gs) #[] #[]] w fun e w' => ∃ v0_ : Value, e = .returned (.tuple #[v0_, .bool r2]) ∧ Kd.R (Kd.int .i64) 3 w' w.heap.size (fun _ => True) v0_ r1 ∧ Below w.heap.size w w' := by
  unfold byScoreF at h
  obtain ⟨t, ht, h⟩ := Option.bind_eq_some_iff.mp h
  have hB0 : Below w.heap.size w ((w.alloc (.cells #[.int .i64 a1] 3)).alloc (.cells #[.func (.func gs) #[] #[]] 27)) := below_alloc (below_alloc (Below.refl _ _) _) _
  have c1 := cell_past (cell_box w (.int .i64 a1) 3) (.cells #[.func (.func gs) #[] #[]] 27)
  have c2 := cell_box (w.alloc (.cells #[.int .i64 a1] 3)) (.func (.func gs) #[] #[]) 27
  rw [World.size_alloc] at c2
  have HA := Aside0.mk (impl_areRoomy.calls k A0 c0 l0 a1 t _ (C_below (Kd.heap_int _) hr0 hB0) hc0 ht)
  have HB := Aside0.mk hB0
  have HR := Aside0.mk hr0
  have HT := Aside0.mk ht
  have HG := Aside0.mk hG
  have HE := Aside0.mk egs
  clear hB0 hr0 ht hG egs
  cases t with
  | false =>
    simp only [Bool.false_eq_true, if_false, Option.some.injEq, Prod.mk.injEq] at h
    obtain ⟨rfl, rfl⟩ := h
    go_enter Try.func41, Try.ntmps41
    go_wp2_with (go_at_call 24; refine HA.out.mono ?_; rintro e w1 ⟨rfl, hb1⟩)
    go_ret2
    exact ⟨_, rfl, R_nil_ _ _ _ _, below_then HB.out HB.out.size hb1⟩
  | true =>
    simp only [if_true, Option.some.injEq, Prod.mk.injEq] at h
    obtain ⟨rfl, rfl⟩ := h
    have hl := areRoomy_inv HT.out
    go_enter Try.func41, Try.ntmps41
    go_wp2_with (first | (go_at_call 24; refine HA.out.mono ?_; rintro e w1 ⟨rfl, hb1⟩; have HB1 : Aside0 (Below w.heap.size w w1) := ⟨below_then HB.out HB.out.size hb1⟩; replace c1 := pw_cell_below hb1 c1; replace c2 := pw_cell_below hb1 c2; clear hb1) | (go_at_call 47; refine (packed_calls 48 _ (scoreRule G a1) (entersOf Try.func48 (by kernel_rfl) rfl) (scoreRule_lt G a1) A0 c0 l0 a1 _ (by omega) (C_below (Kd.heap_int _) HR.out HB1.out) (byScore_rules gs G HG.out HE.out _ _ a1 _ c1 c2)).mono ?_; rintro e w2 ⟨v, rfl, ho2, hb2⟩; have HO2 := Aside0.mk ho2; have HB2 := Aside0.mk hb2; clear ho2 hb2))
    go_ret2
    exact ⟨_, rfl, Kd.R_lower HO2.out HB1.out.size, below_then HB1.out HB1.out.size HB2.out⟩


end Go.Proofs.Ytclfjjinfbfajaa.P
