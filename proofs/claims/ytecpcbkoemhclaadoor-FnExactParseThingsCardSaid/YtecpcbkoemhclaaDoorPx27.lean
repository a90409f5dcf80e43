-- Laid by wip/myprint.py of this project (a wrapper over the kit's print.py); Lean checks it.
import Derived.Test.YtecpcbkoemhclaaDoorPx0
import Derived.Test.YtecpcbkoemhclaaDoorPx1
import Derived.Test.YtecpcbkoemhclaaDoorPx6
import Derived.Test.YtecpcbkoemhclaaDoorPx15
import Derived.Test.YtecpcbkoemhclaaDoorPx19
import Derived.Test.YtecpcbkoemhclaaDoorPx20
import Derived.Test.YtecpcbkoemhclaaDoorPx24
import Derived.Test.YtecpcbkoemhclaaDoorPx26
namespace Go.Proofs.YtecpcbkoemhclaaDoor.P
open Go.RowKit Go.Proofs.YtecpcbkoemhclaaDoorW.PrintWords Go.Proofs.YtecpcbkoemhclaaDoorW.PrintLast Go.Proofs.YtecpcbkoemhclaaDoorW.PrintMore
attribute [local go_sem] max2_int min2_int max_two min_two max_three min_three max_four min_four   -- for this text's walks alone
set_option linter.unusedVariables false
set_option linter.unusedSimpArgs false

/-! ### impl_ParseThings: function 8 (by hand) -/
/-- What ParseThings answers, AreThings being g. -/
def ptV (g : List Int → Bool) (s : ByteArray) : List Int × Bool :=
  match numsF 100 (Lib.goFieldsP (fun x => decide (x = 45)) s) with
  | none => ([], false)
  | some l => if g l = true then (if joinB l ⟨#[45]⟩ = s then (l, true) else ([], false)) else ([], false)
theorem ptV_none {g : List Int → Bool} {s : ByteArray} (h : numsF 100 (Lib.goFieldsP (fun x => decide (x = 45)) s) = none) : ptV g s = ([], false) := by unfold ptV; rw [h]
theorem ptV_some {g : List Int → Bool} {s : ByteArray} {l : List Int} (h : numsF 100 (Lib.goFieldsP (fun x => decide (x = 45)) s) = some l) : ptV g s = if g l = true then (if joinB l ⟨#[45]⟩ = s then (l, true) else ([], false)) else ([], false) := by unfold ptV; rw [h]
set_option maxRecDepth 100000 in
set_option maxHeartbeats 16000000 in
theorem parseThings_calls (g : List Int → Bool) (hg : ∀ l, impl_AreThings.f l = some (g l)) (hgb : ∀ l, g l = true → l.length ≤ 9 ∧ ∀ x ∈ l, 0 ≤ x ∧ x ≤ 1048576) (s : ByteArray) (hs : s.size ≤ 1048576) (w : World) (ht : Pow10 w) (he : ErrsIn w) :
    Calls Tryd.prog 8 #[.string s] w fun e w' => ∃ v0_ : Value, e = .returned (.tuple #[v0_, .bool (ptV g s).2]) ∧ Kd.R (Kd.int .i64) 3 w' w.heap.size (fun _ => True) v0_ (ptV g s).1 ∧ Below w.heap.size w w' := by
  have T := Aside0.mk (numbers_calls s ⟨#[45]⟩ 100 (fun x => decide (x = 45)) hs w (fun bx W hc => predDash bx W hc) ht he)
  have HT := Aside0.mk ht
  cases hn : numsF 100 (Lib.goFieldsP (fun x => decide (x = 45)) s) with
  | none =>
    rw [ptV_none hn]
    rw [hn] at T
    clear hn hg hgb hs ht he HT
    go_enter Tryd.func8, Tryd.ntmps8
    go_wp2_with (go_at_call 25; refine T.out.mono ?_; rintro e w1 ⟨v1, rfl, hr, hb⟩; have HB := Aside0.mk hb; clear hb hr)
    go_ret2
    exact ⟨_, rfl, R_nil_ _ _ _ _, HB.out⟩
  | some l =>
    rw [ptV_some hn]
    rw [hn] at T
    have TA := Aside0.mk (fun (A : Option Addr) (c : Nat) (W : World) (hC : Kd.C (Kd.int .i64) W A l.length l) (hc : l.length ≤ c) => impl_AreThings.calls A c l (g l) W hC hc (hg l))
    cases hgl : g l with
    | false =>
      rw [if_neg (by simp)]
      rw [hgl] at TA
      clear hn hg hgb hs ht he HT hgl
      go_enter Tryd.func8, Tryd.ntmps8
      go_wp2_with (first
        | (go_at_call 25; refine T.out.mono ?_; rintro e w1 ⟨v1, rfl, hr, hb⟩; obtain ⟨A1, c1, rfl, hc1, hC1⟩ := Kd.R_reads hr; have HC := Aside0.mk hC1; have Hc := Aside0.mk hc1; have HB := Aside0.mk hb; clear hb hr hC1 hc1)
        | (go_at_call 26; refine (TA.out A1 c1 w1 HC.out Hc.out).mono ?_; rintro e w2 ⟨rfl, hb⟩; have HB2 := Aside0.mk (below_then HB.out HB.out.size hb); clear hb))
      go_ret2
      exact ⟨_, rfl, R_nil_ _ _ _ _, HB2.out⟩
    | true =>
      rw [if_pos rfl]
      rw [hgl] at TA
      obtain ⟨hl9, hlb⟩ := hgb l hgl
      have TJ := Aside0.mk (fun (A : Option Addr) (c : Nat) (W : World) (hC : Kd.C (Kd.int .i64) W A l.length l) (hb : Below w.heap.size w W) => joined_calls (c0 := c) A l ⟨#[45]⟩ W hC (by omega) hlb (by decide) (pow10_below ht hb (Nat.le_refl _)))
      clear hn hg hgb hs ht he HT hgl hl9 hlb
      by_cases hj : joinB l ⟨#[45]⟩ = s
      · rw [if_pos hj]
        subst hj
        go_enter Tryd.func8, Tryd.ntmps8
        go_wp2_with (first
          | (go_at_call 25; refine T.out.mono ?_; rintro e w1 ⟨v1, rfl, hr, hb⟩; obtain ⟨A1, c1, rfl, hc1, hC1⟩ := Kd.R_reads hr; have HR := Aside0.mk hr; have HC := Aside0.mk hC1; have Hc := Aside0.mk hc1; have HB := Aside0.mk hb; clear hb hr hC1 hc1)
          | (go_at_call 26; refine (TA.out A1 c1 w1 HC.out Hc.out).mono ?_; rintro e w2 ⟨rfl, hb⟩; have HR2 := Aside0.mk (Kd.R_below HR.out hb); have HC2 := Aside0.mk (C_below (Kd.heap_int _) HC.out hb); have HB2 := Aside0.mk (below_then HB.out HB.out.size hb); clear hb)
          | (go_at_call 27; refine (TJ.out A1 c1 w2 HC2.out HB2.out).mono ?_; rintro e w3 ⟨rfl, hb⟩; have HR3 := Aside0.mk (Kd.R_below HR2.out hb); have HB3 := Aside0.mk (below_then HB2.out HB2.out.size hb); clear hb))
        go_ret2
        exact ⟨_, rfl, HR3.out, HB3.out⟩
      · rw [if_neg hj]
        have hne : ¬ (joinB l ⟨#[45]⟩).toList = s.toList := fun h => hj (ba_inj h)
        have e1 : decide ((joinB l ⟨#[45]⟩).toList = s.toList) = false := decide_eq_false hne
        have e2 : ((joinB l ⟨#[45]⟩).toList == s.toList) = false := beq_eq_false_iff_ne.2 hne
        have e3 : ((joinB l ⟨#[45]⟩).toList = s.toList) = False := eq_false hne
        clear hne hj
        go_enter Tryd.func8, Tryd.ntmps8
        go_wp2_with (first
          | (go_at_call 25; refine T.out.mono ?_; rintro e w1 ⟨v1, rfl, hr, hb⟩; obtain ⟨A1, c1, rfl, hc1, hC1⟩ := Kd.R_reads hr; have HC := Aside0.mk hC1; have Hc := Aside0.mk hc1; have HB := Aside0.mk hb; clear hb hr hC1 hc1)
          | (go_at_call 26; refine (TA.out A1 c1 w1 HC.out Hc.out).mono ?_; rintro e w2 ⟨rfl, hb⟩; have HC2 := Aside0.mk (C_below (Kd.heap_int _) HC.out hb); have HB2 := Aside0.mk (below_then HB.out HB.out.size hb); clear hb)
          | (go_at_call 27; refine (TJ.out A1 c1 w2 HC2.out HB2.out).mono ?_; rintro e w3 ⟨rfl, hb⟩; have HB3 := Aside0.mk (below_then HB2.out HB2.out.size hb); clear hb))
        go_ret2
        exact ⟨_, rfl, R_nil_ _ _ _ _, HB3.out⟩


end Go.Proofs.YtecpcbkoemhclaaDoor.P
