-- Laid by wip/myprint.py of this project (a wrapper over the kit's print.py); Lean checks it.
import Derived.Test.YtecpcbkoemhclaaDoorPx0
import Derived.Test.YtecpcbkoemhclaaDoorPx1
import Derived.Test.YtecpcbkoemhclaaDoorPx2
import Derived.Test.YtecpcbkoemhclaaDoorPx3
import Derived.Test.YtecpcbkoemhclaaDoorPx7
import Derived.Test.YtecpcbkoemhclaaDoorPx15
import Derived.Test.YtecpcbkoemhclaaDoorPx16
namespace Go.Proofs.YtecpcbkoemhclaaDoor.P
open Go.RowKit Go.Proofs.YtecpcbkoemhclaaDoorW.PrintWords Go.Proofs.YtecpcbkoemhclaaDoorW.PrintLast Go.Proofs.YtecpcbkoemhclaaDoorW.PrintMore
attribute [local go_sem] max2_int min2_int max_two min_two max_three min_three max_four min_four   -- for this text's walks alone
set_option linter.unusedVariables false
set_option linter.unusedSimpArgs false

/-! ### laws_FnExactThingsText: function 5 (by hand) -/
/-- What the law's walk wants of the plain functions. -/
def laws_FnExactThingsText.Pure : Prop := ∀ (l0 : List Int), l0.length ≤ 1048576 →
  ∃ (k : Nat) (b : Bool), laws_toIntS.f k l0 = some l0 ∧ spec_ThingsText.f k l0 = some (ttV b l0, b) ∧ impl_AreThings.f l0 = some b ∧ (b = true → l0.length ≤ 1048576 ∧ ∀ x ∈ l0, 0 ≤ x ∧ x ≤ 1048576) ∧ laws_eqIntS.f k l0 l0 = some true
set_option maxRecDepth 100000 in
set_option maxHeartbeats 16000000 in
theorem laws_FnExactThingsText.calls (P : laws_FnExactThingsText.Pure) (A0 : Option Addr) (c0 : Nat) (l0 : List Int) (w : World) (hr0 : Kd.C (Kd.int .i64) w A0 l0.length l0) (hc0 : l0.length ≤ c0) (ht : Pow10 w) :
    Calls Tryd.prog 5 #[.slice A0 l0.length c0] w fun e w' => e = .returned (.bool true) ∧ Below w.heap.size w w' := by
  by_cases h0 : l0.length ≤ 1048576
  · obtain ⟨k, b, p1, p2, p3, p4, p5⟩ := P l0 h0
    have HT0 : Aside0 (∀ W, Below w.heap.size w W → Calls Tryd.prog 18 #[.slice A0 l0.length c0] W fun e w' => ∃ v0_ : Value, e = .returned (v0_) ∧ Kd.R (Kd.int .i64) 3 w' W.heap.size (fun _ => True) v0_ l0 ∧ Below W.heap.size W w') := ⟨fun W hB => laws_toIntS.calls k A0 c0 l0 l0 W (C_below (Kd.heap_int _) hr0 hB) hc0 p1⟩
    have HP := Aside0.mk ht
    have P2 := Aside0.mk p2
    have P3 := Aside0.mk p3
    have P4 := Aside0.mk p4
    have P5 := Aside0.mk p5
    have c4b0 : decide (1048576 < (l0.length : Int)) = false := decide_eq_false (by omega)
    have c4b1 : decide (1048576 < l0.length) = false := decide_eq_false (by omega)
    have hbb := bo_neq b
    have HB : Aside0 (Below w.heap.size w w) := ⟨Below.refl _ _⟩
    clear hr0 hc0 ht p1 p2 p3 p4 p5 P h0
    obtain ⟨tx, htx⟩ : ∃ tx, tx = ttV b l0 := ⟨_, rfl⟩
    have Htx := Aside0.mk htx
    have P2' : Aside0 (spec_ThingsText.f k l0 = some (tx, b)) := ⟨by rw [htx]; exact P2.out⟩
    clear htx P2
    go_enter Tryd.func5, Tryd.ntmps5
    go_wp2_with (first
      | (go_at_call 18; (with_reducible refine (HT0.out w HB.out).mono ?_); rintro e w1 ⟨_, rfl, r1, b1⟩; obtain ⟨U1, d1, rfl, hd1, hC1⟩ := Kd.R_reads r1; have R1 := Aside0.mk hC1; have D1 := Aside0.mk hd1; replace HB := Aside0.mk (bo_then HB.out b1); clear r1 b1 hd1 hC1)
      | (go_at_call 17; (with_reducible refine (spec_ThingsText.calls k U1 d1 l0 tx b w1 R1.out D1.out P2'.out).mono ?_); rintro e w2 ⟨rfl, b1⟩; replace HB := Aside0.mk (bo_then HB.out b1); clear b1 R1 D1)
      | (go_at_call 18; (with_reducible refine (HT0.out w2 HB.out).mono ?_); rintro e w3 ⟨_, rfl, r1, b1⟩; obtain ⟨X1, c1, rfl, hd1, hC1⟩ := Kd.R_reads r1; have X0 := Aside0.mk hC1; have C1 := Aside0.mk hd1; replace HB := Aside0.mk (bo_then HB.out b1); clear r1 b1 hd1 hC1)
      | (go_at_call 19; (refine (impl_ThingsText.calls X1 c1 l0 b w3 X0.out C1.out P3.out P4.out (pow10_below HP.out HB.out (Nat.le_refl _))).mono ?_); rw [← Htx.out]; rintro e w4 ⟨rfl, b1⟩; replace X0 := Aside0.mk (C_below (Kd.heap_int _) X0.out b1); replace HB := Aside0.mk (bo_then HB.out b1); clear b1)
      | (go_at_call 18; (with_reducible refine (HT0.out w4 HB.out).mono ?_); rintro e w5 ⟨_, rfl, r1, b1⟩; obtain ⟨U5, d5, rfl, hd1, hC1⟩ := Kd.R_reads r1; have R5 := Aside0.mk hC1; have D5 := Aside0.mk hd1; replace X0 := Aside0.mk (C_below (Kd.heap_int _) X0.out b1); replace HB := Aside0.mk (bo_then HB.out b1); clear r1 b1 hd1 hC1)
      | (go_at_call 9; (with_reducible refine (laws_eqIntS.calls k X1 c1 l0 U5 d5 l0 true w5 X0.out C1.out R5.out D5.out P5.out).mono ?_); rintro e w6 ⟨rfl, hd1⟩; have b1 := bo_drawn hd1; replace HB := Aside0.mk (bo_then HB.out b1); clear hd1 b1))
    go_ret
    exact ⟨rfl, HB.out⟩
  · have c4b0 : decide (1048576 < (l0.length : Int)) = true := decide_eq_true (by omega)
    have c4b1 : decide (1048576 < l0.length) = true := decide_eq_true (by omega)
    clear h0 hr0 hc0 P ht
    go_enter Tryd.func5, Tryd.ntmps5
    go_wp2
    go_ret
    exact ⟨rfl, Below.refl _ _⟩
theorem laws_FnExactThingsText.walk (P : laws_FnExactThingsText.Pure) (a0 : Option Addr) (len0 cap0 : Nat) (z0 : List Int) (w : World) (w0 : (a0 = none ∧ len0 = 0 ∧ cap0 = 0 ∧ z0 = []) ∨ ∃ x, a0 = some x ∧ len0 ≤ cap0 ∧ cap0 ≤ maxLen ∧ z0.length = cap0 ∧ (∀ i, i < z0.length → w.cell? (x.add i) = some (.int .i64 (z0.getD i 0))) ∧ ∀ n ∈ z0, (Lit.int .i64 n).wf = true) (ht : Pow10 w) :
    Calls Tryd.prog 5 #[.slice a0 len0 cap0] w fun e w' => e = .returned (.bool true) ∧ Below w.heap.size w w' := by
  obtain ⟨l0, rfl, hr0, hm0, hw0, hc0⟩ := ReadsInt.ofRowC w0
  exact laws_FnExactThingsText.calls P _ _ l0 w (Kd.C_of_reads (d := (0 : Int)) (h1 := fun _ => rfl) hr0) hc0 ht


end Go.Proofs.YtecpcbkoemhclaaDoor.P
