-- Laid by wip/myprint.py of this project (a wrapper over the kit's print.py); Lean checks it.
import Derived.Test.YtecpcbkoemhclaaDoorPx0
import Derived.Test.YtecpcbkoemhclaaDoorPx1
import Derived.Test.YtecpcbkoemhclaaDoorPx9
import Derived.Test.YtecpcbkoemhclaaDoorPx10
namespace Go.Proofs.YtecpcbkoemhclaaDoor.P
open Go.RowKit Go.Proofs.YtecpcbkoemhclaaDoorW.PrintWords Go.Proofs.YtecpcbkoemhclaaDoorW.PrintLast Go.Proofs.YtecpcbkoemhclaaDoorW.PrintMore
attribute [local go_sem] max2_int min2_int max_two min_two max_three min_three max_four min_four   -- for this text's walks alone
set_option linter.unusedVariables false
set_option linter.unusedSimpArgs false

/-! ### impl_number: function 42 (by hand) -/
/-- The number of a word, up to a bound; none if it is no numeral as Itoa writes it. -/
def numW (most : Int) (s : ByteArray) : Option Int :=
  match Lib.atoiAll s.data.toList with
  | .ok v => if itoaB v = s then (if 0 ≤ v ∧ v ≤ most then some v else none) else none
  | _ => none
/-- The two errors' variables hold something. -/
def ErrsIn (W : World) : Prop := (∃ te pe, W.cell? ⟨1, 0, none⟩ = some (.iface te pe)) ∧ ∃ te pe, W.cell? ⟨2, 0, none⟩ = some (.iface te pe)
theorem errsIn_below {w W : World} (h : ErrsIn w) (hb : Below w.heap.size w W) : ErrsIn W := by
  obtain ⟨⟨t1, p1, h1⟩, t2, p2, h2⟩ := h
  exact ⟨⟨t1, p1, pw_cell_below hb h1⟩, t2, p2, pw_cell_below hb h2⟩
theorem itoa_callsI (n : Int) (h0 : -9223372036854775808 ≤ n) (h1 : n ≤ 9223372036854775807) (W : World) (ht : Pow10 W) : Calls Tryd.prog 45 #[.int .i64 n] W fun e w' => e = .returned (.string (itoaB n)) ∧ Below W.heap.size W w' :=
  (Tryd.strconv_Itoa n h0 h1 W ht).mono (by rintro e w' ⟨rfl, k, os, rfl⟩; exact ⟨rfl, Lib.below_grow _ _ (Nat.le_refl _) _ _⟩)
theorem ba_inj {a b : ByteArray} (h : a.toList = b.toList) : a = b := by
  rw [Lib.toList_data, Lib.toList_data] at h
  cases a; cases b; congr 1; exact Array.toList_inj.1 h
theorem numW_syntax {most : Int} {s : ByteArray} (h : Lib.atoiAll s.data.toList = .«syntax») : numW most s = none := by unfold numW; rw [h]
theorem numW_range {most : Int} {s : ByteArray} (h : Lib.atoiAll s.data.toList = .range) : numW most s = none := by unfold numW; rw [h]
theorem numW_ok {most v : Int} {s : ByteArray} (h : Lib.atoiAll s.data.toList = .ok v) : numW most s = if itoaB v = s then (if 0 ≤ v ∧ v ≤ most then some v else none) else none := by unfold numW; rw [h]
theorem within_eq (v most : Int) : impl_within.f v 0 most = some (decide (0 ≤ v ∧ v ≤ most)) := by
  unfold impl_within.f
  by_cases h : 0 ≤ v
  · rw [if_pos h]; simp [h]
  · rw [if_neg h]; simp [h]
set_option maxRecDepth 100000 in
set_option maxHeartbeats 8000000 in
theorem number_calls (s : ByteArray) (most : Int) (hs : s.size ≤ 1048576) (w : World) (ht : Pow10 w) (he : ErrsIn w) :
    Calls Tryd.prog 42 #[.string s, .int .i64 most] w fun e w' => e = .returned (.tuple #[.int .i64 ((numW most s).getD 0), .bool (numW most s).isSome]) ∧ Below w.heap.size w w' := by
  obtain ⟨⟨t1, p1, h1⟩, t2, p2, h2⟩ := he
  cases ha : Lib.atoiAll s.data.toList with
  | «syntax» =>
    rw [numW_syntax ha]
    have T := Aside0.mk (Tryd.strconv_Atoi_syntax s (by omega) ha _ w h1 (.inr ⟨t1, p1, rfl⟩))
    clear ha h1 h2 hs ht
    go_enter Tryd.func42, Tryd.ntmps42
    go_wp2_with (go_at_call 54; refine T.out.mono ?_; rintro e w1 ⟨N, rfl, _, _, hb⟩; have HB := Aside0.mk hb; clear hb)
    go_ret2
    exact ⟨rfl, HB.out⟩
  | range =>
    rw [numW_range ha]
    have T := Aside0.mk (Tryd.strconv_Atoi_range s (by omega) ha _ w h2 (.inr ⟨t2, p2, rfl⟩))
    clear ha h1 h2 hs ht
    go_enter Tryd.func42, Tryd.ntmps42
    go_wp2_with (go_at_call 54; refine T.out.mono ?_; rintro e w1 ⟨N, rfl, _, _, hb⟩; have HB := Aside0.mk hb; clear hb)
    go_ret2
    exact ⟨rfl, HB.out⟩
  | ok v =>
    rw [numW_ok ha]
    obtain ⟨v0, v1⟩ := Lib.atoiAll_bounds ha
    have T : Aside0 (Calls Tryd.prog 54 #[.string s] w fun e w' => e = .returned (.tuple #[.int .i64 v, .nilIface]) ∧ Below w.heap.size w w') := ⟨(Tryd.strconv_Atoi_ok s (by omega) v ha w).mono (by
      rintro e w' ⟨rfl, rfl | ⟨t, rfl⟩⟩
      · exact ⟨rfl, Below.refl _ _⟩
      · exact ⟨rfl, Lib.bytesWorld_below _ _ _⟩)⟩
    have T2 := Aside0.mk (fun (W : World) (hb : Below w.heap.size w W) => itoa_callsI v v0 v1 W (pow10_below ht hb (Nat.le_refl _)))
    have T3 := Aside0.mk (fun (W : World) => impl_within.calls v 0 most _ W (within_eq v most))
    clear ha h1 h2 hs ht v0 v1
    by_cases he : itoaB v = s
    · rw [if_pos he]
      subst he
      by_cases hw : 0 ≤ v ∧ v ≤ most
      · rw [if_pos hw]
        have hd : decide (0 ≤ v ∧ v ≤ most) = true := decide_eq_true hw
        rw [hd] at T3
        clear hw hd
        go_enter Tryd.func42, Tryd.ntmps42
        go_wp2_with (first
          | (go_at_call 54; refine T.out.mono ?_; rintro e w1 ⟨rfl, hb⟩; have HB := Aside0.mk hb; clear hb)
          | (go_at_call 45; refine (T2.out w1 HB.out).mono ?_; rintro e w2 ⟨rfl, hb⟩; have HB2 := Aside0.mk (below_then HB.out HB.out.size hb); clear hb)
          | (go_at_call 43; refine (T3.out w2).mono ?_; rintro e w3 ⟨rfl, ⟨nd, rfl⟩⟩))
        go_ret2
        exact ⟨rfl, by repeat (first | exact HB2.out | apply pw_below_drewN)⟩
      · rw [if_neg hw]
        have hd : decide (0 ≤ v ∧ v ≤ most) = false := decide_eq_false hw
        rw [hd] at T3
        clear hw hd
        go_enter Tryd.func42, Tryd.ntmps42
        go_wp2_with (first
          | (go_at_call 54; refine T.out.mono ?_; rintro e w1 ⟨rfl, hb⟩; have HB := Aside0.mk hb; clear hb)
          | (go_at_call 45; refine (T2.out w1 HB.out).mono ?_; rintro e w2 ⟨rfl, hb⟩; have HB2 := Aside0.mk (below_then HB.out HB.out.size hb); clear hb)
          | (go_at_call 43; refine (T3.out w2).mono ?_; rintro e w3 ⟨rfl, ⟨nd, rfl⟩⟩))
        go_ret2
        exact ⟨rfl, by repeat (first | exact HB2.out | apply pw_below_drewN)⟩
    · rw [if_neg he]
      have hne : ¬ (itoaB v).toList = s.toList := fun h => he (ba_inj h)
      have e1 : decide ((itoaB v).toList = s.toList) = false := decide_eq_false hne
      have e3 : ((itoaB v).toList = s.toList) = False := eq_false hne
      clear hne
      clear he
      go_enter Tryd.func42, Tryd.ntmps42
      go_wp2_with (first
        | (go_at_call 54; refine T.out.mono ?_; rintro e w1 ⟨rfl, hb⟩; have HB := Aside0.mk hb; clear hb)
        | (go_at_call 45; refine (T2.out w1 HB.out).mono ?_; rintro e w2 ⟨rfl, hb⟩; have HB2 := Aside0.mk (below_then HB.out HB.out.size hb); clear hb))
      go_ret2
      exact ⟨rfl, HB2.out⟩


end Go.Proofs.YtecpcbkoemhclaaDoor.P
