-- Laid by wip/myprint.py of this project (a wrapper over the kit's print.py); Lean checks it.
import Derived.Test.YtchbjdoneanhpaaPx0
import Derived.Test.YtchbjdoneanhpaaPx1
import Derived.Test.YtchbjdoneanhpaaPx11
namespace Go.Proofs.Ytchbjdoneanhpaa.P
open Go.RowKit Go.Proofs.YtchbjdoneanhpaaW.PrintWords Go.Proofs.YtchbjdoneanhpaaW.PrintLast Go.Proofs.YtchbjdoneanhpaaW.PrintMore
attribute [local go_sem] max2_int min2_int max_two min_two max_three min_three max_four min_four   -- for this text's walks alone
set_option linter.unusedVariables false
set_option linter.unusedSimpArgs false

/-! ### slices_SortStableFunc_int_int: function 24 (by hand) -/
set_option maxRecDepth 100000 in
set_option maxHeartbeats 4000000 in
theorem stable_int (gc : Nat) (lbc : Array Value) (egc : ∀ args w, (callFunc gc args).run Try.prog w = .ok (.enter gc args) w) (cf : Int → Int → Int) (ok : Int → Prop) (I : World → Prop) (N0 g c : Nat) (hI : ∀ W W', I W → Mod (fun k => k = g) W W' → I W') (hc : CmpI gc lbc cf ok I) (w : World) (xs : List Int) (hok : ∀ x ∈ xs, ok x) (h1 : 1 ≤ xs.length) (h2 : xs.length ≤ 19)
    (hr : Kd.R (Kd.int .i64) 3 w N0 (fun _ => True) (.slice (some ⟨g, 0, none⟩) xs.length c) xs) (hi : I w) :
    Calls Try.prog 37 #[.slice (some ⟨g, 0, none⟩) xs.length c, .int .i64 xs.length, .func (.func gc) #[] lbc] w fun e W' => e = .returned (.tuple #[]) ∧ Kd.R (Kd.int .i64) 3 W' N0 (fun _ => True) (.slice (some ⟨g, 0, none⟩) xs.length c) (sortI cf (xs.length - 1) 1 xs) ∧ Mod (fun k => k = g) w W' := by
  have HS := Aside0.mk (insSort_int gc lbc egc cf ok I N0 g c hI hc w xs hok h1 (by omega) hr hi)
  clear hI hc hok hr hi
  have hn1 : ¬ (20 : Int) ≤ (xs.length : Int) := by omega
  have hn2 : ¬ 20 ≤ xs.length := by omega
  have hn3 : ¬ (20 : Int) < (xs.length : Int) := by omega
  have hn4 : ¬ 20 < xs.length := by omega
  go_enter Try.func37, Try.ntmps37
  go_wp2
  go_loopg [7, 8] 0 (fun gk v7 v8 wr => v7 = .int .i64 0 ∧ v8 = .int .i64 20 ∧ Aside0 (wr = w))
  case atStart => exact ⟨rfl, rfl, ⟨rfl⟩⟩
  case round =>
    obtain ⟨rfl, rfl, HW⟩ := hrel
    have hw := HW.out
    subst hw
    go_wp2_with (go_at_call 46; (with_reducible refine HS.out.mono ?_); rintro e w1 ⟨rfl, ho1, hm1⟩; have HO1 := Aside0.mk ho1; have HM1 := Aside0.mk hm1; clear ho1 hm1)
    go_loopg [6] 0 (fun gk v6 wr => v6 = .int .i64 20 ∧ Aside0 (wr = w1))
    case atStart => exact ⟨rfl, ⟨rfl⟩⟩
    case round =>
      obtain ⟨rfl, HW2⟩ := hrel
      have hw2 := HW2.out
      subst hw2
      go_wp2
      go_end0
      exact ⟨rfl, HO1.out, HM1.out⟩
set_option maxHeartbeats 4000000 in
theorem sortStable_int (gc : Nat) (lbc : Array Value) (egc : ∀ args w, (callFunc gc args).run Try.prog w = .ok (.enter gc args) w) (cf : Int → Int → Int) (ok : Int → Prop) (I : World → Prop) (N0 g c : Nat) (hI : ∀ W W', I W → Mod (fun k => k = g) W W' → I W') (hc : CmpI gc lbc cf ok I) (w : World) (xs : List Int) (hok : ∀ x ∈ xs, ok x) (h1 : 1 ≤ xs.length) (h2 : xs.length ≤ 19)
    (hr : Kd.R (Kd.int .i64) 3 w N0 (fun _ => True) (.slice (some ⟨g, 0, none⟩) xs.length c) xs) (hi : I w) :
    Calls Try.prog 24 #[.slice (some ⟨g, 0, none⟩) xs.length c, .func (.func gc) #[] lbc] w fun e W' => e = .returned (.tuple #[]) ∧ Kd.R (Kd.int .i64) 3 W' N0 (fun _ => True) (.slice (some ⟨g, 0, none⟩) xs.length c) (sortI cf (xs.length - 1) 1 xs) ∧ Mod (fun k => k = g) w W' := by
  have HS := Aside0.mk (stable_int gc lbc egc cf ok I N0 g c hI hc w xs hok h1 h2 hr hi)
  clear hI hc hok hr hi
  go_enter Try.func24, Try.ntmps24
  go_wp2_with (go_at_call 37; (with_reducible refine HS.out.mono ?_); rintro e w1 ⟨rfl, ho1, hm1⟩; have HO1 := Aside0.mk ho1; have HM1 := Aside0.mk hm1; clear ho1 hm1)
  go_end0
  exact ⟨rfl, HO1.out, HM1.out⟩


end Go.Proofs.Ytchbjdoneanhpaa.P
