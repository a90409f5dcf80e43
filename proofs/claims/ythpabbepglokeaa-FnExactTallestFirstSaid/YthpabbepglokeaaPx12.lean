-- Laid by wip/myprint.py of this project (a wrapper over the kit's print.py); Lean checks it.
import Derived.Test.YthpabbepglokeaaPx0
import Derived.Test.YthpabbepglokeaaPx1
import Derived.Test.YthpabbepglokeaaPx10
namespace Go.Proofs.Ythpabbepglokeaa.P
open Go.RowKit Go.Proofs.YthpabbepglokeaaW.PrintWords Go.Proofs.YthpabbepglokeaaW.PrintLast Go.Proofs.YthpabbepglokeaaW.PrintMore
attribute [local go_sem] max2_int min2_int max_two min_two max_three min_three max_four min_four   -- for this text's walks alone
set_option linter.unusedVariables false
set_option linter.unusedSimpArgs false

/-! ### slices_SortStableFunc_Book: function 23 (by hand) -/
--! full slices.SortStableFunc[[]loop.example/g01334/impl.Book,loop.example/g01334/impl.Book]
set_option maxRecDepth 100000 in
set_option maxHeartbeats 4000000 in
theorem stable_book (gc : Nat) (lbc : Array Value) (egc : ∀ args w, (callFunc gc args).run Try.prog w = .ok (.enter gc args) w) (cf : S36 → S36 → Int) (ok : S36 → Prop) (I : World → Prop) (N0 g c : Nat) (hI : ∀ W W', I W → Mod (fun k => k = g) W W' → I W') (hc : CmpB gc lbc cf ok I) (w : World) (xs : List S36) (hok : ∀ x ∈ xs, ok x) (h1 : 1 ≤ xs.length) (h2 : xs.length ≤ 19)
    (hr : Kd.R k36 36 w N0 (fun _ => True) (.slice (some ⟨g, 0, none⟩) xs.length c) xs) (hi : I w) :
    Calls Try.prog 29 #[.slice (some ⟨g, 0, none⟩) xs.length c, .int .i64 xs.length, .func (.func gc) #[] lbc] w fun e W' => e = .returned (.tuple #[]) ∧ Kd.R k36 36 W' N0 (fun _ => True) (.slice (some ⟨g, 0, none⟩) xs.length c) (sortB cf (xs.length - 1) 1 xs) ∧ Mod (fun k => k = g) w W' := by
  have HS := Aside0.mk (insSort_book gc lbc egc cf ok I N0 g c hI hc w xs hok h1 (by omega) hr hi)
  clear hI hc hok hr hi
  have hn1 : ¬ (20 : Int) ≤ (xs.length : Int) := by omega
  have hn2 : ¬ 20 ≤ xs.length := by omega
  have hn3 : ¬ (20 : Int) < (xs.length : Int) := by omega
  have hn4 : ¬ 20 < xs.length := by omega
  go_enter Try.func29, Try.ntmps29
  go_wp2
  go_loopg [7, 8] 0 (fun gk v7 v8 wr => v7 = .int .i64 0 ∧ v8 = .int .i64 20 ∧ Aside0 (wr = w))
  case atStart => exact ⟨rfl, rfl, ⟨rfl⟩⟩
  case round =>
    obtain ⟨rfl, rfl, HW⟩ := hrel
    have hw := HW.out
    subst hw
    go_wp2_with (go_at_call 32; (with_reducible refine HS.out.mono ?_); rintro e w1 ⟨rfl, ho1, hm1⟩; have HO1 := Aside0.mk ho1; have HM1 := Aside0.mk hm1; clear ho1 hm1)
    go_loopg [6] 0 (fun gk v6 wr => v6 = .int .i64 20 ∧ Aside0 (wr = w1))
    case atStart => exact ⟨rfl, ⟨rfl⟩⟩
    case round =>
      obtain ⟨rfl, HW2⟩ := hrel
      have hw2 := HW2.out
      subst hw2
      go_wp2
      go_end0
      exact ⟨rfl, HO1.out, HM1.out⟩
set_option maxHeartbeats 4000000 in
theorem sortStable_book (gc : Nat) (lbc : Array Value) (egc : ∀ args w, (callFunc gc args).run Try.prog w = .ok (.enter gc args) w) (cf : S36 → S36 → Int) (ok : S36 → Prop) (I : World → Prop) (N0 g c : Nat) (hI : ∀ W W', I W → Mod (fun k => k = g) W W' → I W') (hc : CmpB gc lbc cf ok I) (w : World) (xs : List S36) (hok : ∀ x ∈ xs, ok x) (h1 : 1 ≤ xs.length) (h2 : xs.length ≤ 19)
    (hr : Kd.R k36 36 w N0 (fun _ => True) (.slice (some ⟨g, 0, none⟩) xs.length c) xs) (hi : I w) :
    Calls Try.prog 23 #[.slice (some ⟨g, 0, none⟩) xs.length c, .func (.func gc) #[] lbc] w fun e W' => e = .returned (.tuple #[]) ∧ Kd.R k36 36 W' N0 (fun _ => True) (.slice (some ⟨g, 0, none⟩) xs.length c) (sortB cf (xs.length - 1) 1 xs) ∧ Mod (fun k => k = g) w W' := by
  have HS := Aside0.mk (stable_book gc lbc egc cf ok I N0 g c hI hc w xs hok h1 h2 hr hi)
  clear hI hc hok hr hi
  go_enter Try.func23, Try.ntmps23
  go_wp2_with (go_at_call 29; (with_reducible refine HS.out.mono ?_); rintro e w1 ⟨rfl, ho1, hm1⟩; have HO1 := Aside0.mk ho1; have HM1 := Aside0.mk hm1; clear ho1 hm1)
  go_end0
  exact ⟨rfl, HO1.out, HM1.out⟩


end Go.Proofs.Ythpabbepglokeaa.P
