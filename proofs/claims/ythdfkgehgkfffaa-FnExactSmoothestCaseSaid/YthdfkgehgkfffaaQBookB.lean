/- Books: the thickest and all together, the shelves filled in order, the least width. Conditions: at most 12 books from 1 to 100. -/
import Derived.Test.YthdfkgehgkfffaaPx0
import Derived.Test.YthdfkgehgkfffaaPx3
import Derived.Test.YthdfkgehgkfffaaPx9
import Derived.Test.YthdfkgehgkfffaaPx15
import Derived.Test.YthdfkgehgkfffaaPx16
import Derived.Test.YthdfkgehgkfffaaQBookA
namespace Go.Proofs.Ythdfkgehgkfffaa.Q
open Go.RowKit Go.Proofs.Ythdfkgehgkfffaa.P Go.Proofs.YthdfkgehgkfffaaW.PrintWords Go.Proofs.YthdfkgehgkfffaaW.PrintLast
set_option linter.unusedVariables false
set_option linter.unusedSimpArgs false

theorem mostMx (a b : Int) : spec_l1Most.f a b = some (mx a b) := by
  unfold spec_l1Most.f
  by_cases h : a > b
  · rw [if_pos h]; congr 1; unfold mx; omega
  · rw [if_neg h]; congr 1; unfold mx; omega
def thW : Int → Int → Int → List S40 → Int × Int × Int
  | s, t, h, [] => (s, t, h)
  | s, t, h, b :: bs => thW (wrap64 (s + b.f0)) (mx t b.f0) (mx h b.f1) bs
theorem shThick_l0 (l : List S40) (hl : l.length ≤ 1048576) (d : Nat) : ∀ (i : Nat) (s t h : Int), i + d = l.length → Ev (fun k => spec_shThick.l0 k s t h l l.length i) (thW s t h (l.drop i)) := by
  induction d with
  | zero =>
    intro i s t h hi
    rw [List.drop_of_length_le (by omega)]
    refine Ev.step (f := fun _ => some (s, t, h)) (fun k => ?_) (Ev.now _)
    rw [spec_shThick.l0, if_neg (by omega)]
  | succ d ih =>
    intro i s t h hi
    rw [dropB (show i < l.length by omega)]
    refine Ev.step (fun k => ?_) (ih (i + 1) _ _ _ (by omega))
    rw [spec_shThick.l0, if_pos (by omega), if_pos (by omega), if_pos (by omega), mostMx, mostMx, w64i i (by omega)]
    rfl
theorem shThick_ev (l : List S40) (hl : l.length ≤ 1048576) : Ev (fun k => spec_shThick.f k l) (thW 0 0 0 l) := by
  unfold spec_shThick.f
  exact shThick_l0 l hl l.length 0 0 0 0 (by omega)
theorem thickest_l0 (l : List S40) (hl : l.length ≤ 1048576) (d : Nat) : ∀ (i : Nat) (s t h : Int), i + d = l.length → Ev (fun k => impl_thickest.l0 k t s l l.length i) ((thW s t h (l.drop i)).2.1, (thW s t h (l.drop i)).1) := by
  induction d with
  | zero =>
    intro i s t h hi
    rw [List.drop_of_length_le (by omega)]
    refine Ev.step (f := fun _ => some (t, s)) (fun k => ?_) (Ev.now _)
    rw [impl_thickest.l0, if_neg (by omega)]
  | succ d ih =>
    intro i s t h hi
    rw [dropB (show i < l.length by omega)]
    refine Ev.step (fun k => ?_) (ih (i + 1) (wrap64 (s + (rd_T40 l i).f0)) (mx t (rd_T40 l i).f0) (mx h (rd_T40 l i).f1) (by omega))
    rw [impl_thickest.l0, if_pos (by omega), if_pos (by omega), if_pos (by omega), w64i i (by omega)]
theorem thickest_ev (l : List S40) (hl : l.length ≤ 1048576) : Ev (fun k => impl_thickest.f k l) ((thW 0 0 0 l).2.1, (thW 0 0 0 l).1) := by
  unfold impl_thickest.f
  exact thickest_l0 l hl l.length 0 0 0 0 (by omega)
theorem thW_ge : ∀ (l : List S40) (s t h : Int), t ≤ (thW s t h l).2.1 ∧ ∀ b ∈ l, b.f0 ≤ (thW s t h l).2.1
  | [], s, t, h => by simp [thW]
  | b :: bs, s, t, h => by
    obtain ⟨h1, h2⟩ := thW_ge bs (wrap64 (s + b.f0)) (mx t b.f0) (mx h b.f1)
    have : t ≤ mx t b.f0 ∧ b.f0 ≤ mx t b.f0 := by unfold mx; omega
    simp only [thW]
    refine ⟨by omega, fun c hc => ?_⟩
    rcases List.mem_cons.1 hc with rfl | hc
    · omega
    · exact h2 c hc
theorem thW_le : ∀ (l : List S40) (s t h c : Int), t ≤ c → (∀ b ∈ l, b.f0 ≤ c) → (thW s t h l).2.1 ≤ c
  | [], s, t, h, c, h1, _ => h1
  | b :: bs, s, t, h, c, h1, h2 => by
    have := h2 b (by simp)
    exact thW_le bs _ _ _ c (by unfold mx; omega) (fun d hd => h2 d (by simp [hd]))
def mostK (l : List S40) : Int := (thW 0 0 0 l).2.1
def shelvedK (l : List S40) (w : Int) : Bool := goodK l && inK (mostK l) 1000 w
theorem shAsked_ev (l : List S40) (w : Int) (hl : l.length ≤ 1048576) : Ev (fun k => spec_shAsked.f k l w) (shelvedK l w) := by
  unfold spec_shAsked.f shelvedK
  refine Ev.bind (shGood_ev l hl) (Ev.ite (fun h => ?_) (fun h => ?_))
  · rw [h]; exact Ev.bind (shThick_ev l hl) (Ev.call (l1In_inK _ _ _) (Ev.now _))
  · rw [Bool.eq_false_iff.mpr h]; exact Ev.now _
theorem areShelved_ev (l : List S40) (w : Int) (hl : l.length ≤ 1048576) : Ev (fun k => impl_areShelved.f k l w) (shelvedK l w) := by
  unfold impl_areShelved.f shelvedK
  refine Ev.bind (thickest_ev l hl) (Ev.call (AreBooks_eq l) (Ev.ite (fun h => ?_) (fun h => ?_)))
  · rw [h]; exact Ev.call (within_inK _ _ _) (Ev.now _)
  · rw [Bool.eq_false_iff.mpr h]; exact Ev.now _
theorem shelved_all {l : List S40} {w : Int} (h : shelvedK l w = true) : l.length ≤ 12 ∧ 0 ≤ w ∧ w ≤ 1000 ∧ ∀ b ∈ l, 1 ≤ b.f0 ∧ b.f0 ≤ 100 ∧ b.f0 ≤ w := by
  unfold shelvedK at h
  rw [Bool.and_eq_true] at h
  obtain ⟨h1, h2⟩ := h
  obtain ⟨g1, g2, g3⟩ := goodK_iff h1
  unfold inK at h2
  rw [Bool.and_eq_true, decide_eq_true_eq, decide_eq_true_eq] at h2
  have hm := thW_ge l 0 0 0
  unfold mostK at h2
  refine ⟨g2, by omega, h2.2, fun b hb => ?_⟩
  have := g3 b hb
  have := hm.2 b hb
  omega
end Go.Proofs.Ythdfkgehgkfffaa.Q
