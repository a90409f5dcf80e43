/- Books: the thickest and all together, the shelves filled in order, the least width. Conditions: at most 12 books from 1 to 100. -/
import Derived.Test.YtphpdgjcmocdcaaPx0
import Derived.Test.YtphpdgjcmocdcaaPx2
import Derived.Test.YtphpdgjcmocdcaaPx5
import Derived.Test.YtphpdgjcmocdcaaPx6
import Derived.Test.YtphpdgjcmocdcaaPx7
import Derived.Test.YtphpdgjcmocdcaaPx8
import Derived.Test.YtphpdgjcmocdcaaQBookA
namespace Go.Proofs.Ytphpdgjcmocdcaa.Q
open Go.RowKit Go.Proofs.Ytphpdgjcmocdcaa.P Go.Proofs.YtphpdgjcmocdcaaW.PrintWords Go.Proofs.YtphpdgjcmocdcaaW.PrintLast
set_option linter.unusedVariables false
set_option linter.unusedSimpArgs false

theorem mostMx (a b : Int) : spec_l1Most.f a b = some (mx a b) := by
  unfold spec_l1Most.f
  by_cases h : a > b
  · rw [if_pos h]; congr 1; unfold mx; omega
  · rw [if_neg h]; congr 1; unfold mx; omega
def thW : Int → Int → Int → List S39 → Int × Int × Int
  | s, t, h, [] => (s, t, h)
  | s, t, h, b :: bs => thW (wrap64 (s + b.f0)) (mx t b.f0) (mx h b.f1) bs
theorem shThick_l0 (l : List S39) (hl : l.length ≤ 1048576) (d : Nat) : ∀ (i : Nat) (s t h : Int), i + d = l.length → Ev (fun k => spec_shThick.l0 k s t h l l.length i) (thW s t h (l.drop i)) := by
  induction d with
  | zero =>
    intro i s t h hi
    rw [List.drop_of_length_le (by omega)]
    refine Ev.step (f := fun _ => some (s, t, h)) (fun k => ?_) (Ev.now _)
    rw [spec_shThick.l0, if_neg (by omega)]
  | succ d ih =>
    intro i s t h hi
    rw [dropB (show i < l.length by omega)]
    refine Ev.step (fun k => ?_) (ih (i + 1) _ _ _ (by omega))
    rw [spec_shThick.l0, if_pos (by omega), if_pos (by omega), if_pos (by omega), mostMx, mostMx, w64i i (by omega)]
    rfl
theorem shThick_ev (l : List S39) (hl : l.length ≤ 1048576) : Ev (fun k => spec_shThick.f k l) (thW 0 0 0 l) := by
  unfold spec_shThick.f
  exact shThick_l0 l hl l.length 0 0 0 0 (by omega)
theorem thickest_l0 (l : List S39) (hl : l.length ≤ 1048576) (d : Nat) : ∀ (i : Nat) (s t h : Int), i + d = l.length → Ev (fun k => impl_thickest.l0 k t s l l.length i) ((thW s t h (l.drop i)).2.1, (thW s t h (l.drop i)).1) := by
  induction d with
  | zero =>
    intro i s t h hi
    rw [List.drop_of_length_le (by omega)]
    refine Ev.step (f := fun _ => some (t, s)) (fun k => ?_) (Ev.now _)
    rw [impl_thickest.l0, if_neg (by omega)]
  | succ d ih =>
    intro i s t h hi
    rw [dropB (show i < l.length by omega)]
    refine Ev.step (fun k => ?_) (ih (i + 1) (wrap64 (s + (rd_T39 l i).f0)) (mx t (rd_T39 l i).f0) (mx h (rd_T39 l i).f1) (by omega))
    rw [impl_thickest.l0, if_pos (by omega), if_pos (by omega), if_pos (by omega), w64i i (by omega)]
theorem thickest_ev (l : List S39) (hl : l.length ≤ 1048576) : Ev (fun k => impl_thickest.f k l) ((thW 0 0 0 l).2.1, (thW 0 0 0 l).1) := by
  unfold impl_thickest.f
  exact thickest_l0 l hl l.length 0 0 0 0 (by omega)
theorem thW_ge : ∀ (l : List S39) (s t h : Int), t ≤ (thW s t h l).2.1 ∧ ∀ b ∈ l, b.f0 ≤ (thW s t h l).2.1
  | [], s, t, h => by simp [thW]
  | b :: bs, s, t, h => by
    obtain ⟨h1, h2⟩ := thW_ge bs (wrap64 (s + b.f0)) (mx t b.f0) (mx h b.f1)
    have : t ≤ mx t b.f0 ∧ b.f0 ≤ mx t b.f0 := by unfold mx; omega
    simp only [thW]
    refine ⟨by omega, fun c hc => ?_⟩
    rcases List.mem_cons.1 hc with rfl | hc
    · omega
    · exact h2 c hc
theorem thW_le : ∀ (l : List S39) (s t h c : Int), t ≤ c → (∀ b ∈ l, b.f0 ≤ c) → (thW s t h l).2.1 ≤ c
  | [], s, t, h, c, h1, _ => h1
  | b :: bs, s, t, h, c, h1, h2 => by
    have := h2 b (by simp)
    exact thW_le bs _ _ _ c (by unfold mx; omega) (fun d hd => h2 d (by simp [hd]))
def mostK (l : List S39) : Int := (thW 0 0 0 l).2.1
def shelvedK (l : List S39) (w : Int) : Bool := goodK l && inK (mostK l) 1000 w
theorem shAsked_ev (l : List S39) (w : Int) (hl : l.length ≤ 1048576) : Ev (fun k => spec_shAsked.f k l w) (shelvedK l w) := by
  unfold spec_shAsked.f shelvedK
  refine Ev.bind (shGood_ev l hl) (Ev.ite (fun h => ?_) (fun h => ?_))
  · rw [h]; exact Ev.bind (shThick_ev l hl) (Ev.call (l1In_inK _ _ _) (Ev.now _))
  · rw [Bool.eq_false_iff.mpr h]; exact Ev.now _
theorem areShelved_ev (l : List S39) (w : Int) (hl : l.length ≤ 1048576) : Ev (fun k => impl_areShelved.f k l w) (shelvedK l w) := by
  unfold impl_areShelved.f shelvedK
  refine Ev.bind (thickest_ev l hl) (Ev.call (AreBooks_eq l) (Ev.ite (fun h => ?_) (fun h => ?_)))
  · rw [h]; exact Ev.call (within_inK _ _ _) (Ev.now _)
  · rw [Bool.eq_false_iff.mpr h]; exact Ev.now _
/-- The first books of the shelves, filled in order. -/
def fillK (w : Int) : Int → Nat → List S39 → List Int
  | _, _, [] => []
  | now, i, b :: bs => if now + b.f0 > w then (i : Int) :: fillK w b.f0 (i + 1) bs else fillK w (now + b.f0) (i + 1) bs
theorem filled_l0 (l : List S39) (w : Int) (hl : l.length ≤ 1048576) (hw : w ≤ 1000000) (hb : ∀ b ∈ l, 1 ≤ b.f0 ∧ b.f0 ≤ 100 ∧ b.f0 ≤ w) (d : Nat) : ∀ (i : Nat) (now : Int) (out : List Int), i + d = l.length → out.length ≤ i → 0 ≤ now → now ≤ w →
    Ev (fun k => impl_filled.l0 k w out now l l.length i) (out ++ fillK w now i (l.drop i)) ∧ Ev (fun k => spec_shFill.l0 k w out (w - now) l l.length i) (out ++ fillK w now i (l.drop i)) := by
  induction d with
  | zero =>
    intro i now out hi ho h0 h1
    rw [List.drop_of_length_le (by omega)]
    simp only [fillK, List.append_nil]
    refine ⟨Ev.step (f := fun _ => some out) (fun k => ?_) (Ev.now _), Ev.step (f := fun _ => some out) (fun k => ?_) (Ev.now _)⟩
    · rw [impl_filled.l0, if_neg (by omega)]
    · rw [spec_shFill.l0, if_neg (by omega)]
  | succ d ih =>
    intro i now out hi ho h0 h1
    have hlt : i < l.length := by omega
    have hbi := hb (rd_T39 l i) (by rw [rdB hlt]; exact List.getElem_mem hlt)
    rw [dropB hlt]
    simp only [fillK]
    by_cases c : now + (rd_T39 l i).f0 > w
    · rw [if_pos c]
      obtain ⟨e1, e2⟩ := ih (i + 1) (rd_T39 l i).f0 (out ++ [(i : Int)]) (by omega) (by simp; omega) (by omega) hbi.2.2
      rw [List.append_assoc] at e1 e2
      refine ⟨Ev.step (fun k => ?_) e1, Ev.step (fun k => ?_) e2⟩
      · rw [impl_filled.l0, if_pos (by omega), if_pos (by omega), if_pos (by omega), w64 (x := now + (rd_T39 l i).f0) (by omega) (by omega), if_pos c, if_pos (by omega), w64i i (by omega), w64 (x := 0 + (rd_T39 l i).f0) (by omega) (by omega)]
        simp
      · rw [spec_shFill.l0, if_pos (by omega), if_pos (by omega), if_pos (by omega), if_pos (by omega), if_pos (by omega), w64i i (by omega), w64 (x := w - (rd_T39 l i).f0) (by omega) (by omega)]
    · rw [if_neg c]
      obtain ⟨e1, e2⟩ := ih (i + 1) (now + (rd_T39 l i).f0) out (by omega) (by omega) (by omega) (by omega)
      refine ⟨Ev.step (fun k => ?_) e1, Ev.step (fun k => ?_) e2⟩
      · rw [impl_filled.l0, if_pos (by omega), if_pos (by omega), if_pos (by omega), w64 (x := now + (rd_T39 l i).f0) (by omega) (by omega), if_neg c, w64i i (by omega)]
      · rw [spec_shFill.l0, if_pos (by omega), if_pos (by omega), if_pos (by omega), if_neg (by omega), w64i i (by omega), w64 (x := w - now - (rd_T39 l i).f0) (by omega) (by omega), show w - now - (rd_T39 l i).f0 = w - (now + (rd_T39 l i).f0) by omega]
theorem filled_both (l : List S39) (w : Int) (hl : l.length ≤ 1048576) (hw0 : 0 ≤ w) (hw : w ≤ 1000000) (hb : ∀ b ∈ l, 1 ≤ b.f0 ∧ b.f0 ≤ 100 ∧ b.f0 ≤ w) :
    Ev (fun k => impl_filled.f k l w) (fillK w w 0 l) ∧ Ev (fun k => spec_shFill.f k l w) (fillK w w 0 l) := by
  obtain ⟨e1, e2⟩ := filled_l0 l w hl hw hb l.length 0 w [] (by omega) (Nat.le_refl _) hw0 (Int.le_refl _)
  rw [Int.sub_self] at e2
  exact ⟨e1, e2⟩
theorem fillK_len (w : Int) : ∀ (l : List S39) (now : Int) (i : Nat), (fillK w now i l).length ≤ l.length
  | [], now, i => by simp [fillK]
  | b :: bs, now, i => by
    have h1 := fillK_len w bs b.f0 (i + 1)
    have h2 := fillK_len w bs (now + b.f0) (i + 1)
    simp only [fillK]
    split <;> simp only [List.length_cons] <;> omega
theorem shelved_all {l : List S39} {w : Int} (h : shelvedK l w = true) : l.length ≤ 12 ∧ 0 ≤ w ∧ w ≤ 1000 ∧ ∀ b ∈ l, 1 ≤ b.f0 ∧ b.f0 ≤ 100 ∧ b.f0 ≤ w := by
  unfold shelvedK at h
  rw [Bool.and_eq_true] at h
  obtain ⟨h1, h2⟩ := h
  obtain ⟨g1, g2, g3⟩ := goodK_iff h1
  unfold inK at h2
  rw [Bool.and_eq_true, decide_eq_true_eq, decide_eq_true_eq] at h2
  have hm := thW_ge l 0 0 0
  unfold mostK at h2
  refine ⟨g2, by omega, h2.2, fun b hb => ?_⟩
  have := g3 b hb
  have := hm.2 b hb
  omega
theorem fillShelves_both (l : List S39) (w : Int) (hl : l.length ≤ 1048576) : ∃ v b, Ev (fun k => spec_FillShelves.f k l w) (v, b) ∧ Ev (fun k => impl_FillShelves.f k l w) (v, b) ∧ v.length ≤ 1048576 := by
  unfold spec_FillShelves.f impl_FillShelves.f
  by_cases h : shelvedK l w = true
  · have ha := shelved_all h
    obtain ⟨e1, e2⟩ := filled_both l w hl ha.2.1 (by omega) ha.2.2.2
    exact ⟨_, _, Ev.bind (shAsked_ev l w hl) (Ev.pos h (Ev.bind e2 (Ev.now _))), Ev.bind (areShelved_ev l w hl) (Ev.pos h (Ev.bind e1 (Ev.now _))), by have := fillK_len w l w 0; omega⟩
  · exact ⟨_, _, Ev.bind (shAsked_ev l w hl) (Ev.neg h (Ev.now _)), Ev.bind (areShelved_ev l w hl) (Ev.neg h (Ev.now _)), by simp⟩
theorem fewestShelves_both (l : List S39) (w : Int) (hl : l.length ≤ 1048576) : ∃ r, Ev (fun k => spec_FewestShelves.f k l w) r ∧ Ev (fun k => impl_FewestShelves.f k l w) r := by
  unfold spec_FewestShelves.f impl_FewestShelves.f impl_FillShelves.f
  by_cases h : shelvedK l w = true
  · have ha := shelved_all h
    obtain ⟨e1, e2⟩ := filled_both l w hl ha.2.1 (by omega) ha.2.2.2
    exact ⟨_, Ev.bind (shAsked_ev l w hl) (Ev.pos h (Ev.bind e2 (Ev.now _))), Ev.bind (Ev.bind (areShelved_ev l w hl) (Ev.pos h (Ev.bind e1 (Ev.now _)))) (Ev.now _)⟩
  · exact ⟨_, Ev.bind (shAsked_ev l w hl) (Ev.neg h (Ev.now _)), Ev.bind (Ev.bind (areShelved_ev l w hl) (Ev.neg h (Ev.now _))) (Ev.now _)⟩

/-! ### the least width -/
def sumK (l : List S39) : Int := (l.map (·.f0)).sum
theorem fillK_none (w : Int) : ∀ (l : List S39) (now : Int) (i : Nat), (∀ b ∈ l, 1 ≤ b.f0) → now + sumK l ≤ w → fillK w now i l = []
  | [], now, i, _, _ => rfl
  | b :: bs, now, i, hb, h => by
    have h1 := hb b (by simp)
    have hs : sumK (b :: bs) = b.f0 + sumK bs := by simp [sumK]
    have h0 : 0 ≤ sumK bs := by
      have : ∀ l : List S39, (∀ b ∈ l, 1 ≤ b.f0) → 0 ≤ sumK l := by
        intro l
        induction l with
        | nil => intro _; simp [sumK]
        | cons c cs ih =>
          intro hc
          have h1 := hc c (by simp)
          have h2 := ih (fun d hd => hc d (by simp [hd]))
          have : sumK (c :: cs) = c.f0 + sumK cs := by simp [sumK]
          omega
      exact this bs (fun d hd => hb d (by simp [hd]))
    simp only [fillK]
    rw [if_neg (by omega)]
    exact fillK_none w bs (now + b.f0) (i + 1) (fun d hd => hb d (by simp [hd])) (by omega)
theorem sumK_le : ∀ l : List S39, (∀ b ∈ l, b.f0 ≤ 100) → sumK l ≤ 100 * (l.length : Int)
  | [], _ => by simp [sumK]
  | b :: bs, h => by
    have h1 := h b (by simp)
    have h2 := sumK_le bs (fun d hd => h d (by simp [hd]))
    have : sumK (b :: bs) = b.f0 + sumK bs := by simp [sumK]
    simp only [List.length_cons]; omega
theorem fillK_one (l : List S39) (h0 : 1 ≤ l.length) (h1 : l.length ≤ 12) (hb : ∀ b ∈ l, 1 ≤ b.f0 ∧ b.f0 ≤ 100) : (fillK 1200 1200 0 l).length = 1 := by
  match l, h0 with
  | b :: bs, _ =>
    have hb1 := hb b (by simp)
    have hs := sumK_le (b :: bs) (fun d hd => (hb d hd).2)
    have he : sumK (b :: bs) = b.f0 + sumK bs := by simp [sumK]
    simp only [List.length_cons] at hs h1
    simp only [fillK]
    rw [if_pos (by omega), fillK_none 1200 bs b.f0 (0 + 1) (fun d hd => (hb d (by simp [hd])).1) (by omega)]
    rfl
theorem width_run (l : List S39) (sh : Int) (hl : l.length ≤ 1048576) (M : Nat) (hb : ∀ b ∈ l, 1 ≤ b.f0 ∧ b.f0 ≤ 100 ∧ b.f0 ≤ (M : Int)) : ∀ (e w : Nat), M ≤ w → w + e ≤ 1200 → ((fillK ((w + e : Nat) : Int) ((w + e : Nat) : Int) 0 l).length : Int) ≤ sh →
    ∃ r : Nat, Ev (fun k => impl_LeastWidth.l0 k l sh (w : Int)) ((r : Int), true) ∧ Ev (fun k => spec_LeastWidth.l0 k l sh (w : Int)) ((r : Int), true)
  | e, w, hM, hwe, hP => by
    obtain ⟨e1, e2⟩ := filled_both l (w : Int) hl (by omega) (by omega) (fun b h => by have := hb b h; omega)
    by_cases c : ((fillK (w : Int) (w : Int) 0 l).length : Int) > sh
    · cases e with
      | zero => rw [Nat.add_zero] at hP; omega
      | succ e =>
        obtain ⟨r, k1, k2⟩ := width_run l sh hl M hb e (w + 1) (by omega) (by omega) (by rw [show w + 1 + e = w + (e + 1) by omega]; exact hP)
        refine ⟨r, Ev.step (fun k => by rw [impl_LeastWidth.l0]) (Ev.bind e1 (Ev.pos c ?_)), Ev.step (fun k => by rw [spec_LeastWidth.l0]) (Ev.bind e2 (Ev.pos c ?_))⟩
        · rw [w64i w (by omega)]; exact k1
        · rw [w64i w (by omega)]; exact k2
    · exact ⟨w, Ev.step (fun k => by rw [impl_LeastWidth.l0]) (Ev.bind e1 (Ev.neg c (Ev.now _))), Ev.step (fun k => by rw [spec_LeastWidth.l0]) (Ev.bind e2 (Ev.neg c (Ev.now _)))⟩
theorem leastWidth_both (l : List S39) (sh : Int) (hl : l.length ≤ 1048576) : ∃ r, Ev (fun k => spec_LeastWidth.f k l sh) r ∧ Ev (fun k => impl_LeastWidth.f k l sh) r := by
  unfold spec_LeastWidth.f impl_LeastWidth.f
  have n1 : Ev (fun k => spec_LeastWidth.j0 k l sh true) (0, false) := Ev.step (f := fun _ => some (0, false)) (fun k => by rw [spec_LeastWidth.j0, if_pos rfl]) (Ev.now _)
  have n2 : Ev (fun k => impl_LeastWidth.j0 k l sh true) (0, false) := Ev.step (f := fun _ => some (0, false)) (fun k => by rw [impl_LeastWidth.j0, if_pos rfl]) (Ev.now _)
  by_cases hg : goodK l = true
  · obtain ⟨g1, g2, g3⟩ := goodK_iff hg
    by_cases hs : inK 1 12 sh = true
    · have hs2 : 1 ≤ sh ∧ sh ≤ 12 := by unfold inK at hs; rw [Bool.and_eq_true, decide_eq_true_eq, decide_eq_true_eq] at hs; exact hs
      have hm := thW_ge l 0 0 0
      have hm2 := thW_le l 0 0 0 100 (by omega) (fun b hb => (g3 b hb).1.2)
      obtain ⟨M, hM⟩ : ∃ M : Nat, (thW 0 0 0 l).2.1 = M := ⟨((thW 0 0 0 l).2.1).toNat, by omega⟩
      obtain ⟨r, k1, k2⟩ := width_run l sh hl M (fun b hb => by have h1 := g3 b hb; have h2 := hm.2 b hb; omega) (1200 - M) M (Nat.le_refl _) (by omega) (by
        rw [show M + (1200 - M) = 1200 by omega]
        have := fillK_one l g1 g2 (fun b hb => (g3 b hb).1)
        show ((fillK 1200 1200 0 l).length : Int) ≤ sh
        omega)
      refine ⟨((r : Int), true), Ev.bind (shGood_ev l hl) (Ev.pos hg (Ev.call (l1In_inK _ _ _) ?_)), Ev.call (AreBooks_eq l) (Ev.pos hg (Ev.call (within_inK _ _ _) ?_))⟩
      · refine Ev.step (fun k => by rw [hs, spec_LeastWidth.j0, if_neg (by simp)]) (Ev.bind (shThick_ev l hl) ?_)
        rw [hM]; exact k2
      · refine Ev.step (fun k => by rw [hs, impl_LeastWidth.j0, if_neg (by simp)]) (Ev.bind (thickest_ev l hl) ?_)
        rw [hM]; exact k1
    · have hs' := Bool.eq_false_iff.mpr hs
      refine ⟨(0, false), Ev.bind (shGood_ev l hl) (Ev.pos hg (Ev.call (l1In_inK _ _ _) ?_)), Ev.call (AreBooks_eq l) (Ev.pos hg (Ev.call (within_inK _ _ _) ?_))⟩
      · rw [hs']; exact n1
      · rw [hs']; exact n2
  · exact ⟨(0, false), Ev.bind (shGood_ev l hl) (Ev.neg hg n1), Ev.call (AreBooks_eq l) (Ev.neg hg n2)⟩
theorem areBooks_both (l : List S39) (hl : l.length ≤ 1048576) : Ev (fun k => spec_AreBooks.f k l) (goodK l) ∧ Ev (fun _ => impl_AreBooks.f l) (goodK l) := by
  unfold spec_AreBooks.f
  exact ⟨Ev.bind (shGood_ev l hl) (Ev.now _), Ev.eq (AreBooks_eq l)⟩
end Go.Proofs.Ytphpdgjcmocdcaa.Q
