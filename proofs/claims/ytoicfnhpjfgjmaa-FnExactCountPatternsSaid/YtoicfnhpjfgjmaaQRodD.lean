/- The rods' functions on patterns and orders, and the boxes' bound: the program's and the reference's answers are the same value. Conditions: at most 1048576 elements. -/
import Derived.Test.YtoicfnhpjfgjmaaPx0
import Derived.Test.YtoicfnhpjfgjmaaPx6
import Derived.Test.YtoicfnhpjfgjmaaPx10
import Derived.Test.YtoicfnhpjfgjmaaPx11
import Derived.Test.YtoicfnhpjfgjmaaPx12
import Derived.Test.YtoicfnhpjfgjmaaPx16
import Derived.Test.YtoicfnhpjfgjmaaPx17
import Derived.Test.YtoicfnhpjfgjmaaQRodC
namespace Go.Proofs.Ytoicfnhpjfgjmaa.Q
open Go.RowKit Go.Proofs.Ytoicfnhpjfgjmaa.P Go.Proofs.YtoicfnhpjfgjmaaW.PrintWords Go.Proofs.YtoicfnhpjfgjmaaW.PrintLast
set_option linter.unusedVariables false
set_option linter.unusedSimpArgs false

noncomputable def isRodPatternV (n : Int) (l p : List Int) : Bool × Bool := if goodRod n l = true then (isPat n l p, true) else (false, false)
theorem specIsRodPattern_ev (n : Int) (l p : List Int) (hl : l.length ≤ 1048576) (hp : p.length ≤ 1048576) : Ev (fun k => spec_IsRodPattern.f k n l p) (isRodPatternV n l p) := by
  unfold spec_IsRodPattern.f isRodPatternV
  refine Ev.bind (rdAsked_ev n l hl) (Ev.ite (fun h => ?_) (fun h => ?_))
  · rw [if_pos h]; exact Ev.bind (rdIs_ev n l p hp) (Ev.now _)
  · rw [if_neg h]; exact Ev.now _
theorem IsRodPattern_ev (n : Int) (l p : List Int) (hl : l.length ≤ 1048576) (hp : p.length ≤ 1048576) : Ev (fun k => impl_IsRodPattern.f k n l p) (isRodPatternV n l p) := by
  unfold impl_IsRodPattern.f isRodPatternV
  refine Ev.bind (areRod_ev n l hl) (Ev.ite (fun h => ?_) (fun h => ?_))
  · rw [if_pos h]; exact Ev.bind (isPattern_ev n l p hp h) (Ev.now _)
  · rw [if_neg h]; exact Ev.now _
noncomputable def bothB (n : Int) (l p : List Int) : Bool := goodRod n l && isPat n l p
theorem rdBoth_ev (n : Int) (l p : List Int) (hl : l.length ≤ 1048576) (hp : p.length ≤ 1048576) : Ev (fun k => spec_rdBoth.f k n l p) (bothB n l p) := by
  unfold spec_rdBoth.f bothB
  refine Ev.bind (rdAsked_ev n l hl) (Ev.ite (fun h => ?_) (fun h => ?_))
  · rw [h]; exact Ev.bind (rdIs_ev n l p hp) (Ev.now _)
  · rw [Bool.eq_false_iff.mpr h]; exact Ev.now _
theorem isPat_len {n : Int} {l p : List Int} (h : isPat n l p = true) : p.length = l.length := by
  unfold isPat at h
  rw [Bool.and_eq_true, decide_eq_true_eq] at h
  exact h.1
noncomputable def usedOfV (n : Int) (l p : List Int) : Int × Bool := if bothB n l p = true then (usedW 0 p l, true) else (0, false)
theorem specUsedOf_ev (n : Int) (l p : List Int) (hl : l.length ≤ 1048576) (hp : p.length ≤ 1048576) : Ev (fun k => spec_UsedOf.f k n l p) (usedOfV n l p) := by
  unfold spec_UsedOf.f usedOfV
  refine Ev.bind (rdBoth_ev n l p hl hp) (Ev.ite (fun h => ?_) (fun h => ?_))
  · rw [if_pos h]
    unfold bothB at h
    rw [Bool.and_eq_true] at h
    exact Ev.bind (rdUsed_ev l p (by have := isPat_len h.2; omega) hp) (Ev.now _)
  · rw [if_neg h]; exact Ev.now _
theorem UsedOf_ev (n : Int) (l p : List Int) (hl : l.length ≤ 1048576) (hp : p.length ≤ 1048576) : Ev (fun k => impl_UsedOf.f k n l p) (usedOfV n l p) := by
  unfold impl_UsedOf.f usedOfV bothB
  refine Ev.bind (areRod_ev n l hl) (Ev.ite (fun h => ?_) (fun h => ?_))
  · rw [h, Bool.true_and]
    refine Ev.bind (isPattern_ev n l p hp h) (Ev.ite (fun h2 => ?_) (fun h2 => ?_))
    · rw [if_pos h2]; exact Ev.bind (used_ev l p (by have := isPat_len h2; omega) hp) (Ev.now _)
    · rw [if_neg h2]; exact Ev.now _
  · rw [Bool.eq_false_iff.mpr h, Bool.false_and, if_neg (by simp)]; exact Ev.now _
noncomputable def wasteV (n : Int) (l p : List Int) : Int × Bool := if bothB n l p = true then (wrap64 (n - usedW 0 p l), true) else (0, false)
theorem specWaste_ev (n : Int) (l p : List Int) (hl : l.length ≤ 1048576) (hp : p.length ≤ 1048576) : Ev (fun k => spec_WasteOfPattern.f k n l p) (wasteV n l p) := by
  unfold spec_WasteOfPattern.f wasteV
  refine Ev.bind (rdBoth_ev n l p hl hp) (Ev.ite (fun h => ?_) (fun h => ?_))
  · rw [if_pos h]
    unfold bothB at h
    rw [Bool.and_eq_true] at h
    exact Ev.bind (rdUsed_ev l p (by have := isPat_len h.2; omega) hp) (Ev.now _)
  · rw [if_neg h]; exact Ev.now _
theorem Waste_ev (n : Int) (l p : List Int) (hl : l.length ≤ 1048576) (hp : p.length ≤ 1048576) : Ev (fun k => impl_WasteOfPattern.f k n l p) (wasteV n l p) := by
  unfold impl_WasteOfPattern.f
  refine Ev.bind (UsedOf_ev n l p hl hp) ?_
  unfold usedOfV wasteV
  by_cases h : bothB n l p = true
  · rw [if_pos h, if_pos h]; exact Ev.pos rfl (Ev.now _)
  · rw [if_neg h, if_neg h]; exact Ev.neg (by simp) (Ev.now _)
noncomputable def fullV (n : Int) (l p : List Int) : Bool × Bool := if bothB n l p = true then (decide (wrap64 (n - usedW 0 p l) < rd l 0), true) else (false, false)
theorem bothB_pos {n : Int} {l p : List Int} (h : bothB n l p = true) : 0 < l.length := by
  unfold bothB goodRod at h
  rw [Bool.and_eq_true, Bool.and_eq_true, goodL_iff] at h
  have := h.1.2.1; omega
theorem specFull_ev (n : Int) (l p : List Int) (hl : l.length ≤ 1048576) (hp : p.length ≤ 1048576) : Ev (fun k => spec_IsFullPattern.f k n l p) (fullV n l p) := by
  unfold spec_IsFullPattern.f fullV
  refine Ev.bind (rdBoth_ev n l p hl hp) (Ev.ite (fun h => ?_) (fun h => ?_))
  · rw [if_pos h]
    have h0 := bothB_pos h
    unfold bothB at h
    rw [Bool.and_eq_true] at h
    exact Ev.bind (rdUsed_ev l p (by have := isPat_len h.2; omega) hp) (Ev.pos (by omega) (Ev.now _))
  · rw [if_neg h]; exact Ev.now _
theorem Full_ev (n : Int) (l p : List Int) (hl : l.length ≤ 1048576) (hp : p.length ≤ 1048576) : Ev (fun k => impl_IsFullPattern.f k n l p) (fullV n l p) := by
  unfold impl_IsFullPattern.f
  refine Ev.bind (Waste_ev n l p hl hp) ?_
  unfold wasteV fullV
  by_cases h : bothB n l p = true
  · rw [if_pos h, if_pos h]; have h0 := bothB_pos h; exact Ev.pos rfl (Ev.pos (by omega) (Ev.now _))
  · rw [if_neg h, if_neg h]; exact Ev.neg (by simp) (Ev.now _)

/-! ### orders -/
theorem orders_eq (k : Nat) : (∀ a b c d, impl_areOrders.j0 k a b c d = spec_rdOrders.j0 k a b c d) ∧ ∀ a b c d e, impl_areOrders.l0 k a b c d e = spec_rdOrders.l0 k a b c d e := by
  induction k with
  | zero => exact ⟨by intros; simp only [impl_areOrders.j0, spec_rdOrders.j0], by intros; simp only [impl_areOrders.l0, spec_rdOrders.l0]⟩
  | succ k ih => exact ⟨by intros; simp only [impl_areOrders.j0, spec_rdOrders.j0, ih.2], by intros; simp only [impl_areOrders.l0, spec_rdOrders.l0, ih.2]⟩
theorem rdOrders_l0 (n : Int) (l c : List Int) (hl : c.length ≤ 1048576) (he : c.length = l.length) (d : Nat) : ∀ i : Nat, i + d = c.length → ∃ r, Ev (fun k => spec_rdOrders.l0 k n l c c.length i) r := by
  induction d with
  | zero =>
    intro i hi
    refine ⟨_, Ev.step (f := fun _ => some true) (fun k => ?_) (Ev.now _)⟩
    rw [spec_rdOrders.l0, if_neg (by omega)]
  | succ d ih =>
    intro i hi
    obtain ⟨r, hr⟩ := ih (i + 1) (by omega)
    by_cases h1 : rd c i > 0
    · by_cases h2 : rd l i > n
      · refine ⟨_, Ev.step (f := fun _ => some false) (fun k => ?_) (Ev.now _)⟩
        rw [spec_rdOrders.l0, if_pos (by omega), if_pos (by omega), if_pos (by omega), if_pos h1, if_pos (by omega), if_pos h2]
      · refine ⟨r, Ev.step (fun k => ?_) hr⟩
        rw [spec_rdOrders.l0, if_pos (by omega), if_pos (by omega), if_pos (by omega), if_pos h1, if_pos (by omega), if_neg h2, w64i i (by omega)]
    · refine ⟨r, Ev.step (fun k => ?_) hr⟩
      rw [spec_rdOrders.l0, if_pos (by omega), if_pos (by omega), if_pos (by omega), if_neg h1, w64i i (by omega)]
theorem rdOrders_j0 (n : Int) (l c : List Int) (hl : c.length ≤ 1048576) (b : Bool) (he : b = false → c.length = l.length) : ∃ r, Ev (fun k => spec_rdOrders.j0 k n l c b) r ∧ (r = true → b = false) := by
  cases b with
  | true => exact ⟨false, Ev.step (f := fun _ => some false) (fun k => by simp [spec_rdOrders.j0]) (Ev.now _), fun h => by cases h⟩
  | false =>
    obtain ⟨r, hr⟩ := rdOrders_l0 n l c hl (he rfl) c.length 0 (by omega)
    exact ⟨r, Ev.step (fun k => by simp [spec_rdOrders.j0]) hr, fun _ => rfl⟩
theorem orders_both (n : Int) (l c : List Int) (hl : l.length ≤ 1048576) (hc : c.length ≤ 1048576) : ∃ r, Ev (fun k => spec_rdOrders.f k n l c) r ∧ Ev (fun k => impl_areOrders.f k n l c) r ∧ (r = true → c.length = l.length ∧ 1 ≤ n ∧ n ≤ 60) := by
  unfold spec_rdOrders.f impl_areOrders.f
  obtain ⟨r0, h0, hr0⟩ := rdOrders_j0 n l c hc true (fun h => by cases h)
  obtain rfl : r0 = false := by
    cases r0 with
    | false => rfl
    | true => exact absurd (hr0 rfl) (by simp)
  have h0' : Ev (fun k => impl_areOrders.j0 k n l c true) false := Ev.congr (fun k => (orders_eq k).1 _ _ _ _) h0
  by_cases hg : goodRod n l = true
  · by_cases hgc : goodC c = true
    · by_cases he : c.length = l.length
      · obtain ⟨r, hr, _⟩ := rdOrders_j0 n l c hc (decide (sumW 0 c > 9)) (fun _ => he)
        refine ⟨r, ?_, ?_, fun _ => ⟨he, ?_⟩⟩
        · refine Ev.bind (rdAsked_ev n l hl) (Ev.pos hg (Ev.bind (rdCounts_ev c hc) (Ev.pos hgc (Ev.pos (by omega) ?_))))
          exact Ev.bind (bxSum_ev c hc) hr
        · refine Ev.bind (areRod_ev n l hl) (Ev.pos hg (Ev.call (areCounts_eq c) (Ev.pos hgc (Ev.pos (by omega) ?_))))
          exact Ev.bind (sum_ev c hc) (Ev.congr (fun k => (orders_eq k).1 _ _ _ _) hr)
        · unfold goodRod at hg
          rw [Bool.and_eq_true, inB_iff] at hg
          exact hg.1
      · exact ⟨false, Ev.bind (rdAsked_ev n l hl) (Ev.pos hg (Ev.bind (rdCounts_ev c hc) (Ev.pos hgc (Ev.neg (by omega) h0)))),
          Ev.bind (areRod_ev n l hl) (Ev.pos hg (Ev.call (areCounts_eq c) (Ev.pos hgc (Ev.neg (by omega) h0')))), fun h => by cases h⟩
    · exact ⟨false, Ev.bind (rdAsked_ev n l hl) (Ev.pos hg (Ev.bind (rdCounts_ev c hc) (Ev.neg hgc h0))), Ev.bind (areRod_ev n l hl) (Ev.pos hg (Ev.call (areCounts_eq c) (Ev.neg hgc h0'))), fun h => by cases h⟩
  · exact ⟨false, Ev.bind (rdAsked_ev n l hl) (Ev.neg hg h0), Ev.bind (areRod_ev n l hl) (Ev.neg hg h0'), fun h => by cases h⟩
theorem rodsBound_both (n : Int) (l c : List Int) (hl : l.length ≤ 1048576) (hc : c.length ≤ 1048576) : ∃ r, Ev (fun k => spec_RodsBound.f k n l c) r ∧ Ev (fun k => impl_RodsBound.f k n l c) r := by
  unfold spec_RodsBound.f impl_RodsBound.f
  obtain ⟨b, h1, h2, h3⟩ := orders_both n l c hl hc
  by_cases hb : b = true
  · obtain ⟨he, hn0, hn1⟩ := h3 hb
    exact ⟨_, Ev.bind h1 (Ev.pos hb (Ev.bind (rdUsed_ev l c (by omega) hc) (Ev.neg (by omega) (Ev.now _)))), Ev.bind h2 (Ev.pos hb (Ev.bind (used_ev l c (by omega) hc) (Ev.neg (by omega) (Ev.now _))))⟩
  · exact ⟨_, Ev.bind h1 (Ev.neg hb (Ev.now _)), Ev.bind h2 (Ev.neg hb (Ev.now _))⟩

/-! ### boxes: the greatest thing, the bound -/
def mostL (a : Int) : List Int → Int
  | [] => a
  | x :: xs => mostL (mx a x) xs
theorem l1Most_eq (a b : Int) : spec_l1Most.f a b = some (mx a b) := by
  unfold spec_l1Most.f
  by_cases h : a > b
  · rw [if_pos h]; congr 1; unfold mx; omega
  · rw [if_neg h]; congr 1; unfold mx; omega
theorem bxMost_l0 (l : List Int) (hl : l.length ≤ 1048576) (d : Nat) : ∀ (i : Nat) (a : Int), i + d = l.length → Ev (fun k => spec_bxMost.l0 k a l l.length i) (mostL a (l.drop i)) := by
  induction d with
  | zero =>
    intro i a hi
    refine Ev.step (f := fun _ => some a) (fun k => ?_) ?_
    · rw [spec_bxMost.l0, if_neg (by omega)]
    · rw [List.drop_of_length_le (by omega)]; exact Ev.now a
  | succ d ih =>
    intro i a hi
    rw [drop_rd (show i < l.length by omega)]
    refine Ev.step (fun k => ?_) (ih (i + 1) _ (by omega))
    rw [spec_bxMost.l0, if_pos (by omega), if_pos (by omega), if_pos (by omega), l1Most_eq, Option.bind_some, w64i i (by omega)]
theorem Max_l0 (l : List Int) (hl : l.length ≤ 1048576) (d : Nat) : ∀ (i : Nat) (a : Int), i + d = l.length → Ev (fun k => slices_Max_int_int.l0 k l a i) (mostL a (l.drop i)) := by
  induction d with
  | zero =>
    intro i a hi
    refine Ev.step (f := fun _ => some a) (fun k => ?_) ?_
    · rw [slices_Max_int_int.l0, if_neg (by omega)]
    · rw [List.drop_of_length_le (by omega)]; exact Ev.now a
  | succ d ih =>
    intro i a hi
    rw [drop_rd (show i < l.length by omega)]
    refine Ev.step (fun k => ?_) (ih (i + 1) _ (by omega))
    rw [slices_Max_int_int.l0, if_pos (by omega), if_pos (by omega), w64i i (by omega)]
theorem bxMost_ev (l : List Int) (hl : l.length ≤ 1048576) : Ev (fun k => spec_bxMost.f k l) (mostL 0 l) := by
  unfold spec_bxMost.f
  exact bxMost_l0 l hl l.length 0 0 (by omega)
theorem Max_ev (l : List Int) (hl : l.length ≤ 1048576) (h0 : 0 < l.length) (h1 : 0 ≤ rd l 0) : Ev (fun k => slices_Max_int_int.f k l) (mostL 0 l) := by
  unfold slices_Max_int_int.f
  refine Ev.neg (by omega) (Ev.pos (by omega) ?_)
  have := Max_l0 l hl (l.length - 1) 1 (rd l 0) (by omega)
  have e := drop_rd (l := l) (i := 0) h0
  rw [List.drop_zero] at e
  have e2 : mostL 0 l = mostL (rd l 0) (l.drop 1) := by
    conv => lhs; rw [e]
    show mostL (mx 0 (rd l 0)) (l.drop 1) = _
    congr 1
    unfold mx; omega
  rw [e2]; exact this
def askedB (l : List Int) (room : Int) : Bool := goodT l && inB (mostL 0 l) 1000 room
theorem bxAsked_ev (l : List Int) (room : Int) (hl : l.length ≤ 1048576) : Ev (fun k => spec_bxAsked.f k l room) (askedB l room) := by
  unfold spec_bxAsked.f askedB
  refine Ev.bind (bxGood_ev l hl) (Ev.ite (fun h => ?_) (fun h => ?_))
  · rw [h]; exact Ev.bind (bxMost_ev l hl) (Ev.call (l1In_eq _ _ _) (Ev.now _))
  · rw [Bool.eq_false_iff.mpr h]; exact Ev.now _
theorem goodT_iff (l : List Int) : goodT l = true ↔ (1 ≤ l.length ∧ l.length ≤ 9) ∧ ∀ j : Nat, j < l.length → 1 ≤ rd l j ∧ rd l j ≤ 100 := by
  unfold goodT
  rw [Bool.and_eq_true, inB_iff, allIn_iff]
  constructor
  · rintro ⟨h1, h2⟩; exact ⟨by omega, h2⟩
  · rintro ⟨h1, h2⟩; exact ⟨by omega, h2⟩
theorem areRoomy_ev (l : List Int) (room : Int) (hl : l.length ≤ 1048576) : Ev (fun k => impl_areRoomy.f k l room) (askedB l room) := by
  unfold impl_areRoomy.f askedB
  refine Ev.call (AreThings_eq l) (Ev.ite (fun h => ?_) (fun h => ?_))
  · have hg := (goodT_iff l).1 h
    rw [h]
    refine Ev.bind (Max_ev l hl (by omega) (by have := hg.2 0 (by omega); simp at this; omega)) (Ev.call (within_inB _ _ _) (Ev.now _))
  · rw [Bool.eq_false_iff.mpr h]; exact Ev.now _
theorem mostL_ge : ∀ (l : List Int) (a : Int), a ≤ mostL a l ∧ ∀ x ∈ l, x ≤ mostL a l
  | [], a => by simp [mostL]
  | x :: xs, a => by
    obtain ⟨h1, h2⟩ := mostL_ge xs (mx a x)
    have : a ≤ mx a x ∧ x ≤ mx a x := by unfold mx; omega
    simp only [mostL]
    refine ⟨by omega, fun y hy => ?_⟩
    rcases List.mem_cons.1 hy with rfl | hy
    · omega
    · exact h2 y hy
theorem asked_pos {l : List Int} {room : Int} (h : askedB l room = true) : 1 ≤ room := by
  unfold askedB at h
  rw [Bool.and_eq_true, goodT_iff, inB_iff] at h
  obtain ⟨⟨h1, h2⟩, h3⟩ := h
  have := (mostL_ge l 0).2 (rd l 0) (by have h0 : 0 < l.length := by omega
                                        rw [show (0 : Int) = ((0 : Nat) : Int) from rfl, rd_get h0]; exact List.getElem_mem h0)
  have := h2 0 (by omega)
  simp at this
  omega
theorem boxesBound_both (l : List Int) (room : Int) (hl : l.length ≤ 1048576) : ∃ r, Ev (fun k => spec_BoxesBound.f k l room) r ∧ Ev (fun k => impl_BoxesBound.f k l room) r := by
  unfold spec_BoxesBound.f impl_BoxesBound.f
  by_cases hb : askedB l room = true
  · have hp := asked_pos hb
    exact ⟨_, Ev.bind (bxAsked_ev l room hl) (Ev.pos hb (Ev.bind (bxSum_ev l hl) (Ev.neg (by omega) (Ev.now _)))), Ev.bind (areRoomy_ev l room hl) (Ev.pos hb (Ev.bind (sum_ev l hl) (Ev.neg (by omega) (Ev.now _))))⟩
  · exact ⟨_, Ev.bind (bxAsked_ev l room hl) (Ev.neg hb (Ev.now _)), Ev.bind (areRoomy_ev l room hl) (Ev.neg hb (Ev.now _))⟩

end Go.Proofs.Ytoicfnhpjfgjmaa.Q
