/- The rods' functions: worth of a cut, counts, patterns, bounds. Conditions: at most 1048576 elements. -/
import Derived.Test.YtoicfnhpjfgjmaaPx0
import Derived.Test.YtoicfnhpjfgjmaaPx6
import Derived.Test.YtoicfnhpjfgjmaaPx8
import Derived.Test.YtoicfnhpjfgjmaaPx9
import Derived.Test.YtoicfnhpjfgjmaaPx10
import Derived.Test.YtoicfnhpjfgjmaaQRodB
namespace Go.Proofs.Ytoicfnhpjfgjmaa.Q
open Go.RowKit Go.Proofs.Ytoicfnhpjfgjmaa.P Go.Proofs.YtoicfnhpjfgjmaaW.PrintWords Go.Proofs.YtoicfnhpjfgjmaaW.PrintLast
set_option linter.unusedVariables false
set_option linter.unusedSimpArgs false

/-! ### worth of a cut -/
theorem worth_eq (k : Nat) : (∀ a b c, impl_WorthOfCut.j0 k a b c = spec_WorthOfCut.j0 k a b c) ∧ ∀ a b c d e, impl_WorthOfCut.l0 k a b c d e = spec_WorthOfCut.l0 k a b c d e := by
  induction k with
  | zero => exact ⟨by intros; simp only [impl_WorthOfCut.j0, spec_WorthOfCut.j0], by intros; simp only [impl_WorthOfCut.l0, spec_WorthOfCut.l0]⟩
  | succ k ih => exact ⟨by intros; simp only [impl_WorthOfCut.j0, spec_WorthOfCut.j0, ih.2], by intros; simp only [impl_WorthOfCut.l0, spec_WorthOfCut.l0, ih.2]⟩
theorem worth_l0 (p l : List Int) (hl : l.length ≤ 1048576) (hp : p.length ≤ 1048576) (ha : ∀ j : Nat, j < l.length → 1 ≤ rd l j ∧ rd l j ≤ p.length) (d : Nat) : ∀ (i : Nat) (a : Int), i + d = l.length → ∃ r, Ev (fun k => spec_WorthOfCut.l0 k p a l l.length i) r := by
  induction d with
  | zero =>
    intro i a hi
    refine ⟨_, Ev.step (f := fun _ => some (a, true)) (fun k => ?_) (Ev.now _)⟩
    rw [spec_WorthOfCut.l0, if_neg (by omega)]
  | succ d ih =>
    intro i a hi
    have := ha i (by omega)
    have e1 : wrap64 (rd l i - 1) = rd l i - 1 := w64 (by omega) (by omega)
    obtain ⟨r, hr⟩ := ih (i + 1) (wrap64 (a + rd p (rd l i - 1))) (by omega)
    refine ⟨r, Ev.step (fun k => ?_) hr⟩
    rw [spec_WorthOfCut.l0, if_pos (by omega), if_pos (by omega), if_pos (by omega), e1, if_pos (by omega), if_pos (by omega), w64i i (by omega)]
theorem worth_j0 (p l : List Int) (hl : l.length ≤ 1048576) (hp : p.length ≤ 1048576) (b : Bool) (ha : b = false → ∀ j : Nat, j < l.length → 1 ≤ rd l j ∧ rd l j ≤ p.length) : ∃ r, Ev (fun k => spec_WorthOfCut.j0 k p l b) r := by
  cases b with
  | true => exact ⟨_, Ev.step (f := fun _ => some (0, false)) (fun k => by simp [spec_WorthOfCut.j0]) (Ev.now _)⟩
  | false =>
    obtain ⟨r, hr⟩ := worth_l0 p l hl hp (ha rfl) l.length 0 0 (by omega)
    exact ⟨r, Ev.step (fun k => by simp [spec_WorthOfCut.j0]) hr⟩
theorem rdPrices_ev (l : List Int) (hl : l.length ≤ 1048576) : Ev (fun k => spec_rdPrices.f k l 1) (inB 1 60 l.length && allIn l 0 1000) := by
  unfold spec_rdPrices.f
  refine Ev.call (l1In_eq _ _ _) (Ev.ite (fun h => ?_) (fun h => ?_))
  · rw [h]
    refine Ev.bind (l1All_ev l 0 1000 hl) (Ev.ite (fun h2 => ?_) (fun h2 => ?_))
    · rw [h2]; exact Ev.call (l1In_eq 1 1 60) (Ev.now _)
    · rw [Bool.eq_false_iff.mpr h2]; exact Ev.now _
  · rw [Bool.eq_false_iff.mpr h]; exact Ev.now _
theorem arePrices_eq (l : List Int) : impl_arePrices.f l = some (inB 1 60 l.length && allIn l 0 1000) := by
  unfold impl_arePrices.f impl_areWithin.f
  rw [within_inB]
  cases h : inB 1 60 (l.length : Int) <;> simp
theorem worth_both (p l : List Int) (hp : p.length ≤ 1048576) (hl : l.length ≤ 1048576) : ∃ r, Ev (fun k => spec_WorthOfCut.f k p l) r ∧ Ev (fun k => impl_WorthOfCut.f k p l) r := by
  unfold spec_WorthOfCut.f impl_WorthOfCut.f
  obtain ⟨r0, h0⟩ := worth_j0 p l hl hp true (fun h => by cases h)
  have h0' : Ev (fun k => impl_WorthOfCut.j0 k p l true) r0 := Ev.congr (fun k => (worth_eq k).1 _ _ _) h0
  cases hb : (inB 1 60 p.length && allIn p 0 1000) with
  | false =>
    refine ⟨r0, ?_, ?_⟩
    · refine Ev.bind (rdPrices_ev p hp) ?_
      rw [hb]; exact Ev.neg (by simp) h0
    · refine Ev.call (arePrices_eq p) ?_
      rw [hb]; exact Ev.neg (by simp) h0'
  | true =>
    by_cases hn : (l.length : Int) > 60
    · refine ⟨r0, ?_, ?_⟩
      · refine Ev.bind (rdPrices_ev p hp) ?_
        rw [hb]; exact Ev.pos rfl (Ev.pos hn h0)
      · refine Ev.call (arePrices_eq p) ?_
        rw [hb]; exact Ev.pos rfl (Ev.pos hn h0')
    · obtain ⟨r, hr⟩ := worth_j0 p l hl hp (!allIn l 1 p.length) (fun h => (allIn_iff l 1 p.length).1 (by simpa using h))
      refine ⟨r, ?_, ?_⟩
      · refine Ev.bind (rdPrices_ev p hp) ?_
        rw [hb]; exact Ev.pos rfl (Ev.neg hn (Ev.bind (l1All_ev l 1 p.length hl) hr))
      · refine Ev.call (arePrices_eq p) ?_
        rw [hb]
        refine Ev.pos rfl (Ev.neg hn (Ev.call (o := impl_areWithin.f l 1 p.length) rfl ?_))
        exact Ev.congr (fun k => (worth_eq k).1 _ _ _) hr

/-! ### counts -/
def goodC (l : List Int) : Bool := inB 1 4 l.length && allIn l 0 6
theorem rdCounts_ev (l : List Int) (hl : l.length ≤ 1048576) : Ev (fun k => spec_rdCounts.f k l) (goodC l) := by
  unfold spec_rdCounts.f goodC
  refine Ev.call (l1In_eq _ _ _) (Ev.ite (fun h => ?_) (fun h => ?_))
  · rw [h]; exact Ev.bind (l1All_ev l 0 6 hl) (Ev.now _)
  · rw [Bool.eq_false_iff.mpr h]; exact Ev.now _
theorem areCounts_eq (l : List Int) : impl_areCounts.f l = some (goodC l) := by
  unfold impl_areCounts.f impl_areWithin.f goodC
  rw [within_inB]
  cases h : inB 1 4 (l.length : Int) <;> simp
def ordersV (l : List Int) : Int × Bool := if goodC l = true then (sumW 0 l, true) else (0, false)
theorem specCountOrders_ev (l : List Int) (hl : l.length ≤ 1048576) : Ev (fun k => spec_CountOrders.f k l) (ordersV l) := by
  unfold spec_CountOrders.f ordersV
  refine Ev.bind (rdCounts_ev l hl) (Ev.ite (fun h => ?_) (fun h => ?_))
  · rw [if_pos h]; exact Ev.bind (bxSum_ev l hl) (Ev.now _)
  · rw [if_neg h]; exact Ev.now _
theorem CountOrders_ev (l : List Int) (hl : l.length ≤ 1048576) : Ev (fun k => impl_CountOrders.f k l) (ordersV l) := by
  unfold impl_CountOrders.f ordersV
  refine Ev.call (areCounts_eq l) (Ev.ite (fun h => ?_) (fun h => ?_))
  · rw [if_pos h]; exact Ev.bind (sum_ev l hl) (Ev.now _)
  · rw [if_neg h]; exact Ev.now _

/-! ### a rod and lengths -/
noncomputable def goodRod (n : Int) (l : List Int) : Bool := inB 1 60 n && goodL l
theorem rdAsked_ev (n : Int) (l : List Int) (hl : l.length ≤ 1048576) : Ev (fun k => spec_rdAsked.f k n l) (goodRod n l) := by
  unfold spec_rdAsked.f goodRod
  refine Ev.call (l1In_eq _ _ _) (Ev.ite (fun h => ?_) (fun h => ?_))
  · rw [h]; exact Ev.bind (rdLengths_ev' l hl) (Ev.now _)
  · rw [Bool.eq_false_iff.mpr h]; exact Ev.now _
theorem areRod_ev (n : Int) (l : List Int) (hl : l.length ≤ 1048576) : Ev (fun k => impl_areRod.f k n l) (goodRod n l) := by
  unfold impl_areRod.f goodRod
  refine Ev.call (o := impl_isRod.f n) (a := inB 1 60 n) (by unfold impl_isRod.f; rw [within_inB]; rfl) (Ev.ite (fun h => ?_) (fun h => ?_))
  · rw [h]; exact Ev.bind (AreLengths_ev' l hl) (Ev.now _)
  · rw [Bool.eq_false_iff.mpr h]; exact Ev.now _

/-! ### how long pieces are together -/
theorem used_eq0 (k : Nat) : ∀ a b c d e, impl_used.l0 k a b c d e = spec_rdUsed.l0 k a b c d e := by
  induction k with
  | zero => intros; rfl
  | succ k ih => intros; simp only [impl_used.l0, spec_rdUsed.l0, ih]
theorem used_eq (k : Nat) (l p : List Int) : impl_used.f k l p = spec_rdUsed.f k l p := used_eq0 k _ _ _ _ _
def usedW (a : Int) : List Int → List Int → Int
  | n :: ns, x :: xs => usedW (wrap64 (a + wrap64 (n * x))) ns xs
  | _, _ => a
theorem rdUsed_l0 (l p : List Int) (hl : p.length ≤ l.length) (hp : p.length ≤ 1048576) (d : Nat) : ∀ (i : Nat) (a : Int), i + d = p.length → Ev (fun k => spec_rdUsed.l0 k l a p p.length i) (usedW a (p.drop i) (l.drop i)) := by
  induction d with
  | zero =>
    intro i a hi
    refine Ev.step (f := fun _ => some a) (fun k => ?_) ?_
    · rw [spec_rdUsed.l0, if_neg (by omega)]
    · rw [List.drop_of_length_le (by omega)]; exact Ev.now a
  | succ d ih =>
    intro i a hi
    rw [drop_rd (show i < p.length by omega), drop_rd (show i < l.length by omega)]
    refine Ev.step (fun k => ?_) (ih (i + 1) _ (by omega))
    rw [spec_rdUsed.l0, if_pos (by omega), if_pos (by omega), if_pos (by omega), if_pos (by omega), w64i i (by omega)]
theorem rdUsed_ev (l p : List Int) (hl : p.length ≤ l.length) (hp : p.length ≤ 1048576) : Ev (fun k => spec_rdUsed.f k l p) (usedW 0 p l) := by
  unfold spec_rdUsed.f
  exact rdUsed_l0 l p hl hp p.length 0 0 (by omega)
theorem used_ev (l p : List Int) (hl : p.length ≤ l.length) (hp : p.length ≤ 1048576) : Ev (fun k => impl_used.f k l p) (usedW 0 p l) := Ev.congr (fun k => used_eq k l p) (rdUsed_ev l p hl hp)
/-- With pieces and lengths of moderate size nothing wraps: each piece counts. -/
theorem usedW_ge : ∀ (p l : List Int) (a : Int) (m : Nat), p.length = l.length → p.length ≤ m → m ≤ 4 → (∀ n ∈ p, 0 ≤ n ∧ n ≤ 60) → (∀ x ∈ l, 1 ≤ x ∧ x ≤ 60) → 0 ≤ a → a ≤ 3600 * (4 - m : Nat) → a ≤ usedW a p l ∧ ∀ n ∈ p, a + n ≤ usedW a p l
  | [], [], a, m, _, _, _, _, _, _, _ => by simp [usedW]
  | [], _ :: _, _, _, h, _, _, _, _, _, _ => by simp at h
  | _ :: _, [], _, _, h, _, _, _, _, _, _ => by simp at h
  | n :: ns, x :: xs, a, m, h, hm, h4, hp, hl, ha, hb => by
    obtain ⟨n0, n1⟩ := hp n (by simp)
    obtain ⟨x0, x1⟩ := hl x (by simp)
    have h1 : n ≤ n * x := by have := Int.mul_le_mul_of_nonneg_left x0 n0; omega
    have h2 : n * x ≤ 3600 := by
      have := Int.mul_le_mul n1 x1 (by omega) (by omega)
      omega
    simp only [List.length_cons] at h hm
    have e : usedW a (n :: ns) (x :: xs) = usedW (a + n * x) ns xs := by
      show usedW (wrap64 (a + wrap64 (n * x))) ns xs = _
      rw [w64 (x := n * x) (by omega) (by omega), w64 (by omega) (by omega)]
    obtain ⟨i1, i2⟩ := usedW_ge ns xs (a + n * x) (m - 1) (by omega) (by omega) (by omega) (fun y hy => hp y (by simp [hy])) (fun y hy => hl y (by simp [hy])) (by omega) (by omega)
    rw [e]
    refine ⟨by omega, fun y hy => ?_⟩
    rcases List.mem_cons.1 hy with rfl | hy
    · omega
    · have := i2 y hy; omega

/-! ### patterns -/
noncomputable def isPat (n : Int) (l p : List Int) : Bool := decide (p.length = l.length) && (allIn p 0 60 && decide (usedW 0 p l ≤ n))
theorem rdIs_ev (n : Int) (l p : List Int) (hp : p.length ≤ 1048576) : Ev (fun k => spec_rdIs.f k n l p) (isPat n l p) := by
  unfold spec_rdIs.f isPat
  refine Ev.ite (fun h => ?_) (fun h => ?_)
  · have h' : p.length = l.length := by omega
    rw [decide_eq_true h', Bool.true_and]
    refine Ev.bind (l1All_ev p 0 60 hp) (Ev.ite (fun h2 => ?_) (fun h2 => ?_))
    · rw [h2]; exact Ev.bind (rdUsed_ev l p (by omega) hp) (Ev.now _)
    · rw [Bool.eq_false_iff.mpr h2]; exact Ev.now _
  · have h' : ¬ p.length = l.length := by omega
    rw [decide_eq_false h']; exact Ev.now _
theorem mem_rd {l : List Int} {x : Int} (h : x ∈ l) : ∃ j : Nat, j < l.length ∧ rd l j = x := by
  obtain ⟨j, hj, rfl⟩ := List.mem_iff_getElem.1 h
  exact ⟨j, hj, rd_get hj⟩
theorem isPattern_ev (n : Int) (l p : List Int) (hp : p.length ≤ 1048576) (hg : goodRod n l = true) : Ev (fun k => impl_isPattern.f k n l p) (isPat n l p) := by
  unfold impl_isPattern.f isPat
  have hg' := hg
  unfold goodRod at hg'
  rw [Bool.and_eq_true, inB_iff, goodL_iff] at hg'
  obtain ⟨⟨n0, n1⟩, ⟨l0, l1⟩, l2, _⟩ := hg'
  refine Ev.ite (fun h => ?_) (fun h => ?_)
  · have h' : p.length = l.length := by omega
    rw [decide_eq_true h', Bool.true_and]
    refine Ev.call (o := impl_areWithin.f p 0 n) (a := allIn p 0 n) rfl (Ev.ite (fun h2 => ?_) (fun h2 => ?_))
    · have h3 : allIn p 0 60 = true := (allIn_iff _ _ _).2 (fun j hj => by have := (allIn_iff _ _ _).1 h2 j hj; omega)
      rw [h3]; exact Ev.bind (used_ev l p (by omega) hp) (Ev.now _)
    · have : (allIn p 0 60 && decide (usedW 0 p l ≤ n)) = false := by
        rw [Bool.eq_false_iff]
        intro h3
        rw [Bool.and_eq_true, decide_eq_true_eq] at h3
        refine h2 ((allIn_iff _ _ _).2 (fun j hj => ?_))
        have h4 := (allIn_iff _ _ _).1 h3.1
        obtain ⟨_, h5⟩ := usedW_ge p l 0 4 h' (by omega) (by omega) (fun y hy => by obtain ⟨j, hj, rfl⟩ := mem_rd hy; exact h4 j hj) (fun y hy => by obtain ⟨j, hj, rfl⟩ := mem_rd hy; exact l2 j hj) (by omega) (by omega)
        have := h5 (rd p j) (by rw [rd_get hj]; exact List.getElem_mem hj)
        have := h4 j hj
        omega
      rw [this]; exact Ev.now _
  · have h' : ¬ p.length = l.length := by omega
    rw [decide_eq_false h']; exact Ev.now _

end Go.Proofs.Ytoicfnhpjfgjmaa.Q
