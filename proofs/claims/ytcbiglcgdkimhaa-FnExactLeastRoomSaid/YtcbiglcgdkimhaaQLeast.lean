/- LeastRoom: both texts find the same room. Conditions: at most 9 things from 1 to 100, 1 to 9 boxes. -/
import Derived.Test.YtcbiglcgdkimhaaPx0
import Derived.Test.YtcbiglcgdkimhaaPx4
import Derived.Test.YtcbiglcgdkimhaaPx6
import Derived.Test.YtcbiglcgdkimhaaPx9
import Derived.Test.YtcbiglcgdkimhaaPx11
import Derived.Test.YtcbiglcgdkimhaaPx12
import Derived.Test.YtcbiglcgdkimhaaQPlansB
namespace Go.Proofs.Ytcbiglcgdkimhaa.Q
open Go.RowKit Go.Proofs.Ytcbiglcgdkimhaa.P Go.Proofs.YtcbiglcgdkimhaaW.PrintWords Go.Proofs.YtcbiglcgdkimhaaW.PrintLast
set_option linter.unusedVariables false
set_option linter.unusedSimpArgs false

/-! ### sums -/
def sumW : Int → List Int → Int
  | a, [] => a
  | a, x :: xs => sumW (wrap64 (a + x)) xs
theorem bxSum_l0 (l : List Int) (hl : l.length ≤ 1048576) (d : Nat) : ∀ (i : Nat) (a : Int), i + d = l.length → Ev (fun k => spec_bxSum.l0 k a l l.length i) (sumW a (l.drop i)) := by
  induction d with
  | zero =>
    intro i a hi
    refine Ev.step (f := fun _ => some a) (fun k => ?_) ?_
    · rw [spec_bxSum.l0, if_neg (by omega)]
    · rw [List.drop_of_length_le (by omega)]; exact Ev.now a
  | succ d ih =>
    intro i a hi
    have hlt : i < l.length := by omega
    rw [drop_rd hlt]
    refine Ev.step (f := fun k => spec_bxSum.l0 k (wrap64 (a + rd l i)) l l.length ((i + 1 : Nat) : Int)) (fun k => ?_) (ih (i + 1) _ (by omega))
    rw [spec_bxSum.l0, if_pos (by omega), if_pos (by omega), if_pos (by omega), w64i i (by omega)]
theorem bxSum_ev (l : List Int) (hl : l.length ≤ 1048576) : Ev (fun k => spec_bxSum.f k l) (sumW 0 l) := by
  unfold spec_bxSum.f
  exact bxSum_l0 l hl l.length 0 0 (by omega)
theorem sumW_add : ∀ (l : List Int) (a : Int), (∀ x ∈ l, 0 ≤ x ∧ x ≤ 100000) → 0 ≤ a → a + 100000 * (l.length : Int) ≤ 9000000000000000000 → sumW a l = a + l.sum
  | [], a, _, _, _ => by simp [sumW]
  | x :: xs, a, hx, ha, hb => by
    have h1 := hx x (by simp)
    simp only [List.length_cons] at hb
    simp only [sumW, List.sum_cons]
    rw [w64 (by omega) (by omega), sumW_add xs (a + x) (fun y hy => hx y (by simp [hy])) (by omega) (by omega)]
    omega
theorem sum_put : ∀ (l : List Int) (i : Nat) (y : Int), i < l.length → (l.set i y).sum = l.sum - rd l i + y
  | [], i, y, h => by simp at h
  | x :: xs, 0, y, h => by simp [rd]; omega
  | x :: xs, i + 1, y, h => by
    have := sum_put xs i y (by simpa using h)
    have e : rd (x :: xs) ((i + 1 : Nat) : Int) = rd xs (i : Nat) := by simp only [rd, List.getD_eq_getElem?_getD, Int.toNat_natCast, List.getElem?_cons_succ]
    rw [e, List.set_cons_succ, List.sum_cons, List.sum_cons, this]; omega
theorem sum_le : ∀ (l : List Int) (c : Int), (∀ x ∈ l, x ≤ c) → l.sum ≤ l.length * c
  | [], c, _ => by simp
  | x :: xs, c, h => by
    have h1 := h x (by simp)
    have h2 := sum_le xs c (fun y hy => h y (by simp [hy]))
    simp only [List.sum_cons, List.length_cons]
    have : ((xs.length + 1 : Nat) : Int) * c = xs.length * c + c := by rw [Int.natCast_add, Int.add_mul]; simp
    omega
theorem sum_ge : ∀ (l : List Int), (∀ x ∈ l, 0 ≤ x) → 0 ≤ l.sum
  | [], _ => by simp
  | x :: xs, h => by
    have h1 := h x (by simp)
    have h2 := sum_ge xs (fun y hy => h y (by simp [hy]))
    simp only [List.sum_cons]; omega
/-- The loads then: small, and together a thing more. -/
theorem next_sum (l : List Int) (k : Nat) (x room : Int) (hk : k ≤ l.length) (hx : 0 ≤ x ∧ x ≤ 1000) (hr : room ≤ 1000) (hl : ∀ y ∈ l, 0 ≤ y ∧ y ≤ room) (h : rd (nextLoads l k x) k ≤ room) (h0 : 0 ≤ room) :
    (nextLoads l k x).sum = l.sum + x ∧ ∀ y ∈ nextLoads l k x, 0 ≤ y ∧ y ≤ room := by
  obtain ⟨z, hz⟩ : ∃ z, z = if k = l.length then l ++ [0] else l := ⟨_, rfl⟩
  have hzl : k < z.length := by rw [hz]; split <;> (try simp) <;> omega
  have hzs : z.sum = l.sum := by rw [hz]; split <;> (try simp)
  have hzm : ∀ y ∈ z, 0 ≤ y ∧ y ≤ room := by
    intro y hy
    rw [hz] at hy
    split at hy
    · rcases List.mem_append.1 hy with hy | hy
      · exact hl y hy
      · simp at hy; omega
    · exact hl y hy
  have hn : nextLoads l k x = z.set k (wrap64 (rd z k + x)) := by unfold nextLoads; rw [← hz]
  have hzk := hzm (rd z k) (by rw [rd_get hzl]; exact List.getElem_mem hzl)
  have hw : wrap64 (rd z k + x) = rd z k + x := w64 (by omega) (by omega)
  rw [hn, hw] at h
  rw [rdSelf hzl] at h
  rw [hn, hw]
  refine ⟨by rw [sum_put z k _ hzl, hzs]; omega, fun y hy => ?_⟩
  rcases List.mem_or_eq_of_mem_set hy with hy | rfl
  · exact hzm y hy
  · omega
theorem OKq_sum (room : Int) (boxes : Nat) (hr0 : 0 ≤ room) (hr : room ≤ 1000) : ∀ (xs q l : List Int), OKq room xs q l → (∀ b ∈ q, b < (boxes : Int)) → (∀ x ∈ xs, 0 ≤ x ∧ x ≤ 1000) → l.length ≤ boxes → (∀ y ∈ l, 0 ≤ y ∧ y ≤ room) → l.sum + xs.sum ≤ boxes * room
  | [], [], l, _, _, _, hb, hl => by
    have h1 := sum_le l room (fun y hy => (hl y hy).2)
    have h2 : (l.length : Int) * room ≤ boxes * room := Int.mul_le_mul_of_nonneg_right (by omega) hr0
    simp; omega
  | x :: xs, b :: q, l, h, hlt, hx, hb, hl => by
    obtain ⟨k, rfl, hk, hrd, h1⟩ := h
    have hkb := hlt k (by simp)
    obtain ⟨hs, hm⟩ := next_sum l k x room hk (hx x (by simp)) hr hl hrd hr0
    have hnl : (nextLoads l k x).length ≤ boxes := by
      unfold nextLoads
      split
      · simp; omega
      · simp; omega
    have := OKq_sum room boxes hr0 hr xs q _ h1 (fun b hb => hlt b (by simp [hb])) (fun y hy => hx y (by simp [hy])) hnl hm
    simp only [List.sum_cons]; omega
  | [], _ :: _, _, h, _, _, _, _ => h.elim
  | _ :: _, [], _, h, _, _, _, _ => h.elim
theorem one_box (room : Int) (most : Int) (hm : 1 ≤ most) (hr : room ≤ 1000) : ∀ (xs p : List Int) (y : Int), 0 ≤ y → (∀ x ∈ xs, 0 ≤ x) → y + xs.sum ≤ room → plansL room most xs p [y] ≠ []
  | [], p, y, _, _, _ => by simp [plansL]
  | x :: xs, p, y, hy, hx, hs => by
    have hx1 := hx x (by simp)
    have hs0 := sum_ge xs (fun y hy => hx y (by simp [hy]))
    simp only [List.sum_cons] at hs
    have hn : nextLoads [y] 0 x = [y + x] := by
      unfold nextLoads
      rw [if_neg (by simp)]
      simp [rd]
      exact w64 (by omega) (by omega)
    have ih := one_box room most hm hr xs (p ++ [((0 : Nat) : Int)]) (y + x) (by omega) (fun y hy => hx y (by simp [hy])) (by omega)
    obtain ⟨q, hq⟩ := List.exists_mem_of_ne_nil _ ih
    intro h
    have : q ∈ plansL room most (x :: xs) p [y] := by
      simp only [plansL, List.mem_flatMap, List.mem_range]
      refine ⟨0, by simp; omega, ?_⟩
      rw [hn, if_pos (by simp [rd]; omega)]
      exact hq
    rw [h] at this; simp at this
theorem one_box0 (room : Int) (most : Int) (hm : 1 ≤ most) (hr : room ≤ 1000) (xs : List Int) (hx : ∀ x ∈ xs, 0 ≤ x) (hs : xs.sum ≤ room) : plansL room most xs [] [] ≠ [] := by
  cases xs with
  | nil => simp [plansL]
  | cons x xs =>
    have hx1 := hx x (by simp)
    have hs0 := sum_ge xs (fun y hy => hx y (by simp [hy]))
    simp only [List.sum_cons] at hs
    have hn : nextLoads [] 0 x = [x] := by
      unfold nextLoads
      rw [if_pos (by simp)]
      simp [rd]
      exact w64 (by omega) (by omega)
    have ih := one_box room most hm hr xs ([] ++ [((0 : Nat) : Int)]) x (by omega) (fun y hy => hx y (by simp [hy])) (by omega)
    obtain ⟨q, hq⟩ := List.exists_mem_of_ne_nil _ ih
    intro h
    have : q ∈ plansL room most (x :: xs) [] [] := by
      simp only [plansL, List.mem_flatMap, List.mem_range]
      refine ⟨0, by simp; omega, ?_⟩
      rw [hn, if_pos (by simp [rd]; omega)]
      exact hq
    rw [h] at this; simp at this
theorem plans_mono (room : Int) (a b : Int) (h : a ≤ b) (xs : List Int) (hne : plansL room a xs [] [] ≠ []) : plansL room b xs [] [] ≠ [] := by
  obtain ⟨q, hq⟩ := List.exists_mem_of_ne_nil _ hne
  obtain ⟨q', h1, h2, h3⟩ := (mem_plans _ _ _ _ _ _).1 hq
  have := (mem_plans room b xs [] [] q).2 ⟨q', h1, h2, fun c hc => by have := h3 c hc; omega⟩
  intro h; rw [h] at this; simp at this
theorem least_run (t : List Int) (boxes : Nat) (ht : t.length ≤ 9) (h0 : 0 < t.length) (M : Nat) (hx : ∀ x ∈ t, 0 ≤ x ∧ x ≤ (M : Int) ∧ x ≤ 1000) : ∀ (e room : Nat), M ≤ room → room + e ≤ 1000 → plansL ((room + e : Nat) : Int) (boxes : Int) t [] [] ≠ [] →
    ∃ r : Nat, room ≤ r ∧ Ev (fun k => leastL k t (boxes : Int) (room : Int)) (r : Int) ∧ Ev (fun k => spec_LeastRoom.l0 k t (boxes : Int) (room : Int)) ((r : Int), true)
  | e, room, hM, hb, hne => by
    obtain ⟨m, h1, h2, h3, h4, h5, _⟩ := few_both t (room : Int) ht h0 (fun x h => by have := hx x h; omega)
    by_cases hE : plansL (room : Int) (boxes : Int) t [] [] = []
    · have hmb : ¬ (m : Int) ≤ (boxes : Int) := fun h => plans_mono _ _ _ h t h3 hE
      cases e with
      | zero => rw [Nat.add_zero] at hne; exact absurd hE hne
      | succ e =>
        obtain ⟨r, k1, k2, k3⟩ := least_run t boxes ht h0 M hx e (room + 1) (by omega) (by omega) (by rw [show room + 1 + e = room + (e + 1) by omega]; exact hne)
        refine ⟨r, by omega, Ev.step (fun k => ?_) k2, Ev.step (fun k => by rw [spec_LeastRoom.l0]) (Ev.bind h5 (Ev.neg hmb ?_))⟩
        · rw [leastL, if_pos (by rw [hE]; rfl), w64i room (by omega)]
        · rw [w64i room (by omega)]; exact k3
    · have hmb : (m : Int) ≤ (boxes : Int) := by
        rcases Nat.lt_or_ge boxes m with h | h
        · rcases Nat.eq_zero_or_pos boxes with hz | hz
          · exfalso
            apply hE
            have : plansL (room : Int) ((boxes : Nat) : Int) t [] [] = [] := by
              match t, h0 with
              | x :: xs, _ =>
                subst hz
                simp only [plansL]
                rw [show (min ((([] : List Int).length : Int) + 1) ((0 : Nat) : Int)).toNat = 0 by simp only [List.length_nil]; omega]
                rfl
            exact this
          · exact absurd (h4 boxes hz h) hE
        · omega
      refine ⟨room, Nat.le_refl _, Ev.step (f := fun _ => some (room : Int)) (fun k => ?_) (Ev.now _), Ev.step (fun k => by rw [spec_LeastRoom.l0]) (Ev.bind h5 (Ev.pos hmb (Ev.now _)))⟩
      rw [leastL, if_neg (by simpa using hE)]
theorem least_skip (t : List Int) (boxes : Int) (r : Int) : ∀ (e room : Nat), room + e ≤ 1000 → (∀ j : Nat, room ≤ j → j < room + e → plansL (j : Int) boxes t [] [] = []) → Ev (fun k => leastL k t boxes ((room + e : Nat) : Int)) r → Ev (fun k => leastL k t boxes (room : Int)) r
  | 0, room, _, _, h => h
  | e + 1, room, hb, hj, h => by
    have := least_skip t boxes r e (room + 1) (by omega) (fun j h1 h2 => hj j (by omega) (by omega)) (by rw [show room + 1 + e = room + (e + 1) by omega]; exact h)
    refine Ev.step (fun k => ?_) this
    rw [leastL, if_pos (by rw [hj room (by omega) (by omega)]; rfl), w64i room (by omega)]
theorem mostL_mem (l : List Int) : ∀ a : Int, mostL a l = a ∨ mostL a l ∈ l := by
  induction l with
  | nil => intro a; exact .inl rfl
  | cons x xs ih =>
    intro a
    rcases ih (mx a x) with h | h
    · show mostL (mx a x) xs = a ∨ mostL (mx a x) xs ∈ x :: xs
      rw [h]
      unfold mx
      by_cases c : a < x
      · rw [if_pos c]; exact .inr (by simp)
      · rw [if_neg c]; exact .inl rfl
    · exact .inr (List.mem_cons_of_mem _ h)
theorem leastRoom_both (l : List Int) (boxes : Int) (hl : l.length ≤ 1048576) : ∃ r, Ev (fun k => spec_LeastRoom.f k l boxes) r ∧ Ev (fun k => impl_LeastRoom.f k l boxes) r := by
  unfold spec_LeastRoom.f impl_LeastRoom.f
  have hno : Ev (fun k => spec_LeastRoom.j0 k l boxes true) (0, false) := Ev.step (f := fun _ => some (0, false)) (fun k => by rw [spec_LeastRoom.j0, if_pos rfl]) (Ev.now _)
  by_cases hg : goodT l = true
  · have hg2 := (goodT_iff l).1 hg
    have hm : ∀ x ∈ l, 1 ≤ x ∧ x ≤ 100 := fun x hx => by
      obtain ⟨j, hj, rfl⟩ := List.mem_iff_getElem.1 hx
      rw [← rd_get hj]; exact hg2.2 j hj
    by_cases hb : inB 1 9 boxes = true
    · have hb2 := (inB_iff _ _ _).1 hb
      obtain ⟨bx, rfl⟩ : ∃ bx : Nat, boxes = bx := ⟨boxes.toNat, by omega⟩
      have hM0 := mostL_ge l 0
      obtain ⟨M, hM⟩ : ∃ M : Nat, mostL 0 l = M := ⟨(mostL 0 l).toNat, by omega⟩
      have hMl : (M : Int) ≤ 100 := by
        rcases mostL_mem l 0 with h | h
        · omega
        · have := hm _ h; omega
      have hS : sumW 0 l = l.sum := by
        rw [sumW_add l 0 (fun x hx => by have := hm x hx; omega) (by omega) (by omega)]; omega
      have hS0 := sum_ge l (fun x hx => by have := hm x hx; omega)
      have hS1 := sum_le l 100 (fun x hx => (hm x hx).2)
      have hS2 : l.sum ≤ 900 := by have : (l.length : Int) * 100 ≤ 9 * 100 := Int.mul_le_mul_of_nonneg_right (by omega) (by omega); omega
      have hq : wrap64 (Int.tdiv (wrap64 ((wrap64 (sumW 0 l + (bx : Int))) - 1)) (bx : Int)) = (l.sum + bx - 1) / bx := by
        have e1 : wrap64 (l.sum + (bx : Int)) = l.sum + bx := w64 (by omega) (by omega)
        have e2 : wrap64 (l.sum + (bx : Int) - 1) = l.sum + bx - 1 := w64 (by omega) (by omega)
        rw [hS, e1, e2, Int.tdiv_eq_ediv_of_nonneg (by omega)]
        have h1 : 0 ≤ (l.sum + bx - 1) / (bx : Int) := Int.ediv_nonneg (by omega) (by omega)
        have h2 : (l.sum + bx - 1) / (bx : Int) ≤ l.sum + bx - 1 := Int.ediv_le_self _ (by omega)
        exact w64 (by omega) (by omega)
      obtain ⟨c, hc⟩ : ∃ c : Nat, (l.sum + bx - 1) / (bx : Int) = c := ⟨((l.sum + bx - 1) / (bx : Int)).toNat, by have : 0 ≤ (l.sum + bx - 1) / (bx : Int) := Int.ediv_nonneg (by omega) (by omega); omega⟩
      have hcb : (bx : Int) * c ≤ l.sum + bx - 1 := by rw [← hc]; exact Int.mul_ediv_self_le (by omega)
      have hc9 : (c : Int) ≤ 900 := by
        have : (c : Int) ≤ bx * c := by
          have h : (1 : Int) * c ≤ bx * c := Int.mul_le_mul_of_nonneg_right (by omega) (by omega)
          omega
        rcases Nat.lt_or_ge 900 c with h | h
        · have h2 : (bx : Int) * 901 ≤ bx * c := Int.mul_le_mul_of_nonneg_left (by omega) (by omega)
          omega
        · omega
      obtain ⟨st, hst⟩ : ∃ st : Nat, st = max M c := ⟨_, rfl⟩
      have hmx : mx (M : Int) (c : Int) = (st : Int) := by unfold mx; omega
      obtain ⟨r, hr0, hr1, hr2⟩ := least_run l bx hg2.1.2 (by omega) M (fun x hx => by have h1 := hm x hx; have h2 := hM0.2 x hx; omega) (900 - st) st (by omega) (by omega) (by
        rw [show st + (900 - st) = 900 by omega]
        exact one_box0 _ _ (by omega) (by omega) l (fun x hx => by have := hm x hx; omega) (by omega))
      have hskip : Ev (fun k => leastL k l (bx : Int) (M : Int)) (r : Int) := by
        refine least_skip l bx r (st - M) M (by omega) (fun j h1 h2 => ?_) (by rw [show M + (st - M) = st by omega]; exact hr1)
        cases hE : plansL (j : Int) (bx : Int) l [] [] with
        | nil => rfl
        | cons q E =>
          exfalso
          obtain ⟨q', e1, e2, e3⟩ := (mem_plans (j : Int) (bx : Int) l [] [] q).1 (by rw [hE]; simp)
          have hs := OKq_sum (j : Int) bx (by omega) (by omega) l q' [] e2 e3 (fun x hx => by have := hm x hx; omega) (by simp) (by simp)
          have hjc : (bx : Int) * j ≤ bx * ((c : Int) - 1) := Int.mul_le_mul_of_nonneg_left (by omega) (by omega)
          have : (bx : Int) * ((c : Int) - 1) = bx * c - bx := by rw [Int.mul_sub, Int.mul_one]
          simp at hs
          omega
      refine ⟨((r : Int), true), Ev.bind (bxGood_ev l hl) (Ev.pos hg (Ev.call (l1In_eq _ _ _) ?_)), Ev.call (AreThings_eq l) (Ev.pos hg (Ev.pos hb (Ev.bind (Max_ev l hl (by omega) ?_) (Ev.bind (by rw [hM]; exact hskip) (Ev.now _)))))⟩
      · refine Ev.step (fun k => by rw [hb, spec_LeastRoom.j0, if_neg (by simp)]) ?_
        refine Ev.bind (bxMost_ev l hl) (Ev.bind (bxSum_ev l hl) (Ev.neg (by omega) ?_))
        rw [hq, hc, hM]
        refine Ev.call (l1Most_eq _ _) ?_
        rw [hmx]; exact hr2
      · have := hg2.2 0 (by omega); simp at this; omega
    · refine ⟨(0, false), Ev.bind (bxGood_ev l hl) (Ev.pos hg (Ev.call (l1In_eq _ _ _) ?_)), Ev.call (AreThings_eq l) (Ev.pos hg (Ev.neg hb (Ev.now _)))⟩
      rw [Bool.eq_false_iff.mpr hb]; exact hno
  · exact ⟨(0, false), Ev.bind (bxGood_ev l hl) (Ev.neg hg hno), Ev.call (AreThings_eq l) (Ev.neg hg (Ev.now _))⟩

end Go.Proofs.Ytcbiglcgdkimhaa.Q
