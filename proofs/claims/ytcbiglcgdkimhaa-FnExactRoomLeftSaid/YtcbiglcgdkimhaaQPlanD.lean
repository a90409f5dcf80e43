/- RoomLeft: both texts answer the same pair: the loads together are the things together. Conditions: at most 1048576 elements. -/
import Derived.Test.YtcbiglcgdkimhaaPx0
import Derived.Test.YtcbiglcgdkimhaaPx6
import Derived.Test.YtcbiglcgdkimhaaPx11
import Derived.Test.YtcbiglcgdkimhaaQPlanC
import Derived.Test.YtcbiglcgdkimhaaQBoxS
namespace Go.Proofs.Ytcbiglcgdkimhaa.Q
open Go.RowKit Go.Proofs.Ytcbiglcgdkimhaa.P Go.Proofs.YtcbiglcgdkimhaaW.PrintWords Go.Proofs.YtcbiglcgdkimhaaW.PrintLast
set_option linter.unusedVariables false
set_option linter.unusedSimpArgs false

theorem sumW_sum : ∀ (l : List Int) (a : Int), (∀ x ∈ l, 0 ≤ x ∧ x ≤ 100000) → 0 ≤ a → a + 100000 * (l.length : Int) ≤ 9000000000000000000 → sumW a l = a + l.sum
  | [], a, _, _, _ => by simp [sumW]
  | x :: xs, a, hx, ha, hb => by
    have h1 := hx x (by simp)
    simp only [List.length_cons] at hb
    simp only [sumW, List.sum_cons]
    rw [w64 (by omega) (by omega), sumW_sum xs (a + x) (fun y hy => hx y (by simp [hy])) (by omega) (by omega)]
    omega
theorem sum_set : ∀ (l : List Int) (i : Nat) (y : Int), i < l.length → (l.set i y).sum = l.sum - rd l i + y
  | [], i, y, h => by simp at h
  | x :: xs, 0, y, h => by simp [rd]; omega
  | x :: xs, i + 1, y, h => by
    have := sum_set xs i y (by simpa using h)
    have e : rd (x :: xs) ((i + 1 : Nat) : Int) = rd xs (i : Nat) := by simp only [rd, List.getD_eq_getElem?_getD, Int.toNat_natCast, List.getElem?_cons_succ]
    rw [e, List.set_cons_succ, List.sum_cons, List.sum_cons, this]; omega
theorem addL_sum : ∀ (bs xs loads : List Int) (t : Nat), bs.length = xs.length → (∀ x ∈ xs, 1 ≤ x ∧ x ≤ 100) → t + xs.length ≤ 100 → (∀ j : Nat, j < loads.length → 0 ≤ rd loads j ∧ rd loads j ≤ 100 * (t : Int)) → (∀ b ∈ bs, 0 ≤ b ∧ b < (loads.length : Int)) → (addL loads bs xs).sum = loads.sum + xs.sum ∧ ∀ j : Nat, j < loads.length → 0 ≤ rd (addL loads bs xs) j ∧ rd (addL loads bs xs) j ≤ 10000
  | [], [], loads, t, _, _, ht, hl, _ => by simp only [addL]; exact ⟨by simp, fun j hj => by have := hl j hj; simp at ht; omega⟩
  | b :: bs, x :: xs, loads, t, he, hx, ht, hl, hb => by
    simp only [addL]
    simp only [List.length_cons] at ht he
    have hx1 := hx x (by simp)
    obtain ⟨b', rfl⟩ : ∃ b' : Nat, b = b' := ⟨b.toNat, by have := hb b (by simp); omega⟩
    have hb1 := hb b' (by simp)
    have hlb := hl b' (by omega)
    have hw : wrap64 (rd loads b' + x) = rd loads b' + x := w64 (by omega) (by omega)
    rw [hw, Int.toNat_natCast]
    obtain ⟨h1, h2⟩ := addL_sum bs xs (loads.set b' (rd loads b' + x)) (t + 1) (by omega) (fun y hy => hx y (by simp [hy])) (by omega) (fun j hj => by
      rw [List.length_set] at hj
      by_cases e : b' = j
      · subst e; rw [rds_self (by omega)]; omega
      · rw [rds_ne e]; have := hl j hj; omega) (fun y hy => by rw [List.length_set]; exact hb y (by simp [hy]))
    rw [List.length_set] at h2
    refine ⟨?_, h2⟩
    rw [h1, sum_set _ _ _ (by omega), List.sum_cons]; omega
  | [], _ :: _, _, _, h, _, _, _, _ => by simp at h
  | _ :: _, [], _, _, h, _, _, _, _ => by simp at h
theorem rep_rd (n j : Nat) : rd (List.replicate n 0) j = 0 := by
  simp only [rd, List.getD_eq_getElem?_getD, Int.toNat_natCast, List.getElem?_replicate]
  split <;> rfl
theorem sum_rep (n : Nat) : (List.replicate n (0 : Int)).sum = 0 := by
  induction n with
  | zero => rfl
  | succ n ih => rw [List.replicate_succ, List.sum_cons, ih]; omega
theorem loads_sum {l p : List Int} (hg : goodT l = true) (hp : p.length = l.length) (hc : canonB 0 p = true) : sumW 0 (addL (List.replicate (cntM 0 p) 0) p l) = sumW 0 l := by
  have hm := good_mem hg
  obtain ⟨h1, h2⟩ := addL_sum p l (List.replicate (cntM 0 p) 0) 0 hp hm.2.2 (by omega) (fun j hj => by rw [rep_rd]; omega) (fun b hb => by rw [List.length_replicate]; exact canon_lt p 0 hc b hb)
  rw [List.length_replicate] at h2
  have hcl := cnt_le p 0
  rw [sumW_sum _ 0 (fun x hx => ?_) (by omega) (by rw [addL_len, List.length_replicate]; omega), sumW_sum l 0 (fun x hx => by have := hm.2.2 x hx; omega) (by omega) (by omega), h1, sum_rep]
  · omega
  · obtain ⟨j, hj, rfl⟩ := List.mem_iff_getElem.1 hx
    rw [← rd_get hj]
    rw [addL_len, List.length_replicate] at hj
    have := h2 j hj; omega
theorem roomLeft_both (l : List Int) (room : Int) (p : List Int) (hl : l.length ≤ 1048576) (hp : p.length ≤ 1048576) : ∃ r, Ev (fun k => spec_RoomLeft.f k l room p) r ∧ Ev (fun k => impl_RoomLeft.f k l room p) r := by
  unfold spec_RoomLeft.f impl_RoomLeft.f
  have hs := specLoadsOf_ev l room p hl
  have hi := LoadsOf_ev l room p hl hp
  have hlen := loadsV_len l room p hp
  by_cases h : (loadsV l room p).2 = true
  · refine ⟨_, Ev.bind hs (Ev.pos h (Ev.bind (bxSum_ev l hl) (Ev.now _))), Ev.bind hi (Ev.bind (sum_ev _ hlen) (Ev.val (Ev.now _) ?_))⟩
    rw [h, Int.mul_comm]
    congr 3
    unfold loadsV at h ⊢
    by_cases ha : askedB l room = true
    · rw [if_pos ha] at h ⊢
      obtain ⟨e, h3, h4⟩ := planV_yes h
      rw [e]
      exact loads_sum (asked_good ha) h3 h4
    · rw [if_neg ha] at h; cases h
  · refine ⟨_, Ev.bind hs (Ev.neg h (Ev.now _)), Ev.bind hi (Ev.bind (sum_ev _ hlen) (Ev.val (Ev.now _) ?_))⟩
    have e : loadsV l room p = ([], false) := by
      unfold loadsV at h ⊢
      by_cases ha : askedB l room = true
      · rw [if_pos ha] at h ⊢; exact planV_no h
      · rw [if_neg ha]
    rw [e]
    simp only [sumW, List.length_nil]
    rw [show wrap64 (((0 : Nat) : Int) * room) = 0 by rw [show ((0 : Nat) : Int) * room = 0 by simp]; exact w64 (by omega) (by omega), show wrap64 ((0 : Int) - 0) = 0 from w64 (by omega) (by omega)]
end Go.Proofs.Ytcbiglcgdkimhaa.Q
