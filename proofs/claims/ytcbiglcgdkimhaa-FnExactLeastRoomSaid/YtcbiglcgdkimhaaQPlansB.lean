/- The fewest boxes: both texts find the same number, the same first plan and the same count. Conditions: at most 9 things. -/
import Derived.Test.YtcbiglcgdkimhaaPx0
import Derived.Test.YtcbiglcgdkimhaaPx6
import Derived.Test.YtcbiglcgdkimhaaPx11
import Derived.Test.YtcbiglcgdkimhaaPx13
import Derived.Test.YtcbiglcgdkimhaaPx14
import Derived.Test.YtcbiglcgdkimhaaPx15
import Derived.Test.YtcbiglcgdkimhaaPx16
import Derived.Test.YtcbiglcgdkimhaaPx17
import Derived.Test.YtcbiglcgdkimhaaQPlansA
namespace Go.Proofs.Ytcbiglcgdkimhaa.Q
open Go.RowKit Go.Proofs.Ytcbiglcgdkimhaa.P Go.Proofs.YtcbiglcgdkimhaaW.PrintWords Go.Proofs.YtcbiglcgdkimhaaW.PrintLast
set_option linter.unusedVariables false
set_option linter.unusedSimpArgs false

/-! ### what a plan is, without the number of boxes -/
def OKq (room : Int) : List Int → List Int → List Int → Prop
  | [], [], _ => True
  | x :: xs, b :: q, l => ∃ k : Nat, b = (k : Int) ∧ k ≤ l.length ∧ rd (nextLoads l k x) k ≤ room ∧ OKq room xs q (nextLoads l k x)
  | _, _, _ => False
theorem mem_plans (room most : Int) : ∀ (xs p l pl : List Int), pl ∈ plansL room most xs p l ↔ ∃ q, pl = p ++ q ∧ OKq room xs q l ∧ ∀ b ∈ q, b < most
  | [], p, l, pl => by
    simp only [plansL, List.mem_singleton]
    constructor
    · rintro rfl; exact ⟨[], by simp, trivial, by simp⟩
    · rintro ⟨q, rfl, h, _⟩
      cases q with
      | nil => simp
      | cons b q => exact h.elim
  | x :: xs, p, l, pl => by
    simp only [plansL, List.mem_flatMap, List.mem_range]
    constructor
    · rintro ⟨k, hk, h⟩
      by_cases hr : rd (nextLoads l k x) k ≤ room
      · rw [if_pos hr] at h
        obtain ⟨q, rfl, h1, h2⟩ := (mem_plans room most xs _ _ pl).1 h
        refine ⟨(k : Int) :: q, by simp, ⟨k, rfl, by omega, hr, h1⟩, ?_⟩
        intro b hb
        rcases List.mem_cons.1 hb with rfl | hb
        · omega
        · exact h2 b hb
      · rw [if_neg hr] at h; simp at h
    · rintro ⟨q, rfl, h, h2⟩
      cases q with
      | nil => exact h.elim
      | cons b q =>
        obtain ⟨k, rfl, hk, hr, h1⟩ := h
        have := h2 k (by simp)
        refine ⟨k, by omega, ?_⟩
        rw [if_pos hr]
        exact (mem_plans room most xs _ _ _).2 ⟨q, by simp, h1, fun b hb => h2 b (by simp [hb])⟩
theorem OKq_len (room : Int) : ∀ (xs q l : List Int), OKq room xs q l → q.length = xs.length ∧ ∀ b ∈ q, 0 ≤ b
  | [], [], l, h => by simp
  | x :: xs, b :: q, l, h => by
    obtain ⟨k, rfl, _, _, h1⟩ := h
    obtain ⟨h2, h3⟩ := OKq_len room xs q _ h1
    refine ⟨by simp [h2], ?_⟩
    intro b hb
    rcases List.mem_cons.1 hb with rfl | hb
    · omega
    · exact h3 b hb
  | [], _ :: _, _, h => h.elim
  | _ :: _, [], _, h => h.elim
theorem plans_some (room most : Int) : ∀ (xs p l : List Int), (∀ x ∈ xs, 0 ≤ x ∧ x ≤ room ∧ x ≤ 1000) → (l.length : Int) + xs.length ≤ most → plansL room most xs p l ≠ []
  | [], p, l, _, _ => by simp [plansL]
  | x :: xs, p, l, hx, hm => by
    have hx1 := hx x (by simp)
    simp only [List.length_cons] at hm
    have hn : nextLoads l l.length x = l ++ [x] := by
      unfold nextLoads
      rw [if_pos rfl]
      have : rd (l ++ [0]) (l.length : Nat) = 0 := by simp [rd, List.getD_eq_getElem?_getD]
      rw [this, w64 (by omega) (by omega)]; simp
    have ih := plans_some room most xs (p ++ [(l.length : Int)]) (l ++ [x]) (fun y hy => hx y (by simp [hy])) (by simp; omega)
    intro h
    obtain ⟨q, hq⟩ := List.exists_mem_of_ne_nil _ ih
    have : q ∈ plansL room most (x :: xs) p l := by
      simp only [plansL, List.mem_flatMap, List.mem_range]
      refine ⟨l.length, by omega, ?_⟩
      rw [hn, if_pos (by simp [rd, List.getD_eq_getElem?_getD]; omega)]
      exact hq
    rw [h] at this; simp at this

/-! ### the loops -/
theorem few_run (t : List Int) (room : Int) (ht : t.length ≤ 9) : ∀ (e most : Nat), most + e ≤ 1000 → plansL room ((most + e : Nat) : Int) t [] [] ≠ [] →
    ∃ m : Nat, most ≤ m ∧ m ≤ most + e ∧ plansL room (m : Int) t [] [] ≠ [] ∧ (∀ j : Nat, most ≤ j → j < m → plansL room (j : Int) t [] [] = []) ∧
      Ev (fun k => spec_bxFew.l0 k t room (most : Int)) ((m : Int), (plansL room (m : Int) t [] []).headD [], ((plansL room (m : Int) t [] []).length : Int)) ∧
      Ev (fun k => fewL k t room (most : Int)) ((plansL room (m : Int) t [] []).headD [])
  | e, most, hb, hne => by
    have hp := bxPlans_ev t room (most : Int) ht t.length [] [] (by simp) (Nat.le_refl _)
    rw [List.length_nil, List.drop_zero] at hp
    cases hE : plansL room (most : Int) t [] [] with
    | cons p E =>
      refine ⟨most, Nat.le_refl _, by omega, by rw [hE]; simp, fun j h1 h2 => by omega, ?_, ?_⟩
      · rw [hE] at hp ⊢
        refine Ev.step (fun k => by rw [spec_bxFew.l0]) (Ev.bind hp ?_)
        exact Ev.pos (by unfold prP; simp <;> omega) (Ev.now _)
      · refine Ev.step (f := fun _ => some ((plansL room (most : Int) t [] []).headD [])) (fun k => ?_) (Ev.now _)
        rw [fewL, if_neg (by rw [hE]; simp)]
    | nil =>
      cases e with
      | zero => rw [Nat.add_zero, hE] at hne; exact absurd rfl hne
      | succ e =>
        obtain ⟨m, h1, h2, h3, h4, h5, h6⟩ := few_run t room ht e (most + 1) (by omega) (by rw [show most + 1 + e = most + (e + 1) by omega]; exact hne)
        refine ⟨m, by omega, by omega, h3, fun j hj1 hj2 => ?_, ?_, ?_⟩
        · rcases Nat.eq_or_lt_of_le hj1 with rfl | h
          · exact hE
          · exact h4 j h hj2
        · rw [hE] at hp
          refine Ev.step (fun k => by rw [spec_bxFew.l0]) (Ev.bind hp ?_)
          refine Ev.neg ?_ ?_
          · simp [prP]
          · rw [w64i most (by omega)]; exact h5
        · refine Ev.step (fun k => ?_) h6
          rw [fewL, if_pos (by rw [hE]; rfl), w64i most (by omega)]
/-- The fewest boxes: what both find. -/
theorem few_both (t : List Int) (room : Int) (ht : t.length ≤ 9) (h0 : 0 < t.length) (hx : ∀ x ∈ t, 0 ≤ x ∧ x ≤ room ∧ x ≤ 1000) :
    ∃ m : Nat, 1 ≤ m ∧ m ≤ t.length ∧ plansL room (m : Int) t [] [] ≠ [] ∧ (∀ j : Nat, 1 ≤ j → j < m → plansL room (j : Int) t [] [] = []) ∧
      Ev (fun k => spec_bxFew.f k t room) ((m : Int), (plansL room (m : Int) t [] []).headD [], ((plansL room (m : Int) t [] []).length : Int)) ∧
      Ev (fun k => impl_fewest.f k t room) ((plansL room (m : Int) t [] []).headD []) := by
  obtain ⟨m, h1, h2, h3, h4, h5, h6⟩ := few_run t room ht (t.length - 1) 1 (by omega) (plans_some room _ t [] [] hx (by simp; omega))
  refine ⟨m, h1, by omega, h3, h4, ?_, ?_⟩
  · unfold spec_bxFew.f; exact h5
  · unfold impl_fewest.f; exact Ev.pos ht h6
theorem mostL_lt : ∀ (l : List Int) (a c : Int), a < c → (∀ x ∈ l, x < c) → mostL a l < c
  | [], a, c, h, _ => h
  | x :: xs, a, c, h, hx => by
    have := hx x (by simp)
    exact mostL_lt xs (mx a x) c (by unfold mx; omega) (fun y hy => hx y (by simp [hy]))
/-- The first plan uses all its boxes. -/
theorem head_most (t : List Int) (room : Int) (m : Nat) (h1 : 1 ≤ m) (hne : plansL room (m : Int) t [] [] ≠ []) (hmin : ∀ j : Nat, 1 ≤ j → j < m → plansL room (j : Int) t [] [] = []) (h0 : 0 < t.length) :
    ((plansL room (m : Int) t [] []).headD []).length = t.length ∧ (∀ b ∈ (plansL room (m : Int) t [] []).headD [], 0 ≤ b) ∧ mostL 0 ((plansL room (m : Int) t [] []).headD []) = (m : Int) - 1 := by
  obtain ⟨p, hp⟩ : ∃ p, p = (plansL room (m : Int) t [] []).headD [] := ⟨_, rfl⟩
  have hmem : p ∈ plansL room (m : Int) t [] [] := by
    rw [hp]
    cases hE : plansL room (m : Int) t [] [] with
    | nil => exact absurd hE hne
    | cons q E => simp
  rw [← hp]
  obtain ⟨q, hq, hok, hlt⟩ := (mem_plans room m t [] [] p).1 hmem
  rw [List.nil_append] at hq
  subst hq
  obtain ⟨hlen, hge⟩ := OKq_len room t p [] hok
  refine ⟨hlen, hge, ?_⟩
  have hup := mostL_lt p 0 m (by omega) hlt
  have hM := mostL_ge p 0
  by_cases hc : mostL 0 p = (m : Int) - 1
  · exact hc
  · exfalso
    obtain ⟨M, hMe⟩ : ∃ M : Nat, mostL 0 p = M := ⟨(mostL 0 p).toNat, by omega⟩
    have := hmin (M + 1) (by omega) (by omega)
    have h2 : p ∈ plansL room ((M + 1 : Nat) : Int) t [] [] := (mem_plans room _ t [] [] p).2 ⟨p, by simp, hok, fun b hb => by have := hM.2 b hb; omega⟩
    rw [this] at h2; simp at h2
theorem asked_all {l : List Int} {room : Int} (h : askedB l room = true) : l.length ≤ 9 ∧ 0 < l.length ∧ ∀ x ∈ l, 0 ≤ x ∧ x ≤ room ∧ x ≤ 1000 := by
  unfold askedB at h
  rw [Bool.and_eq_true, goodT_iff, inB_iff] at h
  obtain ⟨⟨h1, h2⟩, h3⟩ := h
  refine ⟨by omega, by omega, fun x hx => ?_⟩
  have h4 := (mostL_ge l 0).2 x hx
  obtain ⟨j, hj, rfl⟩ := List.mem_iff_getElem.1 hx
  have h5 := h2 j hj
  rw [rd_get hj] at h5
  omega
theorem FewestBoxes_ev (l : List Int) (room : Int) (hl : l.length ≤ 1048576) (ha : askedB l room = true) (m : Nat) (h1 : 1 ≤ m) (h2 : m ≤ l.length) (h3 : plansL room (m : Int) l [] [] ≠ []) (h4 : ∀ j : Nat, 1 ≤ j → j < m → plansL room (j : Int) l [] [] = []) (h6 : Ev (fun k => impl_fewest.f k l room) ((plansL room (m : Int) l [] []).headD [])) : Ev (fun k => impl_FewestBoxes.f k l room) ((m : Int), true) := by
  have hal := asked_all ha
  obtain ⟨k1, k2, k3⟩ := head_most l room m h1 h3 h4 hal.2.1
  unfold impl_FewestBoxes.f
  refine Ev.bind (areRoomy_ev l room hl) (Ev.pos ha (Ev.bind h6 (Ev.bind (Max_ev _ (by omega) (by omega) ?_) (Ev.val (Ev.now _) ?_))))
  · refine k2 _ ?_
    rw [show (0 : Int) = ((0 : Nat) : Int) from rfl, rd_get (by omega)]
    exact List.getElem_mem _
  · rw [k3, show (m : Int) - 1 + 1 = (m : Int) by omega, w64 (by omega) (by omega)]
theorem fewestBoxes_both (l : List Int) (room : Int) (hl : l.length ≤ 1048576) : ∃ r, Ev (fun k => spec_FewestBoxes.f k l room) r ∧ Ev (fun k => impl_FewestBoxes.f k l room) r := by
  by_cases ha : askedB l room = true
  · have hal := asked_all ha
    obtain ⟨m, h1, h2, h3, h4, h5, h6⟩ := few_both l room hal.1 hal.2.1 hal.2.2
    refine ⟨((m : Int), true), ?_, FewestBoxes_ev l room hl ha m h1 h2 h3 h4 h6⟩
    unfold spec_FewestBoxes.f
    exact Ev.bind (bxAsked_ev l room hl) (Ev.pos ha (Ev.bind h5 (Ev.now _)))
  · unfold spec_FewestBoxes.f impl_FewestBoxes.f
    exact ⟨_, Ev.bind (bxAsked_ev l room hl) (Ev.neg ha (Ev.now _)), Ev.bind (areRoomy_ev l room hl) (Ev.neg ha (Ev.now _))⟩
theorem countPackings_both (l : List Int) (room : Int) (hl : l.length ≤ 1048576) : ∃ r, Ev (fun k => spec_CountPackings.f k l room) r ∧ Ev (fun k => impl_CountPackings.f k l room) r := by
  by_cases ha : askedB l room = true
  · have hal := asked_all ha
    obtain ⟨m, h1, h2, h3, h4, h5, h6⟩ := few_both l room hal.1 hal.2.1 hal.2.2
    refine ⟨(((plansL room (m : Int) l [] []).length : Int), true), ?_, ?_⟩
    · unfold spec_CountPackings.f
      exact Ev.bind (bxAsked_ev l room hl) (Ev.pos ha (Ev.bind h5 (Ev.now _)))
    · unfold impl_CountPackings.f
      refine Ev.bind (FewestBoxes_ev l room hl ha m h1 h2 h3 h4 h6) (Ev.pos rfl (Ev.pos hal.1 (Ev.val (Ev.now _) ?_)))
      have hle := plansL_len room m l [] [] (by simp; omega)
      have h10 : 10 ^ l.length ≤ 10 ^ 9 := Nat.pow_le_pow_right (by omega) hal.1
      have e : wrap64 ((plansL room (m : Int) l [] []).length : Int) = ((plansL room (m : Int) l [] []).length : Int) := w64 (by omega) (by omega)
      show (wrap64 ((plansL room (m : Int) l [] []).length : Int), true) = _
      rw [e]
  · unfold spec_CountPackings.f impl_CountPackings.f impl_FewestBoxes.f
    exact ⟨_, Ev.bind (bxAsked_ev l room hl) (Ev.neg ha (Ev.now _)), Ev.bind (Ev.bind (areRoomy_ev l room hl) (Ev.neg ha (Ev.now _))) (Ev.neg (by simp) (Ev.now _))⟩
theorem firstPacking_both (l : List Int) (room : Int) (hl : l.length ≤ 1048576) : ∃ v b, Ev (fun k => spec_FirstPacking.f k l room) (v, b) ∧ Ev (fun k => impl_FirstPacking.f k l room) (v, b) ∧ v.length ≤ 1048576 := by
  unfold spec_FirstPacking.f impl_FirstPacking.f
  by_cases ha : askedB l room = true
  · have hal := asked_all ha
    obtain ⟨m, h1, h2, h3, h4, h5, h6⟩ := few_both l room hal.1 hal.2.1 hal.2.2
    exact ⟨_, _, Ev.bind (bxAsked_ev l room hl) (Ev.pos ha (Ev.bind h5 (Ev.now _))), Ev.bind (areRoomy_ev l room hl) (Ev.pos ha (Ev.bind h6 (Ev.now _))), by rw [(head_most l room m h1 h3 h4 hal.2.1).1]; exact hl⟩
  · exact ⟨_, _, Ev.bind (bxAsked_ev l room hl) (Ev.neg ha (Ev.now _)), Ev.bind (areRoomy_ev l room hl) (Ev.neg ha (Ev.now _)), by simp⟩

end Go.Proofs.Ytcbiglcgdkimhaa.Q
