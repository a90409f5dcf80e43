/- The boxes' small functions: bounds, sums, the greatest thing, what is asked. Conditions: at most 1048576 elements. -/
import Derived.Test.YtclfjjinfbfajaaPx0
import Derived.Test.YtclfjjinfbfajaaPx4
import Derived.Test.YtclfjjinfbfajaaPx7
import Derived.Test.YtclfjjinfbfajaaPx8
import Derived.Test.YtclfjjinfbfajaaPx12
import Derived.Test.YtclfjjinfbfajaaQEv
namespace Go.Proofs.Ytclfjjinfbfajaa.Q
open Go.RowKit Go.Proofs.Ytclfjjinfbfajaa.P Go.Proofs.YtclfjjinfbfajaaW.PrintWords Go.Proofs.YtclfjjinfbfajaaW.PrintLast
set_option linter.unusedVariables false
set_option linter.unusedSimpArgs false

theorem l1In_eq (n lo hi : Int) : spec_l1In.f n lo hi = some (inB lo hi n) := by
  unfold spec_l1In.f inB
  by_cases h : lo ≤ n <;> simp [h]
theorem any_drop_cons {l : List Int} {i : Nat} (h : i < l.length) (p : Int → Bool) : (l.drop i).any p = (p (rd l i) || (l.drop (i + 1)).any p) := by
  rw [drop_rd h, List.any_cons]
theorem l1All_l0 (l : List Int) (lo hi : Int) (hl : l.length ≤ 1048576) (d : Nat) : ∀ i : Nat, i + d = l.length → Ev (fun k => spec_l1All.l0 k lo hi l l.length i) (allIn (l.drop i) lo hi) := by
  induction d with
  | zero =>
    intro i hi'
    refine Ev.step (f := fun _ => some true) (fun k => ?_) ?_
    · rw [spec_l1All.l0, if_neg (by omega)]
    · rw [List.drop_of_length_le (by omega)]; exact Ev.now true
  | succ d ih =>
    intro i hi'
    have hlt : i < l.length := by omega
    have e : allIn (l.drop i) lo hi = (inB lo hi (rd l i) && allIn (l.drop (i + 1)) lo hi) := by
      unfold allIn; rw [any_drop_cons hlt]; cases inB lo hi (rd l i) <;> simp
    rw [e]
    refine Ev.step (f := fun k => if inB lo hi (rd l i) = true then spec_l1All.l0 k lo hi l l.length ((i + 1 : Nat) : Int) else some false) (fun k => ?_) ?_
    · rw [spec_l1All.l0, if_pos (by omega), if_pos (by omega), if_pos (by omega), l1In_eq, w64i i (by omega)]
      simp
    · refine Ev.ite (fun h => ?_) (fun h => ?_)
      · rw [h]; exact ih (i + 1) (by omega)
      · rw [Bool.eq_false_iff.mpr h]; exact Ev.now false
theorem l1All_ev (l : List Int) (lo hi : Int) (hl : l.length ≤ 1048576) : Ev (fun k => spec_l1All.f k l lo hi) (allIn l lo hi) := by
  unfold spec_l1All.f
  exact l1All_l0 l lo hi hl l.length 0 (by omega)

theorem bind_some' {α : Type} (o : Option α) : (o.bind fun t => some t) = o := by cases o <;> rfl

/-! ### things -/
def goodT (l : List Int) : Bool := inB 1 9 l.length && allIn l 1 100
theorem bxGood_ev (l : List Int) (hl : l.length ≤ 1048576) : Ev (fun k => spec_bxGood.f k l) (goodT l) := by
  unfold spec_bxGood.f goodT
  refine Ev.call (l1In_eq _ _ _) ?_
  refine Ev.ite (fun h => ?_) (fun h => ?_)
  · rw [h]; exact Ev.bind (l1All_ev l 1 100 hl) (Ev.now _)
  · rw [Bool.eq_false_iff.mpr h]; exact Ev.now false
theorem AreThings_eq (l : List Int) : impl_AreThings.f l = some (goodT l) := by
  unfold impl_AreThings.f goodT impl_areWithin.f
  rw [within_inB]
  cases h : inB 1 9 (l.length : Int) <;> simp

theorem allIn_iff (l : List Int) (lo hi : Int) : allIn l lo hi = true ↔ ∀ j : Nat, j < l.length → lo ≤ rd l j ∧ rd l j ≤ hi := by
  unfold allIn inB
  simp only [Bool.not_eq_true', List.any_eq_false, Bool.not_eq_true, Bool.not_eq_false', Bool.and_eq_true, decide_eq_true_eq]
  constructor
  · intro h j hj
    rw [rd_get hj]
    have := h _ (List.getElem_mem hj)
    simpa using this
  · intro h x hx
    obtain ⟨j, hj, rfl⟩ := List.mem_iff_getElem.1 hx
    have := h j hj
    rw [rd_get hj] at this
    simpa using this
theorem inB_iff (lo hi n : Int) : inB lo hi n = true ↔ lo ≤ n ∧ n ≤ hi := by simp [inB]

/-! ### boxes: the greatest thing, the bound -/
def mostL (a : Int) : List Int → Int
  | [] => a
  | x :: xs => mostL (mx a x) xs
theorem l1Most_eq (a b : Int) : spec_l1Most.f a b = some (mx a b) := by
  unfold spec_l1Most.f
  by_cases h : a > b
  · rw [if_pos h]; congr 1; unfold mx; omega
  · rw [if_neg h]; congr 1; unfold mx; omega
theorem bxMost_l0 (l : List Int) (hl : l.length ≤ 1048576) (d : Nat) : ∀ (i : Nat) (a : Int), i + d = l.length → Ev (fun k => spec_bxMost.l0 k a l l.length i) (mostL a (l.drop i)) := by
  induction d with
  | zero =>
    intro i a hi
    refine Ev.step (f := fun _ => some a) (fun k => ?_) ?_
    · rw [spec_bxMost.l0, if_neg (by omega)]
    · rw [List.drop_of_length_le (by omega)]; exact Ev.now a
  | succ d ih =>
    intro i a hi
    rw [drop_rd (show i < l.length by omega)]
    refine Ev.step (fun k => ?_) (ih (i + 1) _ (by omega))
    rw [spec_bxMost.l0, if_pos (by omega), if_pos (by omega), if_pos (by omega), l1Most_eq, Option.bind_some, w64i i (by omega)]
theorem Max_l0 (l : List Int) (hl : l.length ≤ 1048576) (d : Nat) : ∀ (i : Nat) (a : Int), i + d = l.length → Ev (fun k => slices_Max_int_int.l0 k l a i) (mostL a (l.drop i)) := by
  induction d with
  | zero =>
    intro i a hi
    refine Ev.step (f := fun _ => some a) (fun k => ?_) ?_
    · rw [slices_Max_int_int.l0, if_neg (by omega)]
    · rw [List.drop_of_length_le (by omega)]; exact Ev.now a
  | succ d ih =>
    intro i a hi
    rw [drop_rd (show i < l.length by omega)]
    refine Ev.step (fun k => ?_) (ih (i + 1) _ (by omega))
    rw [slices_Max_int_int.l0, if_pos (by omega), if_pos (by omega), w64i i (by omega)]
theorem bxMost_ev (l : List Int) (hl : l.length ≤ 1048576) : Ev (fun k => spec_bxMost.f k l) (mostL 0 l) := by
  unfold spec_bxMost.f
  exact bxMost_l0 l hl l.length 0 0 (by omega)
theorem Max_ev (l : List Int) (hl : l.length ≤ 1048576) (h0 : 0 < l.length) (h1 : 0 ≤ rd l 0) : Ev (fun k => slices_Max_int_int.f k l) (mostL 0 l) := by
  unfold slices_Max_int_int.f
  refine Ev.neg (by omega) (Ev.pos (by omega) ?_)
  have := Max_l0 l hl (l.length - 1) 1 (rd l 0) (by omega)
  have e := drop_rd (l := l) (i := 0) h0
  rw [List.drop_zero] at e
  have e2 : mostL 0 l = mostL (rd l 0) (l.drop 1) := by
    conv => lhs; rw [e]
    show mostL (mx 0 (rd l 0)) (l.drop 1) = _
    congr 1
    unfold mx; omega
  rw [e2]; exact this
def askedB (l : List Int) (room : Int) : Bool := goodT l && inB (mostL 0 l) 1000 room
theorem bxAsked_ev (l : List Int) (room : Int) (hl : l.length ≤ 1048576) : Ev (fun k => spec_bxAsked.f k l room) (askedB l room) := by
  unfold spec_bxAsked.f askedB
  refine Ev.bind (bxGood_ev l hl) (Ev.ite (fun h => ?_) (fun h => ?_))
  · rw [h]; exact Ev.bind (bxMost_ev l hl) (Ev.call (l1In_eq _ _ _) (Ev.now _))
  · rw [Bool.eq_false_iff.mpr h]; exact Ev.now _
theorem goodT_iff (l : List Int) : goodT l = true ↔ (1 ≤ l.length ∧ l.length ≤ 9) ∧ ∀ j : Nat, j < l.length → 1 ≤ rd l j ∧ rd l j ≤ 100 := by
  unfold goodT
  rw [Bool.and_eq_true, inB_iff, allIn_iff]
  constructor
  · rintro ⟨h1, h2⟩; exact ⟨by omega, h2⟩
  · rintro ⟨h1, h2⟩; exact ⟨by omega, h2⟩
theorem areRoomy_ev (l : List Int) (room : Int) (hl : l.length ≤ 1048576) : Ev (fun k => impl_areRoomy.f k l room) (askedB l room) := by
  unfold impl_areRoomy.f askedB
  refine Ev.call (AreThings_eq l) (Ev.ite (fun h => ?_) (fun h => ?_))
  · have hg := (goodT_iff l).1 h
    rw [h]
    refine Ev.bind (Max_ev l hl (by omega) (by have := hg.2 0 (by omega); simp at this; omega)) (Ev.call (within_inB _ _ _) (Ev.now _))
  · rw [Bool.eq_false_iff.mpr h]; exact Ev.now _
theorem mostL_ge : ∀ (l : List Int) (a : Int), a ≤ mostL a l ∧ ∀ x ∈ l, x ≤ mostL a l
  | [], a => by simp [mostL]
  | x :: xs, a => by
    obtain ⟨h1, h2⟩ := mostL_ge xs (mx a x)
    have : a ≤ mx a x ∧ x ≤ mx a x := by unfold mx; omega
    simp only [mostL]
    refine ⟨by omega, fun y hy => ?_⟩
    rcases List.mem_cons.1 hy with rfl | hy
    · omega
    · exact h2 y hy
theorem asked_pos {l : List Int} {room : Int} (h : askedB l room = true) : 1 ≤ room := by
  unfold askedB at h
  rw [Bool.and_eq_true, goodT_iff, inB_iff] at h
  obtain ⟨⟨h1, h2⟩, h3⟩ := h
  have := (mostL_ge l 0).2 (rd l 0) (by have h0 : 0 < l.length := by omega
                                        rw [show (0 : Int) = ((0 : Nat) : Int) from rfl, rd_get h0]; exact List.getElem_mem h0)
  have := h2 0 (by omega)
  simp at this
  omega
end Go.Proofs.Ytclfjjinfbfajaa.Q
