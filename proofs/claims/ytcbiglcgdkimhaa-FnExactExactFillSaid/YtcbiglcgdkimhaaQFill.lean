/- ExactFill: the reference's search and the program's find the same list. Conditions: at most 9 things from 1 to 100, a room of at most 1000. -/
import Derived.Test.YtcbiglcgdkimhaaPx0
import Derived.Test.YtcbiglcgdkimhaaPx9
import Derived.Test.YtcbiglcgdkimhaaPx14
import Derived.Test.YtcbiglcgdkimhaaPx15
import Derived.Test.YtcbiglcgdkimhaaPx16
import Derived.Test.YtcbiglcgdkimhaaPx17
import Derived.Test.YtcbiglcgdkimhaaQBoxA
namespace Go.Proofs.Ytcbiglcgdkimhaa.Q
open Go.RowKit Go.Proofs.Ytcbiglcgdkimhaa.P Go.Proofs.YtcbiglcgdkimhaaW.PrintWords Go.Proofs.YtcbiglcgdkimhaaW.PrintLast
set_option linter.unusedVariables false
set_option linter.unusedSimpArgs false

theorem own_eq (l : List Int) (h : l.length ≤ 1048576) : spec_l1Own.f l = some l := by
  unfold spec_l1Own.f
  rw [Option.bind_some, if_pos (by simp; omega)]; simp
def prF (o : Option (List Int)) : List Int × Bool := (o.getD [], o.isSome)
theorem fill_f (t b : List Int) (i : Nat) (left : Int) (hb : b.length ≤ 1000) (hi : i ≤ 1000) (E : Ev (fun k => spec_bxFill.l0 k t (b ++ [(i : Int)]) left ((i + 1 : Nat) : Int)) (prF (fillT (b ++ [(i : Int)]) (t.drop (i + 1)) (i + 1) left))) :
    Ev (fun k => spec_bxFill.f k t (b ++ [(i : Int)]) left) (prF (fillV (b ++ [(i : Int)]) (t.drop (i + 1)) (i + 1) left)) := by
  have hlen : (b ++ [(i : Int)]).length = b.length + 1 := by simp
  unfold fillV
  by_cases h : left = 0
  · rw [if_pos h]
    refine Ev.step (f := fun _ => some (b ++ [(i : Int)], true)) (fun k => ?_) (Ev.now _)
    rw [spec_bxFill.f, if_pos h, own_eq _ (by omega), Option.bind_some]
  · rw [if_neg h]
    refine Ev.step (f := fun k => spec_bxFill.j0 k t (b ++ [(i : Int)]) left ((i + 1 : Nat) : Int)) (fun k => ?_) (Ev.step (fun k => by rw [spec_bxFill.j0]) E)
    have hw : wrap64 (((b ++ [(i : Int)]).length : Int) - 1) = (b.length : Int) := by rw [hlen, w64 (by omega) (by omega)]; omega
    have hr : rd (b ++ [(i : Int)]) (b.length : Int) = i := by simp [rd, List.getD_eq_getElem?_getD]
    rw [spec_bxFill.f, if_neg h, if_pos (by omega), hw, if_pos (by omega), if_pos (by omega), hr, w64i i (by omega)]
theorem fill_l0 (t : List Int) (ht : t.length ≤ 9) (hg : ∀ x ∈ t, 1 ≤ x ∧ x ≤ 100) (d : Nat) : ∀ (i : Nat) (b : List Int) (left : Int), i + d = t.length → b.length ≤ i → 0 ≤ left → left ≤ 1000 → Ev (fun k => spec_bxFill.l0 k t b left i) (prF (fillT b (t.drop i) i left)) := by
  induction d with
  | zero =>
    intro i b left hi hb h0 h1
    rw [List.drop_of_length_le (by omega)]
    refine Ev.step (f := fun _ => some (([] : List Int), false)) (fun k => ?_) (Ev.now _)
    rw [spec_bxFill.l0, if_neg (by omega)]
  | succ d ih =>
    intro i b left hi hb h0 h1
    have hlt : i < t.length := by omega
    have hx := hg (rd t i) (by rw [rd_get hlt]; exact List.getElem_mem hlt)
    rw [drop_rd hlt, fillT_cons]
    by_cases hgt : rd t i > left
    · rw [if_pos hgt]
      refine Ev.step (fun k => ?_) (Ev.val (ih (i + 1) b left (by omega) (by omega) h0 h1) rfl)
      rw [spec_bxFill.l0, if_pos (by omega), if_pos (by omega), if_pos hgt, w64i i (by omega)]
    · rw [if_neg hgt]
      have hE := fill_f t b i (left - rd t i) (by omega) (by omega) (ih (i + 1) (b ++ [(i : Int)]) (left - rd t i) (by omega) (by simp; omega) (by omega) (by omega))
      have hN := ih (i + 1) b left (by omega) (by omega) h0 h1
      refine Ev.step (f := fun k => (spec_bxFill.f k t (b ++ [(i : Int)]) (left - rd t i)).bind fun bt => if bt.2 = true then some (bt.1, true) else spec_bxFill.l0 k t b left ((i + 1 : Nat) : Int)) (fun k => ?_) ?_
      · rw [spec_bxFill.l0, if_pos (by omega), if_pos (by omega), if_neg hgt, own_eq _ (by omega), Option.bind_some, Option.bind_some, if_pos (by simp; omega), w64i i (by omega), w64 (by omega) (by omega)]
      · refine Ev.bind hE ?_
        cases ho : fillV (b ++ [(i : Int)]) (t.drop (i + 1)) (i + 1) (left - rd t i) with
        | none => exact Ev.neg (by simp [prF]) hN
        | some r => exact Ev.pos rfl (Ev.now _)
theorem exactFill_both (l : List Int) (room : Int) (hl : l.length ≤ 1048576) : ∃ v b, Ev (fun k => spec_ExactFill.f k l room) (v, b) ∧ Ev (fun _ => impl_ExactFill.f l room) (v, b) ∧ v.length ≤ 1048576 := by
  unfold spec_ExactFill.f impl_ExactFill.f
  by_cases hg : goodT l = true
  · have hg2 := (goodT_iff l).1 hg
    have hm : ∀ x ∈ l, 1 ≤ x ∧ x ≤ 100 := fun x hx => by
      obtain ⟨j, hj, rfl⟩ := List.mem_iff_getElem.1 hx
      rw [← rd_get hj]; exact hg2.2 j hj
    by_cases hr : inB 1 1000 room = true
    · have hr2 := (inB_iff _ _ _).1 hr
      have h0 : ¬ room = 0 := by omega
      have hE := fill_l0 l hg2.1.2 hm l.length 0 [] room (by omega) (Nat.le_refl _) (by omega) (by omega)
      have hlen : ∀ (xs b : List Int) (i : Nat) (left : Int), ((fillT b xs i left).getD []).length ≤ b.length + xs.length := by
        intro xs
        induction xs with
        | nil => intro b i left; simp [fillT]
        | cons x xs ih =>
          intro b i left
          have h1 := ih (b ++ [(i : Int)]) (i + 1) (left - x)
          have h2 := ih b (i + 1) left
          rw [fillT_cons]
          simp only [List.length_append, List.length_cons, List.length_nil] at h1 ⊢
          by_cases hgt : x > left
          · rw [if_pos hgt, Option.none_or]; omega
          · rw [if_neg hgt]
            unfold fillV
            by_cases hz : left - x = 0
            · rw [if_pos hz]; simp
            · rw [if_neg hz]
              cases ho : fillT (b ++ [(i : Int)]) xs (i + 1) (left - x) with
              | none => rw [Option.none_or]; omega
              | some r => rw [ho] at h1; simp at h1 ⊢; omega
      refine ⟨(prF (fillV [] l 0 room)).1, (prF (fillV [] l 0 room)).2, Ev.bind (bxGood_ev l hl) (Ev.pos hg (Ev.call (l1In_eq _ _ _) (Ev.pos hr (Ev.bind (a := prF (fillV [] l 0 room)) ?_ (Ev.now _))))), Ev.call (AreThings_eq l) (Ev.pos hg (Ev.pos hr (Ev.val (Ev.now _) ?_))), ?_⟩
      · refine Ev.step (f := fun k => spec_bxFill.j0 k l [] room ((0 : Nat) : Int)) (fun k => ?_) (Ev.step (fun k => by rw [spec_bxFill.j0]) (Ev.val hE ?_))
        · rw [spec_bxFill.f, if_neg h0, if_neg (by simp)]; rfl
        · unfold fillV; rw [if_neg h0, List.drop_zero]
      · rfl
      · unfold prF fillV
        rw [if_neg h0]
        have := hlen l [] 0 room
        simp at this ⊢; omega
    · exact ⟨_, _, Ev.bind (bxGood_ev l hl) (Ev.pos hg (Ev.call (l1In_eq _ _ _) (Ev.neg hr (Ev.now _)))), Ev.call (AreThings_eq l) (Ev.pos hg (Ev.neg hr (Ev.now _))), by simp⟩
  · exact ⟨_, _, Ev.bind (bxGood_ev l hl) (Ev.neg hg (Ev.now _)), Ev.call (AreThings_eq l) (Ev.neg hg (Ev.now _)), by simp⟩

end Go.Proofs.Ytcbiglcgdkimhaa.Q
