/- The reference's plans of boxes: the first one and how many there are. Conditions: at most 9 things. -/
import Derived.Test.YtcbiglcgdkimhaaPx0
import Derived.Test.YtcbiglcgdkimhaaPx4
import Derived.Test.YtcbiglcgdkimhaaPx5
import Derived.Test.YtcbiglcgdkimhaaPx11
import Derived.Test.YtcbiglcgdkimhaaQBoxA
namespace Go.Proofs.Ytcbiglcgdkimhaa.Q
open Go.RowKit Go.Proofs.Ytcbiglcgdkimhaa.P Go.Proofs.YtcbiglcgdkimhaaW.PrintWords Go.Proofs.YtcbiglcgdkimhaaW.PrintLast
set_option linter.unusedVariables false
set_option linter.unusedSimpArgs false

theorem ownP (l : List Int) (h : l.length ≤ 1048576) : spec_l1Own.f l = some l := by
  unfold spec_l1Own.f
  rw [Option.bind_some, if_pos (by simp; omega)]; simp
def prP (E : List (List Int)) : List Int × Int := (E.headD [], (E.length : Int))
theorem next_len (l : List Int) (k : Nat) (x : Int) (h : k ≤ l.length) : (nextLoads l k x).length ≤ l.length + 1 := by
  unfold nextLoads
  split <;> simp
theorem plansL_len (room most : Int) : ∀ (xs p l : List Int), l.length + xs.length ≤ 9 → (plansL room most xs p l).length ≤ 10 ^ xs.length
  | [], p, l, _ => by simp [plansL]
  | x :: xs, p, l, h => by
    simp only [List.length_cons] at h
    have hB : ∀ m : Nat, m ≤ l.length + 1 → ((List.range m).flatMap fun k : Nat => if rd (nextLoads l k x) k ≤ room then plansL room most xs (p ++ [(k : Int)]) (nextLoads l k x) else []).length ≤ m * 10 ^ xs.length := by
      intro m
      induction m with
      | zero => intro _; simp
      | succ m ih =>
        intro hm
        have h1 := ih (by omega)
        have h2 : (if rd (nextLoads l m x) m ≤ room then plansL room most xs (p ++ [(m : Int)]) (nextLoads l m x) else []).length ≤ 10 ^ xs.length := by
          split
          · exact plansL_len room most xs _ _ (by have := next_len l m x (by omega); omega)
          · simp
        rw [List.range_succ, List.flatMap_append, List.length_append, Nat.succ_mul]
        simp only [List.flatMap_cons, List.flatMap_nil, List.append_nil]
        omega
    have hm : (min ((l.length : Int) + 1) most).toNat ≤ l.length + 1 := by omega
    have h3 := hB _ hm
    have h4 : (min ((l.length : Int) + 1) most).toNat * 10 ^ xs.length ≤ 10 * 10 ^ xs.length := Nat.mul_le_mul_right _ (by omega)
    simp only [plansL, List.length_cons, Nat.pow_succ]
    omega
theorem rdSelf {l : List Int} {i : Nat} (h : i < l.length) (x : Int) : rd (l.set i x) i = x := by
  simp [rd, List.getD_eq_getElem?_getD, List.getElem?_set_self h]
theorem bxPlans_ev (t : List Int) (room most : Int) (ht : t.length ≤ 9) (d : Nat) : ∀ (p l : List Int), p.length + d = t.length → l.length ≤ p.length → Ev (fun k => spec_bxPlans.f k t room p l most) (prP (plansL room most (t.drop p.length) p l)) := by
  induction d with
  | zero =>
    intro p l hd hl
    rw [List.drop_of_length_le (by omega)]
    refine Ev.step (f := fun _ => some (p, 1)) (fun k => ?_) (Ev.now _)
    rw [spec_bxPlans.f, if_pos (by omega), ownP _ (by omega), Option.bind_some]
  | succ d ih =>
    intro p l hd hl
    have hlt : p.length < t.length := by omega
    obtain ⟨x, hx⟩ : ∃ x, x = rd t p.length := ⟨_, rfl⟩
    obtain ⟨m, hm⟩ : ∃ m, m = (min ((l.length : Int) + 1) most).toNat := ⟨_, rfl⟩
    obtain ⟨F, hF⟩ : ∃ F : Nat → List (List Int), F = fun k : Nat => if rd (nextLoads l k x) k ≤ room then plansL room most (t.drop (p.length + 1)) (p ++ [(k : Int)]) (nextLoads l k x) else [] := ⟨_, rfl⟩
    have hw : plansL room most (t.drop p.length) p l = (List.range m).flatMap F := by rw [drop_rd hlt, ← hx, hm, hF]; rfl
    have hEk : ∀ b : Nat, b ≤ m → ((List.range b).flatMap F).length ≤ 1000000000 := by
      intro b hb
      have h1 : ((List.range b).flatMap F).length ≤ ((List.range m).flatMap F).length := by
        obtain ⟨e, rfl⟩ : ∃ e, m = b + e := ⟨m - b, by omega⟩
        rw [List.range_add, List.flatMap_append, List.length_append]; omega
      have h2 := plansL_len room most (t.drop p.length) p l (by rw [List.length_drop]; omega)
      have h3 : 10 ^ (t.drop p.length).length ≤ 10 ^ 9 := Nat.pow_le_pow_right (by omega) (by rw [List.length_drop]; omega)
      rw [hw] at h2
      omega
    have hloop : ∀ e b : Nat, b + e = m → Ev (fun k => spec_bxPlans.l0 k t room p l most p.length (((List.range b).flatMap F).headD []) (((List.range b).flatMap F).length : Int) b) (prP ((List.range m).flatMap F)) := by
      intro e
      induction e with
      | zero =>
        intro b hb
        obtain rfl : b = m := by omega
        by_cases h1 : (b : Int) ≤ (l.length : Int)
        · have h2 : ¬ (b : Int) < most := by omega
          refine Ev.step (fun k => by rw [spec_bxPlans.l0, if_pos h1, decide_eq_false h2]) (Ev.step (f := fun _ => some (prP ((List.range b).flatMap F))) (fun k => ?_) (Ev.now _))
          rw [spec_bxPlans.j1, if_neg (by simp)]; rfl
        · refine Ev.step (fun k => by rw [spec_bxPlans.l0, if_neg h1]) (Ev.step (f := fun _ => some (prP ((List.range b).flatMap F))) (fun k => ?_) (Ev.now _))
          rw [spec_bxPlans.j1, if_neg (by simp)]; rfl
      | succ e ihe =>
        intro b hb
        have h1 : (b : Int) ≤ (l.length : Int) := by omega
        have h2 : (b : Int) < most := by omega
        have hnext := ihe (b + 1) (by omega)
        have hcount := hEk (b + 1) (by omega)
        rw [List.range_succ, List.flatMap_append] at hnext hcount
        simp only [List.flatMap_cons, List.flatMap_nil, List.append_nil] at hnext hcount
        rw [List.length_append] at hcount
        obtain ⟨y, hy⟩ : ∃ y, y = if b = l.length then l ++ [0] else l := ⟨_, rfl⟩
        have hyl : b < y.length := by rw [hy]; split <;> (try simp) <;> omega
        have hnl : nextLoads l b x = y.set b (wrap64 (rd y b + x)) := by unfold nextLoads; rw [← hy]
        have hyn : y.length ≤ l.length + 1 := by rw [hy]; split <;> simp
        refine Ev.step (fun k => by rw [spec_bxPlans.l0, if_pos h1, decide_eq_true h2]) ?_
        refine Ev.step (f := fun k => spec_bxPlans.j2 k t room p l most p.length (((List.range b).flatMap F).headD []) (((List.range b).flatMap F).length : Int) b y) (fun k => ?_) ?_
        · rw [spec_bxPlans.j1, if_pos rfl, ownP _ (by omega), Option.bind_some]
          by_cases hb2 : b = l.length
          · rw [if_pos (by omega), if_pos (by omega), hy, if_pos hb2]
          · rw [if_neg (by omega), hy, if_neg hb2]
        · by_cases hr : wrap64 (rd y b + x) > room
          · have hFb : F b = [] := by rw [hF]; simp only; rw [if_neg]; rw [hnl, rdSelf hyl]; omega
            rw [hFb, List.append_nil] at hnext
            refine Ev.step (fun k => ?_) hnext
            rw [spec_bxPlans.j2, if_pos (by omega), if_pos (by omega), if_pos (by omega), if_pos (by omega), ← hx, if_pos hr, w64i b (by omega)]
          · have hFb : F b = plansL room most (t.drop (p.length + 1)) (p ++ [(b : Int)]) (nextLoads l b x) := by rw [hF]; simp only; rw [if_pos]; rw [hnl, rdSelf hyl]; omega
            have hf := ih (p ++ [(b : Int)]) (nextLoads l b x) (by simp; omega) (by have := next_len l b x (by omega); simp; omega)
            rw [show (p ++ [(b : Int)]).length = p.length + 1 by simp, ← hFb] at hf
            refine Ev.step (f := fun k => (spec_bxPlans.f k t room (p ++ [(b : Int)]) (nextLoads l b x) most).bind fun bt143 => (if bt143.2 > 0 then (if (((List.range b).flatMap F).length : Int) = 0 then (spec_bxPlans.l0 k t room p l most p.length bt143.1 (wrap64 ((((List.range b).flatMap F).length : Int) + bt143.2)) ((b + 1 : Nat) : Int)) else (spec_bxPlans.l0 k t room p l most p.length (((List.range b).flatMap F).headD []) (wrap64 ((((List.range b).flatMap F).length : Int) + bt143.2)) ((b + 1 : Nat) : Int))) else (spec_bxPlans.l0 k t room p l most p.length (((List.range b).flatMap F).headD []) (wrap64 ((((List.range b).flatMap F).length : Int) + bt143.2)) ((b + 1 : Nat) : Int)))) (fun k => ?_) ?_
            · rw [spec_bxPlans.j2, if_pos (by omega), if_pos (by omega), if_pos (by omega), if_pos (by omega), ← hx, if_neg hr, ownP _ (by omega), Option.bind_some, if_pos (by omega), w64i b (by omega), hnl, Int.toNat_natCast]
            · refine Ev.bind hf ?_
              have hwc : wrap64 ((((List.range b).flatMap F).length : Int) + ((F b).length : Int)) = ((((List.range b).flatMap F) ++ F b).length : Int) := by
                rw [w64 (by omega) (by omega), List.length_append]; omega
              unfold prP
              simp only
              rw [hwc]
              cases hFc : F b with
              | nil =>
                rw [hFc] at hnext
                refine Ev.neg (by simp) ?_
                rw [List.append_nil] at hnext ⊢
                exact hnext
              | cons q E =>
                rw [hFc] at hnext
                refine Ev.pos (by simp <;> omega) ?_
                cases hEc : (List.range b).flatMap F with
                | nil =>
                  rw [hEc] at hnext
                  exact Ev.pos rfl hnext
                | cons q' E' =>
                  rw [hEc] at hnext
                  exact Ev.neg (by simp <;> omega) hnext
    rw [hw]
    refine Ev.step (fun k => ?_) (hloop m 0 (by omega))
    rw [spec_bxPlans.f, if_neg (by omega)]; rfl

end Go.Proofs.Ytcbiglcgdkimhaa.Q
