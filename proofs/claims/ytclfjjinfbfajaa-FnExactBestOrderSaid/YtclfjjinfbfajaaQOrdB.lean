/- WorstOrder and BestOrder: the program's fold over the orders is the reference's. Conditions: slices of at most 1048576 elements. -/
import Derived.Test.YtclfjjinfbfajaaPx0
import Derived.Test.YtclfjjinfbfajaaPx9
import Derived.Test.YtclfjjinfbfajaaPx11
import Derived.Test.YtclfjjinfbfajaaPx12
import Derived.Test.YtclfjjinfbfajaaPx16
import Derived.Test.YtclfjjinfbfajaaPx22
import Derived.Test.YtclfjjinfbfajaaPx23
import Derived.Test.YtclfjjinfbfajaaPx25
import Derived.Test.YtclfjjinfbfajaaQOrdA
namespace Go.Proofs.Ytclfjjinfbfajaa.Q
open Go.RowKit Go.Proofs.Ytclfjjinfbfajaa.P Go.Proofs.YtclfjjinfbfajaaW.PrintWords Go.Proofs.YtclfjjinfbfajaaW.PrintLast
set_option linter.unusedVariables false
set_option linter.unusedSimpArgs false

/-! ### how many boxes -/
def PL (room : Int) (o : List Int) : List Int := (packL (ruleB 102 room) ([], []) o).1
def nB (room : Int) (o : List Int) : Int := wrap64 (mostL 0 (PL room o) + 1)
theorem pack_mem (F : List Int → Int → Int) (hF : ∀ l x, F l x < (l.length : Int)) : ∀ (l : List Int) (s : List Int × List Int) (x : Int), x ∈ (packL F s l).1 → x ∈ s.1 ∨ (0 ≤ x ∧ x ≤ (s.2.length : Int) + l.length)
  | [], s, x, h => .inl h
  | y :: ys, s, x, h => by
    have h2 : x ∈ (packL F (packStep F s y) ys).1 := h
    have hl := (packStep_len F s y).2
    rcases pack_mem F hF ys (packStep F s y) x h2 with h3 | h3
    · unfold packStep at h3
      have hf := hF s.2 y
      by_cases hc : F s.2 y < 0
      · rw [if_pos hc] at h3
        rcases List.mem_append.1 h3 with h3 | h3
        · exact .inl h3
        · rw [List.mem_singleton] at h3
          exact .inr (by simp only [List.length_cons]; omega)
      · rw [if_neg hc] at h3
        rcases List.mem_append.1 h3 with h3 | h3
        · exact .inl h3
        · rw [List.mem_singleton] at h3
          exact .inr (by simp only [List.length_cons]; omega)
    · exact .inr (by simp only [List.length_cons]; omega)
theorem PL_mem {room : Int} {o : List Int} {x : Int} (h : x ∈ PL room o) : 0 ≤ x ∧ x ≤ (o.length : Int) := by
  rcases pack_mem _ (fun l x => (ruleB_lt 102 room l x).1) o ([], []) x h with h | h
  · simp at h
  · simpa using h
theorem PL_len (room : Int) (o : List Int) : (PL room o).length = o.length := by unfold PL; rw [pack_len]; simp
theorem most_le : ∀ (l : List Int) (a c : Int), a ≤ c → (∀ x ∈ l, x ≤ c) → mostL a l ≤ c
  | [], a, c, h, _ => h
  | x :: xs, a, c, h, hx => by
    simp only [mostL]
    exact most_le xs _ c (by have := hx x (List.mem_cons_self ..); unfold mx; omega) (fun y hy => hx y (List.mem_cons_of_mem _ hy))
theorem nB_bound {room : Int} {o : List Int} (h : o.length ≤ 100) : 1 ≤ nB room o ∧ nB room o ≤ 101 ∧ nB room o = mostL 0 (PL room o) + 1 := by
  have h1 := (mostL_ge (PL room o) 0).1
  have h2 := most_le (PL room o) 0 100 (by omega) (fun x hx => by have := PL_mem hx; omega)
  unfold nB
  rw [w64 (by omega) (by omega)]
  omega
/-! ### what is asked, at an order of the things -/
theorem asked_iff (l : List Int) (room : Int) : askedB l room = true ↔ (1 ≤ l.length ∧ l.length ≤ 9) ∧ (∀ x ∈ l, 1 ≤ x ∧ x ≤ 100) ∧ mostL 0 l ≤ room ∧ room ≤ 1000 := by
  unfold askedB
  rw [Bool.and_eq_true, goodT_iff, inB_iff]
  constructor
  · rintro ⟨⟨h1, h2⟩, h3⟩
    exact ⟨h1, fun x hx => by obtain ⟨j, hj, e⟩ := mem_rd.1 hx; rw [← e]; exact h2 j hj, h3⟩
  · rintro ⟨h1, h2, h3⟩
    exact ⟨⟨h1, fun j hj => h2 _ (mem_rd.2 ⟨j, hj, rfl⟩)⟩, h3⟩
theorem asked_perm {l q : List Int} {room : Int} (h : askedB l room = true) (hp : q.Perm l) : askedB q room = true := by
  rw [asked_iff] at h ⊢
  obtain ⟨h1, h2, h3, h4⟩ := h
  rw [hp.length_eq]
  refine ⟨h1, fun x hx => h2 x (hp.subset hx), ?_, h4⟩
  have h5 := mostL_ge l 0
  exact Int.le_trans (most_le q 0 (mostL 0 l) h5.1 (fun x hx => h5.2 x (hp.subset hx))) h3
/-! ### the program -/
theorem ownF_ev (room : Int) (o : List Int) (h : askedB o room = true) : Ev (fun k => ownF k room o) (nB room o) := by
  have h9 := ((asked_iff o room).1 h).1
  have hb := byScore_ev 102 room scoreF (by omega) o (by omega) (fun loads b k h hb hk => by unfold scoreF; omega)
  rw [if_pos h] at hb
  unfold ownF
  refine Ev.bind hb ?_
  have hl := PL_len room o
  refine Ev.bind (Max_ev (PL room o) (by omega) (by omega) (PL_mem (mem_rd.2 ⟨0, by omega, rfl⟩)).1) ?_
  exact Ev.now _
theorem evsW_ev (room : Int) : ∀ qs : List (List Int), (∀ q ∈ qs, askedB q room = true) → Ev (fun k => evsW k room qs) (qs.map fun q => (q, nB room q))
  | [], _ => Ev.now _
  | q :: qs, h => by
    simp only [evsW]
    exact Ev.bind (ownF_ev room q (h q (List.mem_cons_self ..))) (Ev.bind (evsW_ev room qs (fun x hx => h x (List.mem_cons_of_mem _ hx))) (Ev.now _))
/-! ### the reference -/
def stepX (room : Int) (most : Bool) (s : List Int × Int) (o : List Int) : List Int × Int :=
  if (s.1.length : Int) = 0 then (o, nB room o) else if most = true then (if nB room o > s.2 then (o, nB room o) else s) else (if nB room o < s.2 then (o, nB room o) else s)
theorem drop_L {os : List (List Int)} {i : Nat} (h : i < os.length) : os.drop i = rd_L1 os i :: os.drop (i + 1) := by
  rw [List.drop_eq_getElem_cons h]
  congr 1
  simp [rd_L1, List.getD_eq_getElem?_getD, List.getElem?_eq_getElem h]
theorem ext_l0 (room : Int) (most : Bool) (os : List (List Int)) (hlen : os.length ≤ 1048576) (ho : ∀ o ∈ os, o.length ≤ 9) (d : Nat) : ∀ (i : Nat) (s : List Int × Int), i + d = os.length → Ev (fun k => spec_bxExtreme.l0 k room most s.1 s.2 os os.length i) ((os.drop i).foldl (stepX room most) s) := by
  induction d with
  | zero =>
    intro i s hi
    refine Ev.step (f := fun _ => some (s.1, s.2)) (fun k => ?_) ?_
    · rw [spec_bxExtreme.l0, if_neg (by omega)]
    · rw [List.drop_of_length_le (by omega)]; exact Ev.now _
  | succ d ih =>
    intro i s hi
    have hlt : i < os.length := by omega
    rw [drop_L hlt, List.foldl_cons]
    obtain ⟨o, hoe⟩ : ∃ o, o = rd_L1 os i := ⟨_, rfl⟩
    have hm : o ∈ os := by
      have h1 : o ∈ os.drop i := by rw [drop_L hlt, hoe]; exact List.mem_cons_self ..
      exact List.mem_of_mem_drop h1
    have h9 := ho o hm
    refine Ev.step (fun k => by rw [spec_bxExtreme.l0, if_pos (by omega), if_pos (by omega), if_pos (by omega), w64i i (by omega)]) ?_
    rw [← hoe]
    refine Ev.bind (bxOrder_ev o (by omega)) (Ev.bind (bxRule_ev o room 102 h9) (Ev.bind (bxMost_ev _ (by have := PL_len room o; unfold PL at this; omega)) ?_))
    have hn : wrap64 (1 + mostL 0 (packL (ruleB 102 room) ([], []) o).1) = nB room o := by unfold nB PL; rw [Int.add_comm]
    rw [hn]
    unfold stepX
    by_cases h1 : (s.1.length : Int) = 0
    · rw [if_pos h1]
      refine Ev.congr (fun k => by rw [if_pos h1]) (ih (i + 1) (o, nB room o) (by omega))
    · rw [if_neg h1]
      by_cases h2 : most = true
      · rw [if_pos h2]
        by_cases h3 : nB room o > s.2
        · rw [if_pos h3]
          exact Ev.congr (fun k => by rw [if_neg h1, if_pos h2, if_pos h3]) (ih (i + 1) (o, nB room o) (by omega))
        · rw [if_neg h3]
          exact Ev.congr (fun k => by rw [if_neg h1, if_pos h2, if_neg h3]) (ih (i + 1) s (by omega))
      · rw [if_neg h2]
        by_cases h3 : nB room o < s.2
        · rw [if_pos h3]
          exact Ev.congr (fun k => by rw [if_neg h1, if_neg h2, if_pos h3]) (ih (i + 1) (o, nB room o) (by omega))
        · rw [if_neg h3]
          exact Ev.congr (fun k => by rw [if_neg h1, if_neg h2, if_neg h3]) (ih (i + 1) s (by omega))
theorem fold_len (room : Int) (most : Bool) : ∀ (os : List (List Int)) (s : List Int × Int), s.1.length ≤ 9 → (∀ o ∈ os, o.length ≤ 9) → (os.foldl (stepX room most) s).1.length ≤ 9
  | [], s, h, _ => h
  | o :: os, s, h, ho => by
    rw [List.foldl_cons]
    refine fold_len room most os _ ?_ (fun x hx => ho x (List.mem_cons_of_mem _ hx))
    have := ho o (List.mem_cons_self ..)
    unfold stepX
    split
    · exact this
    · split
      · split
        · exact this
        · exact h
      · split
        · exact this
        · exact h
/-- The two folds agree, for a score that is greater just where more (or fewer) boxes are taken. -/
theorem fold_eq (room : Int) (most : Bool) (sc : Int → Int) (hsc : ∀ a b : Int, 0 ≤ a → a ≤ 101 → 0 ≤ b → b ≤ 101 → (sc a > sc b ↔ if most = true then a > b else a < b)) : ∀ (os : List (List Int)) (s : List Int × Int), 0 ≤ s.2 → s.2 ≤ 101 → (∀ o ∈ os, o.length ≤ 9) →
    (os.map fun q => (q, nB room q)).foldl (stepP sc) s = os.foldl (stepX room most) s
  | [], s, _, _, _ => rfl
  | o :: os, s, h0, h1, ho => by
    rw [List.map_cons, List.foldl_cons, List.foldl_cons]
    have hb := nB_bound (room := room) (o := o) (by have := ho o (List.mem_cons_self ..); omega)
    have e : stepP sc s (o, nB room o) = stepX room most s o := by
      have h := hsc (nB room o) s.2 (by omega) (by omega) h0 h1
      unfold stepP stepX
      by_cases c1 : s.1.length = 0
      · rw [if_pos (.inl c1), if_pos (by omega)]
      · rw [if_neg (show ¬ ((s.1.length : Int) = 0) by omega)]
        by_cases c2 : most = true
        · rw [if_pos c2] at h ⊢
          by_cases c3 : nB room o > s.2
          · rw [if_pos (.inr (h.2 c3)), if_pos c3]
          · rw [if_neg (fun x => x.elim c1 (fun x => c3 (h.1 x))), if_neg c3]
        · rw [if_neg c2] at h ⊢
          by_cases c3 : nB room o < s.2
          · rw [if_pos (.inr (h.2 c3)), if_pos c3]
          · rw [if_neg (fun x => x.elim c1 (fun x => c3 (h.1 x))), if_neg c3]
    rw [e]
    have hs : 0 ≤ (stepX room most s o).2 ∧ (stepX room most s o).2 ≤ 101 := by
      unfold stepX
      split
      · exact ⟨by show 0 ≤ nB room o; omega, by show nB room o ≤ 101; omega⟩
      · split
        · split
          · exact ⟨by show 0 ≤ nB room o; omega, by show nB room o ≤ 101; omega⟩
          · exact ⟨h0, h1⟩
        · split
          · exact ⟨by show 0 ≤ nB room o; omega, by show nB room o ≤ 101; omega⟩
          · exact ⟨h0, h1⟩
    exact fold_eq room most sc hsc os _ hs.1 hs.2 (fun x hx => ho x (List.mem_cons_of_mem _ hx))
theorem order_both (most : Bool) (sc : Int → Int) (hsc : ∀ a b : Int, 0 ≤ a → a ≤ 101 → 0 ≤ b → b ≤ 101 → (sc a > sc b ↔ if most = true then a > b else a < b)) (l : List Int) (room : Int) (hl : l.length ≤ 1048576) :
    ∃ (v : List Int) (n : Int) (b : Bool), Ev (fun k => (spec_bxAsked.f k l room).bind fun t => (if t = true then (if (l.length : Int) > 7 then (some (([] : List Int), 0, false)) else ((spec_bxExtreme.f k l room most).bind fun bt => (some (bt.1, bt.2, true)))) else (some (([] : List Int), 0, false)))) (v, n, b) ∧ Ev (fun k => ordO sc k l room) (v, n, b) ∧ v.length ≤ 1048576 := by
  by_cases ha : askedB l room = true
  · by_cases h7 : l.length ≤ 7
    · have h1 := ((asked_iff l room).1 ha).1
      obtain ⟨os, hos⟩ : ∃ os, os = lvE l.length [] (sortL l) := ⟨_, rfl⟩
      have hmem : ∀ o ∈ os, o.Perm l := fun o ho => by
        have := lvE_perm l.length [] (sortL l) o (sortL_len l) (by rw [← hos]; exact ho)
        exact this.trans (sortL_perm l)
      have h9 : ∀ o ∈ os, o.length ≤ 9 := fun o ho => by have := (hmem o ho).length_eq; omega
      have hlen : os.length ≤ 1048576 := by
        have h := lvE_len l.length [] (sortL l) h7 (sortL_len l)
        rw [← hos] at h
        have h2 : 7 ^ l.length ≤ 7 ^ 7 := Nat.pow_le_pow_right (by omega) h7
        exact Nat.le_trans h (Nat.le_trans h2 (by decide))
      refine ⟨(os.foldl (stepX room most) ([], 0)).1, (os.foldl (stepX room most) ([], 0)).2, true, ?_, ?_, ?_⟩
      · refine Ev.bind (bxAsked_ev l room hl) (Ev.pos ha (Ev.neg (by omega) ?_))
        have hx : Ev (fun k => spec_bxExtreme.f k l room most) (os.foldl (stepX room most) ([], 0)) := by
          unfold spec_bxExtreme.f
          have hb := bxOrders_ev l.length [] l h7 rfl (by simp; omega)
          rw [← hos] at hb
          refine Ev.bind hb ?_
          exact ext_l0 room most os hlen h9 os.length 0 ([], 0) (by omega)
        exact Ev.bind hx (Ev.now _)
      · unfold ordO
        refine Ev.bind (areRoomy_ev l room hl) (Ev.pos ha (Ev.pos h7 (Ev.pos (by omega) ?_)))
        rw [← hos]
        refine Ev.bind (evsW_ev room os (fun q hq => asked_perm ha (hmem q hq))) ?_
        unfold bestP
        rw [fold_eq room most sc hsc os ([], 0) (by simp) (by simp) h9]
        exact Ev.now _
      · have := fold_len room most os ([], 0) (by simp) h9
        omega
    · refine ⟨[], 0, false, ?_, ?_, by simp⟩
      · exact Ev.bind (bxAsked_ev l room hl) (Ev.pos ha (Ev.pos (by omega) (Ev.now _)))
      · unfold ordO
        exact Ev.bind (areRoomy_ev l room hl) (Ev.pos ha (Ev.neg h7 (Ev.now _)))
  · refine ⟨[], 0, false, ?_, ?_, by simp⟩
    · exact Ev.bind (bxAsked_ev l room hl) (Ev.neg ha (Ev.now _))
    · unfold ordO
      exact Ev.bind (areRoomy_ev l room hl) (Ev.neg ha (Ev.now _))
theorem worst_sc (a b : Int) (h0 : 0 ≤ a) (h1 : a ≤ 101) (h2 : 0 ≤ b) (h3 : b ≤ 101) : scWorst a > scWorst b ↔ if true = true then a > b else a < b := by
  rw [if_pos rfl]; unfold scWorst; exact Iff.rfl
theorem best_sc (a b : Int) (h0 : 0 ≤ a) (h1 : a ≤ 101) (h2 : 0 ≤ b) (h3 : b ≤ 101) : scBest a > scBest b ↔ if false = true then a > b else a < b := by
  rw [if_neg (by simp)]
  unfold scBest
  rw [w64 (by omega) (by omega), w64 (by omega) (by omega)]
  omega
end Go.Proofs.Ytclfjjinfbfajaa.Q
