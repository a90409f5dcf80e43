/- The tallest books first: the order by insertion is the program's stable sort. Conditions: at most 12 books from 1 to 100. -/
import Derived.Test.YthpabbepglokeaaPx0
import Derived.Test.YthpabbepglokeaaPx4
import Derived.Test.YthpabbepglokeaaPx10
import Derived.Test.YthpabbepglokeaaPx13
import Derived.Test.YthpabbepglokeaaQBookA
namespace Go.Proofs.Ythpabbepglokeaa.Q
open Go.RowKit Go.Proofs.Ythpabbepglokeaa.P Go.Proofs.YthpabbepglokeaaW.PrintWords Go.Proofs.YthpabbepglokeaaW.PrintLast
set_option linter.unusedVariables false
set_option linter.unusedSimpArgs false
def atB (x : S36) (P : List S36) : Nat → Nat
  | 0 => 0
  | k + 1 => if (rd_T36 P (k : Int)).f1 < x.f1 then atB x P k else k + 1
theorem atB_le (x : S36) (P : List S36) : ∀ k, atB x P k ≤ k
  | 0 => Nat.le_refl _
  | k + 1 => by
    have := atB_le x P k
    rw [atB]; split <;> omega
def putB (P : List S36) (x : S36) : List S36 := P.take (atB x P P.length) ++ x :: P.drop (atB x P P.length)
def tfL (l : List S36) : Nat → List S36
  | 0 => []
  | i + 1 => putB (tfL l i) (rd_T36 l i)
theorem putB_len (P : List S36) (x : S36) : (putB P x).length = P.length + 1 := by
  have := atB_le x P P.length
  unfold putB
  simp only [List.length_append, List.length_cons, List.length_take, List.length_drop]
  omega
theorem tfL_len (l : List S36) : ∀ i, (tfL l i).length = i
  | 0 => rfl
  | i + 1 => by rw [tfL, putB_len, tfL_len l i]
theorem putB_mem (P : List S36) (x y : S36) (h : y ∈ putB P x) : y = x ∨ y ∈ P := by
  unfold putB at h
  rw [List.mem_append, List.mem_cons] at h
  rcases h with h | rfl | h
  · exact .inr (List.mem_of_mem_take h)
  · exact .inl rfl
  · exact .inr (List.mem_of_mem_drop h)
theorem tfL_mem (l : List S36) : ∀ (i : Nat), i ≤ l.length → ∀ y ∈ tfL l i, y ∈ l
  | 0, _, y, h => by simp [tfL] at h
  | i + 1, hi, y, h => by
    rcases putB_mem _ _ _ h with rfl | h
    · rw [rdB (show i < l.length by omega)]; exact List.getElem_mem _
    · exact tfL_mem l i (by omega) y h
theorem rdB_app_lt {a : List S36} {i : Nat} (h : i < a.length) (r : List S36) : rd_T36 (a ++ r) (i : Int) = rd_T36 a (i : Int) := by
  simp [rd_T36, List.getD_eq_getElem?_getD, List.getElem?_append_left h]
theorem rdB_app_at (a : List S36) (x : S36) (r : List S36) : rd_T36 (a ++ x :: r) (a.length : Nat) = x := by
  simp [rd_T36, List.getD_eq_getElem?_getD]
theorem tfC_lt (x y : S36) (hx : 1 ≤ x.f1 ∧ x.f1 ≤ 100) (hy : 1 ≤ y.f1 ∧ y.f1 ≤ 100) : tfC x y < 0 ↔ y.f1 < x.f1 := by
  unfold tfC
  rw [w64 (by omega) (by omega)]
  omega
theorem insB_tf (x : S36) (hx : 1 ≤ x.f1 ∧ x.f1 ≤ 100) (P R : List S36) (hP : ∀ y ∈ P, 1 ≤ y.f1 ∧ y.f1 ≤ 100) : ∀ j : Nat, j ≤ P.length → insB tfC j (P.take j ++ x :: (P.drop j ++ R)) = P.take (atB x P j) ++ x :: (P.drop (atB x P j) ++ R)
  | 0, _ => by simp [insB, atB]
  | j + 1, hj => by
    have hlt : j < P.length := by omega
    have htl : (P.take (j + 1)).length = j + 1 := by simp; omega
    have e1 : rd_T36 (P.take (j + 1) ++ x :: (P.drop (j + 1) ++ R)) ((j + 1 : Nat) : Int) = x := by
      have := rdB_app_at (P.take (j + 1)) x (P.drop (j + 1) ++ R)
      rwa [htl] at this
    have e2 : rd_T36 (P.take (j + 1) ++ x :: (P.drop (j + 1) ++ R)) (j : Int) = rd_T36 P (j : Int) := by
      rw [rdB_app_lt (by omega), rdB (by omega), rdB hlt, List.getElem_take]
    have e3 : swpB (P.take (j + 1) ++ x :: (P.drop (j + 1) ++ R)) j = P.take j ++ x :: (P.drop j ++ R) := by
      unfold swpB
      rw [e1, e2, List.set_append_right _ _ (by omega), htl, Nat.sub_self, List.set_cons_zero, List.take_succ_eq_append_getElem hlt, List.append_assoc, List.set_append_right _ _ (by simp; omega)]
      have hz : j - (P.take j).length = 0 := by simp; omega
      have hd : P.drop j = P[j] :: P.drop (j + 1) := List.drop_eq_getElem_cons hlt
      rw [hz, List.singleton_append, List.set_cons_zero, rdB hlt, hd]
      simp only [List.cons_append]
    have hy := hP (rd_T36 P j) (by rw [rdB hlt]; exact List.getElem_mem hlt)
    rw [insB, e1, e2, e3]
    by_cases c : (rd_T36 P (j : Int)).f1 < x.f1
    · rw [if_pos ((tfC_lt _ _ hx hy).2 c), insB_tf x hx P R hP j (by omega), atB, if_pos c]
    · rw [if_neg (fun h2 => c ((tfC_lt _ _ hx hy).1 h2)), atB, if_neg c]
theorem sortB_tf (l : List S36) (h : ∀ y ∈ l, 1 ≤ y.f1 ∧ y.f1 ≤ 100) : ∀ (d i : Nat), i + d ≤ l.length → sortB tfC d i (tfL l i ++ l.drop i) = tfL l (i + d) ++ l.drop (i + d)
  | 0, i, _ => rfl
  | d + 1, i, hi => by
    have hlt : i < l.length := by omega
    have hstep : insB tfC i (tfL l i ++ l.drop i) = tfL l (i + 1) ++ l.drop (i + 1) := by
      rw [dropB hlt]
      have hL := tfL_len l i
      have := insB_tf (rd_T36 l i) (h _ (by rw [rdB hlt]; exact List.getElem_mem hlt)) (tfL l i) (l.drop (i + 1)) (fun y hy => h y (tfL_mem l i (by omega) y hy)) i (by omega)
      rw [List.take_of_length_le (by omega), List.drop_of_length_le (show (tfL l i).length ≤ i by omega), List.nil_append] at this
      rw [this, tfL, putB, hL]
      simp
    rw [sortB, hstep, sortB_tf l h d (i + 1) (by omega), show i + 1 + d = i + (d + 1) by omega]
theorem tf_l1 (l : List S36) (hl : l.length ≤ 12) (P : List S36) (i : Nat) (hi : i < l.length) (hlen : P.length = i) (R : List S36 × Bool) (hR : Ev (fun z => spec_TallestFirst.l0 z (putB P (rd_T36 l i)) l l.length ((i + 1 : Nat) : Int)) R) :
    ∀ (a : Nat), a ≤ P.length → atB (rd_T36 l i) P a = atB (rd_T36 l i) P P.length → Ev (fun z => spec_TallestFirst.l1 z P a l l.length i (rd_T36 l i).f0 (rd_T36 l i).f1) R
  | 0, ha, he => by
    have he0 : atB (rd_T36 l i) P P.length = 0 := by rw [← he]; rfl
    unfold putB at hR
    rw [he0] at hR
    refine Ev.step (fun z => ?_) hR
    rw [spec_TallestFirst.l1, if_neg (by omega), Option.bind_some, if_pos (by omega), if_pos (by omega), Option.bind_some, if_pos (by simp), Option.bind_some, Option.bind_some, if_pos (by simp), Option.bind_some, Option.bind_some, if_pos (by simp; omega), w64i i (by omega)]
    simp
  | a + 1, ha, he => by
    have hlt : a < P.length := by omega
    have hw : wrap64 (((a + 1 : Nat) : Int) - 1) = (a : Int) := by rw [w64 (by omega) (by omega)]; omega
    rw [atB] at he
    by_cases c : (rd_T36 P (a : Int)).f1 < (rd_T36 l i).f1
    · rw [if_pos c] at he
      refine Ev.step (fun z => ?_) (tf_l1 l hl P i hi hlen R hR a (by omega) he)
      rw [spec_TallestFirst.l1, if_pos (by omega), hw, if_pos (by omega), if_pos (by omega), if_pos c]
    · rw [if_neg c] at he
      unfold putB at hR
      rw [← he] at hR
      refine Ev.step (fun z => ?_) hR
      rw [spec_TallestFirst.l1, if_pos (by omega), hw, if_pos (by omega), if_pos (by omega), if_neg c, Option.bind_some, if_pos (by omega), if_pos (by omega), Option.bind_some, if_pos (by simp; omega), Option.bind_some, Option.bind_some, if_pos (by simp; omega), Option.bind_some, Option.bind_some, if_pos (by simp; omega), w64i i (by omega), Int.toNat_natCast]
      simp
theorem tf_l0 (l : List S36) (hl : l.length ≤ 12) (d : Nat) : ∀ i : Nat, i + d = l.length → Ev (fun z => spec_TallestFirst.l0 z (tfL l i) l l.length i) (tfL l l.length, true) := by
  induction d with
  | zero =>
    intro i hi
    obtain rfl : i = l.length := by omega
    refine Ev.step (fun z => ?_) (Ev.now _)
    rw [spec_TallestFirst.l0, if_neg (by omega)]
  | succ d ih =>
    intro i hi
    refine Ev.step (fun z => by rw [spec_TallestFirst.l0, if_pos (by omega), if_pos (by omega), if_pos (by omega)]) ?_
    exact tf_l1 l hl (tfL l i) i (by omega) (tfL_len l i) _ (ih (i + 1) (by omega)) _ (Nat.le_refl _) rfl
theorem tallest_both (l : List S36) (hl : l.length ≤ 1048576) : ∃ v b, Ev (fun k => spec_TallestFirst.f k l) (v, b) ∧ Ev (fun _ => impl_TallestFirst.f l) (v, b) ∧ v.length ≤ 1048576 := by
  unfold spec_TallestFirst.f impl_TallestFirst.f
  by_cases h : goodK l = true
  · obtain ⟨g1, g2, g3⟩ := goodK_iff h
    refine ⟨tfL l l.length, true, Ev.bind (shGood_ev l hl) (Ev.pos h (tf_l0 l g2 l.length 0 (Nat.zero_add _))), Ev.call (AreBooks_eq l) (Ev.pos h (Ev.pos ⟨g1, g2⟩ (Ev.val (Ev.now _) ?_))), by rw [tfL_len]; exact hl⟩
    have h1 := sortB_tf l (fun y hy => (g3 y hy).2) (l.length - 1) 1 (by omega)
    have e1 : tfL l 1 = [rd_T36 l ((0 : Nat) : Int)] := by simp [tfL, putB, atB]
    have e2 : l = [rd_T36 l ((0 : Nat) : Int)] ++ l.drop 1 := by
      have := dropB (l := l) (i := 0) (by omega)
      rw [List.drop_zero] at this
      conv => lhs; rw [this]
      rfl
    rw [e1, ← e2, show 1 + (l.length - 1) = l.length by omega, List.drop_of_length_le (Nat.le_refl _), List.append_nil] at h1
    rw [h1]
  · exact ⟨[], false, Ev.bind (shGood_ev l hl) (Ev.neg h (Ev.now _)), Ev.call (AreBooks_eq l) (Ev.neg h (Ev.now _)), by simp⟩
end Go.Proofs.Ythpabbepglokeaa.Q
