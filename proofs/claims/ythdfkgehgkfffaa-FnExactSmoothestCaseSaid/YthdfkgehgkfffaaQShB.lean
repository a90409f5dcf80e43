/- Lists that rise, in order: told by bits and put in order, they are the same. No conditions: plain lemmas. -/
import Derived.Test.YthdfkgehgkfffaaPx0
import Derived.Test.YthdfkgehgkfffaaPx1
import Derived.Test.YthdfkgehgkfffaaQShA
namespace Go.Proofs.Ythdfkgehgkfffaa.Sh
set_option linter.unusedVariables false
set_option linter.unusedSimpArgs false
/-! ### the order of lists -/
def lessN : List Nat → List Nat → Bool
  | [], [] => false
  | [], _ :: _ => true
  | _ :: _, [] => false
  | x :: xs, y :: ys => if x = y then lessN xs ys else decide (x < y)
theorem lessN_irr : ∀ a : List Nat, lessN a a = false
  | [] => rfl
  | x :: xs => by simp [lessN, lessN_irr xs]
theorem lessN_trans : ∀ a b c : List Nat, lessN a b = true → lessN b c = true → lessN a c = true
  | [], [], _, h, _ => by simp [lessN] at h
  | [], _ :: _, [], _, h => by simp [lessN] at h
  | [], _ :: _, _ :: _, _, _ => rfl
  | _ :: _, [], _, h, _ => by simp [lessN] at h
  | _ :: _, _ :: _, [], _, h => by simp [lessN] at h
  | x :: xs, y :: ys, z :: zs, h, k => by
    have ih := lessN_trans xs ys zs
    simp only [lessN] at h k ⊢
    grind
theorem lessN_tot : ∀ a b : List Nat, a ≠ b → lessN a b = true ∨ lessN b a = true
  | [], [], h => absurd rfl h
  | [], _ :: _, _ => .inl rfl
  | _ :: _, [], _ => .inr rfl
  | x :: xs, y :: ys, h => by
    have ih := lessN_tot xs ys
    simp only [lessN]
    grind
theorem sufE_head : ∀ (e a : Nat) (r : List Nat), r ∈ sufE e a → ∃ x xs, r = x :: xs ∧ a ≤ x
  | 0, a, r, h => by simp [sufE] at h
  | e + 1, a, r, h => by
    simp only [sufE, List.cons_append, List.mem_cons, List.mem_append, List.mem_map] at h
    rcases h with rfl | ⟨q, _, rfl⟩ | h
    · exact ⟨a, [], rfl, Nat.le_refl _⟩
    · exact ⟨a, q, rfl, Nat.le_refl _⟩
    · obtain ⟨x, xs, h1, h2⟩ := sufE_head e (a + 1) r h
      exact ⟨x, xs, h1, by omega⟩
theorem sufE_sorted : ∀ (e a : Nat), ([] :: sufE e a).Pairwise (fun x y => lessN x y = true)
  | 0, a => by simp [sufE]
  | e + 1, a => by
    have ih := sufE_sorted e (a + 1)
    rw [List.pairwise_cons]
    constructor
    · intro r hr
      obtain ⟨x, xs, rfl, _⟩ := sufE_head _ _ _ hr
      rfl
    · rw [sufE, List.pairwise_append]
      refine ⟨?_, (List.pairwise_cons.1 ih).2, ?_⟩
      · rw [show ([a] :: (sufE e (a + 1)).map (a :: ·)) = ([] :: sufE e (a + 1)).map (a :: ·) by simp, List.pairwise_map]
        refine ih.imp ?_
        intro x y h
        simpa [lessN] using h
      · intro x hx y hy
        obtain ⟨z, zs, rfl, hz⟩ := sufE_head _ _ _ hy
        have : ∃ xs, x = a :: xs := by
          rw [show ([a] :: (sufE e (a + 1)).map (a :: ·)) = ([] :: sufE e (a + 1)).map (a :: ·) by simp, List.mem_map] at hx
          obtain ⟨q, _, rfl⟩ := hx
          exact ⟨q, rfl⟩
        obtain ⟨xs, rfl⟩ := this
        simp only [lessN]
        rw [if_neg (by omega)]
        simp; omega
/-- The list of a set, told by bits. -/
def bl : Nat → Nat → Nat → List Nat
  | 0, _, _ => []
  | e + 1, a, s => if s % 2 = 1 then a :: bl e (a + 1) (s / 2) else bl e (a + 1) (s / 2)
theorem bl_mem : ∀ (e a s : Nat), bl e a s ∈ [] :: sufE e a
  | 0, a, s => by simp [bl]
  | e + 1, a, s => by
    have ih := bl_mem e (a + 1) (s / 2)
    simp only [bl, sufE, List.mem_cons, List.mem_append, List.mem_map] at ih ⊢
    split
    · rcases ih with h | h
      · rw [h]; simp
      · exact .inr (.inl (.inr ⟨_, h, rfl⟩))
    · rcases ih with h | h
      · exact .inl h
      · exact .inr (.inr h)
theorem bl_onto : ∀ (e a : Nat) (r : List Nat), r ∈ [] :: sufE e a → ∃ s, s < 2 ^ e ∧ bl e a s = r
  | 0, a, r, h => by
    simp [sufE] at h
    exact ⟨0, by simp, by simp [bl, h]⟩
  | e + 1, a, r, h => by
    have ih := bl_onto e (a + 1)
    have hl : ∀ q ∈ [] :: sufE e (a + 1), (∃ s, s < 2 ^ (e + 1) ∧ bl (e + 1) a s = q) ∧ ∃ s, s < 2 ^ (e + 1) ∧ bl (e + 1) a s = a :: q := by
      intro q hq
      obtain ⟨s, h1, h2⟩ := ih q hq
      have hp : 2 ^ (e + 1) = 2 * 2 ^ e := by rw [Nat.pow_succ]; omega
      refine ⟨⟨2 * s, by omega, ?_⟩, ⟨2 * s + 1, by omega, ?_⟩⟩
      · rw [bl, if_neg (by omega), show 2 * s / 2 = s by omega, h2]
      · rw [bl, if_pos (by omega), show (2 * s + 1) / 2 = s by omega, h2]
    simp only [sufE, List.cons_append, List.mem_cons, List.mem_append, List.mem_map] at h
    rcases h with rfl | rfl | ⟨q, hq, rfl⟩ | h
    · exact (hl [] (by simp)).1
    · exact (hl [] (by simp)).2
    · exact (hl q (by simp [hq])).2
    · exact (hl r (by simp [h])).1
theorem bl_head (e a s : Nat) : ∀ x ∈ bl e a s, a ≤ x := by
  induction e generalizing a s with
  | zero => simp [bl]
  | succ e ih =>
    intro x hx
    rw [bl] at hx
    split at hx
    · rcases List.mem_cons.1 hx with rfl | hx
      · exact Nat.le_refl _
      · have := ih _ _ x hx; omega
    · have := ih _ _ x hx; omega
theorem bl_inj : ∀ (e a s s' : Nat), s < 2 ^ e → s' < 2 ^ e → bl e a s = bl e a s' → s = s'
  | 0, a, s, s', h, h', _ => by simp at h h'; omega
  | e + 1, a, s, s', h, h', k => by
    have hp : 2 ^ (e + 1) = 2 * 2 ^ e := by rw [Nat.pow_succ]; omega
    have ih := bl_inj e (a + 1) (s / 2) (s' / 2) (by omega) (by omega)
    rw [bl, bl] at k
    split at k <;> split at k
    · have := ih (by simpa using k); omega
    · have := bl_head e (a + 1) (s' / 2) a (by rw [← k]; simp); omega
    · have := bl_head e (a + 1) (s / 2) a (by rw [k]; simp); omega
    · have := ih k; omega
/-! ### put in order -/
/-- The place from so many on, downwards. -/
def atF (x : List Nat) (l : List (List Nat)) : Nat → Nat
  | 0 => 0
  | k + 1 => if lessN x (l.getD k []) = true then atF x l k else k + 1
def insF (l : List (List Nat)) (x : List Nat) : List (List Nat) := l.take (atF x l l.length) ++ x :: l.drop (atF x l l.length)
theorem atF_le (x : List Nat) (l : List (List Nat)) : ∀ k, atF x l k ≤ k
  | 0 => Nat.le_refl _
  | k + 1 => by rw [atF]; split; have := atF_le x l k; omega; omega
theorem atF_up (x : List Nat) (l : List (List Nat)) : ∀ k, ∀ j, atF x l k ≤ j → j < k → lessN x (l.getD j []) = true
  | 0, j, _, h => by omega
  | k + 1, j, h, h2 => by
    rw [atF] at h
    split at h
    · by_cases hj : j = k
      · subst hj; assumption
      · exact atF_up x l k j h (by omega)
    · omega
theorem atF_down (x : List Nat) (l : List (List Nat)) : ∀ k, 0 < atF x l k → lessN x (l.getD (atF x l k - 1) []) = false
  | 0, h => by simp [atF] at h
  | k + 1, h => by
    rw [atF] at h ⊢
    split
    · rename_i c; rw [if_pos c] at h; exact atF_down x l k h
    · rename_i c; simpa using c
theorem insF_mem (l : List (List Nat)) (x y : List Nat) : y ∈ insF l x ↔ y = x ∨ y ∈ l := by
  unfold insF
  rw [List.mem_append, List.mem_cons]
  conv => rhs; rhs; rw [← List.take_append_drop (atF x l l.length) l, List.mem_append]
  grind
theorem insF_sorted (l : List (List Nat)) (x : List Nat) (h : l.Pairwise (fun x y => lessN x y = true)) (hx : x ∉ l) : (insF l x).Pairwise (fun x y => lessN x y = true) := by
  unfold insF
  have hle := atF_le x l l.length
  have hup := atF_up x l l.length
  have hdn := atF_down x l l.length
  obtain ⟨p, hp⟩ : ∃ p, p = atF x l l.length := ⟨_, rfl⟩
  rw [← hp] at hle hup hdn ⊢
  have hs := h
  rw [← List.take_append_drop p l, List.pairwise_append] at hs
  have hd : ∀ b ∈ l.drop p, lessN x b = true := by
    intro b hb
    obtain ⟨j, hj, rfl⟩ := List.getElem_of_mem hb
    have := hup (p + j) (by omega) (by simp at hj; omega)
    simp at hj
    simpa [List.getElem_drop, List.getD_eq_getElem?_getD, List.getElem?_eq_getElem (show p + j < l.length by omega)] using this
  have ht : ∀ b ∈ l.take p, lessN b x = true := by
    intro b hb
    obtain ⟨j, hj, rfl⟩ := List.getElem_of_mem hb
    simp at hj
    have h1 := hdn (by omega)
    rw [List.getD_eq_getElem?_getD, List.getElem?_eq_getElem (show p - 1 < l.length by omega), Option.getD_some] at h1
    have h2 : lessN l[p - 1] x = true := by
      rcases lessN_tot l[p - 1] x (fun e => hx (by rw [← e]; exact List.getElem_mem _)) with h | h
      · exact h
      · rw [h1] at h; cases h
    rw [List.getElem_take]
    by_cases hjp : j = p - 1
    · subst hjp; exact h2
    · exact lessN_trans _ _ _ (List.pairwise_iff_getElem.1 h j (p - 1) (by omega) (by omega) (by omega)) h2
  rw [List.pairwise_append, List.pairwise_cons]
  refine ⟨hs.1, ⟨hd, hs.2.1⟩, ?_⟩
  intro a ha b hb
  rcases List.mem_cons.1 hb with rfl | hb
  · exact ht a ha
  · exact hs.2.2 a ha b hb
theorem sorted_unique : ∀ (l m : List (List Nat)), l.Pairwise (fun x y => lessN x y = true) → m.Pairwise (fun x y => lessN x y = true) → (∀ x, x ∈ l ↔ x ∈ m) → l = m
  | [], [], _, _, _ => rfl
  | [], y :: ys, _, _, h => by have := (h y).2 (by simp); simp at this
  | x :: xs, [], _, _, h => by have := (h x).1 (by simp); simp at this
  | x :: xs, y :: ys, hl, hm, h => by
    rw [List.pairwise_cons] at hl hm
    have hxy : x = y := by
      have h1 := (h x).1 (by simp)
      have h2 := (h y).2 (by simp)
      rcases List.mem_cons.1 h1 with e | h1
      · exact e
      · rcases List.mem_cons.1 h2 with e | h2
        · exact e.symm
        · have a := hm.1 x h1
          have b := hl.1 y h2
          have := lessN_trans _ _ _ a b
          rw [lessN_irr] at this; cases this
    subst hxy
    congr 1
    refine sorted_unique xs ys hl.2 hm.2 (fun z => ?_)
    have hz := h z
    simp only [List.mem_cons] at hz
    constructor
    · intro hzx
      rcases hz.1 (.inr hzx) with e | h
      · subst e; have := hl.1 z hzx; rw [lessN_irr] at this; cases this
      · exact h
    · intro hzy
      rcases hz.2 (.inr hzy) with e | h
      · subst e; have := hm.1 z hzy; rw [lessN_irr] at this; cases this
      · exact h
/-- All sets below m whose list is good, put in order one by one: a list that rises, and just these. -/
theorem all_sets (e a : Nat) (ok : List Nat → Bool) : ∀ m, m ≤ 2 ^ e → ((List.range m).foldl (fun l s => if ok (bl e a s) = true then insF l (bl e a s) else l) []).Pairwise (fun x y => lessN x y = true) ∧ ∀ x, x ∈ (List.range m).foldl (fun l s => if ok (bl e a s) = true then insF l (bl e a s) else l) [] ↔ ok x = true ∧ ∃ s, s < m ∧ bl e a s = x
  | 0, _ => by simp
  | m + 1, hm => by
    obtain ⟨h1, h2⟩ := all_sets e a ok m (by omega)
    rw [List.range_succ, List.foldl_append]
    simp only [List.foldl_cons, List.foldl_nil]
    generalize (List.range m).foldl (fun l s => if ok (bl e a s) = true then insF l (bl e a s) else l) [] = L at h1 h2 ⊢
    by_cases c : ok (bl e a m) = true
    · rw [if_pos c]
      refine ⟨insF_sorted _ _ h1 ?_, fun x => ?_⟩
      · rw [h2]
        rintro ⟨_, s, hs, he⟩
        have := bl_inj e a s m (by omega) (by omega) he
        omega
      · rw [insF_mem, h2]
        constructor
        · rintro (rfl | ⟨h3, s, hs, he⟩)
          · exact ⟨c, m, by omega, rfl⟩
          · exact ⟨h3, s, by omega, he⟩
        · rintro ⟨h3, s, hs, rfl⟩
          by_cases hsm : s = m
          · subst hsm; exact .inl rfl
          · exact .inr ⟨h3, s, by omega, rfl⟩
    · rw [if_neg c]
      refine ⟨h1, fun x => ?_⟩
      rw [h2]
      constructor
      · rintro ⟨h3, s, hs, he⟩
        exact ⟨h3, s, by omega, he⟩
      · rintro ⟨h3, s, hs, rfl⟩
        by_cases hsm : s = m
        · subst hsm; exact absurd h3 c
        · exact ⟨h3, s, by omega, rfl⟩
theorem all_sets_eq (e a : Nat) (ok : List Nat → Bool) : (List.range (2 ^ e)).foldl (fun l s => if ok (bl e a s) = true then insF l (bl e a s) else l) [] = ([] :: sufE e a).filter ok := by
  obtain ⟨h1, h2⟩ := all_sets e a ok (2 ^ e) (Nat.le_refl _)
  refine sorted_unique _ _ h1 ((sufE_sorted e a).sublist List.filter_sublist) (fun x => ?_)
  rw [h2, List.mem_filter]
  constructor
  · rintro ⟨h3, s, hs, rfl⟩
    exact ⟨bl_mem _ _ _, h3⟩
  · rintro ⟨h3, h4⟩
    exact ⟨h4, bl_onto e a x h3⟩
end Go.Proofs.Ythdfkgehgkfffaa.Sh
