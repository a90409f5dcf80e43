/- The lowest shelvings and how many shelvings there are: the reference's table against the program's walk through all of them. Conditions: at most 12 books from 1 to 100, each not thicker than the width. -/
import Derived.Test.YthdfkgehgkfffaaPx0
import Derived.Test.YthdfkgehgkfffaaPx8
import Derived.Test.YthdfkgehgkfffaaPx11
import Derived.Test.YthdfkgehgkfffaaPx15
import Derived.Test.YthdfkgehgkfffaaQShC
import Derived.Test.YthdfkgehgkfffaaQMark
namespace Go.Proofs.Ythdfkgehgkfffaa.Q
open Go.RowKit Go.Proofs.Ythdfkgehgkfffaa.P Go.Proofs.Ythdfkgehgkfffaa.Sh Go.Proofs.YthdfkgehgkfffaaW.PrintWords Go.Proofs.YthdfkgehgkfffaaW.PrintLast
set_option linter.unusedVariables false
set_option linter.unusedSimpArgs false

theorem thW_snoc (b : S40) : ∀ (l : List S40) (s t h : Int), thW s t h (l ++ [b]) = (wrap64 ((thW s t h l).1 + b.f0), mx (thW s t h l).2.1 b.f0, mx (thW s t h l).2.2 b.f1)
  | [], s, t, h => rfl
  | c :: cs, s, t, h => thW_snoc b cs _ _ _
theorem prt_succ (l : List S40) (a b : Nat) (ha : a ≤ b) (hb : b < l.length) : prt l a (b + 1) = prt l a b ++ [rd_T40 l b] := by
  unfold prt
  rw [List.take_succ_eq_append_getElem hb, List.drop_append_of_le_length (by simp; omega), rdB hb]
theorem prt_self (l : List S40) (a : Nat) : prt l a a = [] := by
  unfold prt
  exact List.drop_of_length_le (by simp; omega)
theorem thk_succ (l : List S40) (a b : Nat) (ha : a ≤ b) (hb : b < l.length) : thk (prt l a (b + 1)) = wrap64 (thk (prt l a b) + (rd_T40 l b).f0) := by
  unfold thk; rw [prt_succ l a b ha hb, thW_snoc]
theorem tal_succ (l : List S40) (a b : Nat) (ha : a ≤ b) (hb : b < l.length) : tal (prt l a (b + 1)) = mx (tal (prt l a b)) (rd_T40 l b).f1 := by
  unfold tal; rw [prt_succ l a b ha hb, thW_snoc]
theorem thk_bd (l : List S40) (hl : l.length ≤ 12) (hb : ∀ b ∈ l, 1 ≤ b.f0 ∧ b.f0 ≤ 100) (a : Nat) : ∀ d : Nat, a + d ≤ l.length → (d : Int) ≤ thk (prt l a (a + d)) ∧ thk (prt l a (a + d)) ≤ 100 * (d : Int)
  | 0, _ => by rw [Nat.add_zero, prt_self]; simp [thk, thW]
  | d + 1, h => by
    have ih := thk_bd l hl hb a d (by omega)
    have hlt : a + d < l.length := by omega
    have hbd := hb (rd_T40 l ((a + d : Nat) : Int)) (by rw [rdB hlt]; exact List.getElem_mem hlt)
    rw [← Nat.add_assoc, thk_succ l a (a + d) (by omega) hlt, w64 (by omega) (by omega)]
    omega
theorem thk_mono (l : List S40) (hl : l.length ≤ 12) (hb : ∀ b ∈ l, 1 ≤ b.f0 ∧ b.f0 ≤ 100) (a b : Nat) (hab : a ≤ b) : ∀ d : Nat, b + d ≤ l.length → thk (prt l a b) ≤ thk (prt l a (b + d))
  | 0, _ => Int.le_refl _
  | d + 1, h => by
    have ih := thk_mono l hl hb a b hab d (by omega)
    have hlt : b + d < l.length := by omega
    have hbd := hb (rd_T40 l ((b + d : Nat) : Int)) (by rw [rdB hlt]; exact List.getElem_mem hlt)
    have h2 := thk_bd l hl hb a (b + d - a) (by omega)
    rw [show a + (b + d - a) = b + d by omega] at h2
    rw [← Nat.add_assoc, thk_succ l a (b + d) (by omega) hlt, w64 (by omega) (by omega)]
    omega
theorem thW_tal : ∀ (p : List S40) (s t h : Int), (∀ b ∈ p, b.f1 ≤ 100) → 0 ≤ h → h ≤ 100 → 0 ≤ (thW s t h p).2.2 ∧ (thW s t h p).2.2 ≤ 100
  | [], s, t, h, _, h0, h1 => ⟨h0, h1⟩
  | b :: bs, s, t, h, hb, h0, h1 => by
    have := hb b (by simp)
    exact thW_tal bs _ _ _ (fun c hc => hb c (by simp [hc])) (by unfold mx; omega) (by unfold mx; omega)
theorem tal_bd (l : List S40) (hb : ∀ b ∈ l, b.f1 ≤ 100) (a b : Nat) : 0 ≤ tal (prt l a b) ∧ tal (prt l a b) ≤ 100 := by
  unfold tal
  exact thW_tal _ _ _ _ (fun c hc => hb c (List.mem_of_mem_take (List.mem_of_mem_drop hc))) (by omega) (by omega)
/-- Books from a on that stand on one shelf. -/
theorem vB_iff (l : List S40) (w : Int) (hl : l.length ≤ 12) (hb : ∀ b ∈ l, 1 ≤ b.f0 ∧ b.f0 ≤ 100) (a b : Nat) (hab : a < b) (hbn : b ≤ l.length) : vB l w a b = decide (thk (prt l a b) ≤ w) := by
  have := thk_bd l hl hb a (b - a) (by omega)
  rw [show a + (b - a) = b by omega] at this
  unfold vB inK
  rw [decide_eq_true (show 1 ≤ thk (prt l a b) by omega), Bool.true_and]
theorem one_len (v : Nat → Nat → Bool) (H : Nat → Nat → Int) (n s : Nat) : ∀ R : List (List Nat), (R.flatMap (one v H n s)).length ≤ R.length
  | [] => by simp
  | r :: R => by
    have := one_len v H n s R
    rw [List.flatMap_cons, List.length_append, List.length_cons]
    have : (one v H n s r).length ≤ 1 := by unfold one; split <;> simp
    omega
theorem Es_len (v : Nat → Nat → Bool) (H : Nat → Nat → Int) (n s : Nat) (hn : n ≤ 12) (hs : s < n) : (Es v H n s).length ≤ 2048 := by
  have h1 := one_len v H n s ([] :: sufE (n - (s + 1)) (s + 1))
  have h2 := suf_len (n - (s + 1)) (s + 1)
  have h3 : 2 ^ (n - (s + 1)) ≤ 2 ^ 11 := Nat.pow_le_pow_right (by omega) (by omega)
  simp only [List.length_cons] at h1
  unfold Es
  omega
theorem Gs_none (v : Nat → Nat → Bool) (H : Nat → Nat → Int) (n s : Nat) : ∀ (d a : Nat), a + d = n → (∀ b, a ≤ b → b < n → v s b = false) → Gs v H n s a = []
  | 0, a, h, _ => by
    have : a = n := by omega
    subst this; exact Gs_end v H a s
  | d + 1, a, h, hv => by
    rw [Gs_step v H n s a (by omega), if_neg (by rw [hv a (by omega) (by omega)]; simp), Gs_none v H n s d (a + 1) (by omega) (fun b h1 h2 => hv b (by omega) h2)]
    rfl
theorem rd_set_z {l : List Int} {i : Nat} (h : i < l.length) (x : Int) : rd (l.set i x) (i : Int) = x := rd_set_self h x

/-! ### how many there are -/
/-- How many ways go on from a book. -/
def wy (l : List S40) (w : Int) (j : Nat) : Nat := if j = l.length then 1 else (Es (vB l w) (fun _ _ => 0) l.length j).length
def rst (l : List S40) (w : Int) (k e : Nat) : Nat := (Gs (vB l w) (fun _ _ => 0) l.length k e).length + (if vB l w k l.length = true then 1 else 0)
theorem rst_step (l : List S40) (w : Int) (k e : Nat) (he : e < l.length) : rst l w k e = (if vB l w k e = true then wy l w e else 0) + rst l w k (e + 1) := by
  unfold rst
  rw [Gs_step _ _ _ k e he, List.length_append]
  unfold wy
  rw [if_neg (show ¬ e = l.length by omega)]
  by_cases h : vB l w k e = true
  · rw [if_pos h, if_pos h, List.length_map]; omega
  · rw [if_neg h, if_neg h]; simp
theorem rst_last (l : List S40) (w : Int) (k : Nat) : rst l w k l.length = (if vB l w k l.length = true then wy l w l.length else 0) := by
  unfold rst wy
  rw [Gs_end, if_pos rfl]; simp
theorem wy_rst (l : List S40) (w : Int) (k : Nat) (hk : k < l.length) : wy l w k = rst l w k (k + 1) := by
  unfold rst wy
  rw [if_neg (show ¬ k = l.length by omega), Es_eq, List.length_append]
  by_cases h : vB l w k l.length = true
  · rw [if_pos h, if_pos h]; simp; omega
  · rw [if_neg h, if_neg h]; simp
theorem wy_le (l : List S40) (w : Int) (hl : l.length ≤ 12) (j : Nat) (hj : j ≤ l.length) : wy l w j ≤ 2048 := by
  unfold wy
  split
  · omega
  · exact Es_len _ _ _ _ hl (by omega)
theorem count_l1 (l : List S40) (w : Int) (hl : l.length ≤ 12) (hb : ∀ b ∈ l, 1 ≤ b.f0 ∧ b.f0 ≤ 100) (k : Nat) (hk : k < l.length) (R : Int × Bool)
    (hnext : ∀ x6 : List Int, x6.length = l.length + 1 → (∀ j : Nat, k ≤ j → j ≤ l.length → rd x6 j = (wy l w j : Int)) → (∀ j : Nat, j < k → rd x6 j = 0) → Ev (fun r => spec_CountShelvings.l0 r l w x6 ((k : Int) - 1)) R) (d : Nat) :
    ∀ (e : Nat) (x6 : List Int), e + d = l.length → k ≤ e → x6.length = l.length + 1 → (∀ j : Nat, k < j → j ≤ l.length → rd x6 j = (wy l w j : Int)) → (∀ j : Nat, j < k → rd x6 j = 0) → rd x6 k + ((if e < l.length then rst l w k (e + 1) else 0 : Nat) : Int) = (wy l w k : Int) → 0 ≤ rd x6 k →
    Ev (fun r => spec_CountShelvings.l1 r l w x6 k (thk (prt l k e)) ((e + 1 : Nat) : Int)) R := by
  induction d with
  | zero =>
    intro e x6 he hke h6 hj hz hs h0
    obtain rfl : e = l.length := by omega
    rw [if_neg (by omega)] at hs
    refine Ev.step (f := fun r => spec_CountShelvings.l0 r l w x6 ((k : Int) - 1)) (fun r => ?_) (hnext x6 h6 (fun j h1 h2 => ?_) hz)
    · rw [spec_CountShelvings.l1, if_neg (by omega), w64 (x := (k : Int) - 1) (by omega) (by omega)]
    · rcases Nat.eq_or_lt_of_le h1 with rfl | h1
      · omega
      · exact hj j h1 h2
  | succ d ih =>
    intro e x6 he hke h6 hj hz hs h0
    have hlt : e < l.length := by omega
    rw [if_pos hlt] at hs
    have hwk := wy_le l w hl k (by omega)
    have hwe := wy_le l w hl (e + 1) (by omega)
    have hth := thk_succ l k e hke hlt
    have hv := vB_iff l w hl hb k (e + 1) (by omega) (by omega)
    have hr : rst l w k (e + 1) = (if vB l w k (e + 1) = true then wy l w (e + 1) else 0) + (if e + 1 < l.length then rst l w k (e + 1 + 1) else 0) := by
      by_cases h : e + 1 < l.length
      · rw [if_pos h]; exact rst_step l w k (e + 1) h
      · rw [if_neg h]
        have : e + 1 = l.length := by omega
        rw [this]; exact rst_last l w k
    rw [hr] at hs
    have hei : wrap64 ((((e + 1 : Nat) : Int)) - 1) = (e : Int) := by rw [w64 (by omega) (by omega)]; omega
    by_cases hvt : thk (prt l k (e + 1)) ≤ w
    · rw [decide_eq_true hvt] at hv
      rw [if_pos hv] at hs
      have hje := hj (e + 1) (by omega) (by omega)
      refine Ev.step (f := fun r => spec_CountShelvings.l1 r l w (x6.set k (rd x6 k + rd x6 ((e + 1 : Nat) : Int))) k (thk (prt l k (e + 1))) ((e + 1 + 1 : Nat) : Int)) (fun r => ?_) (ih (e + 1) _ (by omega) (by omega) (by simpa using h6) (fun j h1 h2 => ?_) (fun j h1 => ?_) ?_ ?_)
      · rw [spec_CountShelvings.l1, if_pos (by omega), hei, if_pos (by omega), if_pos (by omega), ← hth, if_pos hvt, if_pos (by omega), if_pos (by omega), if_pos (by omega), if_pos (by omega), w64i (e + 1) (by omega), w64 (x := rd x6 k + rd x6 ((e + 1 : Nat) : Int)) (by omega) (by omega), Int.toNat_natCast]
      · rw [rd_set_ne (by omega)]; exact hj j h1 h2
      · rw [rd_set_ne (by omega)]; exact hz j h1
      · rw [rd_set_z (by omega)]; omega
      · rw [rd_set_z (by omega)]; omega
    · rw [decide_eq_false hvt] at hv
      rw [if_neg (by rw [hv]; simp)] at hs
      refine Ev.step (f := fun r => spec_CountShelvings.l1 r l w x6 k (thk (prt l k (e + 1))) ((e + 1 + 1 : Nat) : Int)) (fun r => ?_) (ih (e + 1) _ (by omega) (by omega) h6 hj hz (by omega) h0)
      rw [spec_CountShelvings.l1, if_pos (by omega), hei, if_pos (by omega), if_pos (by omega), ← hth, if_neg hvt, w64i (e + 1) (by omega)]
theorem count_l0 (l : List S40) (w : Int) (h1 : 1 ≤ l.length) (hl : l.length ≤ 12) (hb : ∀ b ∈ l, 1 ≤ b.f0 ∧ b.f0 ≤ 100) : ∀ (m : Nat) (x6 : List Int), m ≤ l.length → x6.length = l.length + 1 → (∀ j : Nat, m ≤ j → j ≤ l.length → rd x6 j = (wy l w j : Int)) → (∀ j : Nat, j < m → rd x6 j = 0) → Ev (fun r => spec_CountShelvings.l0 r l w x6 ((m : Int) - 1)) ((wy l w 0 : Int), true)
  | 0, x6, _, h6, hj, hz => by
    refine Ev.step (f := fun r => some (rd x6 0, true)) (fun r => ?_) ?_
    · rw [spec_CountShelvings.l0, if_neg (by omega), if_pos (by omega)]
    · have := hj 0 (Nat.le_refl _) (by omega)
      rw [show rd x6 0 = (wy l w 0 : Int) from this]; exact Ev.now _
  | k + 1, x6, hm, h6, hj, hz => by
    have h := count_l1 l w hl hb k (by omega) ((wy l w 0 : Int), true) (fun y h6 hj hz => count_l0 l w h1 hl hb k y (by omega) h6 hj hz) (l.length - k) k x6 (by omega) (Nat.le_refl _) h6 (fun j h1 h2 => hj j (by omega) h2) (fun j h1 => hz j (by omega)) (by rw [if_pos (by omega), hz k (by omega), wy_rst l w k (by omega)]; omega) (by rw [hz k (by omega)]; omega)
    rw [prt_self] at h
    refine Ev.step (fun r => ?_) h
    rw [spec_CountShelvings.l0, if_pos (by omega), show (((k + 1 : Nat) : Int) - 1) = (k : Int) by omega, w64i k (by omega)]
    rfl
theorem rd_rep (n : Nat) (i : Nat) : rd (List.replicate n 0) (i : Int) = 0 := by
  simp [rd, List.getD_eq_getElem?_getD, List.getElem?_replicate]
  split <;> rfl
theorem specCount_ev (l : List S40) (w : Int) (hs : shelvedK l w = true) (h1 : 1 ≤ l.length) : Ev (fun k => spec_CountShelvings.f k l w) ((wy l w 0 : Int), true) := by
  have ha := shelved_all hs
  have hw1 : wrap64 ((l.length : Int) + 1) = ((l.length + 1 : Nat) : Int) := w64i _ (by omega)
  unfold spec_CountShelvings.f
  refine Ev.bind (shAsked_ev l w (by omega)) (Ev.pos hs ?_)
  rw [hw1, Int.toNat_natCast]
  refine Ev.pos (by omega) (Ev.pos (by omega) (Ev.call rfl ?_))
  refine Ev.pos (by omega) (Ev.pos (by simp only [List.length_replicate]; omega) ?_)
  rw [Int.toNat_natCast, w64 (x := (l.length : Int) - 1) (by omega) (by omega)]
  refine count_l0 l w h1 ha.1 (fun b hb => by have := ha.2.2.2 b hb; omega) l.length _ (Nat.le_refl _) (by simp) (fun j h2 h3 => ?_) (fun j h2 => ?_)
  · obtain rfl : j = l.length := by omega
    rw [rd_set_z (by simp)]; simp [wy]
  · rw [rd_set_ne (by omega)]; exact rd_rep _ _
theorem zero_fold {α : Type} : ∀ (L : List (α × Int)) (s : α × Int × Int), (∀ e ∈ L, e.2 = 0) → s.2.1 = 0 → 0 ≤ s.2.2 → (L.foldl bs s).2.2 = s.2.2 + (L.length : Int)
  | [], s, _, _, _ => by simp
  | e :: L, s, h, h0, h1 => by
    have he := h e (by simp)
    have hb : (bs s e).2.1 = 0 ∧ (bs s e).2.2 = s.2.2 + 1 := by unfold bs; grind
    have := zero_fold L (bs s e) (fun c hc => h c (by simp [hc])) hb.1 (by omega)
    simp only [List.foldl_cons, List.length_cons]
    rw [this, hb.2]; omega
theorem implCount_ev (l : List S40) (w : Int) (hs : shelvedK l w = true) (h1 : 1 ≤ l.length) : Ev (fun k => impl_CountShelvings.f k l w) ((wy l w 0 : Int), true) := by
  have ha := shelved_all hs
  unfold impl_CountShelvings.f
  refine Ev.bind (areShelved_ev l w (by omega)) (Ev.pos hs ?_)
  have h := bestO_ev l w h1 ha.1 zeroF (scR (fun _ _ => 0) l.length 0) (fun r hr => ?_)
  · refine Ev.bind h (Ev.val (Ev.now _) ?_)
    rw [best_fold l w ha.1, best_Es l w h1]
    have hz : ∀ s r, scR (fun _ _ => (0 : Int)) l.length s r = 0 := by
      intro s r
      induction r generalizing s with
      | nil => rfl
      | cons x xs ih => simp [scR, ih]
    have hm : (B [] (Es (vB l w) (fun _ _ => 0) l.length 0)).2.2 = ((Es (vB l w) (fun _ _ => 0) l.length 0).length : Int) := by
      unfold B
      rw [zero_fold _ _ ?_ rfl (by simp)]
      · simp
      · intro e he
        unfold Es at he
        obtain ⟨r, _, he⟩ := List.mem_flatMap.1 he
        unfold one at he
        split at he
        · simp at he; rw [he]; exact hz _ _
        · simp at he
    unfold wy
    rw [if_neg (show ¬ 0 = l.length by omega), ← hm]
    unfold sft
    split
    · rename_i h0; rw [h0]
    · rfl
  · refine Ev.val (Ev.now 0) ?_
    have hz : ∀ s r, scR (fun _ _ => (0 : Int)) l.length s r = 0 := by
      intro s r
      induction r generalizing s with
      | nil => rfl
      | cons x xs ih => simp [scR, ih]
    rw [hz]
theorem shelved_pos {l : List S40} {w : Int} (h : shelvedK l w = true) : 1 ≤ l.length := by
  unfold shelvedK at h
  rw [Bool.and_eq_true] at h
  exact (goodK_iff h.1).1
theorem countShelvings_both (l : List S40) (w : Int) (hl : l.length ≤ 1048576) : ∃ r, Ev (fun k => spec_CountShelvings.f k l w) r ∧ Ev (fun k => impl_CountShelvings.f k l w) r := by
  by_cases h : shelvedK l w = true
  · exact ⟨_, specCount_ev l w h (shelved_pos h), implCount_ev l w h (shelved_pos h)⟩
  · unfold spec_CountShelvings.f impl_CountShelvings.f
    exact ⟨(0, false), Ev.bind (shAsked_ev l w hl) (Ev.neg h (Ev.now _)), Ev.bind (areShelved_ev l w hl) (Ev.neg h (Ev.now _))⟩
end Go.Proofs.Ythdfkgehgkfffaa.Q
