/- The lowest shelvings and how many shelvings there are: the reference's table against the program's walk through all of them. Conditions: at most 12 books from 1 to 100, each not thicker than the width. -/
import Derived.Test.YthdfkgehgkfffaaPx0
import Derived.Test.YthdfkgehgkfffaaPx15
import Derived.Test.YthdfkgehgkfffaaQShC
import Derived.Test.YthdfkgehgkfffaaQMark
namespace Go.Proofs.Ythdfkgehgkfffaa.Q
open Go.RowKit Go.Proofs.Ythdfkgehgkfffaa.P Go.Proofs.Ythdfkgehgkfffaa.Sh Go.Proofs.YthdfkgehgkfffaaW.PrintWords Go.Proofs.YthdfkgehgkfffaaW.PrintLast
set_option linter.unusedVariables false
set_option linter.unusedSimpArgs false

theorem thW_snoc (b : S40) : ∀ (l : List S40) (s t h : Int), thW s t h (l ++ [b]) = (wrap64 ((thW s t h l).1 + b.f0), mx (thW s t h l).2.1 b.f0, mx (thW s t h l).2.2 b.f1)
  | [], s, t, h => rfl
  | c :: cs, s, t, h => thW_snoc b cs _ _ _
theorem prt_succ (l : List S40) (a b : Nat) (ha : a ≤ b) (hb : b < l.length) : prt l a (b + 1) = prt l a b ++ [rd_T40 l b] := by
  unfold prt
  rw [List.take_succ_eq_append_getElem hb, List.drop_append_of_le_length (by simp; omega), rdB hb]
theorem prt_self (l : List S40) (a : Nat) : prt l a a = [] := by
  unfold prt
  exact List.drop_of_length_le (by simp; omega)
theorem thk_succ (l : List S40) (a b : Nat) (ha : a ≤ b) (hb : b < l.length) : thk (prt l a (b + 1)) = wrap64 (thk (prt l a b) + (rd_T40 l b).f0) := by
  unfold thk; rw [prt_succ l a b ha hb, thW_snoc]
theorem tal_succ (l : List S40) (a b : Nat) (ha : a ≤ b) (hb : b < l.length) : tal (prt l a (b + 1)) = mx (tal (prt l a b)) (rd_T40 l b).f1 := by
  unfold tal; rw [prt_succ l a b ha hb, thW_snoc]
theorem thk_bd (l : List S40) (hl : l.length ≤ 12) (hb : ∀ b ∈ l, 1 ≤ b.f0 ∧ b.f0 ≤ 100) (a : Nat) : ∀ d : Nat, a + d ≤ l.length → (d : Int) ≤ thk (prt l a (a + d)) ∧ thk (prt l a (a + d)) ≤ 100 * (d : Int)
  | 0, _ => by rw [Nat.add_zero, prt_self]; simp [thk, thW]
  | d + 1, h => by
    have ih := thk_bd l hl hb a d (by omega)
    have hlt : a + d < l.length := by omega
    have hbd := hb (rd_T40 l ((a + d : Nat) : Int)) (by rw [rdB hlt]; exact List.getElem_mem hlt)
    rw [← Nat.add_assoc, thk_succ l a (a + d) (by omega) hlt, w64 (by omega) (by omega)]
    omega
theorem thk_mono (l : List S40) (hl : l.length ≤ 12) (hb : ∀ b ∈ l, 1 ≤ b.f0 ∧ b.f0 ≤ 100) (a b : Nat) (hab : a ≤ b) : ∀ d : Nat, b + d ≤ l.length → thk (prt l a b) ≤ thk (prt l a (b + d))
  | 0, _ => Int.le_refl _
  | d + 1, h => by
    have ih := thk_mono l hl hb a b hab d (by omega)
    have hlt : b + d < l.length := by omega
    have hbd := hb (rd_T40 l ((b + d : Nat) : Int)) (by rw [rdB hlt]; exact List.getElem_mem hlt)
    have h2 := thk_bd l hl hb a (b + d - a) (by omega)
    rw [show a + (b + d - a) = b + d by omega] at h2
    rw [← Nat.add_assoc, thk_succ l a (b + d) (by omega) hlt, w64 (by omega) (by omega)]
    omega
theorem thW_tal : ∀ (p : List S40) (s t h : Int), (∀ b ∈ p, b.f1 ≤ 100) → 0 ≤ h → h ≤ 100 → 0 ≤ (thW s t h p).2.2 ∧ (thW s t h p).2.2 ≤ 100
  | [], s, t, h, _, h0, h1 => ⟨h0, h1⟩
  | b :: bs, s, t, h, hb, h0, h1 => by
    have := hb b (by simp)
    exact thW_tal bs _ _ _ (fun c hc => hb c (by simp [hc])) (by unfold mx; omega) (by unfold mx; omega)
theorem tal_bd (l : List S40) (hb : ∀ b ∈ l, b.f1 ≤ 100) (a b : Nat) : 0 ≤ tal (prt l a b) ∧ tal (prt l a b) ≤ 100 := by
  unfold tal
  exact thW_tal _ _ _ _ (fun c hc => hb c (List.mem_of_mem_take (List.mem_of_mem_drop hc))) (by omega) (by omega)
/-- Books from a on that stand on one shelf. -/
theorem vB_iff (l : List S40) (w : Int) (hl : l.length ≤ 12) (hb : ∀ b ∈ l, 1 ≤ b.f0 ∧ b.f0 ≤ 100) (a b : Nat) (hab : a < b) (hbn : b ≤ l.length) : vB l w a b = decide (thk (prt l a b) ≤ w) := by
  have := thk_bd l hl hb a (b - a) (by omega)
  rw [show a + (b - a) = b by omega] at this
  unfold vB inK
  rw [decide_eq_true (show 1 ≤ thk (prt l a b) by omega), Bool.true_and]
theorem one_len (v : Nat → Nat → Bool) (H : Nat → Nat → Int) (n s : Nat) : ∀ R : List (List Nat), (R.flatMap (one v H n s)).length ≤ R.length
  | [] => by simp
  | r :: R => by
    have := one_len v H n s R
    rw [List.flatMap_cons, List.length_append, List.length_cons]
    have : (one v H n s r).length ≤ 1 := by unfold one; split <;> simp
    omega
theorem Es_len (v : Nat → Nat → Bool) (H : Nat → Nat → Int) (n s : Nat) (hn : n ≤ 12) (hs : s < n) : (Es v H n s).length ≤ 2048 := by
  have h1 := one_len v H n s ([] :: sufE (n - (s + 1)) (s + 1))
  have h2 := suf_len (n - (s + 1)) (s + 1)
  have h3 : 2 ^ (n - (s + 1)) ≤ 2 ^ 11 := Nat.pow_le_pow_right (by omega) (by omega)
  simp only [List.length_cons] at h1
  unfold Es
  omega
theorem Gs_none (v : Nat → Nat → Bool) (H : Nat → Nat → Int) (n s : Nat) : ∀ (d a : Nat), a + d = n → (∀ b, a ≤ b → b < n → v s b = false) → Gs v H n s a = []
  | 0, a, h, _ => by
    have : a = n := by omega
    subst this; exact Gs_end v H a s
  | d + 1, a, h, hv => by
    rw [Gs_step v H n s a (by omega), if_neg (by rw [hv a (by omega) (by omega)]; simp), Gs_none v H n s d (a + 1) (by omega) (fun b h1 h2 => hv b (by omega) h2)]
    rfl
theorem rd_set_z {l : List Int} {i : Nat} (h : i < l.length) (x : Int) : rd (l.set i x) (i : Int) = x := rd_set_self h x

theorem rd_rep (n : Nat) (i : Nat) : rd (List.replicate n 0) (i : Int) = 0 := by
  simp [rd, List.getD_eq_getElem?_getD, List.getElem?_replicate]
  split <;> rfl
theorem shelved_pos {l : List S40} {w : Int} (h : shelvedK l w = true) : 1 ≤ l.length := by
  unfold shelvedK at h
  rw [Bool.and_eq_true] at h
  exact (goodK_iff h.1).1
end Go.Proofs.Ythdfkgehgkfffaa.Q
