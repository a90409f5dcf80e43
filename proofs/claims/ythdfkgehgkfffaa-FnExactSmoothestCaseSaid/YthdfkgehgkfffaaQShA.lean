/- The first best candidate, its score and how many have it, of lists that rise. No conditions: plain lemmas. -/
import Derived.Test.YthdfkgehgkfffaaPx0
namespace Go.Proofs.Ythdfkgehgkfffaa.Sh
set_option linter.unusedVariables false
set_option linter.unusedSimpArgs false
/-- One more candidate: the first best one, its score, how many have it. -/
def bs {α : Type} (s : α × Int × Int) (e : α × Int) : α × Int × Int := if s.2.2 = 0 ∨ e.2 < s.2.1 then (e.1, e.2, 1) else if e.2 = s.2.1 then (s.1, s.2.1, s.2.2 + 1) else s
def B {α : Type} (d : α) (l : List (α × Int)) : α × Int × Int := l.foldl bs (d, 0, 0)
def mg {α : Type} (x y : α × Int × Int) : α × Int × Int := if y.2.2 = 0 then x else if x.2.2 = 0 ∨ y.2.1 < x.2.1 then y else if y.2.1 = x.2.1 then (x.1, x.2.1, x.2.2 + y.2.2) else x
theorem bs_mg {α : Type} (s : α × Int × Int) (e : α × Int) : bs s e = mg s (e.1, e.2, 1) := by
  unfold bs mg; simp
theorem mg_assoc {α : Type} (x y z : α × Int × Int) (hx : 0 ≤ x.2.2) (hy : 0 ≤ y.2.2) (hz : 0 ≤ z.2.2) : mg (mg x y) z = mg x (mg y z) := by
  obtain ⟨x0, x1, x2⟩ := x
  obtain ⟨y0, y1, y2⟩ := y
  obtain ⟨z0, z1, z2⟩ := z
  simp only at hx hy hz
  unfold mg
  grind
theorem mg_nn {α : Type} (x y : α × Int × Int) (hx : 0 ≤ x.2.2) (hy : 0 ≤ y.2.2) : 0 ≤ (mg x y).2.2 := by
  unfold mg; grind
theorem mg_pos {α : Type} (x y : α × Int × Int) (hx : 0 ≤ x.2.2) (hy : 0 < y.2.2) : 0 < (mg x y).2.2 := by
  unfold mg; grind
theorem mg_pos' {α : Type} (x y : α × Int × Int) (hx : 0 < x.2.2) (hy : 0 ≤ y.2.2) : 0 < (mg x y).2.2 := by
  unfold mg; grind
theorem mg_zl {α : Type} (d : α) (y : α × Int × Int) (hy : 0 < y.2.2) : mg (d, 0, 0) y = y := by
  unfold mg; grind
theorem fold_nn {α : Type} (l : List (α × Int)) : ∀ s : α × Int × Int, 0 ≤ s.2.2 → 0 ≤ (l.foldl bs s).2.2 := by
  induction l with
  | nil => intro s h; exact h
  | cons e l ih => intro s h; exact ih _ (by rw [bs_mg]; exact mg_nn _ _ h (by simp))
theorem B_nn {α : Type} (d : α) (l : List (α × Int)) : 0 ≤ (B d l).2.2 := fold_nn l _ (by simp)
theorem fold_pos {α : Type} (l : List (α × Int)) : ∀ s : α × Int × Int, 0 < s.2.2 → 0 < (l.foldl bs s).2.2 := by
  induction l with
  | nil => intro s h; exact h
  | cons e l ih => intro s h; exact ih _ (by rw [bs_mg]; exact mg_pos _ _ (by omega) (by simp))
theorem fold_mg {α : Type} (d : α) (l : List (α × Int)) : ∀ s : α × Int × Int, 0 ≤ s.2.2 → l.foldl bs s = mg s (B d l) := by
  induction l with
  | nil => intro s h; simp [B, mg]
  | cons e l ih =>
    intro s h
    have h1 : 0 ≤ (bs s e).2.2 := by rw [bs_mg]; exact mg_nn _ _ h (by simp)
    have h2 : 0 < (bs (d, (0 : Int), (0 : Int)) e).2.2 := by rw [bs_mg]; exact mg_pos _ _ (by simp) (by simp)
    show l.foldl bs (bs s e) = mg s (l.foldl bs (bs (d, 0, 0) e))
    rw [ih _ h1, ih _ (by omega), bs_mg s, mg_assoc _ _ _ h (by simp) (B_nn _ _), bs_mg (d, (0 : Int), (0 : Int)), mg_zl _ _ (by simp)]
theorem B_append {α : Type} (d : α) (l m : List (α × Int)) : B d (l ++ m) = mg (B d l) (B d m) := by
  show (l ++ m).foldl bs (d, 0, 0) = _
  rw [List.foldl_append]
  exact fold_mg d m _ (B_nn d l)
/-- Candidates put behind a head. -/
def sft {α β : Type} (d : β) (f : α → β) (c : Int) (s : α × Int × Int) : β × Int × Int := if s.2.2 = 0 then (d, 0, 0) else (f s.1, c + s.2.1, s.2.2)
theorem sft_bs {α β : Type} (d : β) (f : α → β) (c : Int) (s : α × Int × Int) (hs : 0 ≤ s.2.2) (e : α × Int) : bs (sft d f c s) (f e.1, c + e.2) = sft d f c (bs s e) := by
  obtain ⟨s0, s1, s2⟩ := s
  obtain ⟨e0, e1⟩ := e
  simp only at hs
  unfold sft bs
  grind
theorem B_map {α β : Type} (d : α) (d' : β) (f : α → β) (c : Int) (l : List (α × Int)) : B d' (l.map fun e => (f e.1, c + e.2)) = sft d' f c (B d l) := by
  have h : ∀ (l : List (α × Int)) (s : α × Int × Int), 0 ≤ s.2.2 → (l.map fun e => (f e.1, c + e.2)).foldl bs (sft d' f c s) = sft d' f c (l.foldl bs s) := by
    intro l
    induction l with
    | nil => intro s hs; rfl
    | cons e l ih =>
      intro s hs
      simp only [List.map_cons, List.foldl_cons]
      rw [sft_bs _ _ _ _ hs]
      exact ih _ (by rw [bs_mg]; exact mg_nn _ _ hs (by simp))
  have h2 := h l (d, 0, 0) (by simp)
  rw [show sft d' f c (d, (0 : Int), (0 : Int)) = (d', 0, 0) by simp [sft]] at h2
  exact h2
/-! ### the lists that rise -/
/-- The lists that are not empty, rise and begin with a or more (e numbers are left), in order. -/
def sufE : Nat → Nat → List (List Nat)
  | 0, _ => []
  | e + 1, a => ([a] :: (sufE e (a + 1)).map (a :: ·)) ++ sufE e (a + 1)
section
variable (v : Nat → Nat → Bool) (H : Nat → Nat → Int) (n : Nat)
def okR : Nat → List Nat → Bool
  | s, [] => v s n
  | s, x :: xs => v s x && okR x xs
def scR : Nat → List Nat → Int
  | s, [] => H s n
  | s, x :: xs => H s x + scR x xs
def one (s : Nat) (r : List Nat) : List (List Nat × Int) := if okR v n s r = true then [(r, scR H n s r)] else []
/-- What goes on from s. -/
def Es (s : Nat) : List (List Nat × Int) := ([] :: sufE (n - (s + 1)) (s + 1)).flatMap (one v H n s)
def Gs (s a : Nat) : List (List Nat × Int) := (sufE (n - a) a).flatMap (one v H n s)
theorem one_cons (s a : Nat) (r : List Nat) : one v H n s (a :: r) = if v s a = true then (one v H n a r).map (fun e => (a :: e.1, H s a + e.2)) else [] := by
  unfold one
  rw [show okR v n s (a :: r) = (v s a && okR v n a r) from rfl, show scR H n s (a :: r) = H s a + scR H n a r from rfl]
  by_cases h1 : v s a = true <;> by_cases h2 : okR v n a r = true <;> simp [h1, h2]
theorem Gs_step (s a : Nat) (ha : a < n) : Gs v H n s a = (if v s a = true then (Es v H n a).map (fun e => (a :: e.1, H s a + e.2)) else []) ++ Gs v H n s (a + 1) := by
  unfold Gs Es
  rw [show n - a = (n - (a + 1)) + 1 by omega, sufE, List.flatMap_append]
  congr 1
  rw [show ([a] :: (sufE (n - (a + 1)) (a + 1)).map (a :: ·)) = ([] :: sufE (n - (a + 1)) (a + 1)).map (a :: ·) by simp, List.flatMap_map]
  by_cases h : v s a = true
  · rw [if_pos h, List.map_flatMap]
    congr 1
    funext r
    rw [one_cons, if_pos h]
  · rw [if_neg h, List.flatMap_eq_nil_iff]
    intro r _
    rw [one_cons, if_neg h]
theorem Gs_end (s : Nat) : Gs v H n s n = [] := by unfold Gs; rw [Nat.sub_self]; rfl
theorem Es_eq (s : Nat) : Es v H n s = (if v s n = true then [([], H s n)] else []) ++ Gs v H n s (s + 1) := by
  unfold Es Gs
  rw [List.flatMap_cons]
  rfl
end
end Go.Proofs.Ythdfkgehgkfffaa.Sh
