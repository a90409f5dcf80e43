/- The lowest shelvings: the reference's table against the program's walk through all of them. Conditions: at most 12 books from 1 to 100, each not thicker than the width. -/
import Derived.Test.YthdfkgehgkfffaaPx0
import Derived.Test.YthdfkgehgkfffaaPx7
import Derived.Test.YthdfkgehgkfffaaPx17
import Derived.Test.YthdfkgehgkfffaaPx18
import Derived.Test.YthdfkgehgkfffaaPx19
import Derived.Test.YthdfkgehgkfffaaPx20
import Derived.Test.YthdfkgehgkfffaaPx21
import Derived.Test.YthdfkgehgkfffaaQShD
namespace Go.Proofs.Ythdfkgehgkfffaa.Q
open Go.RowKit Go.Proofs.Ythdfkgehgkfffaa.P Go.Proofs.Ythdfkgehgkfffaa.Sh Go.Proofs.YthdfkgehgkfffaaW.PrintWords Go.Proofs.YthdfkgehgkfffaaW.PrintLast
set_option linter.unusedVariables false
set_option linter.unusedSimpArgs false

/-! ### the heights of shelves and their sum -/
theorem heights_l1 (L : List (List S40)) (p : List S40) (hp : p.length ≤ 1000) (acc : List Int) (ha : acc.length ≤ 1000) (i : Nat) (hi : i ≤ 1000) (R : List Int) (d : Nat) : ∀ (j : Nat) (s t h : Int), j + d = p.length → Ev (fun k => impl_heights.l0 k (acc ++ [(thW s t h (p.drop j)).2.2]) L L.length ((i + 1 : Nat) : Int)) R → Ev (fun k => impl_heights.l1 k acc h L L.length i p p.length j) R := by
  induction d with
  | zero =>
    intro j s t h hj hR
    rw [List.drop_of_length_le (by omega)] at hR
    refine Ev.step (fun k => ?_) hR
    rw [impl_heights.l1, if_neg (by omega), if_pos (by omega), w64i i (by omega)]
    rfl
  | succ d ih =>
    intro j s t h hj hR
    rw [dropB (show j < p.length by omega)] at hR
    refine Ev.step (fun k => ?_) (ih (j + 1) (wrap64 (s + (rd_T40 p j).f0)) (mx t (rd_T40 p j).f0) (mx h (rd_T40 p j).f1) (by omega) hR)
    rw [impl_heights.l1, if_pos (by omega), if_pos (by omega), if_pos (by omega), w64i j (by omega)]
theorem heights_l0 (L : List (List S40)) (hL : L.length ≤ 1000) (hp : ∀ p ∈ L, p.length ≤ 1000) (d : Nat) : ∀ (i : Nat) (acc : List Int), i + d = L.length → acc.length ≤ i → Ev (fun k => impl_heights.l0 k acc L L.length i) (acc ++ (L.drop i).map tal) := by
  induction d with
  | zero =>
    intro i acc hi ha
    rw [List.drop_of_length_le (by omega)]
    refine Ev.step (f := fun _ => some acc) (fun k => ?_) (Ev.val (Ev.now acc) (by simp))
    rw [impl_heights.l0, if_neg (by omega)]
  | succ d ih =>
    intro i acc hi ha
    have hlt : i < L.length := by omega
    have h := ih (i + 1) (acc ++ [tal (rd_L2 L i)]) (by omega) (by simp; omega)
    have h2 := heights_l1 L (rd_L2 L i) (hp _ (by rw [rdLb hlt]; exact List.getElem_mem hlt)) acc (by omega) i (by omega) (acc ++ (L.drop i).map tal) (rd_L2 L i).length 0 0 0 0 (by omega) (by
      rw [List.drop_zero]
      refine Ev.val h ?_
      rw [dropLb hlt]; simp)
    refine Ev.step (fun k => ?_) h2
    rw [impl_heights.l0, if_pos (by omega), if_pos (by omega), if_pos (by omega)]
    rfl
theorem sum_l0 (L : List Int) (hL : L.length ≤ 1000) (hb : ∀ x ∈ L, 0 ≤ x ∧ x ≤ 100) (d : Nat) : ∀ (i : Nat) (acc : Int), i + d = L.length → 0 ≤ acc → acc ≤ 100 * (i : Int) → Ev (fun k => impl_sum.l0 k acc L L.length i) (acc + (L.drop i).sum) := by
  induction d with
  | zero =>
    intro i acc hi h0 h1
    rw [List.drop_of_length_le (by omega)]
    refine Ev.step (f := fun _ => some acc) (fun k => ?_) (Ev.val (Ev.now acc) (by simp))
    rw [impl_sum.l0, if_neg (by omega)]
  | succ d ih =>
    intro i acc hi h0 h1
    have hlt : i < L.length := by omega
    have hbi := hb (rd L i) (by rw [rd_get hlt]; exact List.getElem_mem hlt)
    refine Ev.step (fun k => ?_) (Ev.val (ih (i + 1) (acc + rd L i) (by omega) (by omega) (by omega)) (by rw [drop_rd hlt, List.sum_cons]; omega))
    rw [impl_sum.l0, if_pos (by omega), if_pos (by omega), if_pos (by omega), w64i i (by omega), w64 (x := acc + rd L i) (by omega) (by omega)]
/-- How tall the shelf from a to b is. -/
def Hd (l : List S40) (a b : Nat) : Int := tal (prt l a b)
theorem sum_parts (l : List S40) : ∀ (s : Nat) (r : List Nat), ((partsOf l s r).map tal).sum = scR (Hd l) l.length s r
  | s, [] => by simp [partsOf, gpN, scR, Hd]
  | s, x :: xs => by
    have ih := sum_parts l x xs
    simp only [partsOf, gpN, scR, Hd, List.map_cons, List.sum_cons] at ih ⊢
    rw [ih]
theorem lowF_ev (l : List S40) (hl : l.length ≤ 12) (hb : ∀ b ∈ l, b.f1 ≤ 100) (r : List Nat) (hr : rise l.length 0 r) : Ev (fun k => lowF k (partsOf l 0 r)) (scR (Hd l) l.length 0 r) := by
  obtain ⟨h1, h2⟩ := partsOf_small l hl 0 r hr
  unfold lowF impl_heights.f impl_sum.f
  refine Ev.bind (heights_l0 (partsOf l 0 r) (by omega) (fun p hp => by have := h2 p hp; omega) _ 0 [] (Nat.zero_add _) (Nat.le_refl _)) ?_
  rw [List.nil_append, List.drop_zero]
  refine Ev.val (sum_l0 ((partsOf l 0 r).map tal) (by simp; omega) (fun x hx => ?_) _ 0 0 (Nat.zero_add _) (Int.le_refl _) (by omega)) (by rw [List.drop_zero, sum_parts]; omega)
  obtain ⟨p, hp, rfl⟩ := List.mem_map.1 hx
  unfold partsOf at hp
  obtain ⟨g, _, rfl⟩ := List.mem_map.1 hp
  exact tal_bd l hb g.1 g.2
/-! ### what the best one may be -/
theorem B_bd {α : Type} (d : α) (M : Int) (hM : 0 ≤ M) (L : List (α × Int)) (h : ∀ e ∈ L, 0 ≤ e.2 ∧ e.2 ≤ M) : 0 ≤ (B d L).2.1 ∧ (B d L).2.1 ≤ M ∧ 0 ≤ (B d L).2.2 ∧ (B d L).2.2 ≤ (L.length : Int) := by
  have key : ∀ (L : List (α × Int)) (s : α × Int × Int), (∀ e ∈ L, 0 ≤ e.2 ∧ e.2 ≤ M) → 0 ≤ s.2.1 → s.2.1 ≤ M → 0 ≤ s.2.2 → 0 ≤ (L.foldl bs s).2.1 ∧ (L.foldl bs s).2.1 ≤ M ∧ 0 ≤ (L.foldl bs s).2.2 ∧ (L.foldl bs s).2.2 ≤ s.2.2 + (L.length : Int) := by
    intro L
    induction L with
    | nil => intro s _ h0 h1 h2; exact ⟨h0, h1, h2, by simp⟩
    | cons e L ih =>
      intro s hL h0 h1 h2
      have he := hL e (by simp)
      have hb : 0 ≤ (bs s e).2.1 ∧ (bs s e).2.1 ≤ M ∧ 0 ≤ (bs s e).2.2 ∧ (bs s e).2.2 ≤ s.2.2 + 1 := by unfold bs; grind
      have := ih (bs s e) (fun c hc => hL c (by simp [hc])) hb.1 hb.2.1 hb.2.2.1
      simp only [List.foldl_cons, List.length_cons]
      refine ⟨this.1, this.2.1, this.2.2.1, ?_⟩
      have := this.2.2.2
      have := hb.2.2.2
      omega
  have := key L (d, 0, 0) h (by simp) hM (by simp)
  simpa [B] using this
theorem scR_bd (H : Nat → Nat → Int) (hH : ∀ a b, 0 ≤ H a b ∧ H a b ≤ 100) (n : Nat) : ∀ (s : Nat) (r : List Nat), 0 ≤ scR H n s r ∧ scR H n s r ≤ 100 * ((r.length : Int) + 1)
  | s, [] => by have := hH s n; simp [scR]; omega
  | s, x :: xs => by
    have h1 := scR_bd H hH n x xs
    have h2 := hH s x
    simp only [scR, List.length_cons]
    omega
theorem Es_bd (v : Nat → Nat → Bool) (H : Nat → Nat → Int) (hH : ∀ a b, 0 ≤ H a b ∧ H a b ≤ 100) (n s : Nat) (hs : s < n) (hn : n ≤ 12) : 0 ≤ (B [] (Es v H n s)).2.1 ∧ (B [] (Es v H n s)).2.1 ≤ 1200 ∧ 0 ≤ (B [] (Es v H n s)).2.2 ∧ (B [] (Es v H n s)).2.2 ≤ 2048 := by
  have h1 := B_bd ([] : List Nat) 1200 (by omega) (Es v H n s) (fun e he => by
    unfold Es at he
    obtain ⟨r, hr, he⟩ := List.mem_flatMap.1 he
    unfold one at he
    split at he
    · simp only [List.mem_singleton] at he
      subst he
      have h1 := scR_bd H hH n s r
      have h2 := rise_len n s r (cand_rise n s hs r hr)
      simp only
      omega
    · simp at he)
  have h2 := Es_len v H n s hn hs
  omega
/-- The way that a table tells from a book on. -/
def Pth (n : Nat) (x : List Int) : Nat → List Nat → Prop
  | j, [] => rd x j = (n : Int)
  | j, y :: r => rd x j = (y : Int) ∧ j < y ∧ y < n ∧ Pth n x y r
theorem Pth_set (n k : Nat) (x : List Int) (v : Int) : ∀ (r : List Nat) (j : Nat), k < j → Pth n x j r → Pth n (x.set k v) j r
  | [], j, h, hp => by
    show rd (x.set k v) j = _
    rw [rd_set_ne (by omega)]; exact hp
  | y :: r, j, h, hp => by
    obtain ⟨h1, h2, h3, h4⟩ := hp
    refine ⟨?_, h2, h3, Pth_set n k x v r y (by omega) h4⟩
    rw [rd_set_ne (by omega)]; exact h1
theorem low_l2 (n : Nat) (x8 x9 x10 : List Int) (hn : n ≤ 12) (h8 : 0 < x8.length) (h9 : 0 < x9.length) (h10 : n < x10.length) : ∀ (r : List Nat) (j : Nat) (out : List Int), j < n → out.length ≤ j → Pth n x10 j r → Ev (fun k => spec_shLowest.l2 k n x8 x9 x10 out j) (out ++ ic (j :: r), rd x8 0, rd x9 0)
  | [], j, out, hj, ho, hp => by
    have hp : rd x10 j = (n : Int) := hp
    refine Ev.step (f := fun k => spec_shLowest.l2 k n x8 x9 x10 (out ++ [(j : Int)]) n) (fun k => ?_) (Ev.step (f := fun _ => some (out ++ ic [j], rd x8 0, rd x9 0)) (fun k => ?_) (Ev.now _))
    · rw [spec_shLowest.l2, if_pos (by omega), if_pos (by omega), if_pos (by omega), if_pos (by omega), hp]
    · rw [spec_shLowest.l2, if_neg (by omega), if_pos (by omega), if_pos (by omega)]
      rfl
  | y :: r, j, out, hj, ho, hp => by
    obtain ⟨h1, h2, h3, h4⟩ := hp
    refine Ev.step (f := fun k => spec_shLowest.l2 k n x8 x9 x10 (out ++ [(j : Int)]) y) (fun k => ?_) (Ev.val (low_l2 n x8 x9 x10 hn h8 h9 h10 r y (out ++ [(j : Int)]) h3 (by simp; omega) h4) (by simp [ic]))
    rw [spec_shLowest.l2, if_pos (by omega), if_pos (by omega), if_pos (by omega), if_pos (by omega), h1]
/-- What the table tells of a book. -/
def Ent (l : List S40) (w : Int) (x8 x9 x10 : List Int) (j : Nat) : Prop :=
  ∃ r, B [] (Es (vB l w) (Hd l) l.length j) = (r, rd x8 j, rd x9 j) ∧ 0 < rd x9 j ∧ Pth l.length x10 j r
theorem Ent_set {l : List S40} {w : Int} {x8 x9 x10 : List Int} {j k : Nat} (h : Ent l w x8 x9 x10 j) (hk : k < j) (a b c : Int) : Ent l w (x8.set k a) (x9.set k b) (x10.set k c) j := by
  obtain ⟨r, h1, h2, h3⟩ := h
  exact ⟨r, by rw [rd_set_ne (by omega), rd_set_ne (by omega)]; exact h1, by rw [rd_set_ne (by omega)]; exact h2, Pth_set _ _ _ _ r j hk h3⟩
theorem Ent_set9 {l : List S40} {w : Int} {x8 x9 x10 : List Int} {j k : Nat} (h : Ent l w x8 x9 x10 j) (hk : k < j) (b : Int) : Ent l w x8 (x9.set k b) x10 j := by
  obtain ⟨r, h1, h2, h3⟩ := h
  exact ⟨r, by rw [rd_set_ne (by omega)]; exact h1, by rw [rd_set_ne (by omega)]; exact h2, h3⟩
theorem Ent_set90 {l : List S40} {w : Int} {x8 x9 x10 : List Int} {j k : Nat} (h : Ent l w x8 x9 x10 j) (hk : k < j) (b c : Int) : Ent l w x8 (x9.set k b) (x10.set k c) j := by
  obtain ⟨r, h1, h2, h3⟩ := h
  exact ⟨r, by rw [rd_set_ne (by omega)]; exact h1, by rw [rd_set_ne (by omega)]; exact h2, Pth_set _ _ _ _ r j hk h3⟩
/-- The table's rows behind book k, and its last row. -/
structure Tab (l : List S40) (w : Int) (k : Nat) (x8 x9 x10 : List Int) : Prop where
  n8 : x8.length = l.length + 1
  n9 : x9.length = l.length + 1
  n10 : x10.length = l.length + 1
  e8 : rd x8 (l.length : Nat) = 0
  e9 : rd x9 (l.length : Nat) = 1
  ent : ∀ j : Nat, k < j → j < l.length → Ent l w x8 x9 x10 j
  z8 : ∀ j : Nat, j < k → rd x8 j = 0
  z9 : ∀ j : Nat, j < k → rd x9 j = 0
theorem Tab.set {l : List S40} {w : Int} {k : Nat} {x8 x9 x10 : List Int} (h : Tab l w k x8 x9 x10) (hk : k < l.length) (a b c : Int) : Tab l w k (x8.set k a) (x9.set k b) (x10.set k c) :=
  ⟨by simpa using h.n8, by simpa using h.n9, by simpa using h.n10, by rw [rd_set_ne (by omega)]; exact h.e8, by rw [rd_set_ne (by omega)]; exact h.e9, fun j h1 h2 => Ent_set (h.ent j h1 h2) h1 a b c, fun j h1 => by rw [rd_set_ne (by omega)]; exact h.z8 j h1, fun j h1 => by rw [rd_set_ne (by omega)]; exact h.z9 j h1⟩
theorem Tab.set9 {l : List S40} {w : Int} {k : Nat} {x8 x9 x10 : List Int} (h : Tab l w k x8 x9 x10) (hk : k < l.length) (b : Int) : Tab l w k x8 (x9.set k b) x10 :=
  ⟨h.n8, by simpa using h.n9, h.n10, h.e8, by rw [rd_set_ne (by omega)]; exact h.e9, fun j h1 h2 => Ent_set9 (h.ent j h1 h2) h1 b, h.z8, fun j h1 => by rw [rd_set_ne (by omega)]; exact h.z9 j h1⟩
theorem Tab.set90 {l : List S40} {w : Int} {k : Nat} {x8 x9 x10 : List Int} (h : Tab l w k x8 x9 x10) (hk : k < l.length) (b c : Int) : Tab l w k x8 (x9.set k b) (x10.set k c) :=
  ⟨h.n8, by simpa using h.n9, by simpa using h.n10, h.e8, by rw [rd_set_ne (by omega)]; exact h.e9, fun j h1 h2 => Ent_set90 (h.ent j h1 h2) h1 b c, h.z8, fun j h1 => by rw [rd_set_ne (by omega)]; exact h.z9 j h1⟩
/-- The row of book k, as far as it is told: its first way, its least height, how many. -/
structure Row (l : List S40) (k e : Nat) (x8 x9 x10 : List Int) (r : List Nat) (X : List Nat × Int × Int) : Prop where
  hX : X = if rd x9 k = 0 then ([], 0, 0) else (r, rd x8 k, rd x9 k)
  nn : 0 ≤ rd x9 k
  p : 0 < rd x9 k → Pth l.length x10 k r
  pos : k < e → 0 < rd x9 k
  le : rd x9 k ≤ 2048 * ((e : Int) - (k : Int))
theorem mg_z {α : Type} (d : α) (X : α × Int × Int) : mg X (d, 0, 0) = X := by unfold mg; simp
theorem mg_zr {α : Type} (d : α) (X : α × Int × Int) : mg X (d, 0, 0) = X := by unfold mg; simp
/-- One step along the ends of a shelf: what the table becomes. -/
theorem low_step (l : List S40) (w : Int) (hl : l.length ≤ 12) (R : List Int × Int × Int) (x8 x9 x10 : List Int) (k e : Nat) (hke : k ≤ e) (hlt : e < l.length) (n8 : x8.length = l.length + 1) (n9 : x9.length = l.length + 1) (n10 : x10.length = l.length + 1)
    (hvt : thk (prt l k (e + 1)) ≤ w) (H : Int) (hH : H = tal (prt l k (e + 1)) + rd x8 ((e + 1 : Nat) : Int)) (b1 : 0 ≤ H ∧ H ≤ 10000) (b2 : 0 ≤ rd x9 k ∧ rd x9 k ≤ 100000) (b3 : 0 ≤ rd x9 ((e + 1 : Nat) : Int) ∧ rd x9 ((e + 1 : Nat) : Int) ≤ 100000)
    (c1 : (rd x9 k = 0 ∨ H < rd x8 k) → Ev (fun q => spec_shLowest.l1 q l w l.length (x8.set k H) (x9.set k (rd x9 ((e + 1 : Nat) : Int))) (x10.set k ((e + 1 : Nat) : Int)) k (thk (prt l k (e + 1))) (tal (prt l k (e + 1))) ((e + 1 + 1 : Nat) : Int)) R)
    (c2 : rd x9 k ≠ 0 → H = rd x8 k → e + 1 = l.length → Ev (fun q => spec_shLowest.l1 q l w l.length x8 (x9.set k (rd x9 k + rd x9 ((e + 1 : Nat) : Int))) (x10.set k ((e + 1 : Nat) : Int)) k (thk (prt l k (e + 1))) (tal (prt l k (e + 1))) ((e + 1 + 1 : Nat) : Int)) R)
    (c3 : rd x9 k ≠ 0 → H = rd x8 k → e + 1 < l.length → Ev (fun q => spec_shLowest.l1 q l w l.length x8 (x9.set k (rd x9 k + rd x9 ((e + 1 : Nat) : Int))) x10 k (thk (prt l k (e + 1))) (tal (prt l k (e + 1))) ((e + 1 + 1 : Nat) : Int)) R)
    (c4 : rd x9 k ≠ 0 → rd x8 k < H → Ev (fun q => spec_shLowest.l1 q l w l.length x8 x9 x10 k (thk (prt l k (e + 1))) (tal (prt l k (e + 1))) ((e + 1 + 1 : Nat) : Int)) R) :
    Ev (fun q => spec_shLowest.l1 q l w l.length x8 x9 x10 k (thk (prt l k e)) (tal (prt l k e)) ((e + 1 : Nat) : Int)) R := by
  have hth := thk_succ l k e hke hlt
  have hta := tal_succ l k e hke hlt
  have hei : wrap64 ((((e + 1 : Nat) : Int)) - 1) = (e : Int) := by rw [w64 (by omega) (by omega)]; omega
  have hwH : wrap64 (tal (prt l k (e + 1)) + rd x8 ((e + 1 : Nat) : Int)) = H := by rw [w64 (by omega) (by omega)]; exact hH.symm
  have hT : Ev (fun q => spec_shLowest.j2 q l w l.length x8 x9 x10 k (thk (prt l k (e + 1))) (tal (prt l k (e + 1))) ((e + 1 : Nat) : Int) H true) R ∨ True := .inr trivial
  have j1 : (rd x9 k = 0 ∨ H < rd x8 k) → Ev (fun q => spec_shLowest.j2 q l w l.length x8 x9 x10 k (thk (prt l k (e + 1))) (tal (prt l k (e + 1))) ((e + 1 : Nat) : Int) H true) R := fun hc => by
    refine Ev.step (fun q => ?_) (c1 hc)
    rw [spec_shLowest.j2, if_pos rfl, if_pos (by omega), if_pos (by omega), if_pos (by omega), if_pos (by omega), if_pos (by omega), if_pos (by omega), w64i (e + 1) (by omega), Int.toNat_natCast]
  have j2 : rd x9 k ≠ 0 → ¬ H < rd x8 k → Ev (fun q => spec_shLowest.j2 q l w l.length x8 x9 x10 k (thk (prt l k (e + 1))) (tal (prt l k (e + 1))) ((e + 1 : Nat) : Int) H false) R := fun hc hn => by
    by_cases he : H = rd x8 k
    · have hw9 : wrap64 (rd x9 k + rd x9 ((e + 1 : Nat) : Int)) = rd x9 k + rd x9 ((e + 1 : Nat) : Int) := w64 (by omega) (by omega)
      by_cases hen : e + 1 = l.length
      · refine Ev.step (fun q => ?_) (c2 hc he hen)
        rw [spec_shLowest.j2, if_neg (by simp), if_pos (by omega), if_pos (by omega), if_pos he, if_pos (by omega), if_pos (by omega), if_pos (by omega), Option.bind_some, if_pos (by omega), if_pos (by omega), w64i (e + 1) (by omega), Int.toNat_natCast, hw9]
      · refine Ev.step (fun q => ?_) (c3 hc he (by omega))
        rw [spec_shLowest.j2, if_neg (by simp), if_pos (by omega), if_pos (by omega), if_pos he, if_pos (by omega), if_pos (by omega), if_pos (by omega), Option.bind_some, if_neg (by omega), w64i (e + 1) (by omega), Int.toNat_natCast, hw9]
    · refine Ev.step (fun q => ?_) (c4 hc (by omega))
      rw [spec_shLowest.j2, if_neg (by simp), if_pos (by omega), if_pos (by omega), if_neg he, w64i (e + 1) (by omega)]
  by_cases hc : rd x9 k = 0
  · refine Ev.step (fun q => ?_) (j1 (.inl hc))
    rw [spec_shLowest.l1, if_pos (by omega), hei, if_pos (by omega), if_pos (by omega), mostMx, Option.bind_some, ← hth, ← hta, if_neg (by omega), if_pos (by omega), if_pos (by omega), if_pos (by omega), if_pos (by omega), if_pos hc, hwH]
  · by_cases hn : H < rd x8 k
    · refine Ev.step (fun q => ?_) (j1 (.inr hn))
      rw [spec_shLowest.l1, if_pos (by omega), hei, if_pos (by omega), if_pos (by omega), mostMx, Option.bind_some, ← hth, ← hta, if_neg (by omega), if_pos (by omega), if_pos (by omega), if_pos (by omega), if_pos (by omega), if_neg hc, if_pos (by omega), hwH, decide_eq_true hn]
    · refine Ev.step (fun q => ?_) (j2 hc hn)
      rw [spec_shLowest.l1, if_pos (by omega), hei, if_pos (by omega), if_pos (by omega), mostMx, Option.bind_some, ← hth, ← hta, if_neg (by omega), if_pos (by omega), if_pos (by omega), if_pos (by omega), if_pos (by omega), if_neg hc, if_pos (by omega), hwH, decide_eq_false hn]
theorem low_break (l : List S40) (w : Int) (hl : l.length ≤ 12) (R : List Int × Int × Int) (x8 x9 x10 : List Int) (k e : Nat) (hke : k ≤ e) (hlt : e < l.length) (hvt : ¬ thk (prt l k (e + 1)) ≤ w) (h : Ev (fun r => spec_shLowest.l0 r l w l.length x8 x9 x10 ((k : Int) - 1)) R) :
    Ev (fun q => spec_shLowest.l1 q l w l.length x8 x9 x10 k (thk (prt l k e)) (tal (prt l k e)) ((e + 1 : Nat) : Int)) R := by
  have hth := thk_succ l k e hke hlt
  have hei : wrap64 ((((e + 1 : Nat) : Int)) - 1) = (e : Int) := by rw [w64 (by omega) (by omega)]; omega
  refine Ev.step (fun q => ?_) h
  rw [spec_shLowest.l1, if_pos (by omega), hei, if_pos (by omega), if_pos (by omega), mostMx, Option.bind_some, ← hth, if_pos (by omega), w64 (x := (k : Int) - 1) (by omega) (by omega)]
theorem low_end (l : List S40) (w : Int) (hl : l.length ≤ 12) (R : List Int × Int × Int) (x8 x9 x10 : List Int) (k e : Nat) (a b : Int) (hk : k < l.length) (he : e + 1 = l.length) (h : Ev (fun r => spec_shLowest.l0 r l w l.length x8 x9 x10 ((k : Int) - 1)) R) :
    Ev (fun q => spec_shLowest.l1 q l w l.length x8 x9 x10 k a b ((e + 1 + 1 : Nat) : Int)) R := by
  refine Ev.step (fun q => ?_) h
  rw [spec_shLowest.l1, if_neg (by omega), w64 (x := (k : Int) - 1) (by omega) (by omega)]
theorem lowest_l1 (l : List S40) (w : Int) (hl : l.length ≤ 12) (hb : ∀ b ∈ l, 1 ≤ b.f0 ∧ b.f0 ≤ 100 ∧ b.f0 ≤ w) (hb1 : ∀ b ∈ l, b.f1 ≤ 100) (k : Nat) (hk : k < l.length) (R : List Int × Int × Int)
    (hnext : ∀ x8 x9 x10 : List Int, Tab l w k x8 x9 x10 → Ent l w x8 x9 x10 k → Ev (fun r => spec_shLowest.l0 r l w l.length x8 x9 x10 ((k : Int) - 1)) R) (d : Nat) :
    ∀ (e : Nat) (x8 x9 x10 : List Int) (r : List Nat) (X : List Nat × Int × Int), e + d + 1 = l.length → k ≤ e → Tab l w k x8 x9 x10 → Row l k e x8 x9 x10 r X → mg X (B [] (Gs (vB l w) (Hd l) l.length k (e + 1))) = B [] (Gs (vB l w) (Hd l) l.length k (k + 1)) →
    Ev (fun q => spec_shLowest.l1 q l w l.length x8 x9 x10 k (thk (prt l k e)) (tal (prt l k e)) ((e + 1 : Nat) : Int)) R := by
  have hb0 : ∀ b ∈ l, 1 ≤ b.f0 ∧ b.f0 ≤ 100 := fun b h => ⟨(hb b h).1, (hb b h).2.1⟩
  have hHd : ∀ a b, 0 ≤ Hd l a b ∧ Hd l a b ≤ 100 := fun a b => tal_bd l hb1 a b
  have hkk : Es (vB l w) (Hd l) l.length k = (if vB l w k l.length = true then [([], Hd l k l.length)] else []) ++ Gs (vB l w) (Hd l) l.length k (k + 1) := Es_eq _ _ _ k
  have hfirst : thk (prt l k (k + 1)) ≤ w := by
    have h1 := hb (rd_T40 l k) (by rw [rdB hk]; exact List.getElem_mem hk)
    rw [thk_succ l k k (Nat.le_refl _) hk, prt_self]
    rw [show thk [] = 0 from rfl, w64 (by omega) (by omega)]; omega
  -- the break
  have hbreak : ∀ (e : Nat) (x8 x9 x10 : List Int) (r : List Nat) (X : List Nat × Int × Int), e < l.length → k ≤ e → Tab l w k x8 x9 x10 → Row l k e x8 x9 x10 r X → mg X (B [] (Gs (vB l w) (Hd l) l.length k (e + 1))) = B [] (Gs (vB l w) (Hd l) l.length k (k + 1)) → ¬ thk (prt l k (e + 1)) ≤ w →
      Ev (fun q => spec_shLowest.l1 q l w l.length x8 x9 x10 k (thk (prt l k e)) (tal (prt l k e)) ((e + 1 : Nat) : Int)) R := by
    intro e x8 x9 x10 r X hlt hke hT hR hX hvt
    refine low_break l w hl R x8 x9 x10 k e hke hlt hvt (hnext x8 x9 x10 hT ⟨r, ?_, ?_, ?_⟩)
    · have hfar : ∀ b, e + 1 ≤ b → b ≤ l.length → vB l w k b = false := fun b h1 h2 => by
        rw [vB_iff l w hl hb0 k b (by omega) h2]
        have := thk_mono l hl hb0 k (e + 1) (by omega) (b - (e + 1)) (by omega)
        rw [show e + 1 + (b - (e + 1)) = b by omega] at this
        exact decide_eq_false (by omega)
      rw [Gs_none _ _ _ k (l.length - (e + 1)) (e + 1) (by omega) (fun b h1 h2 => hfar b h1 (by omega))] at hX
      rw [hkk, if_neg (by rw [hfar _ (by omega) (Nat.le_refl _)]; simp), List.nil_append, ← hX, show B ([] : List Nat) [] = ([], 0, 0) from rfl, mg_zr, hR.hX, if_neg]
      have hne : k ≠ e := by rintro rfl; exact hvt hfirst
      have := hR.pos (by omega)
      omega
    · have hne : k ≠ e := by rintro rfl; exact hvt hfirst
      exact hR.pos (by omega)
    · have hne : k ≠ e := by rintro rfl; exact hvt hfirst
      exact hR.p (hR.pos (by omega))
  induction d with
  | zero =>
    intro e x8 x9 x10 r X he hke hT hR hX
    have hlt : e < l.length := by omega
    have hen : e + 1 = l.length := by omega
    by_cases hvt : thk (prt l k (e + 1)) ≤ w
    · rw [hen, Gs_end, show B ([] : List Nat) [] = ([], 0, 0) from rfl, mg_zr] at hX
      have hv := vB_iff l w hl hb0 k (e + 1) (by omega) (by omega)
      rw [decide_eq_true hvt, hen] at hv
      have e8 := hT.e8
      have e9 := hT.e9
      rw [← hen] at e8 e9
      have hH := hHd k l.length
      have hHe : tal (prt l k (e + 1)) = Hd l k l.length := by unfold Hd; rw [hen]
      have hle := hR.le
      have hnn := hR.nn
      have hEs : B [] (Es (vB l w) (Hd l) l.length k) = mg ([], Hd l k l.length, 1) X := by
        rw [hkk, if_pos hv, B_append, ← hX]
        congr 1
      refine low_step l w hl R x8 x9 x10 k e hke hlt hT.n8 hT.n9 hT.n10 hvt (Hd l k l.length) (by rw [hHe, e8]; omega) (by omega) (by omega) (by omega) ?_ ?_ ?_ ?_
      · intro hc
        rw [e9]
        refine low_end l w hl R _ _ _ k e _ _ hk hen (hnext _ _ _ (hT.set hk _ _ _) ⟨[], ?_, ?_, ?_⟩)
        · rw [rd_set_z (by rw [hT.n8]; omega), rd_set_z (by rw [hT.n9]; omega), hEs, hR.hX]
          unfold mg
          grind
        · rw [rd_set_z (by rw [hT.n9]; omega)]; omega
        · show rd _ _ = _
          rw [rd_set_z (by rw [hT.n10]; omega), hen]
      · intro hc hh _
        rw [e9]
        refine low_end l w hl R _ _ _ k e _ _ hk hen (hnext _ _ _ (hT.set90 hk _ _) ⟨[], ?_, ?_, ?_⟩)
        · rw [rd_set_z (by rw [hT.n9]; omega), hEs, hR.hX]
          unfold mg
          grind
        · rw [rd_set_z (by rw [hT.n9]; omega)]; omega
        · show rd _ _ = _
          rw [rd_set_z (by rw [hT.n10]; omega), hen]
      · intro _ _ h; omega
      · intro hc hh
        refine low_end l w hl R _ _ _ k e _ _ hk hen (hnext _ _ _ hT ⟨r, ?_, ?_, hR.p (by omega)⟩)
        · rw [hEs, hR.hX]
          unfold mg
          grind
        · omega
    · exact hbreak e x8 x9 x10 r X hlt hke hT hR hX hvt
  | succ d ih =>
    intro e x8 x9 x10 r X he hke hT hR hX
    have hlt : e < l.length := by omega
    by_cases hvt : thk (prt l k (e + 1)) ≤ w
    · have hv := vB_iff l w hl hb0 k (e + 1) (by omega) (by omega)
      rw [decide_eq_true hvt] at hv
      obtain ⟨r', hE, hC, hP⟩ := hT.ent (e + 1) (by omega) (by omega)
      have hEb := Es_bd (vB l w) (Hd l) hHd l.length (e + 1) (by omega) hl
      rw [hE] at hEb
      simp only at hEb
      have hH := hHd k (e + 1)
      have hle := hR.le
      have hnn := hR.nn
      obtain ⟨Le, hLe⟩ : ∃ Le, Le = rd x8 ((e + 1 : Nat) : Int) := ⟨_, rfl⟩
      obtain ⟨Ce, hCe⟩ : ∃ Ce, Ce = rd x9 ((e + 1 : Nat) : Int) := ⟨_, rfl⟩
      rw [← hLe, ← hCe] at hE hEb
      rw [← hCe] at hC
      have hY : B [] (Gs (vB l w) (Hd l) l.length k (e + 1)) = mg ((e + 1) :: r', Hd l k (e + 1) + Le, Ce) (B [] (Gs (vB l w) (Hd l) l.length k (e + 1 + 1))) := by
        rw [Gs_step _ _ _ k (e + 1) (by omega), if_pos hv, B_append, B_map [] [], hE]
        congr 1
        unfold sft
        rw [if_neg (by simp only; omega)]
      have hX0 : 0 ≤ X.2.2 := by rw [hR.hX]; split <;> simp only <;> omega
      rw [hY, ← mg_assoc _ _ _ hX0 (by simp only; omega) (B_nn _ _)] at hX
      refine low_step l w hl R x8 x9 x10 k e hke hlt hT.n8 hT.n9 hT.n10 hvt (Hd l k (e + 1) + Le) (by rw [hLe]; rfl) (by omega) (by omega) (by omega) ?_ ?_ ?_ ?_
      · intro hc
        rw [← hCe]
        refine ih (e + 1) _ _ _ ((e + 1) :: r') _ (by omega) (by omega) (hT.set hk _ _ _) ⟨?_, ?_, ?_, ?_, ?_⟩ hX
        · rw [rd_set_z (by rw [hT.n9]; omega), rd_set_z (by rw [hT.n8]; omega), hR.hX]
          unfold mg
          grind
        · rw [rd_set_z (by rw [hT.n9]; omega)]; omega
        · intro _
          refine ⟨?_, by omega, by omega, Pth_set _ _ _ _ r' (e + 1) (by omega) hP⟩
          rw [rd_set_z (by rw [hT.n10]; omega)]
        · intro _; rw [rd_set_z (by rw [hT.n9]; omega)]; omega
        · rw [rd_set_z (by rw [hT.n9]; omega)]; omega
      · intro _ _ h; omega
      · intro hc hh _
        rw [← hCe]
        refine ih (e + 1) _ _ _ r _ (by omega) (by omega) (hT.set9 hk _) ⟨?_, ?_, ?_, ?_, ?_⟩ hX
        · rw [rd_set_z (by rw [hT.n9]; omega), hR.hX]
          unfold mg
          grind
        · rw [rd_set_z (by rw [hT.n9]; omega)]; omega
        · intro _; exact hR.p (by omega)
        · intro _; rw [rd_set_z (by rw [hT.n9]; omega)]; omega
        · rw [rd_set_z (by rw [hT.n9]; omega)]; omega
      · intro hc hh
        refine ih (e + 1) _ _ _ r _ (by omega) (by omega) hT ⟨?_, hnn, hR.p, fun _ => by omega, by omega⟩ hX
        rw [hR.hX]
        unfold mg
        grind
    · exact hbreak e x8 x9 x10 r X hlt hke hT hR hX hvt
theorem lowest_l0 (l : List S40) (w : Int) (h1 : 1 ≤ l.length) (hl : l.length ≤ 12) (hb : ∀ b ∈ l, 1 ≤ b.f0 ∧ b.f0 ≤ 100 ∧ b.f0 ≤ w) (hb1 : ∀ b ∈ l, b.f1 ≤ 100) (r0 : List Nat) (L0 C0 : Int) (hB : B [] (Es (vB l w) (Hd l) l.length 0) = (r0, L0, C0)) :
    ∀ (m : Nat) (x8 x9 x10 : List Int), m ≤ l.length → x8.length = l.length + 1 → x9.length = l.length + 1 → x10.length = l.length + 1 → rd x8 (l.length : Nat) = 0 → rd x9 (l.length : Nat) = 1 → (∀ j : Nat, m ≤ j → j < l.length → Ent l w x8 x9 x10 j) → (∀ j : Nat, j < m → rd x8 j = 0) → (∀ j : Nat, j < m → rd x9 j = 0) →
    Ev (fun q => spec_shLowest.l0 q l w l.length x8 x9 x10 ((m : Int) - 1)) (ic (0 :: r0), L0, C0)
  | 0, x8, x9, x10, _, n8, n9, n10, e8, e9, he, z8, z9 => by
    obtain ⟨r, g1, g2, g3⟩ := he 0 (Nat.le_refl _) h1
    rw [hB] at g1
    simp only [Prod.mk.injEq] at g1
    obtain ⟨rfl, rfl, rfl⟩ := g1
    have h := low_l2 l.length x8 x9 x10 hl (by omega) (by omega) (by omega) r0 0 [] h1 (Nat.le_refl _) g3
    refine Ev.step (fun q => ?_) h
    rw [spec_shLowest.l0, if_neg (by omega)]
    rfl
  | k + 1, x8, x9, x10, hm, n8, n9, n10, e8, e9, he, z8, z9 => by
    have h := lowest_l1 l w hl hb hb1 k (by omega) (ic (0 :: r0), L0, C0) (fun y8 y9 y10 hT hE => lowest_l0 l w h1 hl hb hb1 r0 L0 C0 hB k y8 y9 y10 (by omega) hT.n8 hT.n9 hT.n10 hT.e8 hT.e9 (fun j h1 h2 => by
      rcases Nat.eq_or_lt_of_le h1 with rfl | h1
      · exact hE
      · exact hT.ent j h1 h2) hT.z8 hT.z9) (l.length - (k + 1)) k x8 x9 x10 [] ([], 0, 0) (by omega) (Nat.le_refl _) ⟨n8, n9, n10, e8, e9, fun j h1 h2 => he j (by omega) h2, fun j h => z8 j (by omega), fun j h => z9 j (by omega)⟩ ⟨by rw [z9 k (by omega)]; rfl, by rw [z9 k (by omega)]; omega, fun h => by rw [z9 k (by omega)] at h; omega, fun h => by omega, by rw [z9 k (by omega)]; omega⟩ (by
        by_cases hg : (B ([] : List Nat) (Gs (vB l w) (Hd l) l.length k (k + 1))).2.2 = 0
        · have : ∀ L : List (List Nat × Int), (B ([] : List Nat) L).2.2 = 0 → B [] L = ([], 0, 0) := by
            intro L h
            cases L with
            | nil => rfl
            | cons e L =>
              have := fold_pos L (bs (([] : List Nat), (0 : Int), (0 : Int)) e) (by unfold bs; simp)
              have h : (L.foldl bs (bs (([] : List Nat), (0 : Int), (0 : Int)) e)).2.2 = 0 := h
              omega
          rw [this _ hg]; rfl
        · exact mg_zl _ _ (by have := B_nn ([] : List Nat) (Gs (vB l w) (Hd l) l.length k (k + 1)); omega))
    rw [prt_self] at h
    refine Ev.step (fun r => ?_) h
    rw [spec_shLowest.l0, if_pos (by omega), show (((k + 1 : Nat) : Int) - 1) = (k : Int) by omega, w64i k (by omega)]
    rfl
theorem shLowest_ev (l : List S40) (w : Int) (hs : shelvedK l w = true) (r0 : List Nat) (L0 C0 : Int) (hB : B [] (Es (vB l w) (Hd l) l.length 0) = (r0, L0, C0)) : Ev (fun k => spec_shLowest.f k l w) (ic (0 :: r0), L0, C0) := by
  have ha := shelved_all hs
  have h1 := shelved_pos hs
  have hg : goodK l = true := by unfold shelvedK at hs; rw [Bool.and_eq_true] at hs; exact hs.1
  have hw1 : wrap64 ((l.length : Int) + 1) = ((l.length + 1 : Nat) : Int) := w64i _ (by omega)
  unfold spec_shLowest.f
  rw [hw1, Int.toNat_natCast]
  refine Ev.pos (by omega) (Ev.pos (by omega) (Ev.call rfl ?_))
  refine Ev.pos (by omega) (Ev.pos (by simp only [List.length_replicate]; omega) ?_)
  rw [Int.toNat_natCast, w64 (x := (l.length : Int) - 1) (by omega) (by omega)]
  refine lowest_l0 l w h1 ha.1 ha.2.2.2 (fun b hb => ((goodK_iff hg).2.2 b hb).2.2) r0 L0 C0 hB l.length _ _ _ (Nat.le_refl _) (by simp) (by simp) (by simp) (rd_rep _ _) (rd_set_z (by simp) _) (fun j h2 h3 => by omega) (fun j h2 => rd_rep _ _) (fun j h2 => ?_)
  rw [rd_set_ne (by omega)]; exact rd_rep _ _
theorem implLowest_ev (l : List S40) (w : Int) (hs : shelvedK l w = true) (r0 : List Nat) (L0 C0 : Int) (hC : 0 < C0) (hB : B [] (Es (vB l w) (Hd l) l.length 0) = (r0, L0, C0)) : Ev (fun k => impl_lowest.f k l w) (ic (0 :: r0), L0, C0) := by
  have ha := shelved_all hs
  have h1 := shelved_pos hs
  have hg : goodK l = true := by unfold shelvedK at hs; rw [Bool.and_eq_true] at hs; exact hs.1
  unfold impl_lowest.f
  refine Ev.val (bestO_ev l w h1 ha.1 lowF (scR (Hd l) l.length 0) (fun r hr => lowF_ev l ha.1 (fun b hb => ((goodK_iff hg).2.2 b hb).2.2) r (cand_rise l.length 0 h1 r hr))) ?_
  rw [best_fold l w ha.1, best_Es l w h1, hB]
  unfold sft
  rw [if_neg (by simp only; omega)]
  simp
/-- There is a lowest shelving. -/
theorem Es_some (l : List S40) (w : Int) (hl : l.length ≤ 12) (hb : ∀ b ∈ l, 1 ≤ b.f0 ∧ b.f0 ≤ 100 ∧ b.f0 ≤ w) (H : Nat → Nat → Int) : ∀ (d k : Nat), k + d + 1 = l.length → 0 < (B [] (Es (vB l w) H l.length k)).2.2
  | d, k, hk => by
    have hb0 : ∀ b ∈ l, 1 ≤ b.f0 ∧ b.f0 ≤ 100 := fun b h => ⟨(hb b h).1, (hb b h).2.1⟩
    have hlt : k < l.length := by omega
    have hfirst : vB l w k (k + 1) = true := by
      rw [vB_iff l w hl hb0 k (k + 1) (by omega) (by omega)]
      have h1 := hb (rd_T40 l k) (by rw [rdB hlt]; exact List.getElem_mem hlt)
      rw [thk_succ l k k (Nat.le_refl _) hlt, prt_self, show thk [] = 0 from rfl, w64 (by omega) (by omega)]
      exact decide_eq_true (by omega)
    rw [Es_eq, B_append]
    cases d with
    | zero =>
      have : k + 1 = l.length := by omega
      rw [this] at hfirst
      rw [if_pos hfirst]
      exact mg_pos' _ _ (by simp [B, bs]) (B_nn _ _)
    | succ d =>
      have ih := Es_some l w hl hb H d (k + 1) (by omega)
      refine mg_pos _ _ (B_nn _ _) ?_
      rw [Gs_step _ _ _ k (k + 1) (by omega), if_pos hfirst, B_append]
      refine mg_pos' _ _ ?_ (B_nn _ _)
      rw [B_map []]
      unfold sft
      rw [if_neg (by omega)]
      exact ih
theorem lowest_both (l : List S40) (w : Int) (hs : shelvedK l w = true) : ∃ r L C, r.length ≤ 12 ∧ Ev (fun k => spec_shLowest.f k l w) (r, L, C) ∧ Ev (fun k => impl_lowest.f k l w) (r, L, C) := by
  have ha := shelved_all hs
  have h1 := shelved_pos hs
  obtain ⟨⟨r0, L0, C0⟩, hB⟩ : ∃ x, B [] (Es (vB l w) (Hd l) l.length 0) = x := ⟨_, rfl⟩
  have hC := Es_some l w ha.1 ha.2.2.2 (Hd l) (l.length - 1) 0 (by omega)
  rw [hB] at hC
  simp only at hC
  refine ⟨ic (0 :: r0), L0, C0, ?_, shLowest_ev l w hs r0 L0 C0 hB, implLowest_ev l w hs r0 L0 C0 hC hB⟩
  -- the first best one is one of the candidates
  have hmem : ∀ (L : List (List Nat × Int)) (s : List Nat × Int × Int), (L.foldl bs s).1 = s.1 ∨ ∃ e ∈ L, (L.foldl bs s).1 = e.1 := by
    intro L
    induction L with
    | nil => intro s; exact .inl rfl
    | cons e L ih =>
      intro s
      have hb : (bs s e).1 = s.1 ∨ (bs s e).1 = e.1 := by unfold bs; grind
      rcases ih (bs s e) with h | ⟨c, hc, h⟩
      · rcases hb with hb | hb
        · exact .inl (by rw [List.foldl_cons, h, hb])
        · exact .inr ⟨e, by simp, by rw [List.foldl_cons, h, hb]⟩
      · exact .inr ⟨c, by simp [hc], by rw [List.foldl_cons, h]⟩
  have h2 := hmem (Es (vB l w) (Hd l) l.length 0) ([], 0, 0)
  have h3 : ((Es (vB l w) (Hd l) l.length 0).foldl bs ([], 0, 0)).1 = r0 := by
    have h : ((Es (vB l w) (Hd l) l.length 0).foldl bs (([] : List Nat), (0 : Int), (0 : Int))) = (r0, L0, C0) := hB
    rw [h]
  rw [h3] at h2
  rw [ic_len, List.length_cons]
  rcases h2 with h2 | ⟨e, he, h2⟩
  · simp only at h2; rw [h2]; simp
  · unfold Es at he
    obtain ⟨q, hq, he⟩ := List.mem_flatMap.1 he
    unfold one at he
    split at he
    · simp only [List.mem_singleton] at he
      rw [he] at h2
      simp only at h2
      rw [h2]
      have := rise_len _ _ _ (cand_rise l.length 0 h1 q hq)
      omega
    · simp at he
theorem lowestCase_both (l : List S40) (w : Int) (hl : l.length ≤ 1048576) : ∃ r, Ev (fun k => spec_LowestCase.f k l w) r ∧ Ev (fun k => impl_LowestCase.f k l w) r := by
  unfold spec_LowestCase.f impl_LowestCase.f
  by_cases h : shelvedK l w = true
  · obtain ⟨r, L, C, _, h1, h2⟩ := lowest_both l w h
    exact ⟨_, Ev.bind (shAsked_ev l w hl) (Ev.pos h (Ev.bind h1 (Ev.now _))), Ev.bind (areShelved_ev l w hl) (Ev.pos h (Ev.bind h2 (Ev.now _)))⟩
  · exact ⟨_, Ev.bind (shAsked_ev l w hl) (Ev.neg h (Ev.now _)), Ev.bind (areShelved_ev l w hl) (Ev.neg h (Ev.now _))⟩
theorem countLowest_both (l : List S40) (w : Int) (hl : l.length ≤ 1048576) : ∃ r, Ev (fun k => spec_CountLowest.f k l w) r ∧ Ev (fun k => impl_CountLowest.f k l w) r := by
  unfold spec_CountLowest.f impl_CountLowest.f
  by_cases h : shelvedK l w = true
  · obtain ⟨r, L, C, _, h1, h2⟩ := lowest_both l w h
    exact ⟨_, Ev.bind (shAsked_ev l w hl) (Ev.pos h (Ev.bind h1 (Ev.now _))), Ev.bind (areShelved_ev l w hl) (Ev.pos h (Ev.bind h2 (Ev.now _)))⟩
  · exact ⟨_, Ev.bind (shAsked_ev l w hl) (Ev.neg h (Ev.now _)), Ev.bind (areShelved_ev l w hl) (Ev.neg h (Ev.now _))⟩
theorem firstLowest_both (l : List S40) (w : Int) (hl : l.length ≤ 1048576) : ∃ v b, Ev (fun k => spec_FirstLowest.f k l w) (v, b) ∧ Ev (fun k => impl_FirstLowest.f k l w) (v, b) ∧ v.length ≤ 1048576 := by
  unfold spec_FirstLowest.f impl_FirstLowest.f
  by_cases h : shelvedK l w = true
  · obtain ⟨r, L, C, hr, h1, h2⟩ := lowest_both l w h
    exact ⟨r, true, Ev.bind (shAsked_ev l w hl) (Ev.pos h (Ev.bind h1 (Ev.now _))), Ev.bind (areShelved_ev l w hl) (Ev.pos h (Ev.bind h2 (Ev.now _))), by omega⟩
  · exact ⟨_, _, Ev.bind (shAsked_ev l w hl) (Ev.neg h (Ev.now _)), Ev.bind (areShelved_ev l w hl) (Ev.neg h (Ev.now _)), by simp⟩
end Go.Proofs.Ythdfkgehgkfffaa.Q
