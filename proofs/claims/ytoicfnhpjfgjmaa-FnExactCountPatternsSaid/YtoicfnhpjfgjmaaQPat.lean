/- How many patterns there are: the table of the reference (ways to be just so long, summed) against the list of all patterns. Condition: a rod and lengths that are right. -/
import Derived.Test.YtoicfnhpjfgjmaaPx0
import Derived.Test.YtoicfnhpjfgjmaaPx1
import Derived.Test.YtoicfnhpjfgjmaaPx13
import Derived.Test.YtoicfnhpjfgjmaaPx14
import Derived.Test.YtoicfnhpjfgjmaaPx15
import Derived.Test.YtoicfnhpjfgjmaaQRodD
namespace Go.Proofs.Ytoicfnhpjfgjmaa.Q
open Go.RowKit Go.Proofs.Ytoicfnhpjfgjmaa.P Go.Proofs.YtoicfnhpjfgjmaaW.PrintWords Go.Proofs.YtoicfnhpjfgjmaaW.PrintLast
set_option linter.unusedVariables false
set_option linter.unusedSimpArgs false

/-- As many pieces of length x as one likes, ahead of what f counts. -/
def T (x : Nat) (f : Nat → Int) (n : Nat) : Int := f n + if h : 1 ≤ x ∧ x ≤ n then T x f (n - x) else 0
termination_by n
decreasing_by omega
theorem T_eq (x : Nat) (f : Nat → Int) (n : Nat) : T x f n = f n + if 1 ≤ x ∧ x ≤ n then T x f (n - x) else 0 := by
  conv => lhs; rw [T]
  split <;> simp [*]
theorem T_congr {x : Nat} {f g : Nat → Int} (n : Nat) (h : ∀ i, i ≤ n → f i = g i) : T x f n = T x g n := by
  induction n using Nat.strongRecOn with
  | _ n ih =>
    rw [T_eq x f, T_eq x g, h n (Nat.le_refl _)]
    by_cases hx : 1 ≤ x ∧ x ≤ n
    · rw [if_pos hx, if_pos hx, ih (n - x) (by omega) (fun i hi => h i (by omega))]
    · rw [if_neg hx, if_neg hx]
theorem T_add (x : Nat) (f g : Nat → Int) (n : Nat) : T x (fun i => f i + g i) n = T x f n + T x g n := by
  induction n using Nat.strongRecOn with
  | _ n ih =>
    rw [T_eq x f, T_eq x g, T_eq x (fun i => f i + g i)]
    by_cases hx : 1 ≤ x ∧ x ≤ n
    · rw [if_pos hx, if_pos hx, if_pos hx, ih (n - x) (by omega)]; omega
    · rw [if_neg hx, if_neg hx, if_neg hx]; omega
/-- f, a further. -/
def Sh (a : Nat) (f : Nat → Int) (n : Nat) : Int := if a ≤ n then f (n - a) else 0
theorem T_shift (a x : Nat) (f : Nat → Int) (n : Nat) : T x (Sh a f) n = Sh a (T x f) n := by
  induction n using Nat.strongRecOn with
  | _ n ih =>
    rw [T_eq]
    by_cases hx : 1 ≤ x ∧ x ≤ n
    · rw [if_pos hx, ih (n - x) (by omega)]
      unfold Sh
      by_cases ha : a ≤ n
      · rw [if_pos ha, if_pos ha, T_eq x f (n - a)]
        by_cases h2 : a ≤ n - x
        · rw [if_pos h2, if_pos (by omega)]
          congr 2; omega
        · rw [if_neg h2, if_neg (by omega)]
      · rw [if_neg ha, if_neg ha, if_neg (by omega)]; omega
    · rw [if_neg hx]
      unfold Sh
      by_cases ha : a ≤ n
      · rw [if_pos ha, if_pos ha, T_eq x f (n - a), if_neg (by omega)]
      · rw [if_neg ha, if_neg ha]; omega
theorem T_comm (a b : Nat) (ha : 1 ≤ a) (f : Nat → Int) (n : Nat) : T a (T b f) n = T b (T a f) n := by
  induction n using Nat.strongRecOn with
  | _ n ih =>
    have e : ∀ i, i ≤ n → T a f i = f i + Sh a (T a f) i := fun i _ => by
      rw [T_eq]; unfold Sh
      by_cases h : a ≤ i
      · rw [if_pos ⟨ha, h⟩, if_pos h]
      · rw [if_neg (by omega), if_neg h]
    rw [T_congr n e, T_add, T_shift, T_eq a (T b f)]
    unfold Sh
    by_cases h : a ≤ n
    · rw [if_pos ⟨ha, h⟩, if_pos h, ih (n - a) (by omega)]
    · rw [if_neg (by omega), if_neg h]
theorem T_bound (x : Nat) (f : Nat → Int) (B : Int) (hB : 0 ≤ B) (n : Nat) (h : ∀ i, i ≤ n → 0 ≤ f i ∧ f i ≤ B) : 0 ≤ T x f n ∧ T x f n ≤ (n + 1) * B := by
  induction n using Nat.strongRecOn with
  | _ n ih =>
    rw [T_eq]
    have h0 := h n (Nat.le_refl _)
    by_cases hx : 1 ≤ x ∧ x ≤ n
    · rw [if_pos hx]
      obtain ⟨h1, h2⟩ := ih (n - x) (by omega) (fun i hi => h i (by omega))
      refine ⟨by omega, ?_⟩
      have h3 : ((n - x : Nat) : Int) + 1 ≤ n := by omega
      have h4 : (((n - x : Nat) : Int) + 1) * B ≤ (n : Int) * B := Int.mul_le_mul_of_nonneg_right h3 hB
      have h5 : ((n : Int) + 1) * B = (n : Int) * B + B := by rw [Int.add_mul, Int.one_mul]
      omega
    · rw [if_neg hx]
      refine ⟨by omega, ?_⟩
      have h4 : 0 ≤ (n : Int) * B := Int.mul_nonneg (by omega) hB
      have h5 : ((n : Int) + 1) * B = (n : Int) * B + B := by rw [Int.add_mul, Int.one_mul]
      omega
/-- Just 0. -/
def D0 (n : Nat) : Int := if n = 0 then 1 else 0
theorem T_one (n : Nat) : T 1 D0 n = 1 := by
  induction n with
  | zero => rw [T_eq]; simp [D0]
  | succ n ih => rw [T_eq, if_pos (by omega), show n + 1 - 1 = n from rfl, ih]; simp [D0]
/-- The table behind the lengths l, begun with f. -/
def tab (f : Nat → Int) : List Int → Nat → Int
  | [] => f
  | x :: xs => tab (T x.toNat f) xs
def cnt : List Int → Nat → Int
  | [] => fun _ => 1
  | x :: xs => T x.toNat (cnt xs)
theorem T_tab (a : Nat) : ∀ (l : List Int) (f : Nat → Int) (n : Nat), (∀ x ∈ l, 1 ≤ x) → T a (tab f l) n = tab (T a f) l n
  | [], f, n, _ => rfl
  | x :: xs, f, n, h => by
    have hx := h x (by simp)
    show T a (tab (T x.toNat f) xs) n = tab (T x.toNat (T a f)) xs n
    rw [T_tab a xs _ n (fun y hy => h y (by simp [hy]))]
    exact tab_congr xs _ _ n (fun i _ => (T_comm x.toNat a (by omega) f i).symm)
where tab_congr : ∀ (l : List Int) (f g : Nat → Int) (n : Nat), (∀ i, i ≤ n → f i = g i) → tab f l n = tab g l n
  | [], f, g, n, h => h n (Nat.le_refl _)
  | x :: xs, f, g, n, h => tab_congr xs _ _ n (fun i hi => T_congr i (fun j hj => h j (by omega)))
theorem cnt_tab : ∀ (l : List Int) (n : Nat), (∀ x ∈ l, 1 ≤ x) → cnt l n = tab (fun _ => 1) l n
  | [], n, _ => rfl
  | x :: xs, n, h => by
    show T x.toNat (cnt xs) n = tab (T x.toNat (fun _ => 1)) xs n
    rw [T_congr n (fun i _ => cnt_tab xs i (fun y hy => h y (by simp [hy]))), T_tab _ xs _ n (fun y hy => h y (by simp [hy]))]
/-- The sum of the table is the number of all patterns. -/
theorem sum_tab (l : List Int) (n : Nat) (h : ∀ x ∈ l, 1 ≤ x) : T 1 (tab D0 l) n = cnt l n := by
  rw [T_tab 1 l _ n h, cnt_tab l n h]
  exact T_tab.tab_congr l _ _ n (fun i _ => T_one i)

/-! ### the list of all patterns -/
theorem T_sum (x : Nat) (hx : 1 ≤ x) (g : Nat → Int) (r : Nat) : T x g r = ((List.range (r / x + 1)).map fun n => g (r - n * x)).sum := by
  induction r using Nat.strongRecOn with
  | _ r ih =>
    rw [T_eq]
    by_cases h : x ≤ r
    · rw [if_pos ⟨hx, h⟩, ih (r - x) (by omega)]
      have e : r / x = (r - x) / x + 1 := by
        conv => lhs; rw [show r = (r - x) + x by omega]
        rw [Nat.add_div_right _ hx]
      rw [e, List.range_succ_eq_map (n := (r - x) / x + 1), List.map_cons, List.sum_cons, List.map_map]
      congr 1
      · congr 1; omega
      · congr 1
        apply List.map_congr_left
        intro n _
        show g (r - x - n * x) = g (r - (n + 1) * x)
        congr 1
        rw [Nat.succ_mul]; omega
    · rw [if_neg (by omega), Nat.div_eq_of_lt (by omega)]
      simp
theorem pats_length : ∀ (l p : List Int) (left : Int), (∀ x ∈ l, 1 ≤ x) → 0 ≤ left → ((pats l p left).length : Int) = cnt l left.toNat
  | [], p, left, _, _ => by simp [pats, cnt]
  | x :: xs, p, left, h, h0 => by
    have hx := h x (by simp)
    show (((List.range (left.toNat / x.toNat + 1)).flatMap fun n : Nat => pats xs (p ++ [(n : Int)]) (left - (n : Int) * x)).length : Int) = T x.toNat (cnt xs) left.toNat
    rw [T_sum _ (by omega), List.length_flatMap]
    have key : ∀ (ns : List Nat), (∀ n ∈ ns, n < left.toNat / x.toNat + 1) → (((ns.map fun n : Nat => (pats xs (p ++ [(n : Int)]) (left - (n : Int) * x)).length).sum : Nat) : Int) = (ns.map fun n => cnt xs (left.toNat - n * x.toNat)).sum := by
      intro ns
      induction ns with
      | nil => intro _; rfl
      | cons n ns ih =>
        intro hn
        rw [List.map_cons, List.sum_cons, List.map_cons, List.sum_cons, Int.natCast_add, ih (fun m hm => hn m (by simp [hm]))]
        congr 1
        have hn0 := hn n (by simp)
        have h1 : n * x.toNat ≤ left.toNat := by
          have := (Nat.le_div_iff_mul_le (show 0 < x.toNat by omega)).1 (Nat.le_of_lt_succ hn0)
          exact this
        have h2 : (n : Int) * x = ((n * x.toNat : Nat) : Int) := by rw [Int.natCast_mul, Int.toNat_of_nonneg (by omega)]
        have h3 : (n : Int) * x ≤ left := by rw [h2]; omega
        rw [pats_length xs _ _ (fun y hy => h y (by simp [hy])) (by omega)]
        congr 1
        omega
    exact key _ (fun n hn => List.mem_range.1 hn)

/-! ### the reference's table -/
theorem tab_bound : ∀ (l : List Int) (f : Nat → Int) (B : Int) (n : Nat), 0 ≤ B → n ≤ 60 → (∀ i, i ≤ n → 0 ≤ f i ∧ f i ≤ B) → 0 ≤ tab f l n ∧ tab f l n ≤ 61 ^ l.length * B
  | [], f, B, n, hB, hn, h => by simpa [tab] using h n (Nat.le_refl _)
  | x :: xs, f, B, n, hB, hn, h => by
    have h1 : ∀ i, i ≤ n → 0 ≤ T x.toNat f i ∧ T x.toNat f i ≤ 61 * B := fun i hi => by
      obtain ⟨a, b⟩ := T_bound x.toNat f B hB i (fun j hj => h j (by omega))
      have : ((i : Int) + 1) * B ≤ 61 * B := Int.mul_le_mul_of_nonneg_right (by omega) hB
      omega
    have h2 := tab_bound xs (T x.toNat f) (61 * B) n (by omega) hn h1
    have e : (61 : Int) ^ (x :: xs).length * B = 61 ^ xs.length * (61 * B) := by
      rw [List.length_cons, Int.pow_succ, Int.mul_assoc]
    rw [e]; exact h2
/-- y stands for f, up to n. -/
def Tells (y : List Int) (f : Nat → Int) (n : Nat) : Prop := y.length = n + 1 ∧ ∀ i, i ≤ n → rd y i = f i
theorem tells_eq {y z : List Int} {f : Nat → Int} {n : Nat} (hy : Tells y f n) (hz : Tells z f n) : y = z := by
  apply List.ext_getElem (by rw [hy.1, hz.1])
  intro i h1 h2
  have := hy.2 i (by have := hy.1; omega)
  have := hz.2 i (by have := hy.1; omega)
  rw [rd_get h1] at *
  rw [rd_get h2] at *
  omega
theorem rd_set {y : List Int} {i j : Nat} {v : Int} (hi : i < y.length) (hj : j < y.length) : rd (y.set i v) j = if i = j then v else rd y j := by
  rw [rd_get (by simpa using hj), rd_get hj, List.getElem_set]
theorem rdCount_l1 (rod : Nat) (hr : rod ≤ 60) (f : Nat → Int) (x : Nat) (hx : 1 ≤ x) (hx6 : x ≤ 60) (l : List Int) (n2 i : Int) (r : List Int) (hb : ∀ j, j ≤ rod → 0 ≤ T x f j ∧ T x f j ≤ 1000000000)
    (hk : ∀ y, Tells y (T x f) rod → Ev (fun k => spec_rdCount.l0 k rod y l n2 (wrap64 (i + 1))) r) (d : Nat) :
    ∀ (n : Nat) (y : List Int), n + d = max x (rod + 1) → x ≤ n → y.length = rod + 1 → (∀ j, j ≤ rod → rd y j = if j < n then T x f j else f j) → Ev (fun k => spec_rdCount.l1 k rod y x n l n2 i) r := by
  induction d with
  | zero =>
    intro n y hn hxn hy h
    refine Ev.step (fun k => ?_) (hk y ⟨hy, fun j hj => by rw [h j hj, if_pos (by omega)]⟩)
    rw [spec_rdCount.l1, if_neg (by omega)]
  | succ d ih =>
    intro n y hn hxn hy h
    have e1 : wrap64 ((n : Int) - x) = ((n - x : Nat) : Int) := by rw [w64 (by omega) (by omega)]; omega
    have hT := T_eq x f n
    rw [if_pos (by omega)] at hT
    have e2 : wrap64 (rd y n + rd y (n - x : Nat)) = T x f n := by
      rw [h n (by omega), h (n - x) (by omega), if_neg (by omega), if_pos (by omega), ← hT]
      have := hb n (by omega)
      exact w64 (by omega) (by omega)
    refine Ev.step (fun k => ?_) (ih (n + 1) (y.set n (T x f n)) (by omega) (by omega) (by simpa using hy) (fun j hj => ?_))
    · rw [spec_rdCount.l1, if_pos (by omega), if_pos (by omega), if_pos (by omega), e1, if_pos (by omega), if_pos (by omega), w64i n (by omega), e2]
      simp
    · rw [rd_set (by omega) (by omega), h j hj]
      by_cases e : n = j
      · subst e; rw [if_pos rfl, if_pos (by omega)]
      · rw [if_neg e]
        by_cases h3 : j < n
        · rw [if_pos h3, if_pos (by omega)]
        · rw [if_neg h3, if_neg (by omega)]
theorem rdCount_l0 (rod : Nat) (hr : rod ≤ 60) (l : List Int) (hl : l.length ≤ 4) (hg : ∀ x ∈ l, 1 ≤ x ∧ x ≤ 60) (d : Nat) : ∀ (i : Nat) (y : List Int), i + d = l.length → Tells y (tab D0 (l.take i)) rod →
    ∃ r, Ev (fun k => spec_rdCount.l0 k rod y l l.length i) r ∧ Tells r (tab D0 l) rod := by
  induction d with
  | zero =>
    intro i y hi hy
    refine ⟨y, Ev.step (f := fun _ => some y) (fun k => ?_) (Ev.now y), ?_⟩
    · rw [spec_rdCount.l0, if_neg (by omega)]
    · rwa [List.take_of_length_le (by omega)] at hy
  | succ d ih =>
    intro i y hi hy
    have hlt : i < l.length := by omega
    have hx := hg (rd l i) (by rw [rd_get hlt]; exact List.getElem_mem hlt)
    obtain ⟨x, hx'⟩ : ∃ x : Nat, rd l i = x := ⟨(rd l i).toNat, by omega⟩
    have htab : tab D0 (l.take (i + 1)) = T x (tab D0 (l.take i)) := by
      rw [List.take_succ_eq_append_getElem hlt]
      have : ∀ (a : List Int) (f : Nat → Int) (z : Int), tab f (a ++ [z]) = T z.toNat (tab f a) := by
        intro a
        induction a with
        | nil => intro f z; rfl
        | cons b a ih => intro f z; exact ih _ _
      rw [this, ← rd_get hlt, hx']; rfl
    have hb : ∀ j, j ≤ rod → 0 ≤ T x (tab D0 (l.take i)) j ∧ T x (tab D0 (l.take i)) j ≤ 1000000000 := fun j hj => by
      rw [← htab]
      have := tab_bound (l.take (i + 1)) D0 1 j (by omega) (by omega) (fun i _ => by unfold D0; split <;> omega)
      have hle : (l.take (i + 1)).length ≤ 4 := by rw [List.length_take]; omega
      have : (61 : Int) ^ (l.take (i + 1)).length ≤ 61 ^ 4 := by
        have := Nat.pow_le_pow_right (show 0 < 61 by omega) hle
        exact_mod_cast this
      have e : (61 : Int) ^ 4 = 13845841 := by decide
      omega
    obtain ⟨y0, hy0⟩ : ∃ y0, Tells y0 (T x (tab D0 (l.take i))) rod := ⟨(List.range (rod + 1)).map fun j => T x (tab D0 (l.take i)) j, by simp, fun j hj => by rw [rd_get (by simpa using Nat.lt_succ_of_le hj)]; simp⟩
    obtain ⟨r, hr1, hr2⟩ := ih (i + 1) y0 (by omega) (by rw [htab]; exact hy0)
    refine ⟨r, ?_, hr2⟩
    refine Ev.step (fun k => ?_) (rdCount_l1 rod hr (tab D0 (l.take i)) x (by omega) (by omega) l l.length i r hb (fun y' hy' => ?_) (max x (rod + 1) - x) x y (by omega) (Nat.le_refl _) hy.1 (fun j hj => ?_))
    · rw [spec_rdCount.l0, if_pos (by omega), if_pos (by omega), if_pos (by omega), hx']
    · rw [tells_eq hy' hy0, w64i i (by omega)]; exact hr1
    · rw [hy.2 j hj]
      by_cases h : j < x
      · rw [if_pos h, T_eq, if_neg (by omega)]; omega
      · rw [if_neg h]
theorem rdCount_ev (rod : Int) (l : List Int) (h0 : 1 ≤ rod) (h1 : rod ≤ 60) (hl : l.length ≤ 4) (hg : ∀ x ∈ l, 1 ≤ x ∧ x ≤ 60) : ∃ r, Ev (fun k => spec_rdCount.f k rod l) r ∧ Tells r (tab D0 l) rod.toNat := by
  obtain ⟨n, rfl⟩ : ∃ n : Nat, rod = n := ⟨rod.toNat, by omega⟩
  have e : wrap64 ((n : Int) + 1) = ((n + 1 : Nat) : Int) := w64i n (by omega)
  obtain ⟨r, hr1, hr2⟩ := rdCount_l0 n (by omega) l hl hg l.length 0 ((List.replicate (n + 1) 0).set 0 1) (by omega) ⟨by simp, fun i hi => by
    have e0 : ∀ j, j < n + 1 → rd (List.replicate (n + 1) 0) j = 0 := fun j hj => by rw [rd_get (by simpa using hj)]; simp
    rw [rd_set (by simp) (by simp; omega)]
    show _ = D0 i
    unfold D0
    by_cases h : i = 0
    · subst h; simp
    · rw [if_neg h, if_neg (by omega), e0 i (by omega)]⟩
  refine ⟨r, ?_, hr2⟩
  unfold spec_rdCount.f
  rw [e]
  refine Ev.pos (by omega) (Ev.pos (by omega) (Ev.call (o := some (List.replicate ((n + 1 : Nat) : Int).toNat 0 : List Int)) rfl (Ev.pos (by rw [List.length_replicate]; omega) ?_)))
  rw [show ((n + 1 : Nat) : Int).toNat = n + 1 by omega, show (0 : Int).toNat = 0 by rfl]
  exact hr1

/-! ### the sum of the table -/
theorem sumW_tab (f : Nat → Int) (y : List Int) (n : Nat) (hy : Tells y f n) (hn : n ≤ 60) (hb : ∀ j, j ≤ n → 0 ≤ f j ∧ f j ≤ 1000000000) (d : Nat) : ∀ (i : Nat) (a : Int), i + d = n + 1 → 0 ≤ a → a ≤ i * 1000000000 → (a = if i = 0 then 0 else T 1 f (i - 1)) → sumW a (y.drop i) = T 1 f n := by
  induction d with
  | zero =>
    intro i a hi h0 h1 ha
    rw [List.drop_of_length_le (by have := hy.1; omega)]
    show a = _
    rw [ha, if_neg (by omega)]
    congr 1; omega
  | succ d ih =>
    intro i a hi h0 h1 ha
    have hlt : i < y.length := by have := hy.1; omega
    rw [drop_rd hlt]
    show sumW (wrap64 (a + rd y i)) _ = _
    have hv := hb i (by omega)
    rw [hy.2 i (by omega), w64 (by omega) (by omega)]
    refine ih (i + 1) _ (by omega) (by omega) (by omega) ?_
    rw [if_neg (by omega), show i + 1 - 1 = i from rfl, T_eq, ha]
    by_cases h : i = 0
    · subst h; simp
    · rw [if_neg h, if_pos (by omega)]; omega
theorem countPatterns_both (rod : Int) (l : List Int) (hl : l.length ≤ 1048576) : ∃ r, Ev (fun k => spec_CountPatterns.f k rod l) r ∧ Ev (fun k => impl_CountPatterns.f k rod l) r := by
  unfold spec_CountPatterns.f impl_CountPatterns.f
  by_cases hg : goodRod rod l = true
  · have hg' := hg
    unfold goodRod at hg'
    rw [Bool.and_eq_true, inB_iff, goodL_iff] at hg'
    obtain ⟨⟨n0, n1⟩, ⟨l0, l1⟩, l2, _⟩ := hg'
    have hx : ∀ x ∈ l, 1 ≤ x ∧ x ≤ 60 := fun x hx => by obtain ⟨j, hj, rfl⟩ := mem_rd hx; exact l2 j hj
    obtain ⟨y, hy1, hy2⟩ := rdCount_ev rod l n0 n1 l1 hx
    have hb : ∀ j, j ≤ rod.toNat → 0 ≤ tab D0 l j ∧ tab D0 l j ≤ 1000000000 := fun j hj => by
      have := tab_bound l D0 1 j (by omega) (by omega) (fun i _ => by unfold D0; split <;> omega)
      have : (61 : Int) ^ l.length ≤ 61 ^ 4 := by
        have := Nat.pow_le_pow_right (show 0 < 61 by omega) l1
        exact_mod_cast this
      have e : (61 : Int) ^ 4 = 13845841 := by decide
      omega
    have hs : sumW 0 y = cnt l rod.toNat := by
      rw [← sum_tab l rod.toNat (fun x h => (hx x h).1)]
      have := sumW_tab (tab D0 l) y rod.toNat hy2 (by omega) hb (rod.toNat + 1) 0 0 (by omega) (by omega) (by omega) (by simp)
      rwa [List.drop_zero] at this
    have hlen := pats_length l [] rod (fun x h => (hx x h).1) (by omega)
    have hsmall : 0 ≤ cnt l rod.toNat ∧ cnt l rod.toNat ≤ 100000000000 := by
      rw [← sum_tab l rod.toNat (fun x h => (hx x h).1)]
      have := T_bound 1 (tab D0 l) 1000000000 (by omega) rod.toNat hb
      omega
    refine ⟨(cnt l rod.toNat, true), ?_, ?_⟩
    · refine Ev.bind (rdAsked_ev rod l hl) (Ev.pos hg (Ev.bind hy1 (Ev.bind (bxSum_ev y (by have := hy2.1; omega)) ?_)))
      rw [hs]; exact Ev.now _
    · refine Ev.bind (areRod_ev rod l hl) (Ev.pos hg ?_)
      rw [hlen, w64 (by omega) (by omega)]; exact Ev.now _
  · exact ⟨_, Ev.bind (rdAsked_ev rod l hl) (Ev.neg hg (Ev.now _)), Ev.bind (areRod_ev rod l hl) (Ev.neg hg (Ev.now _))⟩

end Go.Proofs.Ytoicfnhpjfgjmaa.Q
