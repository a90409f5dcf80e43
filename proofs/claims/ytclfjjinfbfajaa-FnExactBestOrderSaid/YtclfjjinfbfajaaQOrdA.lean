/- The orders of things: the reference's enumeration gives the same lists in the same order as the program's over the sorted things. Conditions: at most 7 things. -/
import Derived.Test.YtclfjjinfbfajaaPx0
import Derived.Test.YtclfjjinfbfajaaPx1
import Derived.Test.YtclfjjinfbfajaaPx13
import Derived.Test.YtclfjjinfbfajaaPx14
import Derived.Test.YtclfjjinfbfajaaPx22
import Derived.Test.YtclfjjinfbfajaaQRule
namespace Go.Proofs.Ytclfjjinfbfajaa.Q
open Go.RowKit Go.Proofs.Ytclfjjinfbfajaa.P Go.Proofs.YtclfjjinfbfajaaW.PrintWords Go.Proofs.YtclfjjinfbfajaaW.PrintLast
set_option linter.unusedVariables false
set_option linter.unusedSimpArgs false

/-! ### sorted lists -/
theorem le_total' (a b : Int) : (decide (a ≤ b) || decide (b ≤ a)) = true := by
  rw [Bool.or_eq_true, decide_eq_true_eq, decide_eq_true_eq]; omega
theorem le_trans' (a b c : Int) (h : decide (a ≤ b) = true) (k : decide (b ≤ c) = true) : decide (a ≤ c) = true := by
  rw [decide_eq_true_eq] at *; omega
def Sd (l : List Int) : Prop := l.Pairwise (fun a b => a ≤ b)
theorem sortL_sd (l : List Int) : Sd (sortL l) := by
  have h := List.pairwise_mergeSort (le := fun x y : Int => decide (x ≤ y)) le_trans' le_total' l
  exact h.imp (fun h => by simpa using h)
theorem sortL_perm (l : List Int) : (sortL l).Perm l := List.mergeSort_perm l _
theorem sd_unique : ∀ (a b : List Int), Sd a → Sd b → a.Perm b → a = b
  | [], b, _, _, h => (List.nil_perm.1 h).symm
  | x :: xs, [], _, _, h => absurd h.length_eq (by simp)
  | x :: xs, y :: ys, ha, hb, h => by
    have ha' := List.pairwise_cons.1 ha
    have hb' := List.pairwise_cons.1 hb
    have h1 : y ≤ x := by
      rcases List.mem_cons.1 (h.subset (List.mem_cons_self ..)) with e | e
      · omega
      · exact hb'.1 _ e
    have h2 : x ≤ y := by
      rcases List.mem_cons.1 (h.symm.subset (List.mem_cons_self ..)) with e | e
      · omega
      · exact ha'.1 _ e
    obtain rfl : x = y := by omega
    rw [sd_unique xs ys ha'.2 hb'.2 (List.perm_cons x |>.1 h)]
theorem erase_perm (l : List Int) (i : Nat) (h : i < l.length) : (rd l i :: l.eraseIdx i).Perm l := by
  rw [List.eraseIdx_eq_take_drop_succ]
  have e : l = l.take i ++ rd l i :: l.drop (i + 1) := by rw [← drop_rd h, List.take_append_drop]
  have : (rd l i :: (l.take i ++ l.drop (i + 1))).Perm (l.take i ++ rd l i :: l.drop (i + 1)) := List.perm_middle.symm
  exact this.trans (List.Perm.of_eq e.symm)
theorem sort_erase (l : List Int) (b i : Nat) (hb : b < l.length) (hi : i < (sortL l).length) (e : rd l b = rd (sortL l) i) : sortL (l.eraseIdx b) = (sortL l).eraseIdx i := by
  refine sd_unique _ _ (sortL_sd _) ((sortL_sd l).sublist (List.eraseIdx_sublist ..)) ((sortL_perm _).trans ?_)
  have h1 := erase_perm l b hb
  have h2 := erase_perm (sortL l) i hi
  rw [e] at h1
  exact (List.perm_cons _).1 ((h1.trans (sortL_perm l).symm).trans h2.symm)

/-! ### the program's lists -/
theorem lvR_len (G : List Int → List Int → List (List Int)) (B : Nat) (p l : List Int) (hG : ∀ q i, i < l.length → (G q (l.eraseIdx i)).length ≤ B) : ∀ (d i : Nat), i + d ≤ l.length → (lvR G p l d i).length ≤ d * B
  | 0, i, _ => by simp [lvR]
  | d + 1, i, h => by
    have := lvR_len G B p l hG d (i + 1) (by omega)
    simp only [lvR, List.length_append, Nat.succ_mul]
    have h2 : (if i = 0 ∨ rd l ((i : Int) - 1) ≠ rd l i then G (p ++ [rd l i]) (l.eraseIdx i) else []).length ≤ B := by
      split
      · exact hG _ _ (by omega)
      · simp
    omega
theorem lvE_len (n : Nat) : ∀ (p l : List Int), n ≤ 7 → l.length = n → (lvE n p l).length ≤ 7 ^ n := by
  induction n with
  | zero => intro p l _ h; simp [lvE]
  | succ n ih =>
    intro p l h7 h
    have := lvR_len (lvE n) (7 ^ n) p l (fun q i hi => ih q _ (by omega) (by rw [List.length_eraseIdx, if_pos hi]; omega)) l.length 0 (by omega)
    have h2 : l.length * 7 ^ n ≤ 7 * 7 ^ n := Nat.mul_le_mul_right _ (by omega)
    simp only [lvE, Nat.pow_succ]
    omega
theorem lvR_mem (G : List Int → List Int → List (List Int)) (p l q : List Int) : ∀ (d i : Nat), i + d ≤ l.length → q ∈ lvR G p l d i → ∃ j, j < l.length ∧ q ∈ G (p ++ [rd l j]) (l.eraseIdx j)
  | 0, i, _, h => by simp [lvR] at h
  | d + 1, i, hd, h => by
    simp only [lvR, List.mem_append] at h
    rcases h with h | h
    · split at h
      · exact ⟨i, by omega, h⟩
      · simp at h
    · exact lvR_mem G p l q d (i + 1) (by omega) h
theorem lvE_perm (n : Nat) : ∀ (p l q : List Int), l.length = n → q ∈ lvE n p l → q.Perm (p ++ l) := by
  induction n with
  | zero =>
    intro p l q h hq
    obtain rfl := List.eq_nil_of_length_eq_zero h
    simp [lvE] at hq
    rw [hq]; simp
  | succ n ih =>
    intro p l q h hq
    obtain ⟨j, hj, hm⟩ := lvR_mem (lvE n) p l q l.length 0 (by omega) hq
    have h1 := ih _ _ q (by rw [List.length_eraseIdx, if_pos hj]; omega) hm
    rw [List.append_assoc] at h1
    exact h1.trans ((erase_perm l j hj).append_left p)

/-! ### the reference's enumeration -/
theorem has_l0 (u : List Int) (x : Int) (hu : u.length ≤ 1048576) (d : Nat) : ∀ i : Nat, i + d = u.length → Ev (fun k => spec_l1Has.l0 k x u u.length i) (decide (x ∈ u.drop i)) := by
  induction d with
  | zero =>
    intro i hi
    refine Ev.step (f := fun _ => some false) (fun k => ?_) ?_
    · rw [spec_l1Has.l0, if_neg (by omega)]
    · rw [List.drop_of_length_le (by omega)]; exact Ev.now false
  | succ d ih =>
    intro i hi
    have hlt : i < u.length := by omega
    rw [drop_rd hlt]
    refine Ev.step (f := fun k => if rd u i = x then some true else spec_l1Has.l0 k x u u.length ((i + 1 : Nat) : Int)) (fun k => ?_) ?_
    · rw [spec_l1Has.l0, if_pos (by omega), if_pos (by omega), if_pos (by omega), w64i i (by omega)]
    · refine Ev.ite (fun h => ?_) (fun h => ?_)
      · rw [h]; simp only [List.mem_cons, true_or, decide_true]; exact Ev.now true
      · refine Ev.val (ih (i + 1) (by omega)) ?_
        congr 1
        rw [List.mem_cons]
        exact propext ⟨.inr, fun h' => h'.resolve_left (fun e => h e.symm)⟩
theorem has_ev (u : List Int) (x : Int) (hu : u.length ≤ 1048576) : Ev (fun k => spec_l1Has.f k u x) (decide (x ∈ u)) := by
  unfold spec_l1Has.f
  exact has_l0 u x hu u.length 0 (by omega)
theorem ownO (l : List Int) (h : l.length ≤ 1048576) : spec_l1Own.f l = some l := by
  unfold spec_l1Own.f
  rw [Option.bind_some, if_pos (by simp; omega), List.nil_append]
/-- What the scan for the next number knows at place i. -/
def InvO (rest used : List Int) (i : Nat) (b : Int) : Prop :=
  (b = -1 ∧ ∀ j : Nat, j < i → rd rest j ∈ used) ∨ ∃ n : Nat, b = n ∧ n < i ∧ rd rest n ∉ used ∧ ∀ j : Nat, j < i → rd rest j ∉ used → rd rest n ≤ rd rest j
theorem ord_l1 (p rest used : List Int) (out res : List (List Int)) (hr : rest.length ≤ 1048576) (hu : used.length ≤ 1048576) (hfin : ∀ b', InvO rest used rest.length b' → Ev (fun k => spec_bxOrders.l1 k p rest out used b' rest rest.length rest.length) res) (d : Nat) :
    ∀ (i : Nat) (b : Int), i + d = rest.length → InvO rest used i b → Ev (fun k => spec_bxOrders.l1 k p rest out used b rest rest.length i) res := by
  induction d with
  | zero =>
    intro i b hi h
    obtain rfl : i = rest.length := by omega
    exact hfin b h
  | succ d ih =>
    intro i b hi h
    have hlt : i < rest.length := by omega
    have key : ∀ (j : Nat), j < i + 1 → j < i ∨ j = i := fun j hj => by omega
    refine Ev.step (fun k => by rw [spec_bxOrders.l1, if_pos (by omega), if_pos (by omega), if_pos (by omega)]) ?_
    refine Ev.bind (has_ev used (rd rest i) hu) ?_
    refine Ev.ite (fun h1 => ?_) (fun h1 => ?_)
    · have h1' : rd rest i ∈ used := by simpa using h1
      refine Ev.congr (fun k => by rw [w64i i (by omega)]) (ih (i + 1) b (by omega) ?_)
      rcases h with ⟨hb, ha⟩ | ⟨n, hb, hn, hnu, hm⟩
      · exact .inl ⟨hb, fun j hj => (key j hj).elim (ha j) (fun e => by rw [e]; exact h1')⟩
      · exact .inr ⟨n, hb, by omega, hnu, fun j hj hju => (key j hj).elim (fun h => hm j h hju) (fun e => absurd h1' (by rw [← e]; exact hju))⟩
    · have h1' : rd rest i ∉ used := by simpa using h1
      rcases h with ⟨rfl, ha⟩ | ⟨n, rfl, hn, hnu, hm⟩
      · refine Ev.pos (by omega) ?_
        refine Ev.congr (fun k => by rw [w64i i (by omega)]) (ih (i + 1) i (by omega) ?_)
        exact .inr ⟨i, rfl, by omega, h1', fun j hj hju => (key j hj).elim (fun h => absurd (ha j h) hju) (fun e => by rw [e]; exact Int.le_refl _)⟩
      · refine Ev.neg (by omega) (Ev.pos (by omega) (Ev.pos (by omega) ?_))
        refine Ev.ite (fun h2 => ?_) (fun h2 => ?_)
        · refine Ev.congr (fun k => by rw [w64i i (by omega)]) (ih (i + 1) i (by omega) ?_)
          exact .inr ⟨i, rfl, by omega, h1', fun j hj hju => (key j hj).elim (fun h => by have := hm j h hju; omega) (fun e => by rw [e]; exact Int.le_refl _)⟩
        · refine Ev.congr (fun k => by rw [w64i i (by omega)]) (ih (i + 1) n (by omega) ?_)
          exact .inr ⟨n, rfl, by omega, hnu, fun j hj hju => (key j hj).elim (fun h => hm j h hju) (fun e => by rw [e]; omega)⟩
theorem mem_rd {l : List Int} {v : Int} : v ∈ l ↔ ∃ j : Nat, j < l.length ∧ rd l j = v := by
  constructor
  · intro h
    obtain ⟨j, hj, rfl⟩ := List.mem_iff_getElem.1 h
    exact ⟨j, hj, rd_get hj⟩
  · rintro ⟨j, hj, rfl⟩
    rw [rd_get hj]; exact List.getElem_mem hj
theorem mem_take {l : List Int} {i : Nat} (hi : i < l.length) (v : Int) : v ∈ l.take (i + 1) ↔ v ∈ l.take i ∨ v = rd l i := by
  rw [List.take_succ_eq_append_getElem hi, List.mem_append, List.mem_singleton, rd_get hi]
theorem sd_rd {l : List Int} (h : Sd l) {i j : Nat} (hij : i ≤ j) (hj : j < l.length) : rd l i ≤ rd l j := by
  rcases Nat.lt_or_ge i j with h1 | h1
  · rw [rd_get hj, rd_get (show i < l.length by omega)]
    exact (List.pairwise_iff_getElem.1 h) i j (by omega) hj h1
  · obtain rfl : i = j := by omega
    exact Int.le_refl _
theorem take_mem_rd {l : List Int} {i : Nat} {v : Int} (h : v ∈ l.take i) : ∃ j : Nat, j < i ∧ j < l.length ∧ rd l j = v := by
  obtain ⟨j, hj, e⟩ := mem_rd.1 h
  have hj' : j < i ∧ j < l.length := by rw [List.length_take] at hj; omega
  refine ⟨j, hj'.1, hj'.2, ?_⟩
  rw [← e, rd_get hj'.2, rd_get hj, List.getElem_take]
theorem ord_fin (k : Nat) (p rest used : List Int) (out : List (List Int)) (m : Nat) (hm : m < rest.length) (hr : rest.length ≤ 7) (hp : p.length ≤ 7) (hu : used.length ≤ 7) :
    spec_bxOrders.l1 (k + 1) p rest out used m rest rest.length rest.length = (spec_bxOrders.f k (p ++ [rd rest m]) (rest.eraseIdx m)).bind fun t => if out.length + t.length < 5864062014805 then spec_bxOrders.l0 k p rest (out ++ t) (used ++ [rd rest m]) else none := by
  have hw : wrap64 ((m : Int) + 1) = ((m + 1 : Nat) : Int) := w64i m (by omega)
  have e1 : spec_l1Own.f (rest.take m) = some (rest.take m) := ownO _ (by rw [List.length_take]; omega)
  have e2 : spec_l1Own.f p = some p := ownO p (by omega)
  rw [spec_bxOrders.l1, if_neg (Int.lt_irrefl _), if_neg (by omega), if_pos (by omega), if_pos (by omega), Option.bind_some, if_pos (by simp; omega), if_pos (by omega), hw, Int.toNat_natCast, Int.toNat_natCast, e1, Option.bind_some, if_pos (by omega), if_pos (by omega), if_pos (by rw [List.length_take, List.length_drop]; omega), e2, Option.bind_some, Option.bind_some, if_pos (by simp; omega), List.eraseIdx_eq_take_drop_succ]
theorem bxOrders_ev (n : Nat) : ∀ (p rest : List Int), n ≤ 7 → rest.length = n → p.length + n ≤ 7 → Ev (fun k => spec_bxOrders.f k p rest) (lvE n p (sortL rest)) := by
  induction n with
  | zero =>
    intro p rest _ hr hp
    refine Ev.step (fun k => by rw [spec_bxOrders.f, if_pos (by omega), ownO p (by omega), Option.bind_some]) ?_
    exact Ev.now _
  | succ n ih =>
    intro p rest h7 hr hp
    obtain ⟨s, hs⟩ : ∃ s, s = sortL rest := ⟨_, rfl⟩
    have hsl : s.length = n + 1 := by rw [hs, sortL_len, hr]
    have hsp : s.Perm rest := by rw [hs]; exact sortL_perm rest
    have hsd : Sd s := by rw [hs]; exact sortL_sd rest
    obtain ⟨B, hB1, hB2⟩ : ∃ B, 7 ^ n ≤ B ∧ B ≤ 823543 := ⟨7 ^ n, Nat.le_refl _, Nat.le_trans (Nat.pow_le_pow_right (by omega) (show n ≤ 7 by omega)) (by decide)⟩
    have loop : ∀ (d i : Nat) (out : List (List Int)) (used : List Int), i + d = s.length → (∀ v, v ∈ used ↔ v ∈ s.take i) → used.length ≤ i → out.length ≤ i * B → Ev (fun k => spec_bxOrders.l0 k p rest out used) (out ++ lvR (lvE n) p s d i) := by
      intro d
      induction d with
      | zero =>
        intro i out used hi hu hul hol
        refine Ev.step (fun k => by rw [spec_bxOrders.l0]) ?_
        refine ord_l1 p rest used out _ (by omega) (by omega) (fun b' hb' => ?_) rest.length 0 (-1) (by omega) (.inl ⟨rfl, fun j hj => by omega⟩)
        rcases hb' with ⟨rfl, _⟩ | ⟨m, rfl, hm, hmu, _⟩
        · refine Ev.step (fun k => by rw [spec_bxOrders.l1, if_neg (by omega), if_pos (by omega)]) ?_
          rw [show lvR (lvE n) p s 0 i = [] from rfl, List.append_nil]
          exact Ev.now _
        · refine absurd ((hu _).2 ?_) hmu
          rw [List.take_of_length_le (by omega)]
          exact hsp.symm.subset (mem_rd.2 ⟨m, hm, rfl⟩)
      | succ d ihd =>
        intro i out used hi hu hul hol
        have hlt : i < s.length := by omega
        by_cases hb : i = 0 ∨ rd s ((i : Int) - 1) ≠ rd s i
        · have hnew : rd s i ∉ used := by
            intro h
            obtain ⟨j, hj, hj2, e⟩ := take_mem_rd ((hu _).1 h)
            rcases hb with rfl | hb
            · omega
            · have h1 := sd_rd hsd (show j ≤ i - 1 by omega) (by omega)
              have h2 := sd_rd hsd (show i - 1 ≤ i by omega) hlt
              rw [show (i : Int) - 1 = ((i - 1 : Nat) : Int) by omega] at hb
              omega
          have hL : lvR (lvE n) p s (d + 1) i = lvE n (p ++ [rd s i]) (s.eraseIdx i) ++ lvR (lvE n) p s d (i + 1) := by
            simp only [lvR]; rw [if_pos hb]
          rw [hL, ← List.append_assoc]
          refine Ev.step (fun k => by rw [spec_bxOrders.l0]) ?_
          refine ord_l1 p rest used out _ (by omega) (by omega) (fun b' hb' => ?_) rest.length 0 (-1) (by omega) (.inl ⟨rfl, fun j hj => by omega⟩)
          rcases hb' with ⟨rfl, ha⟩ | ⟨m, rfl, hm, hmu, hmin⟩
          · obtain ⟨j, hj, e⟩ := mem_rd.1 (hsp.subset (mem_rd.2 ⟨i, hlt, rfl⟩))
            exact absurd (ha j hj) (by rw [e]; exact hnew)
          · have hval : rd rest m = rd s i := by
              obtain ⟨j, hj, e⟩ := mem_rd.1 (hsp.subset (mem_rd.2 ⟨i, hlt, rfl⟩))
              have h1 := hmin j hj (by rw [e]; exact hnew)
              obtain ⟨j2, hj2, e2⟩ := mem_rd.1 (hsp.symm.subset (mem_rd.2 ⟨m, hm, rfl⟩))
              have h2 : i ≤ j2 := by
                rcases Nat.lt_or_ge j2 i with h | h
                · refine absurd ((hu _).2 ?_) hmu
                  rw [← e2, rd_get hj2]
                  exact List.mem_take_iff_getElem.2 ⟨j2, by omega, rfl⟩
                · exact h
              have h3 := sd_rd hsd h2 hj2
              omega
            have hrec := ih (p ++ [rd s i]) (rest.eraseIdx m) (by omega) (by rw [List.length_eraseIdx, if_pos hm]; omega) (by simp; omega)
            rw [sort_erase rest m i hm (by rw [sortL_len]; omega) (by rw [hval, hs]), ← hs] at hrec
            have hlen := lvE_len n (p ++ [rd s i]) (s.eraseIdx i) (by omega) (by rw [List.length_eraseIdx, if_pos hlt]; omega)
            have hmul : i * B ≤ 7 * B := Nat.mul_le_mul_right _ (by omega)
            have hlenB := Nat.le_trans hlen hB1
            have hnext := ihd (i + 1) (out ++ lvE n (p ++ [rd s i]) (s.eraseIdx i)) (used ++ [rd s i]) (by omega) (fun v => by rw [List.mem_append, List.mem_singleton, mem_take hlt, hu v]) (by simp; omega) (by rw [List.length_append, Nat.succ_mul]; omega)
            refine Ev.step (fun k => by rw [ord_fin k p rest used out m hm (by omega) (by omega) (by omega), hval]) ?_
            refine Ev.bind hrec (Ev.pos (by omega) ?_)
            exact hnext
        · have e1 : rd s ((i : Int) - 1) = rd s i := by
            by_cases e : rd s ((i : Int) - 1) = rd s i
            · exact e
            · exact absurd (.inr e) hb
          have h0 : 0 < i := by
            rcases Nat.eq_zero_or_pos i with h | h
            · exact absurd (.inl h) hb
            · exact h
          have hL : lvR (lvE n) p s (d + 1) i = lvR (lvE n) p s d (i + 1) := by
            simp only [lvR]; rw [if_neg hb, List.nil_append]
          rw [hL]
          refine ihd (i + 1) out used (by omega) (fun v => ?_) (by omega) (by rw [Nat.succ_mul]; omega)
          rw [mem_take hlt, hu v]
          constructor
          · exact .inl
          · rintro (h | h)
            · exact h
            · rw [h, ← e1, show (i : Int) - 1 = ((i - 1 : Nat) : Int) by omega, rd_get (show i - 1 < s.length by omega)]
              exact List.mem_take_iff_getElem.2 ⟨i - 1, by omega, rfl⟩
    have h := loop s.length 0 [] [] (by omega) (by simp) (by simp) (by simp)
    refine Ev.step (fun k => by rw [spec_bxOrders.f, if_neg (by omega)]) ?_
    rw [List.nil_append] at h
    rw [← hs]
    exact h
end Go.Proofs.Ytclfjjinfbfajaa.Q
