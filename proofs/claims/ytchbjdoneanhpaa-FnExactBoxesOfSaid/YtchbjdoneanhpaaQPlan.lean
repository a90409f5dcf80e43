/- Plans of boxes: both texts' tests that a plan is named in order and keeps the room, and the loads. Conditions: at most 9 things from 1 to 100. -/
import Derived.Test.YtchbjdoneanhpaaPx0
import Derived.Test.YtchbjdoneanhpaaPx1
import Derived.Test.YtchbjdoneanhpaaPx4
import Derived.Test.YtchbjdoneanhpaaPx8
import Derived.Test.YtchbjdoneanhpaaPx9
import Derived.Test.YtchbjdoneanhpaaPx10
import Derived.Test.YtchbjdoneanhpaaQBoxA
namespace Go.Proofs.Ytchbjdoneanhpaa.Q
open Go.RowKit Go.Proofs.Ytchbjdoneanhpaa.P Go.Proofs.YtchbjdoneanhpaaW.PrintWords Go.Proofs.YtchbjdoneanhpaaW.PrintLast
set_option linter.unusedVariables false
set_option linter.unusedSimpArgs false

theorem rds_self {l : List Int} {i : Nat} (h : i < l.length) (x : Int) : rd (l.set i x) i = x := by
  simp [rd, List.getD_eq_getElem?_getD, List.getElem?_set_self h]
theorem rds_ne {l : List Int} {i j : Nat} (h : i ≠ j) (x : Int) : rd (l.set i x) j = rd l j := by
  simp [rd, List.getD_eq_getElem?_getD, List.getElem?_set_ne h]
theorem rda_lt {l : List Int} {i : Nat} (h : i < l.length) (r : List Int) : rd (l ++ r) i = rd l i := by
  simp [rd, List.getD_eq_getElem?_getD, List.getElem?_append_left h]
theorem rda_at (l : List Int) (x : Int) (r : List Int) : rd (l ++ x :: r) (l.length : Nat) = x := by
  simp [rd, List.getD_eq_getElem?_getD]

/-! ### the names -/
def idxF (x : Int) : List Int → Nat → Int
  | [], _ => -1
  | y :: ys, k => if x = y then (k : Int) else idxF x ys (k + 1)
theorem Index_l0 (l : List Int) (x : Int) (hl : l.length ≤ 1048576) (d : Nat) : ∀ i : Nat, i + d = l.length → Ev (fun k => slices_Index_int_int.l0 k l x l.length i) (idxF x (l.drop i) i) := by
  induction d with
  | zero =>
    intro i hi
    rw [List.drop_of_length_le (by omega)]
    refine Ev.step (f := fun _ => some (-1)) (fun k => ?_) (Ev.now _)
    rw [slices_Index_int_int.l0, if_neg (by omega)]
  | succ d ih =>
    intro i hi
    have hlt : i < l.length := by omega
    rw [drop_rd hlt]
    refine Ev.step (f := fun k => if x = rd l i then some (i : Int) else slices_Index_int_int.l0 k l x l.length ((i + 1 : Nat) : Int)) (fun k => ?_) ?_
    · rw [slices_Index_int_int.l0, if_pos (by omega), if_pos (by omega), if_pos (by omega), w64i i (by omega)]
    · simp only [idxF]
      refine Ev.ite (fun h => ?_) (fun h => ?_)
      · rw [if_pos h]; exact Ev.now _
      · rw [if_neg h]; exact ih (i + 1) (by omega)
theorem Index_ev (l : List Int) (x : Int) (hl : l.length ≤ 1048576) : Ev (fun k => slices_Index_int_int.f k l x) (idxF x l 0) := by
  unfold slices_Index_int_int.f
  exact Index_l0 l x hl l.length 0 (by omega)
theorem Contains_ev (l : List Int) (x : Int) (hl : l.length ≤ 1048576) : Ev (fun k => slices_Contains_int_int.f k l x) (decide (idxF x l 0 ≥ 0)) := by
  unfold slices_Contains_int_int.f
  exact Ev.bind (Index_ev l x hl) (Ev.now _)
theorem idxF_snoc (x : Int) : ∀ (l : List Int) (k : Nat), idxF x l k < 0 → idxF x (l ++ [x]) k = ((k + l.length : Nat) : Int)
  | [], k, h => by simp [idxF]
  | y :: ys, k, h => by
    simp only [idxF, List.cons_append] at h ⊢
    by_cases e : x = y
    · rw [if_pos e] at h; omega
    · rw [if_neg e] at h ⊢
      rw [idxF_snoc x ys (k + 1) h, List.length_cons]; congr 1; omega
/-- Each value as the number of its first coming. -/
def nameL : List Int → List Int → List Int
  | _, [] => []
  | seen, b :: bs => if idxF b seen 0 ≥ 0 then idxF b seen 0 :: nameL seen bs else (seen.length : Int) :: nameL (seen ++ [b]) bs
theorem named_l0 (l : List Int) (hl : l.length ≤ 1048576) (d : Nat) : ∀ (i : Nat) (out seen : List Int), i + d = l.length → out.length = i → seen.length ≤ i → Ev (fun k => impl_named.l0 k out seen l l.length i) (out ++ nameL seen (l.drop i)) := by
  induction d with
  | zero =>
    intro i out seen hi h1 h2
    rw [List.drop_of_length_le (by omega)]
    refine Ev.step (f := fun _ => some out) (fun k => ?_) (by simp only [nameL, List.append_nil]; exact Ev.now _)
    rw [impl_named.l0, if_neg (by omega)]
  | succ d ih =>
    intro i out seen hi h1 h2
    have hlt : i < l.length := by omega
    rw [drop_rd hlt]
    refine Ev.step (f := fun k => (slices_Contains_int_int.f k seen (rd l i)).bind fun t324 => (if t324 = true then ((slices_Index_int_int.f k seen (rd l i)).bind fun t325 => (if out.length < 17592186044416 then (impl_named.l0 k (out ++ [t325]) seen l l.length ((i + 1 : Nat) : Int)) else (none))) else (if seen.length < 17592186044416 then ((some (seen ++ [rd l i] : List Int)).bind fun y329 => ((slices_Index_int_int.f k y329 (rd l i)).bind fun t332 => (if out.length < 17592186044416 then (impl_named.l0 k (out ++ [t332]) y329 l l.length ((i + 1 : Nat) : Int)) else (none)))) else (none)))) (fun k => ?_) ?_
    · rw [impl_named.l0, if_pos (by omega), if_pos (by omega), if_pos (by omega), w64i i (by omega)]
    · refine Ev.bind (Contains_ev seen _ (by omega)) ?_
      simp only [nameL]
      refine Ev.ite (fun h => ?_) (fun h => ?_)
      · rw [decide_eq_true_eq] at h
        rw [if_pos h]
        refine Ev.bind (Index_ev seen _ (by omega)) (Ev.pos (by omega) ?_)
        have := ih (i + 1) (out ++ [idxF (rd l i) seen 0]) seen (by omega) (by simp; omega) (by omega)
        simpa using this
      · rw [decide_eq_true_eq] at h
        rw [if_neg h]
        refine Ev.pos (by omega) (Ev.bind (Ev.now _) (Ev.bind (Index_ev _ _ (by simp; omega)) (Ev.pos (by omega) ?_)))
        rw [idxF_snoc _ _ _ (by omega)]
        have := ih (i + 1) (out ++ [((0 + seen.length : Nat) : Int)]) (seen ++ [rd l i]) (by omega) (by simp; omega) (by simp; omega)
        simpa using this
theorem named_ev (l : List Int) (hl : l.length ≤ 1048576) : Ev (fun k => impl_named.f k l) (nameL [] l) := by
  unfold impl_named.f
  have := named_l0 l hl l.length 0 [] [] (by omega) rfl (Nat.le_refl _)
  simpa using this
theorem Equal_l0 (a b : List Int) (ha : a.length ≤ 1048576) (hab : a.length = b.length) (d : Nat) : ∀ i : Nat, i + d = a.length → Ev (fun k => slices_Equal_int_int.l0 k a b a.length i) (decide (a.drop i = b.drop i)) := by
  induction d with
  | zero =>
    intro i hi
    rw [List.drop_of_length_le (by omega), List.drop_of_length_le (by omega)]
    refine Ev.step (f := fun _ => some true) (fun k => ?_) (by simp only [decide_true]; exact Ev.now _)
    rw [slices_Equal_int_int.l0, if_neg (by omega)]
  | succ d ih =>
    intro i hi
    have hlt : i < a.length := by omega
    rw [drop_rd hlt, drop_rd (show i < b.length by omega)]
    refine Ev.step (f := fun k => if rd a i = rd b i then slices_Equal_int_int.l0 k a b a.length ((i + 1 : Nat) : Int) else some false) (fun k => ?_) ?_
    · rw [slices_Equal_int_int.l0, if_pos (by omega), if_pos (by omega), if_pos (by omega), if_pos (by omega), w64i i (by omega)]
    · refine Ev.ite (fun h => ?_) (fun h => ?_)
      · rw [h]; simp only [List.cons.injEq, true_and]; exact ih (i + 1) (by omega)
      · rw [decide_eq_false (by intro e; exact h (List.cons.inj e).1)]; exact Ev.now _
theorem Equal_ev (a b : List Int) (ha : a.length ≤ 1048576) : Ev (fun k => slices_Equal_int_int.f k a b) (decide (a = b)) := by
  unfold slices_Equal_int_int.f
  refine Ev.ite (fun h => ?_) (fun h => ?_)
  · have := Equal_l0 a b ha (by omega) a.length 0 (by omega)
    simpa using this
  · rw [decide_eq_false (by intro e; rw [e] at h; exact h rfl)]; exact Ev.now _

/-! ### plans named in order -/
def canonB : Nat → List Int → Bool
  | _, [] => true
  | m, b :: bs => if 0 ≤ b ∧ b < (m : Int) then canonB m bs else if b = (m : Int) then canonB (m + 1) bs else false
def cntM : Nat → List Int → Nat
  | m, [] => m
  | m, b :: bs => if b = (m : Int) then cntM (m + 1) bs else cntM m bs
def upL (n : Nat) : List Int := (List.range n).map fun (i : Nat) => (i : Int)
theorem upL_succ (n : Nat) : upL (n + 1) = upL n ++ [(n : Int)] := by simp [upL, List.range_succ]
theorem upL_len (n : Nat) : (upL n).length = n := by simp [upL]
theorem idxF_hit (x z : Int) (zs : List Int) (k : Nat) (e : x = z) : idxF x (z :: zs) k = k := if_pos e
theorem idxF_miss (x z : Int) (zs : List Int) (k : Nat) (e : ¬ x = z) : idxF x (z :: zs) k = idxF x zs (k + 1) := if_neg e
theorem idxF_app (x : Int) : ∀ (l : List Int) (y : Int) (k : Nat), idxF x (l ++ [y]) k = if idxF x l k ≥ 0 then idxF x l k else if x = y then ((k + l.length : Nat) : Int) else -1
  | [], y, k => by simp [idxF]
  | z :: zs, y, k => by
    rw [List.cons_append]
    by_cases e : x = z
    · rw [idxF_hit _ _ _ _ e, idxF_hit _ _ _ _ e, if_pos (by omega)]
    · rw [idxF_miss _ _ _ _ e, idxF_miss _ _ _ _ e, idxF_app x zs y (k + 1), List.length_cons, show k + 1 + zs.length = k + (zs.length + 1) by omega]
theorem idxF_up (x : Int) : ∀ n : Nat, idxF x (upL n) 0 = if 0 ≤ x ∧ x < (n : Int) then x else -1
  | 0 => by rw [if_neg (by omega)]; rfl
  | n + 1 => by
    rw [upL_succ, idxF_app, idxF_up x n, upL_len]
    by_cases h : 0 ≤ x ∧ x < (n : Int)
    · rw [if_pos h, if_pos (by omega), if_pos (by omega)]
    · rw [if_neg h, if_neg (by omega)]
      by_cases e : x = (n : Int)
      · rw [if_pos e, if_pos (by omega)]; omega
      · rw [if_neg e, if_neg (by omega)]
theorem name_canon : ∀ (bs : List Int) (m : Nat), nameL (upL m) bs = bs ↔ canonB m bs = true
  | [], m => by simp [nameL, canonB]
  | b :: bs, m => by
    simp only [nameL, canonB]
    rw [idxF_up]
    by_cases h : 0 ≤ b ∧ b < (m : Int)
    · rw [if_pos h, if_pos (by omega), if_pos h]; simp only [List.cons.injEq, true_and]; exact name_canon bs m
    · rw [if_neg h, if_neg (by omega), if_neg h, upL_len]
      by_cases e : b = (m : Int)
      · rw [if_pos e, e, ← upL_succ]; simp only [List.cons.injEq, true_and]; exact name_canon bs (m + 1)
      · rw [if_neg e]
        constructor
        · intro h2; exact absurd (List.cons.inj h2).1.symm e
        · intro h2; cases h2
/-! ### loads -/
def addL : List Int → List Int → List Int → List Int
  | loads, b :: bs, x :: xs => addL (loads.set b.toNat (wrap64 (rd loads b + x))) bs xs
  | loads, _, _ => loads
theorem addL_len : ∀ (bs xs loads : List Int), (addL loads bs xs).length = loads.length
  | [], xs, loads => by simp [addL]
  | b :: bs, [], loads => by simp [addL]
  | b :: bs, x :: xs, loads => by simp only [addL]; rw [addL_len bs xs]; simp
def specR (room : Int) : List Int → List Int → List Int → List Int × Bool
  | loads, b :: bs, x :: xs =>
    if 0 ≤ b ∧ b < (loads.length : Int) then (if wrap64 (rd loads b + x) > room then ([], false) else specR room (loads.set b.toNat (wrap64 (rd loads b + x))) bs xs)
    else if b = (loads.length : Int) then (if wrap64 (0 + x) > room then ([], false) else specR room (loads ++ [wrap64 (0 + x)]) bs xs)
    else ([], false)
  | loads, _, _ => (loads, true)
theorem bxLoads_l0 (l plan : List Int) (room : Int) (hl : l.length ≤ 1048576) (hp : plan.length = l.length) (d : Nat) : ∀ (i : Nat) (loads : List Int), i + d = l.length → loads.length ≤ i → Ev (fun k => spec_bxLoads.l0 k l room loads plan plan.length i) (specR room loads (plan.drop i) (l.drop i)) := by
  induction d with
  | zero =>
    intro i loads hi hlo
    rw [List.drop_of_length_le (by omega)]
    refine Ev.step (f := fun _ => some (loads, true)) (fun k => ?_) (by simp only [specR]; exact Ev.now _)
    rw [spec_bxLoads.l0, if_neg (by omega)]
  | succ d ih =>
    intro i loads hi hlo
    have hlt : i < l.length := by omega
    have hlt2 : i < plan.length := by omega
    rw [drop_rd hlt, drop_rd hlt2]
    simp only [specR]
    by_cases h : 0 ≤ rd plan i ∧ rd plan i < (loads.length : Int)
    · rw [if_pos h]
      obtain ⟨b, hb⟩ : ∃ b : Nat, rd plan i = b := ⟨(rd plan i).toNat, by omega⟩
      have hne : ¬ rd plan i = (loads.length : Int) := by omega
      refine Ev.step (f := fun k => if wrap64 (rd loads (rd plan i) + rd l i) > room then some (([] : List Int), false) else spec_bxLoads.l0 k l room (loads.set (rd plan i).toNat (wrap64 (rd loads (rd plan i) + rd l i))) plan plan.length ((i + 1 : Nat) : Int)) (fun k => ?_) ?_
      · rw [spec_bxLoads.l0, if_pos (by omega), if_pos (by omega), if_pos (by omega), l1In_eq, Option.bind_some, if_pos (by rw [inB_iff]; omega), if_neg hne, if_pos (by omega), if_pos (by omega), if_pos (by omega), w64i i (by omega)]
      · refine Ev.ite (fun h2 => ?_) (fun h2 => ?_)
        · rw [if_pos h2]; exact Ev.now _
        · rw [if_neg h2]; exact ih (i + 1) _ (by omega) (by simp; omega)
    · rw [if_neg h]
      by_cases e : rd plan i = (loads.length : Int)
      · rw [if_pos e]
        have hll : loads.length < 17592186044416 := by omega
        refine Ev.step (f := fun k => if wrap64 (0 + rd l i) > room then some (([] : List Int), false) else spec_bxLoads.l0 k l room (loads ++ [wrap64 (0 + rd l i)]) plan plan.length ((i + 1 : Nat) : Int)) (fun k => ?_) ?_
        · rw [spec_bxLoads.l0, if_pos (by omega), if_pos (by omega), if_pos (by omega), l1In_eq, Option.bind_some, if_pos (by rw [inB_iff]; omega), if_pos e, if_pos hll, Option.bind_some, if_pos (by omega), if_pos (by rw [e]; simp only [List.length_append, List.length_cons, List.length_nil]; omega), if_pos (by omega), w64i i (by omega), e, rda_at, Int.toNat_natCast]
          simp
        · refine Ev.ite (fun h2 => ?_) (fun h2 => ?_)
          · rw [if_pos h2]; exact Ev.now _
          · rw [if_neg h2]; exact ih (i + 1) _ (by omega) (by simp; omega)
      · rw [if_neg e]
        refine Ev.step (f := fun k => some (([] : List Int), false)) (fun k => ?_) (Ev.now _)
        rw [spec_bxLoads.l0, if_pos (by omega), if_pos (by omega), if_pos (by omega), l1In_eq, Option.bind_some, if_neg (by rw [inB_iff]; omega)]
theorem bxLoads_ev (l plan : List Int) (room : Int) (hl : l.length ≤ 1048576) : Ev (fun k => spec_bxLoads.f k l room plan) (if plan.length = l.length then specR room [] plan l else ([], false)) := by
  unfold spec_bxLoads.f
  refine Ev.ite (fun h => ?_) (fun h => ?_)
  · rw [if_pos (by omega)]; exact bxLoads_l0 l plan room hl (by omega) l.length 0 [] (by omega) (Nat.zero_le _)
  · rw [if_neg (by omega)]; exact Ev.now _
theorem canon_cnt : ∀ (bs : List Int) (m : Nat), m ≤ cntM m bs
  | [], m => Nat.le_refl _
  | b :: bs, m => by
    simp only [cntM]
    have := canon_cnt bs m
    have := canon_cnt bs (m + 1)
    split <;> omega
theorem cnt_le : ∀ (bs : List Int) (m : Nat), cntM m bs ≤ m + bs.length
  | [], m => Nat.le_refl _
  | b :: bs, m => by
    simp only [cntM, List.length_cons]
    have := cnt_le bs m
    have := cnt_le bs (m + 1)
    split <;> omega
theorem canon_most : ∀ (bs : List Int) (m : Nat), canonB (m + 1) bs = true → mostL m bs = ((cntM (m + 1) bs : Nat) : Int) - 1
  | [], m, h => by simp only [mostL, cntM]; omega
  | b :: bs, m, h => by
    simp only [mostL, cntM, canonB] at h ⊢
    by_cases h1 : 0 ≤ b ∧ b < ((m + 1 : Nat) : Int)
    · rw [if_pos h1] at h
      rw [if_neg (by omega), show mx (m : Int) b = m by unfold mx; omega]
      exact canon_most bs m h
    · rw [if_neg h1] at h
      by_cases e : b = ((m + 1 : Nat) : Int)
      · rw [if_pos e] at h
        rw [if_pos e, show mx (m : Int) b = ((m + 1 : Nat) : Int) by unfold mx; omega]
        exact canon_most bs (m + 1) h
      · rw [if_neg e] at h; cases h
/-- Things that stay small while they are added. -/
theorem addL_ge : ∀ (bs xs loads : List Int) (t : Nat), (∀ x ∈ xs, 1 ≤ x ∧ x ≤ 100) → t + xs.length ≤ 100 → (∀ j : Nat, j < loads.length → 0 ≤ rd loads j ∧ rd loads j ≤ 100 * (t : Int)) → (∀ b ∈ bs, 0 ≤ b ∧ b < (loads.length : Int)) → ∀ j : Nat, j < loads.length → rd loads j ≤ rd (addL loads bs xs) j
  | [], xs, loads, t, _, _, _, _ => by intro j hj; simp [addL]
  | b :: bs, [], loads, t, _, _, _, _ => by intro j hj; simp [addL]
  | b :: bs, x :: xs, loads, t, hx, ht, hl, hb => by
    intro j hj
    simp only [addL]
    simp only [List.length_cons] at ht
    have hx1 := hx x (by simp)
    obtain ⟨b', rfl⟩ : ∃ b' : Nat, b = b' := ⟨b.toNat, by have := hb b (by simp); omega⟩
    have hb1 := hb b' (by simp)
    have hlb := hl b' (by omega)
    have hw : wrap64 (rd loads b' + x) = rd loads b' + x := w64 (by omega) (by omega)
    rw [hw, Int.toNat_natCast]
    have := addL_ge bs xs (loads.set b' (rd loads b' + x)) (t + 1) (fun y hy => hx y (by simp [hy])) (by omega) (fun j hj => by
      rw [List.length_set] at hj
      by_cases e : b' = j
      · subst e; rw [rds_self (by omega)]; omega
      · rw [rds_ne e]; have := hl j hj; omega) (fun y hy => by rw [List.length_set]; exact hb y (by simp [hy])) j (by simpa using hj)
    refine Int.le_trans ?_ this
    by_cases e : b' = j
    · subst e; rw [rds_self (by omega)]; omega
    · rw [rds_ne e]; omega
theorem canon_lt : ∀ (bs : List Int) (m : Nat), canonB m bs = true → ∀ b ∈ bs, 0 ≤ b ∧ b < ((cntM m bs : Nat) : Int)
  | [], m, h, b, hb => by simp at hb
  | c :: bs, m, h, b, hb => by
    simp only [canonB, cntM] at h ⊢
    have hle := canon_cnt bs m
    have hle2 := canon_cnt bs (m + 1)
    by_cases h1 : 0 ≤ c ∧ c < (m : Int)
    · rw [if_pos h1] at h; rw [if_neg (by omega)]
      rcases List.mem_cons.1 hb with rfl | hb
      · omega
      · exact canon_lt bs m h b hb
    · rw [if_neg h1] at h
      by_cases e : c = (m : Int)
      · rw [if_pos e] at h; rw [if_pos e]
        rcases List.mem_cons.1 hb with rfl | hb
        · omega
        · exact canon_lt bs (m + 1) h b hb
      · rw [if_neg e] at h; cases h
theorem specR_eq (room : Int) : ∀ (bs xs loads : List Int) (t e : Nat), bs.length = xs.length → (∀ x ∈ xs, 1 ≤ x ∧ x ≤ 100) → t + xs.length ≤ 100 → (∀ j : Nat, j < loads.length → 0 ≤ rd loads j ∧ rd loads j ≤ 100 * (t : Int) ∧ rd loads j ≤ room) →
    (canonB loads.length bs = true → cntM loads.length bs = loads.length + e) →
    specR room loads bs xs = if canonB loads.length bs = true ∧ allIn (addL (loads ++ List.replicate e 0) bs xs) 0 room = true then (addL (loads ++ List.replicate e 0) bs xs, true) else ([], false)
  | [], [], loads, t, e, _, _, _, hl, he => by
    have : e = 0 := by have := he rfl; simp only [cntM] at this; omega
    subst this
    simp only [specR, addL, canonB, List.replicate_zero, List.append_nil, true_and]
    rw [if_pos ((allIn_iff _ _ _).2 (fun j hj => by have := hl j hj; omega))]
  | b :: bs, x :: xs, loads, t, e, hlen, hx, ht, hl, he => by
    have hx1 := hx x (by simp)
    simp only [List.length_cons] at ht hlen
    simp only [specR, addL, canonB, cntM] at he ⊢
    by_cases h1 : 0 ≤ b ∧ b < (loads.length : Int)
    · have hne : ¬ b = (loads.length : Int) := by omega
      simp only [if_pos h1, if_neg hne] at he ⊢
      obtain ⟨b', rfl⟩ : ∃ b' : Nat, b = b' := ⟨b.toNat, by omega⟩
      have hb' : b' < loads.length := by omega
      have hlb := hl b' hb'
      have hw : wrap64 (rd loads b' + x) = rd loads b' + x := w64 (by omega) (by omega)
      have hw2 : wrap64 (rd (loads ++ List.replicate e 0) b' + x) = rd loads b' + x := by rw [rda_lt hb']; exact hw
      rw [hw, hw2, Int.toNat_natCast, List.set_append_left _ _ hb']
      by_cases h2 : rd loads b' + x > room
      · rw [if_pos h2, if_neg]
        rintro ⟨hc, ha⟩
        have hcl := canon_lt bs loads.length hc
        rw [he hc] at hcl
        have hbound : ∀ j : Nat, j < (loads.set b' (rd loads b' + x) ++ List.replicate e 0).length → 0 ≤ rd (loads.set b' (rd loads b' + x) ++ List.replicate e 0) j ∧ rd (loads.set b' (rd loads b' + x) ++ List.replicate e 0) j ≤ 100 * ((t + 1 : Nat) : Int) := by
          intro j hj
          rcases Nat.lt_or_ge j loads.length with h | h
          · rw [rda_lt (by simpa using h)]
            by_cases e2 : b' = j
            · subst e2; rw [rds_self hb']; omega
            · rw [rds_ne e2]; have := hl j h; omega
          · have : rd (loads.set b' (rd loads b' + x) ++ List.replicate e 0) j = 0 := by
              simp only [rd, List.getD_eq_getElem?_getD, Int.toNat_natCast]
              rw [List.getElem?_append_right (by simpa using h), List.getElem?_replicate]
              split <;> rfl
            rw [this]; omega
        have := addL_ge bs xs (loads.set b' (rd loads b' + x) ++ List.replicate e 0) (t + 1) (fun y hy => hx y (by simp [hy])) (by omega) hbound (fun y hy => by have := hcl y hy; simp; omega) b' (by simp; omega)
        rw [rda_lt (by simpa using hb'), rds_self hb'] at this
        have h3 := (allIn_iff _ _ _).1 ha b' (by rw [addL_len]; simp; omega)
        omega
      · rw [if_neg h2]
        have := specR_eq room bs xs (loads.set b' (rd loads b' + x)) (t + 1) e (by omega) (fun y hy => hx y (by simp [hy])) (by omega) (fun j hj => by
          rw [List.length_set] at hj
          by_cases e2 : b' = j
          · subst e2; rw [rds_self hb']; omega
          · rw [rds_ne e2]; have := hl j hj; omega) (by rw [List.length_set]; exact he)
        rw [List.length_set] at this
        exact this
    · simp only [if_neg h1] at he ⊢
      by_cases e1 : b = (loads.length : Int)
      · simp only [if_pos e1] at he ⊢
        subst e1
        have hw : wrap64 (0 + x) = x := by rw [w64 (by omega) (by omega)]; omega
        rw [hw, Int.toNat_natCast]
        by_cases hc : canonB (loads.length + 1) bs = true
        · obtain ⟨e', rfl⟩ : ∃ e', e = e' + 1 := ⟨e - 1, by have := he hc; have := canon_cnt bs (loads.length + 1); omega⟩
          have hset : (loads ++ List.replicate (e' + 1) 0).set loads.length (wrap64 (rd (loads ++ List.replicate (e' + 1) 0) (loads.length : Nat) + x)) = (loads ++ [x]) ++ List.replicate e' 0 := by
            rw [List.replicate_succ, rda_at, hw, List.set_append_right _ _ (Nat.le_refl _)]; simp
          rw [hset]
          by_cases h2 : x > room
          · rw [if_pos h2, if_neg]
            rintro ⟨_, ha⟩
            have hcl := canon_lt bs (loads.length + 1) hc
            rw [he hc] at hcl
            have hbound : ∀ j : Nat, j < ((loads ++ [x]) ++ List.replicate e' 0).length → 0 ≤ rd ((loads ++ [x]) ++ List.replicate e' 0) j ∧ rd ((loads ++ [x]) ++ List.replicate e' 0) j ≤ 100 * ((t + 1 : Nat) : Int) := by
              intro j hj
              rcases Nat.lt_or_ge j loads.length with h | h
              · rw [List.append_assoc, rda_lt h]; have := hl j h; omega
              · by_cases e2 : j = loads.length
                · subst e2; rw [List.append_assoc]; show 0 ≤ rd (loads ++ x :: List.replicate e' 0) _ ∧ rd (loads ++ x :: List.replicate e' 0) _ ≤ _
                  rw [rda_at]; omega
                · have : rd ((loads ++ [x]) ++ List.replicate e' 0) j = 0 := by
                    simp only [rd, List.getD_eq_getElem?_getD, Int.toNat_natCast]
                    rw [List.getElem?_append_right (by simp; omega), List.getElem?_replicate]
                    split <;> rfl
                  rw [this]; omega
            have := addL_ge bs xs ((loads ++ [x]) ++ List.replicate e' 0) (t + 1) (fun y hy => hx y (by simp [hy])) (by omega) hbound (fun y hy => by have := hcl y hy; simp; omega) loads.length (by simp)
            have hr : rd ((loads ++ [x]) ++ List.replicate e' 0) (loads.length : Nat) = x := by rw [List.append_assoc]; exact rda_at loads x _
            rw [hr] at this
            have h3 := (allIn_iff _ _ _).1 ha loads.length (by rw [addL_len]; simp)
            omega
          · rw [if_neg h2]
            have := specR_eq room bs xs (loads ++ [x]) (t + 1) e' (by omega) (fun y hy => hx y (by simp [hy])) (by omega) (fun j hj => by
              simp only [List.length_append, List.length_cons, List.length_nil] at hj
              by_cases e2 : j = loads.length
              · subst e2; rw [rda_at]; omega
              · rw [rda_lt (by omega)]; have := hl j (by omega); omega) (by simp only [List.length_append, List.length_cons, List.length_nil, Nat.zero_add]; intro _; have := he hc; omega)
            simp only [List.length_append, List.length_cons, List.length_nil, Nat.zero_add] at this
            exact this
        · by_cases h2 : x > room
          · rw [if_pos h2, if_neg (fun h => hc h.1)]
          · rw [if_neg h2, if_neg (fun h => hc h.1)]
            have := specR_eq room bs xs (loads ++ [x]) (t + 1) 0 (by omega) (fun y hy => hx y (by simp [hy])) (by omega) (fun j hj => by
              simp only [List.length_append, List.length_cons, List.length_nil] at hj
              by_cases e2 : j = loads.length
              · subst e2; rw [rda_at]; omega
              · rw [rda_lt (by omega)]; have := hl j (by omega); omega) (by simp only [List.length_append, List.length_cons, List.length_nil, Nat.zero_add]; intro h; exact absurd h hc)
            simp only [List.length_append, List.length_cons, List.length_nil, Nat.zero_add] at this
            rw [this, if_neg (fun h => hc h.1)]
      · simp only [if_neg e1]
        rw [if_neg (by simp)]
  | [], _ :: _, _, _, _, h, _, _, _, _ => by simp at h
  | _ :: _, [], _, _, _, h, _, _, _, _ => by simp at h
theorem loads_l0 (l plan : List Int) (hl : l.length ≤ 1048576) (hp : plan.length = l.length) (d : Nat) : ∀ (i : Nat) (loads : List Int), i + d = l.length → (∀ b ∈ plan, 0 ≤ b ∧ b < (loads.length : Int)) → Ev (fun k => impl_loads.l0 k l loads plan plan.length i) (addL loads (plan.drop i) (l.drop i)) := by
  induction d with
  | zero =>
    intro i loads hi hb
    rw [List.drop_of_length_le (by omega)]
    refine Ev.step (f := fun _ => some loads) (fun k => ?_) (by simp only [addL]; exact Ev.now _)
    rw [impl_loads.l0, if_neg (by omega)]
  | succ d ih =>
    intro i loads hi hb
    have hlt : i < l.length := by omega
    have hlt2 : i < plan.length := by omega
    rw [drop_rd hlt, drop_rd hlt2]
    simp only [addL]
    have hbi := hb (rd plan i) (by rw [rd_get hlt2]; exact List.getElem_mem hlt2)
    refine Ev.step (fun k => ?_) (ih (i + 1) _ (by omega) (by rw [List.length_set]; exact hb))
    rw [impl_loads.l0, if_pos (by omega), if_pos (by omega), if_pos (by omega), if_pos hbi.1, if_pos hbi.2, if_pos (by omega), w64i i (by omega)]
theorem loads_ev (l plan : List Int) (hl : l.length ≤ 1048576) (hp : plan.length = l.length) (h0 : 0 < l.length) (hc : canonB 0 plan = true) : Ev (fun k => impl_loads.f k l plan) (addL (List.replicate (cntM 0 plan) 0) plan l) := by
  match plan, hp, hc with
  | [], hp, hc => simp at hp; omega
  | b :: bs, hp, hc =>
    have hc' := hc
    simp only [canonB] at hc'
    rw [if_neg (by omega)] at hc'
    by_cases e : b = ((0 : Nat) : Int)
    · rw [if_pos e] at hc'
      have hm := canon_most bs 0 hc'
      have hcnt : cntM 0 (b :: bs) = cntM 1 bs := by simp only [cntM]; rw [if_pos e]
      have hle := cnt_le bs 1
      have hge := canon_cnt bs 1
      simp only [List.length_cons] at hp
      unfold impl_loads.f
      refine Ev.bind (Max_ev (b :: bs) (by simp; omega) (by simp) (by simp [rd, e])) ?_
      have hmost : mostL 0 (b :: bs) = ((cntM 1 bs : Nat) : Int) - 1 := by
        simp only [mostL]
        rw [show mx (0 : Int) b = ((0 : Nat) : Int) by unfold mx; omega]
        exact hm
      rw [hmost, show wrap64 (((cntM 1 bs : Nat) : Int) - 1 + 1) = ((cntM 1 bs : Nat) : Int) by rw [w64 (by omega) (by omega)]; omega]
      refine Ev.pos (by omega) (Ev.pos (by omega) ?_)
      rw [hcnt, Int.toNat_natCast]
      have := loads_l0 l (b :: bs) hl (by simp; omega) l.length 0 (List.replicate (cntM 1 bs) 0) (by omega) (fun y hy => by
        have := canon_lt (b :: bs) 0 hc y hy
        rw [hcnt] at this; rw [List.length_replicate]; exact this)
      simpa using this
    · rw [if_neg e] at hc'; cases hc'
/-- The loads of a plan that is one, and whether it is one. -/
def planV (l : List Int) (room : Int) (plan : List Int) : List Int × Bool := if plan.length = l.length ∧ canonB 0 plan = true ∧ allIn (addL (List.replicate (cntM 0 plan) 0) plan l) 0 room = true then (addL (List.replicate (cntM 0 plan) 0) plan l, true) else ([], false)
theorem good_mem {l : List Int} (h : goodT l = true) : l.length ≤ 9 ∧ 0 < l.length ∧ ∀ x ∈ l, 1 ≤ x ∧ x ≤ 100 := by
  have hg := (goodT_iff l).1 h
  refine ⟨by omega, by omega, fun x hx => ?_⟩
  obtain ⟨j, hj, rfl⟩ := List.mem_iff_getElem.1 hx
  rw [← rd_get hj]; exact hg.2 j hj
theorem specLoads_ev (l plan : List Int) (room : Int) (hl : l.length ≤ 1048576) (hg : goodT l = true) : Ev (fun k => spec_bxLoads.f k l room plan) (planV l room plan) := by
  have hm := good_mem hg
  refine Ev.val (bxLoads_ev l plan room hl) ?_
  unfold planV
  by_cases h : plan.length = l.length
  · rw [if_pos h, specR_eq room plan l [] 0 (cntM 0 plan) h hm.2.2 (by omega) (fun j hj => by simp at hj) (fun _ => by simp)]
    simp [h]
  · rw [if_neg h, if_neg (fun h2 => h h2.1)]
theorem isPlan_ev (l plan : List Int) (room : Int) (hl : l.length ≤ 1048576) (hp : plan.length ≤ 1048576) (hg : goodT l = true) : Ev (fun k => impl_isPlan.f k l room plan) (planV l room plan).2 := by
  have hm := good_mem hg
  unfold impl_isPlan.f planV
  refine Ev.ite (fun h => ?_) (fun h => ?_)
  · have h' : plan.length = l.length := by omega
    refine Ev.bind (named_ev plan hp) (Ev.bind (Equal_ev _ _ ?_) ?_)
    · have : ∀ (bs seen : List Int), (nameL seen bs).length = bs.length := by
        intro bs
        induction bs with
        | nil => intro seen; rfl
        | cons b bs ih => intro seen; simp only [nameL]; split <;> simp [ih]
      rw [this]; exact hp
    · have hn := name_canon plan 0
      rw [show upL 0 = [] from rfl] at hn
      rw [show decide (nameL [] plan = plan) = canonB 0 plan by rw [Bool.eq_iff_iff, decide_eq_true_eq]; exact hn]
      refine Ev.ite (fun hc => ?_) (fun hc => ?_)
      · refine Ev.bind (loads_ev l plan hl h' hm.2.1 hc) (Ev.call rfl (Ev.val (Ev.now _) ?_))
        by_cases ha : allIn (addL (List.replicate (cntM 0 plan) 0) plan l) 0 room = true
        · rw [if_pos ⟨h', hc, ha⟩]; exact ha
        · rw [if_neg (fun h2 => ha h2.2.2)]; exact Bool.eq_false_iff.mpr ha
      · rw [if_neg (fun h2 => hc h2.2.1)]; exact Ev.now _
  · rw [if_neg (fun h2 => h (by omega))]; exact Ev.now _
theorem asked_good {l : List Int} {room : Int} (h : askedB l room = true) : goodT l = true := by
  unfold askedB at h
  rw [Bool.and_eq_true] at h
  exact h.1

end Go.Proofs.Ytchbjdoneanhpaa.Q
