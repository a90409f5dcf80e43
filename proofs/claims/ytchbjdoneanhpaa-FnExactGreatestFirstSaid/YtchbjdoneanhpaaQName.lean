/- Each value as the number of its first coming: what the program's 'named' tells. Conditions: at most 1048576 values. -/
import Derived.Test.YtchbjdoneanhpaaPx0
import Derived.Test.YtchbjdoneanhpaaPx17
import Derived.Test.YtchbjdoneanhpaaQEv
namespace Go.Proofs.Ytchbjdoneanhpaa.Q
open Go.RowKit Go.Proofs.Ytchbjdoneanhpaa.P Go.Proofs.YtchbjdoneanhpaaW.PrintWords Go.Proofs.YtchbjdoneanhpaaW.PrintLast
set_option linter.unusedVariables false
set_option linter.unusedSimpArgs false

/-! ### the names -/
def idxF (x : Int) : List Int → Nat → Int
  | [], _ => -1
  | y :: ys, k => if x = y then (k : Int) else idxF x ys (k + 1)
theorem Index_l0 (l : List Int) (x : Int) (hl : l.length ≤ 1048576) (d : Nat) : ∀ i : Nat, i + d = l.length → Ev (fun k => slices_Index_int_int.l0 k l x l.length i) (idxF x (l.drop i) i) := by
  induction d with
  | zero =>
    intro i hi
    rw [List.drop_of_length_le (by omega)]
    refine Ev.step (f := fun _ => some (-1)) (fun k => ?_) (Ev.now _)
    rw [slices_Index_int_int.l0, if_neg (by omega)]
  | succ d ih =>
    intro i hi
    have hlt : i < l.length := by omega
    rw [drop_rd hlt]
    refine Ev.step (f := fun k => if x = rd l i then some (i : Int) else slices_Index_int_int.l0 k l x l.length ((i + 1 : Nat) : Int)) (fun k => ?_) ?_
    · rw [slices_Index_int_int.l0, if_pos (by omega), if_pos (by omega), if_pos (by omega), w64i i (by omega)]
    · simp only [idxF]
      refine Ev.ite (fun h => ?_) (fun h => ?_)
      · rw [if_pos h]; exact Ev.now _
      · rw [if_neg h]; exact ih (i + 1) (by omega)
theorem Index_ev (l : List Int) (x : Int) (hl : l.length ≤ 1048576) : Ev (fun k => slices_Index_int_int.f k l x) (idxF x l 0) := by
  unfold slices_Index_int_int.f
  exact Index_l0 l x hl l.length 0 (by omega)
theorem Contains_ev (l : List Int) (x : Int) (hl : l.length ≤ 1048576) : Ev (fun k => slices_Contains_int_int.f k l x) (decide (idxF x l 0 ≥ 0)) := by
  unfold slices_Contains_int_int.f
  exact Ev.bind (Index_ev l x hl) (Ev.now _)
theorem idxF_snoc (x : Int) : ∀ (l : List Int) (k : Nat), idxF x l k < 0 → idxF x (l ++ [x]) k = ((k + l.length : Nat) : Int)
  | [], k, h => by simp [idxF]
  | y :: ys, k, h => by
    simp only [idxF, List.cons_append] at h ⊢
    by_cases e : x = y
    · rw [if_pos e] at h; omega
    · rw [if_neg e] at h ⊢
      rw [idxF_snoc x ys (k + 1) h, List.length_cons]; congr 1; omega
/-- Each value as the number of its first coming. -/
def nameL : List Int → List Int → List Int
  | _, [] => []
  | seen, b :: bs => if idxF b seen 0 ≥ 0 then idxF b seen 0 :: nameL seen bs else (seen.length : Int) :: nameL (seen ++ [b]) bs
theorem named_l0 (l : List Int) (hl : l.length ≤ 1048576) (d : Nat) : ∀ (i : Nat) (out seen : List Int), i + d = l.length → out.length = i → seen.length ≤ i → Ev (fun k => impl_named.l0 k out seen l l.length i) (out ++ nameL seen (l.drop i)) := by
  induction d with
  | zero =>
    intro i out seen hi h1 h2
    rw [List.drop_of_length_le (by omega)]
    refine Ev.step (f := fun _ => some out) (fun k => ?_) (by simp only [nameL, List.append_nil]; exact Ev.now _)
    rw [impl_named.l0, if_neg (by omega)]
  | succ d ih =>
    intro i out seen hi h1 h2
    have hlt : i < l.length := by omega
    rw [drop_rd hlt]
    refine Ev.step (f := fun k => (slices_Contains_int_int.f k seen (rd l i)).bind fun t324 => (if t324 = true then ((slices_Index_int_int.f k seen (rd l i)).bind fun t325 => (if out.length < 17592186044416 then (impl_named.l0 k (out ++ [t325]) seen l l.length ((i + 1 : Nat) : Int)) else (none))) else (if seen.length < 17592186044416 then ((some (seen ++ [rd l i] : List Int)).bind fun y329 => ((slices_Index_int_int.f k y329 (rd l i)).bind fun t332 => (if out.length < 17592186044416 then (impl_named.l0 k (out ++ [t332]) y329 l l.length ((i + 1 : Nat) : Int)) else (none)))) else (none)))) (fun k => ?_) ?_
    · rw [impl_named.l0, if_pos (by omega), if_pos (by omega), if_pos (by omega), w64i i (by omega)]
    · refine Ev.bind (Contains_ev seen _ (by omega)) ?_
      simp only [nameL]
      refine Ev.ite (fun h => ?_) (fun h => ?_)
      · rw [decide_eq_true_eq] at h
        rw [if_pos h]
        refine Ev.bind (Index_ev seen _ (by omega)) (Ev.pos (by omega) ?_)
        have := ih (i + 1) (out ++ [idxF (rd l i) seen 0]) seen (by omega) (by simp; omega) (by omega)
        simpa using this
      · rw [decide_eq_true_eq] at h
        rw [if_neg h]
        refine Ev.pos (by omega) (Ev.bind (Ev.now _) (Ev.bind (Index_ev _ _ (by simp; omega)) (Ev.pos (by omega) ?_)))
        rw [idxF_snoc _ _ _ (by omega)]
        have := ih (i + 1) (out ++ [((0 + seen.length : Nat) : Int)]) (seen ++ [rd l i]) (by omega) (by simp; omega) (by simp; omega)
        simpa using this
theorem named_ev (l : List Int) (hl : l.length ≤ 1048576) : Ev (fun k => impl_named.f k l) (nameL [] l) := by
  unfold impl_named.f
  have := named_l0 l hl l.length 0 [] [] (by omega) rfl (Nat.le_refl _)
  simpa using this
end Go.Proofs.Ytchbjdoneanhpaa.Q
