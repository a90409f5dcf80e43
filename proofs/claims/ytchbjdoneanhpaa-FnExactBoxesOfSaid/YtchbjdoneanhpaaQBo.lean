/- BoxesOf: both texts answer the same rows; marks of rows are held. Conditions: at most 1048576 elements. -/
import Derived.Test.YtchbjdoneanhpaaPx0
import Derived.Test.YtchbjdoneanhpaaPx5
import Derived.Test.YtchbjdoneanhpaaPx10
import Derived.Test.YtchbjdoneanhpaaPx12
import Derived.Test.YtchbjdoneanhpaaPx13
import Derived.Test.YtchbjdoneanhpaaQPlan
import Derived.Test.YtchbjdoneanhpaaQPlanC
import Derived.Test.YtchbjdoneanhpaaQMark
namespace Go.Proofs.Ytchbjdoneanhpaa.Q
open Go.RowKit Go.Proofs.Ytchbjdoneanhpaa.P Go.Proofs.YtchbjdoneanhpaaW.PrintWords Go.Proofs.YtchbjdoneanhpaaW.PrintLast
set_option linter.unusedVariables false
set_option linter.unusedSimpArgs false

def boxL : List (List Int) → List Int → Nat → List (List Int)
  | v, [], _ => v
  | v, b :: bs, i => boxL (v.set b.toNat (rd_L1 v b ++ [(i : Int)])) bs (i + 1)
theorem rdL_lt (v : List (List Int)) (n : Nat) (h : ∀ r ∈ v, r.length ≤ n) (b : Int) : (rd_L1 v b).length ≤ n := by
  unfold rd_L1
  rw [List.getD_eq_getElem?_getD]
  by_cases hb : b.toNat < v.length
  · rw [List.getElem?_eq_getElem hb]; exact h _ (List.getElem_mem hb)
  · rw [List.getElem?_eq_none (by omega)]; exact Nat.zero_le _
theorem boxL_rows (v : List (List Int)) (i : Nat) (h : ∀ r ∈ v, r.length ≤ i) (b x : Int) : ∀ r ∈ v.set b.toNat (rd_L1 v b ++ [x]), r.length ≤ i + 1 := by
  intro r hr
  rcases List.mem_or_eq_of_mem_set hr with hr | rfl
  · have := h r hr; omega
  · rw [List.length_append]; have := rdL_lt v i h b; simp; omega
theorem boxL_ok : ∀ (bs : List Int) (v : List (List Int)) (i : Nat), (∀ r ∈ v, r.length ≤ i) → (boxL v bs i).length = v.length ∧ ∀ r ∈ boxL v bs i, r.length ≤ i + bs.length
  | [], v, i, h => ⟨rfl, fun r hr => by have := h r hr; simp; omega⟩
  | b :: bs, v, i, h => by
    obtain ⟨h1, h2⟩ := boxL_ok bs (v.set b.toNat (rd_L1 v b ++ [(i : Int)])) (i + 1) (boxL_rows v i h b i)
    refine ⟨by rw [boxL, h1, List.length_set], fun r hr => ?_⟩
    rw [boxL] at hr
    have := h2 r hr
    simp only [List.length_cons]; omega
theorem rdp_mem {p : List Int} {i : Nat} (h : i < p.length) : rd p i ∈ p := by
  rw [rd_get h]; exact List.getElem_mem h
theorem specRows_l0 (p : List Int) (hp : p.length ≤ 9) (d : Nat) : ∀ (i : Nat) (v : List (List Int)), i + d = p.length → (∀ b ∈ p, 0 ≤ b ∧ b < (v.length : Int)) → (∀ r ∈ v, r.length ≤ i) → Ev (fun k => spec_BoxesOf.l0 k v p p.length i) (boxL v (p.drop i) i, true) := by
  induction d with
  | zero =>
    intro i v hi hb hr
    refine Ev.step (f := fun _ => some (v, true)) (fun k => ?_) ?_
    · rw [spec_BoxesOf.l0, if_neg (by omega)]
    · rw [List.drop_eq_nil_of_le (by omega)]; exact Ev.now _
  | succ d ih =>
    intro i v hi hb hr
    have hi' : i < p.length := by omega
    have hm := hb _ (rdp_mem hi')
    refine Ev.step (fun k => ?_) (Ev.val (ih (i + 1) (v.set (rd p i).toNat (rd_L1 v (rd p i) ++ [(i : Int)])) (by omega) (by rw [List.length_set]; exact hb) (boxL_rows v i hr _ _)) (by rw [drop_rd hi', boxL]))
    have := rdL_lt v i hr (rd p i)
    rw [spec_BoxesOf.l0, if_pos (by omega), if_pos (by omega), if_pos (by omega), if_pos hm.1, if_pos hm.2, if_pos (by omega), w64i i (by omega)]
theorem implRows_l0 (p : List Int) (hp : p.length ≤ 9) (d : Nat) : ∀ (i : Nat) (v : List (List Int)), i + d = p.length → (∀ b ∈ p, 0 ≤ b ∧ b < (v.length : Int)) → (∀ r ∈ v, r.length ≤ i) → Ev (fun k => impl_BoxesOf.l0 k v p p.length i) (boxL v (p.drop i) i, true) := by
  induction d with
  | zero =>
    intro i v hi hb hr
    refine Ev.step (f := fun _ => some (v, true)) (fun k => ?_) ?_
    · rw [impl_BoxesOf.l0, if_neg (by omega)]
    · rw [List.drop_eq_nil_of_le (by omega)]; exact Ev.now _
  | succ d ih =>
    intro i v hi hb hr
    have hi' : i < p.length := by omega
    have hm := hb _ (rdp_mem hi')
    refine Ev.step (fun k => ?_) (Ev.val (ih (i + 1) (v.set (rd p i).toNat (rd_L1 v (rd p i) ++ [(i : Int)])) (by omega) (by rw [List.length_set]; exact hb) (boxL_rows v i hr _ _)) (by rw [drop_rd hi', boxL]))
    have := rdL_lt v i hr (rd p i)
    rw [impl_BoxesOf.l0, if_pos (by omega), if_pos (by omega), if_pos (by omega), if_pos hm.1, if_pos hm.2, if_pos (by omega), w64i i (by omega)]
theorem loadsV_yes {l : List Int} {room : Int} {p : List Int} (h : (loadsV l room p).2 = true) : p.length ≤ 9 ∧ (loadsV l room p).1.length ≤ 9 ∧ ∀ b ∈ p, 0 ≤ b ∧ b < ((loadsV l room p).1.length : Int) := by
  unfold loadsV at h ⊢
  split at h
  next ha =>
    obtain ⟨e, h1, h2⟩ := planV_yes h
    have h9 := (good_mem (asked_good ha)).1
    rw [if_pos ha, e]
    simp only [addL_len, List.length_replicate]
    have := cnt_le p 0
    exact ⟨by omega, by omega, canon_lt p 0 h2⟩
  next => cases h
theorem boxes_both (l : List Int) (room : Int) (p : List Int) (hl : l.length ≤ 1048576) (hp : p.length ≤ 1048576) : ∃ v b, Ev (fun k => spec_BoxesOf.f k l room p) (v, b) ∧ Ev (fun k => impl_BoxesOf.f k l room p) (v, b) ∧ v.length ≤ 9 ∧ ∀ r ∈ v, r.length ≤ 9 := by
  have e1 := specLoadsOf_ev l room p hl
  have e2 := LoadsOf_ev l room p hl hp
  obtain ⟨⟨ld, ok⟩, hv⟩ : ∃ x, x = loadsV l room p := ⟨_, rfl⟩
  have hy := @loadsV_yes l room p
  rw [← hv] at e1 e2 hy
  cases ok with
  | false =>
    refine ⟨[], false, ?_, ?_, Nat.zero_le _, fun r hr => by cases hr⟩
    · unfold spec_BoxesOf.f
      exact Ev.bind e1 (Ev.neg (by simp) (Ev.now _))
    · unfold impl_BoxesOf.f
      exact Ev.bind e2 (Ev.neg (by simp) (Ev.now _))
  | true =>
    obtain ⟨h9, hn, hb⟩ := hy rfl
    replace hn : ld.length ≤ 9 := hn
    replace hb : ∀ b ∈ p, 0 ≤ b ∧ b < (ld.length : Int) := hb
    have hR : ∀ r ∈ List.replicate ld.length ([] : List Int), r.length ≤ 0 := fun r hr => by rw [List.eq_of_mem_replicate hr]; exact Nat.le_refl _
    obtain ⟨h1, h2⟩ := boxL_ok p (List.replicate ld.length []) 0 hR
    refine ⟨boxL (List.replicate ld.length []) p 0, true, ?_, ?_, by rw [h1, List.length_replicate]; exact hn, fun r hr => by have := h2 r hr; omega⟩
    · unfold spec_BoxesOf.f
      refine Ev.bind e1 (Ev.pos rfl (Ev.pos (Int.natCast_nonneg _) ?_))
      show Ev (fun k => if ((ld.length : Int)).toNat ≤ 11728124029610 then _ else _) _
      rw [Int.toNat_natCast]
      exact Ev.pos (by omega) (specRows_l0 p h9 p.length 0 _ (by omega) (by rw [List.length_replicate]; exact hb) hR)
    · unfold impl_BoxesOf.f
      refine Ev.bind e2 (Ev.pos rfl (Ev.pos (Int.natCast_nonneg _) ?_))
      show Ev (fun k => if ((ld.length : Int)).toNat ≤ 11728124029610 then _ else _) _
      rw [Int.toNat_natCast]
      exact Ev.pos (by omega) (implRows_l0 p h9 p.length 0 _ (by omega) (by rw [List.length_replicate]; exact hb) hR)
theorem eqIntSS_l0 (v : List (List Int)) (hl : v.length ≤ 9) (h : ∀ r ∈ v, r.length ≤ 9) (d : Nat) : ∀ i : Nat, i + d = v.length → Ev (fun k => laws_eqIntSS.l0 k v v i) true := by
  induction d with
  | zero =>
    intro i hi
    refine Ev.step (f := fun _ => some true) (fun k => ?_) (Ev.now _)
    rw [laws_eqIntSS.l0, if_neg (by omega)]
  | succ d ih =>
    intro i hi
    refine Ev.step (fun k => ?_) (Ev.bind (f := fun k t => if t = true then laws_eqIntSS.l0 k v v ((i + 1 : Nat) : Int) else some false) (eqIntS_ev (rd_L1 v i) (by have := rdL_lt v 9 h i; omega)) (Ev.pos rfl (ih (i + 1) (by omega))))
    rw [laws_eqIntSS.l0, if_pos (by omega), if_pos (by omega), if_pos (by omega), w64i i (by omega)]
theorem eqIntSS_ev (v : List (List Int)) (hl : v.length ≤ 9) (h : ∀ r ∈ v, r.length ≤ 9) : Ev (fun k => laws_eqIntSS.f k v v) true := by
  unfold laws_eqIntSS.f
  exact Ev.pos rfl (eqIntSS_l0 v hl h v.length 0 (by omega))
theorem markSS_l0 (d : Nat) : ∀ (i a : Nat) (y : List (List Int)), i + d = y.length → y.length ≤ 9 → a ≤ 1 + 9 * i → (∀ j : Nat, i ≤ j → (rd_L1 y j).length ≤ 9) →
    ∃ (y' : List (List Int)) (q : Nat), Ev (fun k => laws_markIntSS.l0 k y a i) ((q : Int), y') ∧ y'.length = y.length ∧ (∀ j : Nat, j < i → rd_L1 y' j = rd_L1 y j) ∧ Ev (fun k => laws_heldIntSS.l0 k y' a i) (q : Int) := by
  induction d with
  | zero =>
    intro i a y hi hn ha h
    refine ⟨y, a, Ev.step (f := fun _ => some ((a : Int), y)) (fun k => ?_) (Ev.now _), rfl, fun _ _ => rfl, Ev.step (f := fun _ => some (a : Int)) (fun k => ?_) (Ev.now _)⟩
    · rw [laws_markIntSS.l0, if_neg (by omega)]
    · rw [laws_heldIntSS.l0, if_neg (by omega)]
  | succ d ih =>
    intro i a y hi hn ha h
    have hl := h i (Nat.le_refl _)
    obtain ⟨m, hm1, hm2⟩ := mark_both (rd_L1 y i) (by omega) a (by omega)
    have hset : ∀ j : Nat, rd_L1 (y.set i m) j = if j = i then m else rd_L1 y j := by
      intro j
      unfold rd_L1
      rw [Int.toNat_natCast, List.getD_eq_getElem?_getD, List.getD_eq_getElem?_getD]
      by_cases hj : j = i
      · subst hj; rw [List.getElem?_set_self (by omega), if_pos rfl]; rfl
      · rw [List.getElem?_set_ne (by omega), if_neg hj]
    obtain ⟨y', q, h1, h2, h3, h4⟩ := ih (i + 1) (a + (rd_L1 y i).length) (y.set i m) (by rw [List.length_set]; omega) (by rw [List.length_set]; omega) (by omega) (fun j hj => by rw [hset, if_neg (by omega)]; exact h j (by omega))
    rw [List.length_set] at h2
    refine ⟨y', q, Ev.step (fun k => ?_) (Ev.bind (f := fun k bt => laws_markIntSS.l0 k (y.set i bt.2) bt.1 ((i + 1 : Nat) : Int)) hm1 h1), h2, fun j hj => by rw [h3 j (by omega), hset, if_neg (by omega)], Ev.step (fun k => ?_) (Ev.bind (f := fun k t => if t < 0 then some (-1) else laws_heldIntSS.l0 k y' t ((i + 1 : Nat) : Int)) (g := fun k => laws_heldIntS.f k (rd_L1 y' i) a) (by rw [h3 i (by omega), hset, if_pos rfl]; exact hm2) (Ev.neg (by omega) h4))⟩
    · rw [laws_markIntSS.l0, if_pos (by omega), if_pos (by omega), w64i i (by omega), Int.toNat_natCast]; rfl
    · rw [laws_heldIntSS.l0, if_pos (by omega), if_pos (by omega), w64i i (by omega)]
theorem markSS_both (v : List (List Int)) (hl : v.length ≤ 9) (h : ∀ r ∈ v, r.length ≤ 9) : ∃ (y' : List (List Int)) (q : Nat), Ev (fun k => laws_markIntSS.f k v 1) ((q : Int), y') ∧ Ev (fun k => laws_heldIntSS.f k y' 1) (q : Int) := by
  obtain ⟨y', q, h1, _, _, h4⟩ := markSS_l0 v.length 0 1 v (by omega) hl (by omega) (fun j _ => rdL_lt v 9 h j)
  exact ⟨y', q, h1, h4⟩
end Go.Proofs.Ytchbjdoneanhpaa.Q
