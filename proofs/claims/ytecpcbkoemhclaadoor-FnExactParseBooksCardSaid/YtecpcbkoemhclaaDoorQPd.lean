/- ParseBooks: the reference's answer; both answers are one. Conditions: at most 1048576 bytes. -/
import Derived.Test.YtecpcbkoemhclaaDoorPx0
import Derived.Test.YtecpcbkoemhclaaDoorPx9
import Derived.Test.YtecpcbkoemhclaaDoorPx12
import Derived.Test.YtecpcbkoemhclaaDoorQPc
namespace Go.Proofs.YtecpcbkoemhclaaDoor.Q
open Go.RowKit Go.Proofs.YtecpcbkoemhclaaDoor.P Go.Proofs.YtecpcbkoemhclaaDoorW.PrintWords Go.Proofs.YtecpcbkoemhclaaDoorW.PrintLast
set_option linter.unusedVariables false
set_option linter.unusedSimpArgs false
/-- One part that is read. -/
def rdP (p : List UInt8) : Option S48 := match splitA 124 [] p with
  | [a, b] => some ⟨readL a, readL b⟩
  | _ => none
def rdAll : List (List UInt8) → Option (List S48)
  | [] => some []
  | p :: ps => (rdP p).bind fun b => (rdAll ps).bind fun l => some (b :: l)
def finV (out : List S48) (s : ByteArray) : List S48 × Bool := if goodK out = true then (if txB out = s then (out, true) else ([], false)) else ([], false)
def resV (acc : List S48) (s : ByteArray) : Option (List S48) → List S48 × Bool
  | none => ([], false)
  | some l => finV (acc ++ l) s
def specBV (s : ByteArray) : List S48 × Bool := if s.size > 100 then ([], false) else resV [] s (rdAll (splitA 44 [] s.data.toList))
theorem ba_iff {a b : ByteArray} : a.toList = b.toList ↔ a = b := ⟨ba_inj, fun h => by rw [h]⟩
theorem specB_l0 (s : ByteArray) (ps : List (List UInt8)) (hp : ps.length ≤ 1000) (hq : ∀ p ∈ ps, p.length ≤ 1000) (d : Nat) : ∀ (i : Nat) (acc : List S48), i + d = ps.length → acc.length = i →
    Ev (fun k => spec_ParseBooks.l0 k s acc (ps.map ofL) (ps.map ofL).length i) (resV acc s (rdAll (ps.drop i))) := by
  induction d with
  | zero =>
    intro i acc hi ha
    rw [List.drop_of_length_le (by omega)]
    show Ev _ (finV (acc ++ []) s)
    rw [List.append_nil]
    refine Ev.step (fun k => by rw [spec_ParseBooks.l0, if_neg (by rw [List.length_map]; omega)]) ?_
    refine Ev.bind (shGood_ev acc (by omega)) ?_
    unfold finV
    refine Ev.ite (fun h => ?_) (fun h => ?_)
    · rw [if_pos h]
      refine Ev.bind (shText_ev acc (goodK_in h).1 (goodK_in h).2) ?_
      by_cases e : txB acc = s
      · rw [if_pos e]; exact Ev.pos (ba_iff.2 e) (Ev.now _)
      · rw [if_neg e]; exact Ev.neg (fun h => e (ba_iff.1 h)) (Ev.now _)
    · rw [if_neg h]; exact Ev.now _
  | succ d ih =>
    intro i acc hi ha
    have hlt : i < ps.length := by omega
    have hlt2 : i < (ps.map ofL).length := by rw [List.length_map]; exact hlt
    obtain ⟨p, hpe⟩ : ∃ p, p = ps[i] := ⟨_, rfl⟩
    have hx : rdOf ByteArray.empty (ps.map ofL) (i : Int) = ofL p := by
      rw [hpe]
      simp [rdOf, List.getD_eq_getElem?_getD, List.getElem?_eq_getElem hlt]
    have hpl : p.length ≤ 1000 := hq p (by rw [hpe]; exact List.getElem_mem hlt)
    rw [List.drop_eq_getElem_cons hlt, ← hpe]
    refine Ev.step (fun k => by rw [spec_ParseBooks.l0, if_pos (by rw [List.length_map]; omega), if_pos (by omega), if_pos (by rw [List.length_map]; omega), hx, w64i i (by omega)]) ?_
    refine Ev.bind (l1Split_ev 124 124 (by rfl) (ofL p) (by rw [ba_size, ofL_list]; omega)) ?_
    rw [ofL_list]
    have hlen : ∀ qs : List (List UInt8), splitA 124 [] p = qs → (((qs.map ofL).length : Nat) : Int) = (qs.length : Int) := fun qs _ => by rw [List.length_map]
    have key : (∃ a b, splitA 124 [] p = [a, b]) ∨ ((splitA 124 [] p).length ≠ 2 ∧ rdP p = none) := by
      unfold rdP
      match hsp : splitA 124 [] p with
      | [] => exact .inr ⟨by simp, rfl⟩
      | [a] => exact .inr ⟨by simp, rfl⟩
      | [a, b] => exact .inl ⟨a, b, rfl⟩
      | a :: b :: c :: r => exact .inr ⟨by simp, rfl⟩
    rcases key with ⟨a, b, hsp⟩ | ⟨h1, h2⟩
    · have hr : rdP p = some ⟨readL a, readL b⟩ := by unfold rdP; rw [hsp]
      rw [hsp]
      have h0 : rdOf ByteArray.empty (([a, b] : List (List UInt8)).map ofL) 0 = ofL a := rfl
      have h1 : rdOf ByteArray.empty (([a, b] : List (List UInt8)).map ofL) 1 = ofL b := rfl
      refine Ev.pos (by simp) (Ev.pos (by simp) ?_)
      rw [h0, h1]
      have ea := l1Read_ev (ofL a)
      have eb := l1Read_ev (ofL b)
      rw [ofL_list] at ea eb
      refine Ev.bind ea (Ev.pos (by simp) (Ev.bind eb (Ev.pos (by omega) ?_)))
      refine Ev.val (ih (i + 1) (acc ++ [⟨readL a, readL b⟩]) (by omega) (by rw [List.length_append]; simp; omega)) ?_
      simp only [rdAll]
      rw [hr, Option.bind_some]
      cases rdAll (ps.drop (i + 1)) with
      | none => rfl
      | some l => show finV ((acc ++ [_]) ++ l) s = finV (acc ++ (_ :: l)) s; rw [List.append_assoc]; rfl
    · refine Ev.neg (by rw [List.length_map]; omega) ?_
      simp only [rdAll]
      rw [h2]
      exact Ev.now _
theorem splitA_each (c : UInt8) : ∀ (xs seg : List UInt8), ∀ p ∈ splitA c seg xs, p.length ≤ seg.length + xs.length
  | [], seg, p, hp => by simp only [splitA, List.mem_singleton] at hp; rw [hp]; omega
  | x :: xs, seg, p, hp => by
    rw [splitA] at hp
    split at hp
    · rcases List.mem_cons.1 hp with rfl | hp
      · simp only [List.length_cons]; omega
      · have := splitA_each c xs [] p hp
        simp only [List.length_cons, List.length_nil] at this ⊢; omega
    · have := splitA_each c xs _ p hp
      simp only [List.length_append, List.length_cons, List.length_nil] at this ⊢; omega
theorem specB_ev (s : ByteArray) (hs : s.size ≤ 1048576) : Ev (fun k => spec_ParseBooks.f k s) (specBV s) := by
  unfold spec_ParseBooks.f specBV
  by_cases h : s.size > 100
  · rw [if_pos h]; exact Ev.pos (by omega) (Ev.now _)
  · rw [if_neg h]
    refine Ev.neg (by omega) ?_
    refine Ev.bind (l1Split_ev 44 44 (by rfl) s hs) ?_
    have hbl : s.data.toList.length ≤ 100 := by rw [← ba_size]; omega
    have h1 := splitA_len 44 s.data.toList []
    have h2 := specB_l0 s (splitA 44 [] s.data.toList) (by omega) (fun p hp => by have := splitA_each 44 _ _ p hp; simp only [List.length_nil] at this; omega) (splitA 44 [] s.data.toList).length 0 [] (by omega) rfl
    exact h2
/-! ### at a text of good books -/
theorem rdP_book (b : S48) (hb : GoodB b) : rdP (bkL b) = some b := by
  have e : bkL b = Lib.join [Lib.itoa b.f0, Lib.itoa b.f1] [124] := by
    unfold bkL
    rw [Lib.join_cons]
    simp [Lib.joinTail]
  have hs : splitA 124 [] (bkL b) = [Lib.itoa b.f0, Lib.itoa b.f1] := by
    rw [e]
    refine splitA_join 124 _ _ (fun q hq y hy => ?_)
    simp only [List.mem_cons, List.not_mem_nil, or_false] at hq
    rcases hq with rfl | rfl
    · exact (dig_sgn hb.1.1 hb.1.2 y hy).2.2.1
    · exact (dig_sgn hb.2.1 hb.2.2 y hy).2.2.1
  unfold rdP
  rw [hs]
  show some (⟨readL (Lib.itoa b.f0), readL (Lib.itoa b.f1)⟩ : S48) = some b
  rw [(itoa_at b.f0 hb.1.1 hb.1.2).1, (itoa_at b.f1 hb.2.1 hb.2.2).1]
theorem rdAll_books : ∀ (l : List S48), (∀ b ∈ l, GoodB b) → rdAll (l.map bkL) = some l
  | [], _ => rfl
  | b :: bs, h => by
    rw [List.map_cons, rdAll, rdP_book b (h b List.mem_cons_self), rdAll_books bs (fun c hc => h c (List.mem_cons_of_mem _ hc))]
    rfl
theorem bkL_len {b : S48} (hb : GoodB b) : (bkL b).length ≤ 7 := by
  have h1 := (itoa_at b.f0 hb.1.1 hb.1.2).2.2.2.1
  have h2 := (itoa_at b.f1 hb.2.1 hb.2.2).2.2.2.1
  unfold bkL
  rw [List.length_append, List.length_cons]; omega
theorem tail_len : ∀ (l : List S48), (∀ b ∈ l, GoodB b) → (Lib.joinTail [44] (l.map bkL)).length ≤ 8 * l.length
  | [], _ => by simp [Lib.joinTail]
  | b :: bs, h => by
    have h1 := bkL_len (h b List.mem_cons_self)
    have h2 := tail_len bs (fun c hc => h c (List.mem_cons_of_mem _ hc))
    rw [List.map_cons, joinTail_cons44, List.length_cons, List.length_append, List.length_cons]; omega
theorem specBV_good (l : List S48) (h : goodK l = true) : specBV (txB l) = (l, true) := by
  obtain ⟨g1, g2, g3⟩ := goodK_iff h
  match l, g1, g2, g3, h with
  | b :: bs, _, g2, g3, h =>
    have hsz : (txB (b :: bs)).size ≤ 100 := by
      have h1 := bkL_len (g3 b List.mem_cons_self)
      have h2 := tail_len bs (fun c hc => g3 c (List.mem_cons_of_mem _ hc))
      rw [ba_size, txB_list, List.map_cons, Lib.join_cons, List.length_append]
      simp only [List.length_cons] at g2
      omega
    have hs : splitA 44 [] (txB (b :: bs)).data.toList = (b :: bs).map bkL := by
      rw [txB_list, List.map_cons]
      refine splitA_join 44 _ _ (fun q hq y hy => ?_)
      rw [← List.map_cons] at hq
      obtain ⟨c, hc, rfl⟩ := List.mem_map.1 hq
      exact (bkL_mem (g3 c hc) y hy).1
    unfold specBV
    rw [if_neg (by omega), hs, rdAll_books _ g3]
    show finV ([] ++ (b :: bs)) _ = _
    unfold finV
    rw [List.nil_append, if_pos h, if_pos rfl]
theorem specBV_cases (s : ByteArray) : specBV s = ([], false) ∨ ∃ l, goodK l = true ∧ txB l = s := by
  unfold specBV
  split
  · exact .inl rfl
  · cases rdAll (splitA 44 [] s.data.toList) with
    | none => exact .inl rfl
    | some l =>
      show finV ([] ++ l) s = _ ∨ _
      unfold finV
      split
      · rename_i hg
        split
        · rename_i hj; exact .inr ⟨_, hg, hj⟩
        · exact .inl rfl
      · exact .inl rfl
/-- Both answers are one. -/
theorem specB_impl (s : ByteArray) : pbV goodK txB s = specBV s := by
  by_cases h : ∃ l, goodK l = true ∧ txB l = s
  · obtain ⟨l, hg, rfl⟩ := h
    rw [pbV_good l hg, specBV_good l hg]
  · rw [(pbV_cases s).resolve_right h, (specBV_cases s).resolve_right h]
theorem specBV_len (s : ByteArray) : (specBV s).1.length ≤ 1048576 := by
  rcases specBV_cases s with h | ⟨l, hg, rfl⟩
  · rw [h]; simp
  · rw [specBV_good l hg]
    have := (goodK_in hg).1
    show l.length ≤ _
    omega
end Go.Proofs.YtecpcbkoemhclaaDoor.Q
