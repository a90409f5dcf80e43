/- ParseBooks: the program's words at a text of good books; the reference's parts; both answers are one. Conditions: at most 1048576 bytes. -/
import Derived.Test.YtecpcbkoemhclaaDoorPx0
import Derived.Test.YtecpcbkoemhclaaDoorPx10
import Derived.Test.YtecpcbkoemhclaaDoorPx13
import Derived.Test.YtecpcbkoemhclaaDoorPx19
import Derived.Test.YtecpcbkoemhclaaDoorQPb
import Derived.Test.YtecpcbkoemhclaaDoorPBc
import Derived.Lib.ItoaMem
import Derived.Lib.FieldsP
namespace Go.Proofs.YtecpcbkoemhclaaDoor.Q
open Go.RowKit Go.Proofs.YtecpcbkoemhclaaDoor.P Go.Proofs.YtecpcbkoemhclaaDoorW.PrintWords Go.Proofs.YtecpcbkoemhclaaDoorW.PrintLast
set_option linter.unusedVariables false
set_option linter.unusedSimpArgs false

/-! ### the program's words -/
def sgn (x : UInt8) : Bool := decide (x = 124) || decide (x = 44)
theorem barP_sgn (x : UInt8) : barP x.toNat = sgn x := by
  have h : ∀ c : UInt8, decide (x.toNat = c.toNat) = decide (x = c) := fun c => by
    by_cases e : x = c
    · rw [e]; simp
    · rw [decide_eq_false e, decide_eq_false (fun h => e (UInt8.toNat_inj.1 h))]
  unfold barP sgn
  rw [← h 124, ← h 44]
  rfl
def splitP : List UInt8 → List UInt8 → List (List UInt8)
  | seg, [] => [seg]
  | seg, x :: xs => if sgn x = true then seg :: splitP [] xs else splitP (seg ++ [x]) xs
theorem splitP_app : ∀ (p seg r : List UInt8), (∀ x ∈ p, sgn x = false) → splitP seg (p ++ r) = splitP (seg ++ p) r
  | [], seg, r, _ => by simp
  | x :: p, seg, r, h => by
    rw [List.cons_append, splitP, if_neg (by rw [h x List.mem_cons_self]; simp), splitP_app p _ r (fun y hy => h y (List.mem_cons_of_mem _ hy))]
    simp
def segOf (L : List UInt8) (pos : Nat) : Option Nat → List UInt8
  | none => []
  | some a => (L.take pos).drop a
def full (q : List UInt8) : Bool := !q.isEmpty
theorem seg_full {L : List UInt8} {pos a : Nat} (h : a < pos) (hp : pos ≤ L.length) : full ((L.take pos).drop a) = true := by
  cases e : (L.take pos).drop a with
  | nil =>
    have := congrArg List.length e
    rw [List.length_drop, List.length_take] at this
    simp at this; omega
  | cons => rfl
theorem spans_end (s : ByteArray) (st : Option Nat) (acc : List (Nat × Nat)) (hst : ∀ a, st = some a → a < s.size) :
    (Lib.closeSpans s (acc, st)).map (fun x => s.extract x.1 x.2) = acc.map (fun x => s.extract x.1 x.2) ++ ((splitP (segOf s.data.toList s.size st) []).filter full).map ofL := by
  cases st with
  | none => simp [Lib.closeSpans, segOf, splitP, full]
  | some a =>
    have ha := hst a rfl
    have hf := seg_full (L := s.data.toList) ha (by rw [← ba_size]; exact Nat.le_refl _)
    simp only [Lib.closeSpans, List.map_append, segOf, splitP, List.filter_cons, hf, if_true, List.filter_nil, List.map_cons, List.map_nil]
    rw [ext_seg s a s.size (Nat.le_refl _)]
theorem spans_eq (s : ByteArray) (hA : ∀ x ∈ s.data.toList, x.toNat < 128) : ∀ (f pos : Nat) (st : Option Nat) (acc : List (Nat × Nat)), pos ≤ s.size → s.size ≤ pos + f → (∀ a, st = some a → a < pos) →
    (Lib.closeSpans s (Lib.spansFromP barP s f pos st acc)).map (fun x => s.extract x.1 x.2) = acc.map (fun x => s.extract x.1 x.2) ++ ((splitP (segOf s.data.toList pos st) (s.data.toList.drop pos)).filter full).map ofL
  | 0, pos, st, acc, h1, h2, h3 => by
    obtain rfl : pos = s.size := by omega
    rw [show s.data.toList.drop s.size = [] from List.drop_eq_nil_of_le (by rw [← ba_size]; exact Nat.le_refl _)]
    exact spans_end s st acc h3
  | f + 1, pos, st, acc, h1, h2, h3 => by
    unfold Lib.spansFromP
    by_cases hp : pos < s.size
    · have hp2 : pos < s.data.toList.length := by rw [← ba_size]; exact hp
      have hd : s.data.toList.drop pos = s.data.toList[pos] :: s.data.toList.drop (pos + 1) := List.drop_eq_getElem_cons hp2
      have ha := hA _ (List.getElem_mem hp2)
      have hdec : Utf8.decode s pos = ((s.data.toList[pos]).toNat, 1) := decode_ascii s pos hp ha
      have hb := barP_sgn (s.data.toList[pos])
      rw [if_pos hp, hdec, hd]
      by_cases hc : sgn s.data.toList[pos] = true
      · rw [splitP, if_pos hc]
        rw [hc] at hb
        cases st with
        | none =>
          simp only
          rw [if_pos hb, spans_eq s hA f (pos + 1) none acc (by omega) (by omega) (fun a h => by cases h)]
          simp [segOf, full]
        | some a =>
          have hf := seg_full (L := s.data.toList) (h3 a rfl) (by rw [← ba_size]; exact h1)
          simp only
          rw [if_pos hb, spans_eq s hA f (pos + 1) none _ (by omega) (by omega) (fun a h => by cases h)]
          simp only [segOf, List.filter_cons, hf, if_true, List.map_append, List.map_cons, List.map_nil]
          rw [ext_seg s a pos h1, List.append_assoc]; rfl
      · have hn : ¬ barP (s.data.toList[pos]).toNat = true := by rw [hb]; exact hc
        rw [splitP, if_neg hc]
        cases st with
        | none =>
          simp only
          rw [if_neg hn, spans_eq s hA f (pos + 1) (some pos) acc (by omega) (by omega) (fun a h => by injection h; omega)]
          simp only [segOf]
          rw [seg_snoc hp2 (Nat.le_refl _), seg_nil]
        | some a =>
          have := h3 a rfl
          simp only
          rw [if_neg hn, spans_eq s hA f (pos + 1) (some a) acc (by omega) (by omega) (fun b h => by injection h; omega)]
          simp only [segOf]
          rw [seg_snoc hp2 (by omega)]
    · obtain rfl : pos = s.size := by omega
      rw [if_neg hp, show s.data.toList.drop s.size = [] from List.drop_eq_nil_of_le (by rw [← ba_size]; exact Nat.le_refl _)]
      exact spans_end s st acc h3
theorem fields_eq (s : ByteArray) (hA : ∀ x ∈ s.data.toList, x.toNat < 128) : Lib.goFieldsP barP s = ((splitP [] s.data.toList).filter full).map ofL := by
  unfold Lib.goFieldsP Lib.spansOfP
  rw [spans_eq s hA s.size 0 none [] (Nat.zero_le _) (by omega) (fun a h => by cases h)]
  simp [segOf]
/-! ### the text of good books -/
def GoodB (b : S48) : Prop := (1 ≤ b.f0 ∧ b.f0 ≤ 100) ∧ 1 ≤ b.f1 ∧ b.f1 ≤ 100
def txB (l : List S48) : ByteArray := joinT (l.map bookB) ⟨#[44]⟩
def bkL (b : S48) : List UInt8 := Lib.itoa b.f0 ++ 124 :: Lib.itoa b.f1
theorem bookB_list (b : S48) : (bookB b).data.toList = bkL b := by
  unfold bookB bkL
  rw [ba_append, ba_append, itoaB_list, itoaB_list]
  simp
theorem txB_list (l : List S48) : (txB l).data.toList = Lib.join (l.map bkL) [44] := by
  unfold txB joinT
  simp only [List.map_map]
  rw [show ((fun x : ByteArray => x.data.toList) ∘ bookB) = bkL from funext bookB_list]
def wordsB : List S48 → List (List UInt8)
  | [] => []
  | b :: bs => Lib.itoa b.f0 :: Lib.itoa b.f1 :: wordsB bs
def flatI : List S48 → List Int
  | [] => []
  | b :: bs => b.f0 :: b.f1 :: flatI bs
theorem wordsB_flat : ∀ l : List S48, wordsB l = (flatI l).map Lib.itoa
  | [] => rfl
  | b :: bs => by simp only [wordsB, flatI, List.map_cons]; rw [wordsB_flat bs]
theorem flatI_len : ∀ l : List S48, (flatI l).length = 2 * l.length
  | [] => rfl
  | b :: bs => by simp only [flatI, List.length_cons]; rw [flatI_len bs]; omega
theorem pairB_flat : ∀ l : List S48, pairB (flatI l) = l
  | [] => rfl
  | b :: bs => by simp only [flatI, pairB]; rw [pairB_flat bs]
theorem flatI_good : ∀ l : List S48, (∀ b ∈ l, GoodB b) → ∀ x ∈ flatI l, 1 ≤ x ∧ x ≤ 100
  | [], _, x, hx => by simp [flatI] at hx
  | b :: bs, h, x, hx => by
    simp only [flatI, List.mem_cons] at hx
    have hb := h b List.mem_cons_self
    rcases hx with rfl | rfl | hx
    · exact hb.1
    · exact hb.2
    · exact flatI_good bs (fun c hc => h c (List.mem_cons_of_mem _ hc)) x hx
theorem dig_sgn {x : Int} (h0 : 1 ≤ x) (h1 : x ≤ 100) : ∀ y ∈ Lib.itoa x, sgn y = false ∧ y ≠ 44 ∧ y ≠ 124 ∧ y.toNat < 128 := fun y hy => by
  have h := (itoa_at x h0 h1).2.1 y hy
  have n1 : y ≠ 44 := fun e => by rw [e] at h; exact absurd h (by decide)
  have n2 : y ≠ 124 := fun e => by rw [e] at h; exact absurd h (by decide)
  exact ⟨by unfold sgn; simp [n1, n2], n1, n2, by omega⟩
theorem joinTail_cons44 (q : List UInt8) (qs : List (List UInt8)) : Lib.joinTail [44] (q :: qs) = 44 :: (q ++ Lib.joinTail [44] qs) := by simp [Lib.joinTail]
theorem splitP_book (b : S48) (hb : GoodB b) (r : List UInt8) : splitP [] (bkL b ++ r) = Lib.itoa b.f0 :: splitP (Lib.itoa b.f1) r := by
  unfold bkL
  rw [List.append_assoc, List.cons_append, splitP_app _ _ _ (fun x hx => (dig_sgn hb.1.1 hb.1.2 x hx).1), List.nil_append, splitP, if_pos (by decide), splitP_app _ _ _ (fun x hx => (dig_sgn hb.2.1 hb.2.2 x hx).1), List.nil_append]
theorem splitP_tail : ∀ (l : List S48) (seg : List UInt8), (∀ b ∈ l, GoodB b) → splitP seg (Lib.joinTail [44] (l.map bkL)) = seg :: wordsB l
  | [], seg, _ => rfl
  | b :: bs, seg, h => by
    rw [List.map_cons, joinTail_cons44, splitP, if_pos (by decide), splitP_book b (h b List.mem_cons_self), splitP_tail bs _ (fun c hc => h c (List.mem_cons_of_mem _ hc))]
    rfl
theorem splitP_text (b : S48) (bs : List S48) (h : ∀ c ∈ b :: bs, GoodB c) : splitP [] (txB (b :: bs)).data.toList = wordsB (b :: bs) := by
  rw [txB_list, List.map_cons, Lib.join_cons, splitP_book b (h b List.mem_cons_self), splitP_tail bs _ (fun c hc => h c (List.mem_cons_of_mem _ hc))]
  rfl
theorem bkL_mem {b : S48} (hb : GoodB b) : ∀ y ∈ bkL b, y ≠ 44 ∧ y.toNat < 128 := fun y hy => by
  unfold bkL at hy
  rcases List.mem_append.1 hy with hy | hy
  · exact ⟨(dig_sgn hb.1.1 hb.1.2 y hy).2.1, (dig_sgn hb.1.1 hb.1.2 y hy).2.2.2⟩
  · rcases List.mem_cons.1 hy with rfl | hy
    · exact ⟨by decide, by decide⟩
    · exact ⟨(dig_sgn hb.2.1 hb.2.2 y hy).2.1, (dig_sgn hb.2.1 hb.2.2 y hy).2.2.2⟩
theorem tail_ascii : ∀ (l : List S48), (∀ b ∈ l, GoodB b) → ∀ y ∈ Lib.joinTail [44] (l.map bkL), y.toNat < 128
  | [], _, y, hy => by simp [Lib.joinTail] at hy
  | b :: bs, h, y, hy => by
    rw [List.map_cons, joinTail_cons44] at hy
    rcases List.mem_cons.1 hy with rfl | hy
    · decide
    · rcases List.mem_append.1 hy with hy | hy
      · exact (bkL_mem (h b List.mem_cons_self) y hy).2
      · exact tail_ascii bs (fun c hc => h c (List.mem_cons_of_mem _ hc)) y hy
theorem text_ascii (b : S48) (bs : List S48) (h : ∀ c ∈ b :: bs, GoodB c) : ∀ y ∈ (txB (b :: bs)).data.toList, y.toNat < 128 := fun y hy => by
  rw [txB_list, List.map_cons, Lib.join_cons] at hy
  rcases List.mem_append.1 hy with hy | hy
  · exact (bkL_mem (h b List.mem_cons_self) y hy).2
  · exact tail_ascii bs (fun c hc => h c (List.mem_cons_of_mem _ hc)) y hy
theorem goodK_all {l : List S48} (h : goodK l = true) : ∀ b ∈ l, GoodB b := (goodK_iff h).2.2
theorem fields_good (l : List S48) (h : goodK l = true) : Lib.goFieldsP barP (txB l) = (flatI l).map itoaB := by
  obtain ⟨g1, _, g3⟩ := goodK_iff h
  match l, g1, g3 with
  | b :: bs, _, g3 =>
    rw [fields_eq _ (text_ascii b bs g3), splitP_text b bs g3, wordsB_flat]
    have hf : ((flatI (b :: bs)).map Lib.itoa).filter full = (flatI (b :: bs)).map Lib.itoa := List.filter_eq_self.2 (fun q hq => by
      obtain ⟨z, hz, rfl⟩ := List.mem_map.1 hq
      have h2 := flatI_good _ g3 z hz
      have := (itoa_at z h2.1 h2.2).2.2.1
      cases e : Lib.itoa z with
      | nil => exact absurd e this
      | cons => rfl)
    rw [hf, List.map_map]
    exact List.map_congr_left (fun x _ => rfl)
/-- At a text of good books the program says yes. -/
theorem pbV_good (l : List S48) (h : goodK l = true) : pbV goodK txB (txB l) = (l, true) := by
  have hn : numsF 100 (Lib.goFieldsP barP (txB l)) = some (flatI l) := by rw [fields_good l h, numsF_itoa _ (flatI_good l (goodK_all h))]
  rw [pbV_even hn (by rw [flatI_len]; omega), pairB_flat, if_pos h, if_pos rfl]
theorem pbV_cases (s : ByteArray) : pbV goodK txB s = ([], false) ∨ ∃ l, goodK l = true ∧ txB l = s := by
  unfold pbV
  split
  · exact .inl rfl
  · split
    · split
      · rename_i hg
        split
        · rename_i hj; exact .inr ⟨_, hg, hj⟩
        · exact .inl rfl
      · exact .inl rfl
    · exact .inl rfl
end Go.Proofs.YtecpcbkoemhclaaDoor.Q
