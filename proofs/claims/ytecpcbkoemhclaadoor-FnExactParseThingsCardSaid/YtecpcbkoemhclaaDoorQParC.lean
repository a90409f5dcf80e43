/- ParseThings: the program's fields at a text of good things; both answers are one. Conditions: at most 1048576 bytes. -/
import Derived.Test.YtecpcbkoemhclaaDoorPx0
import Derived.Test.YtecpcbkoemhclaaDoorPx15
import Derived.Test.YtecpcbkoemhclaaDoorPx20
import Derived.Test.YtecpcbkoemhclaaDoorPx26
import Derived.Test.YtecpcbkoemhclaaDoorPx27
import Derived.Test.YtecpcbkoemhclaaDoorQEv
import Derived.Test.YtecpcbkoemhclaaDoorQBoxA
import Derived.Test.YtecpcbkoemhclaaDoorQTxtA
import Derived.Test.YtecpcbkoemhclaaDoorQPar
import Derived.Test.YtecpcbkoemhclaaDoorQParB
import Derived.Lib.ItoaMem
import Derived.Lib.FieldsP
namespace Go.Proofs.YtecpcbkoemhclaaDoor.Q
open Go.RowKit Go.Proofs.YtecpcbkoemhclaaDoor.P Go.Proofs.YtecpcbkoemhclaaDoorW.PrintWords Go.Proofs.YtecpcbkoemhclaaDoorW.PrintLast
set_option linter.unusedVariables false
set_option linter.unusedSimpArgs false

def segOf (L : List UInt8) (pos : Nat) : Option Nat → List UInt8
  | none => []
  | some a => (L.take pos).drop a
def full (q : List UInt8) : Bool := !q.isEmpty
theorem seg_full {L : List UInt8} {pos a : Nat} (h : a < pos) (hp : pos ≤ L.length) : full ((L.take pos).drop a) = true := by
  cases e : (L.take pos).drop a with
  | nil =>
    have := congrArg List.length e
    rw [List.length_drop, List.length_take] at this
    simp at this; omega
  | cons => rfl
theorem spans_end (s : ByteArray) (st : Option Nat) (acc : List (Nat × Nat)) (hst : ∀ a, st = some a → a < s.size) :
    (Lib.closeSpans s (acc, st)).map (fun x => s.extract x.1 x.2) = acc.map (fun x => s.extract x.1 x.2) ++ ((splitA 45 (segOf s.data.toList s.size st) []).filter full).map ofL := by
  cases st with
  | none => simp [Lib.closeSpans, segOf, splitA, full]
  | some a =>
    have ha := hst a rfl
    have hf := seg_full (L := s.data.toList) ha (by rw [← ba_size]; exact Nat.le_refl _)
    simp only [Lib.closeSpans, List.map_append, segOf, splitA, List.filter_cons, hf, if_true, List.filter_nil, List.map_cons, List.map_nil]
    rw [ext_seg s a s.size (Nat.le_refl _)]
theorem spans_eq (s : ByteArray) (hA : ∀ x ∈ s.data.toList, x.toNat < 128) : ∀ (f pos : Nat) (st : Option Nat) (acc : List (Nat × Nat)), pos ≤ s.size → s.size ≤ pos + f → (∀ a, st = some a → a < pos) →
    (Lib.closeSpans s (Lib.spansFromP (fun x => decide (x = 45)) s f pos st acc)).map (fun x => s.extract x.1 x.2) = acc.map (fun x => s.extract x.1 x.2) ++ ((splitA 45 (segOf s.data.toList pos st) (s.data.toList.drop pos)).filter full).map ofL
  | 0, pos, st, acc, h1, h2, h3 => by
    obtain rfl : pos = s.size := by omega
    rw [show s.data.toList.drop s.size = [] from List.drop_eq_nil_of_le (by rw [← ba_size]; exact Nat.le_refl _)]
    exact spans_end s st acc h3
  | f + 1, pos, st, acc, h1, h2, h3 => by
    unfold Lib.spansFromP
    by_cases hp : pos < s.size
    · have hp2 : pos < s.data.toList.length := by rw [← ba_size]; exact hp
      have hd : s.data.toList.drop pos = s.data.toList[pos] :: s.data.toList.drop (pos + 1) := List.drop_eq_getElem_cons hp2
      have ha := hA _ (List.getElem_mem hp2)
      have hdec : Utf8.decode s pos = ((s.data.toList[pos]).toNat, 1) := decode_ascii s pos hp ha
      rw [if_pos hp, hdec, hd]
      by_cases hc : s.data.toList[pos] = 45
      · rw [hc, splitA, if_pos rfl]
        cases st with
        | none =>
          simp only
          rw [if_pos (by decide), spans_eq s hA f (pos + 1) none acc (by omega) (by omega) (fun a h => by cases h)]
          simp [segOf, full]
        | some a =>
          have hf := seg_full (L := s.data.toList) (h3 a rfl) (by rw [← ba_size]; exact h1)
          simp only
          rw [if_pos (by decide), spans_eq s hA f (pos + 1) none _ (by omega) (by omega) (fun a h => by cases h)]
          simp only [segOf, List.filter_cons, hf, if_true, List.map_append, List.map_cons, List.map_nil]
          rw [ext_seg s a pos h1, List.append_assoc]; rfl
      · have hn : ¬ (s.data.toList[pos]).toNat = 45 := fun h => hc (UInt8.toNat_inj.1 h)
        rw [splitA, if_neg hc]
        cases st with
        | none =>
          simp only
          rw [if_neg (by simpa using hn), spans_eq s hA f (pos + 1) (some pos) acc (by omega) (by omega) (fun a h => by injection h; omega)]
          simp only [segOf]
          rw [seg_snoc hp2 (Nat.le_refl _), seg_nil]
        | some a =>
          have := h3 a rfl
          simp only
          rw [if_neg (by simpa using hn), spans_eq s hA f (pos + 1) (some a) acc (by omega) (by omega) (fun b h => by injection h; omega)]
          simp only [segOf]
          rw [seg_snoc hp2 (by omega)]
    · obtain rfl : pos = s.size := by omega
      rw [if_neg hp, show s.data.toList.drop s.size = [] from List.drop_eq_nil_of_le (by rw [← ba_size]; exact Nat.le_refl _)]
      exact spans_end s st acc h3
theorem fields_eq (s : ByteArray) (hA : ∀ x ∈ s.data.toList, x.toNat < 128) : Lib.goFieldsP (fun x => decide (x = 45)) s = ((splitA 45 [] s.data.toList).filter full).map ofL := by
  unfold Lib.goFieldsP Lib.spansOfP
  rw [spans_eq s hA s.size 0 none [] (Nat.zero_le _) (by omega) (fun a h => by cases h)]
  simp [segOf]
theorem joinTail_mem : ∀ (ps : List (List UInt8)) (x : UInt8), x ∈ Lib.joinTail [45] ps → x = 45 ∨ ∃ p ∈ ps, x ∈ p := by
  intro ps x h
  simp only [Lib.joinTail, List.mem_flatten, List.mem_map] at h
  obtain ⟨l, ⟨p, hp, rfl⟩, hx⟩ := h
  rcases List.mem_append.1 hx with h | h
  · exact .inl (List.mem_singleton.1 h)
  · exact .inr ⟨p, hp, h⟩
theorem fields_good (l : List Int) (h : goodT l = true) : Lib.goFieldsP (fun x => decide (x = 45)) (joinB l ⟨#[45]⟩) = l.map itoaB := by
  obtain ⟨h1, _, h3⟩ := good_all h
  have hA : ∀ x ∈ (joinB l ⟨#[45]⟩).data.toList, x.toNat < 128 := by
    intro x hx
    rw [joinB_list] at hx
    have hm : x = 45 ∨ ∃ p ∈ l.map Lib.itoa, x ∈ p := by
      cases l with
      | nil => simp at h1
      | cons y l =>
        rw [List.map_cons, Lib.join_cons] at hx
        rcases List.mem_append.1 hx with hx | hx
        · exact .inr ⟨_, by simp, hx⟩
        · rcases joinTail_mem _ _ hx with hx | ⟨p, hp, hx⟩
          · exact .inl hx
          · exact .inr ⟨p, by rw [List.map_cons]; exact List.mem_cons_of_mem _ hp, hx⟩
    rcases hm with rfl | ⟨p, hp, hx⟩
    · decide
    · obtain ⟨z, hz, rfl⟩ := List.mem_map.1 hp
      exact ((itoa_at z (h3 z hz).1 (h3 z hz).2).2.1 x hx).2
  rw [fields_eq _ hA, split_good l h]
  have hf : (l.map Lib.itoa).filter full = l.map Lib.itoa := List.filter_eq_self.2 (fun q hq => by
    obtain ⟨z, hz, rfl⟩ := List.mem_map.1 hq
    have := (itoa_at z (h3 z hz).1 (h3 z hz).2).2.2.1
    cases e : Lib.itoa z with
    | nil => exact absurd e this
    | cons => rfl)
  rw [hf, List.map_map]
  exact List.map_congr_left (fun x _ => rfl)
/-- At a text of good things the program says yes. -/
theorem ptV_good (l : List Int) (h : goodT l = true) : ptV goodT (joinB l ⟨#[45]⟩) = (l, true) := by
  obtain ⟨_, _, h3⟩ := good_all h
  rw [ptV_some (l := l) (by rw [fields_good l h, numsF_itoa l h3]), if_pos h, if_pos rfl]
/-- Both answers are one. -/
theorem spec_impl (s : ByteArray) : ptV goodT s = specV s := by
  by_cases hs : (specV s).2 = true
  · have hg : ¬ s.size > 40 ∧ goodT ((splitA 45 [] s.data.toList).map readL) = true := by
      unfold specV goodV at hs
      split at hs
      · cases hs
      · split at hs
        · exact ⟨by assumption, by assumption⟩
        · cases hs
    have e := spec_yes s hg.2
    rw [← e, ptV_good _ hg.2, spec_good _ hg.2]
  · have e1 : specV s = ([], false) := by
      unfold specV goodV at hs ⊢
      split
      · rfl
      · split
        · rename_i h1 h2; rw [if_neg h1, if_pos h2] at hs; exact absurd rfl hs
        · rfl
    rw [e1]
    cases hn : numsF 100 (Lib.goFieldsP (fun x => decide (x = 45)) s) with
    | none => exact ptV_none hn
    | some l =>
      rw [ptV_some hn]
      split
      next hg =>
        split
        next hj =>
          exfalso
          apply hs
          rw [← hj, spec_good l hg]
        next => rfl
      next => rfl
end Go.Proofs.YtecpcbkoemhclaaDoor.Q
