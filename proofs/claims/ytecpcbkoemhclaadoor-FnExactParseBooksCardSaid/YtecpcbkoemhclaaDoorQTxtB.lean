/- The texts of books: the reference's text and the program's are one. Conditions: books that are good. -/
import Derived.Test.YtecpcbkoemhclaaDoorPx0
import Derived.Test.YtecpcbkoemhclaaDoorPx8
import Derived.Test.YtecpcbkoemhclaaDoorPx10
import Derived.Test.YtecpcbkoemhclaaDoorPx19
import Derived.Test.YtecpcbkoemhclaaDoorPx20
import Derived.Test.YtecpcbkoemhclaaDoorQEv
import Derived.Test.YtecpcbkoemhclaaDoorQBookA
import Derived.Test.YtecpcbkoemhclaaDoorQTxt
import Derived.Lib.ItoaMem
namespace Go.Proofs.YtecpcbkoemhclaaDoor.Q
open Go.RowKit Go.Proofs.YtecpcbkoemhclaaDoor.P Go.Proofs.YtecpcbkoemhclaaDoorW.PrintWords Go.Proofs.YtecpcbkoemhclaaDoorW.PrintLast
set_option linter.unusedVariables false
set_option linter.unusedSimpArgs false

def bookB (b : S48) : ByteArray := (itoaB b.f0 ++ (⟨#[124]⟩ : ByteArray)) ++ itoaB b.f1
/-- A book's numbers lie in a range. -/
def InB (b : S48) : Prop := (0 ≤ b.f0 ∧ b.f0 ≤ 1048576) ∧ 0 ≤ b.f1 ∧ b.f1 ≤ 1048576
theorem lit_size (c : UInt8) : (⟨#[c]⟩ : ByteArray).size = 1 := rfl
theorem app_size (a b : ByteArray) : (a ++ b).size = a.size + b.size := by rw [ba_size, ba_append, List.length_append, ← ba_size, ← ba_size]
theorem itoaB_sizeI (n : Int) (h0 : 0 ≤ n) (h : n ≤ 1048576) : (itoaB n).size ≤ 20 := by
  obtain ⟨u, rfl⟩ := Int.eq_ofNat_of_zero_le h0
  exact itoaB_size u (by omega)
theorem l1Num_evI (n : Int) (h0 : 0 ≤ n) (h : n ≤ 1048576) : Ev (fun k => spec_l1Num.f k n) (itoaB n) := by
  obtain ⟨u, rfl⟩ := Int.eq_ofNat_of_zero_le h0
  exact l1Num_ev u (by omega)
theorem itoa45 (n : Int) (h0 : 0 ≤ n) (h : n ≤ 1048576) : strconv_Itoa_45.f n = some (itoaB n) := by
  unfold strconv_Itoa_45.f; rw [if_pos ⟨h0, h⟩]
theorem bookB_size (b : S48) (h : InB b) : (bookB b).size ≤ 41 := by
  have h1 := itoaB_sizeI b.f0 h.1.1 h.1.2
  have h2 := itoaB_sizeI b.f1 h.2.1 h.2.2
  unfold bookB
  rw [app_size, app_size, lit_size]; omega
theorem joinT_ok (xs : List ByteArray) (hl : xs.length ≤ 1000) (h : ∀ x ∈ xs, x.size ≤ 41) (c : UInt8) : strings_Join.f xs ⟨#[c]⟩ = some (joinT xs ⟨#[c]⟩, xs) := by
  have h1 := joinL_len [c] (xs.map (·.data.toList)) 41 (fun x hx => by
    obtain ⟨b, hb, rfl⟩ := List.mem_map.1 hx
    have := h b hb
    rwa [ba_size] at this)
  have h3 : (xs.map (·.data.toList)).length ≤ 1000 := by rw [List.length_map]; exact hl
  have h2 : (xs.map (·.data.toList)).length * (41 + [c].length) ≤ 1000 * 42 := Nat.mul_le_mul h3 (Nat.le_refl _)
  unfold strings_Join.f
  rw [if_pos ⟨by omega, Nat.le_trans h1 (Nat.le_trans h2 (by omega))⟩]
theorem implBooks_l0 (l : List S48) (hl : l.length ≤ 100) (hb : ∀ b ∈ l, InB b) (d : Nat) : ∀ (i : Nat) (xs : List ByteArray), i + d = l.length → xs.length = i → (∀ x ∈ xs, x.size ≤ 41) → Ev (fun k => impl_booksText.l0 k xs l l.length i) (joinT (xs ++ (l.drop i).map bookB) ⟨#[44]⟩) := by
  induction d with
  | zero =>
    intro i xs hi hx hs
    refine Ev.step (f := fun _ => some (joinT xs ⟨#[44]⟩)) (fun k => ?_) (Ev.val (Ev.now _) ?_)
    · rw [impl_booksText.l0, if_neg (by omega), joinT_ok xs (by omega) hs]; rfl
    · rw [List.drop_eq_nil_of_le (by omega)]; simp
  | succ d ih =>
    intro i xs hi hx hs
    have hi' : i < l.length := by omega
    have hB : InB (rd_T48 l i) := hb _ (by rw [rdB hi']; exact List.getElem_mem hi')
    have h1 := itoaB_sizeI _ hB.1.1 hB.1.2
    have h2 := itoaB_sizeI _ hB.2.1 hB.2.2
    have h3 : (itoaB (rd_T48 l i).f0 ++ (⟨#[124]⟩ : ByteArray)).size = (itoaB (rd_T48 l i).f0).size + 1 := by rw [app_size, lit_size]
    refine Ev.step (fun k => ?_) (Ev.val (ih (i + 1) (xs ++ [bookB (rd_T48 l i)]) (by omega) (by rw [List.length_append]; simp [hx]) (fun x hm => by
      rcases List.mem_append.1 hm with h | h
      · exact hs x h
      · rw [List.mem_singleton.1 h]; exact bookB_size _ hB)) ?_)
    · rw [impl_booksText.l0, if_pos (by omega), if_pos (by omega), if_pos (by omega), itoa45 _ hB.1.1 hB.1.2, itoa45 _ hB.2.1 hB.2.2]
      simp only [Option.bind_some]
      rw [if_pos (by omega), if_pos (by omega), if_pos (by omega), w64i i (by omega)]
      rfl
    · rw [dropB hi']; simp
theorem implBooks_ev (l : List S48) (hl : l.length ≤ 100) (hb : ∀ b ∈ l, InB b) : Ev (fun k => impl_booksText.f k l) (joinT (l.map bookB) ⟨#[44]⟩) := by
  have := implBooks_l0 l hl hb l.length 0 [] (by omega) rfl (fun x hx => by cases hx)
  exact this
theorem shText_l0 (l : List S48) (hl : l.length ≤ 100) (hb : ∀ b ∈ l, InB b) (d : Nat) : ∀ (i : Nat) (x : ByteArray), i + d = l.length → 1 ≤ i → x.size ≤ 50 * i → Ev (fun k => spec_shText.l0 k x l l.length i) (ofL (x.data.toList ++ Lib.joinTail [44] ((l.drop i).map fun b => (bookB b).data.toList))) := by
  induction d with
  | zero =>
    intro i x hi h1 hx
    refine Ev.step (f := fun _ => some x) (fun k => ?_) (Ev.val (Ev.now _) ?_)
    · rw [spec_shText.l0, if_neg (by omega)]
    · apply ba_ext; rw [ofL_list, List.drop_eq_nil_of_le (by omega)]; simp [Lib.joinTail]
  | succ d ih =>
    intro i x hi h1 hx
    have hi' : i < l.length := by omega
    have hB : InB (rd_T48 l i) := hb _ (by rw [rdB hi']; exact List.getElem_mem hi')
    obtain ⟨y, hy⟩ : ∃ y, y = rd_T48 l i := ⟨_, rfl⟩
    rw [← hy] at hB
    have q1 := itoaB_sizeI _ hB.1.1 hB.1.2
    have q2 := itoaB_sizeI _ hB.2.1 hB.2.2
    have q3 : (itoaB y.f0 ++ (⟨#[124]⟩ : ByteArray)).size = (itoaB y.f0).size + 1 := by rw [app_size, lit_size]
    have q4 : ((itoaB y.f0 ++ (⟨#[124]⟩ : ByteArray)) ++ itoaB y.f1).size = (itoaB y.f0).size + 1 + (itoaB y.f1).size := by rw [app_size, q3]
    have q5 : (x ++ (⟨#[44]⟩ : ByteArray)).size = x.size + 1 := by rw [app_size, lit_size]
    have q6 : ((x ++ (⟨#[44]⟩ : ByteArray)) ++ ((itoaB y.f0 ++ (⟨#[124]⟩ : ByteArray)) ++ itoaB y.f1)).size = x.size + 1 + ((itoaB y.f0).size + 1 + (itoaB y.f1).size) := by rw [app_size, q5, q4]
    refine Ev.step (f := fun k => (spec_l1Num.f k y.f0).bind fun t156 => (if t156.size + 1 ≤ 9223372036854775807 then ((spec_l1Num.f k y.f1).bind fun t157 => (if (t156 ++ (⟨#[124]⟩ : ByteArray)).size + t157.size ≤ 9223372036854775807 then (if (x ++ (⟨#[44]⟩ : ByteArray)).size + ((t156 ++ (⟨#[124]⟩ : ByteArray)) ++ t157).size ≤ 9223372036854775807 then (spec_shText.l0 k ((x ++ (⟨#[44]⟩ : ByteArray)) ++ ((t156 ++ (⟨#[124]⟩ : ByteArray)) ++ t157)) l (l.length : Int) ((i + 1 : Nat) : Int)) else (none)) else (none))) else (none))) (fun k => ?_) (Ev.bind (l1Num_evI _ hB.1.1 hB.1.2) (Ev.pos (by omega) (Ev.bind (l1Num_evI _ hB.2.1 hB.2.2) (Ev.pos (by omega) (Ev.pos (by omega) (Ev.val (ih (i + 1) _ (by omega) (by omega) (by omega)) ?_))))))
    · rw [spec_shText.l0, if_pos (by omega), if_pos (by omega), if_pos (by omega), if_pos (by omega), if_pos (by omega), w64i i (by omega), ← hy]
    · apply ba_ext
      rw [ofL_list, ofL_list, dropB hi', ← hy]
      simp [Lib.joinTail, ba_append, bookB]
theorem shText_ev (l : List S48) (hl : l.length ≤ 100) (hb : ∀ b ∈ l, InB b) : Ev (fun k => spec_shText.f k l) (joinT (l.map bookB) ⟨#[44]⟩) := by
  unfold spec_shText.f
  have hj : (joinT (l.map bookB) ⟨#[44]⟩).data.toList = Lib.join (l.map fun b => (bookB b).data.toList) [44] := by
    simp only [joinT, List.map_map]
    congr 1
  by_cases h0 : l = []
  · subst h0
    refine Ev.step (f := fun _ => some ⟨#[]⟩) (fun k => ?_) (Ev.val (Ev.now _) ?_)
    · rw [spec_shText.l0, if_neg (by simp)]
    · apply ba_ext; rw [hj]; rfl
  · have hi' : 0 < l.length := by cases l with | nil => exact absurd rfl h0 | cons => simp
    have hB : InB (rd_T48 l (0 : Nat)) := hb _ (by rw [rdB hi']; exact List.getElem_mem hi')
    obtain ⟨y, hy⟩ : ∃ y, y = rd_T48 l (0 : Nat) := ⟨_, rfl⟩
    rw [← hy] at hB
    have q1 := itoaB_sizeI _ hB.1.1 hB.1.2
    have q2 := itoaB_sizeI _ hB.2.1 hB.2.2
    have q0 : (⟨#[]⟩ : ByteArray).size = 0 := rfl
    have q3 : (itoaB y.f0 ++ (⟨#[124]⟩ : ByteArray)).size = (itoaB y.f0).size + 1 := by rw [app_size, lit_size]
    have q4 : ((itoaB y.f0 ++ (⟨#[124]⟩ : ByteArray)) ++ itoaB y.f1).size = (itoaB y.f0).size + 1 + (itoaB y.f1).size := by rw [app_size, q3]
    have q6 : ((⟨#[]⟩ : ByteArray) ++ ((itoaB y.f0 ++ (⟨#[124]⟩ : ByteArray)) ++ itoaB y.f1)).size = (itoaB y.f0).size + 1 + (itoaB y.f1).size := by rw [app_size, q4, q0]; omega
    refine Ev.step (f := fun k => (spec_l1Num.f k y.f0).bind fun t158 => (if t158.size + 1 ≤ 9223372036854775807 then ((spec_l1Num.f k y.f1).bind fun t159 => (if (t158 ++ (⟨#[124]⟩ : ByteArray)).size + t159.size ≤ 9223372036854775807 then (if (⟨#[]⟩ : ByteArray).size + ((t158 ++ (⟨#[124]⟩ : ByteArray)) ++ t159).size ≤ 9223372036854775807 then (spec_shText.l0 k ((⟨#[]⟩ : ByteArray) ++ ((t158 ++ (⟨#[124]⟩ : ByteArray)) ++ t159)) l (l.length : Int) ((0 + 1 : Nat) : Int)) else (none)) else (none))) else (none))) (fun k => ?_) (Ev.bind (l1Num_evI _ hB.1.1 hB.1.2) (Ev.pos (by omega) (Ev.bind (l1Num_evI _ hB.2.1 hB.2.2) (Ev.pos (by omega) (Ev.pos (by omega) (Ev.val (shText_l0 l hl hb (l.length - 1) (0 + 1) _ (by omega) (by omega) (by omega)) ?_))))))
    · have e := w64i 0 (by omega)
      have hy' : rd_T48 l 0 = y := hy.symm
      rw [spec_shText.l0, if_pos (by omega), if_pos (by omega), if_pos (by omega), if_neg (by omega), hy']
      rw [show ((0 : Nat) : Int) + 1 = 0 + 1 from rfl] at e
      rw [e]
    · apply ba_ext
      rw [ofL_list, hj]
      conv => rhs; rw [show l = l.drop 0 from rfl, dropB hi', List.map_cons, Lib.join_cons, ← hy]
      simp [ba_append, bookB]
theorem goodK_in {l : List S48} (h : goodK l = true) : l.length ≤ 100 ∧ ∀ b ∈ l, InB b := by
  obtain ⟨h1, h2, h3⟩ := goodK_iff h
  refine ⟨by omega, fun b hb => ?_⟩
  have := h3 b hb
  exact ⟨⟨by omega, by omega⟩, by omega, by omega⟩
end Go.Proofs.YtecpcbkoemhclaaDoor.Q
