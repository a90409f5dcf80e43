/- The texts of things: the reference's text is the program's. Conditions: things that are good. -/
import Derived.Test.YtecpcbkoemhclaaDoorPx0
import Derived.Test.YtecpcbkoemhclaaDoorPx2
import Derived.Test.YtecpcbkoemhclaaDoorPx15
import Derived.Test.YtecpcbkoemhclaaDoorPx18
import Derived.Test.YtecpcbkoemhclaaDoorPx19
import Derived.Test.YtecpcbkoemhclaaDoorQEv
import Derived.Test.YtecpcbkoemhclaaDoorQBoxA
import Derived.Lib.ItoaMem
namespace Go.Proofs.YtecpcbkoemhclaaDoor.Q
open Go.RowKit Go.Proofs.YtecpcbkoemhclaaDoor.P Go.Proofs.YtecpcbkoemhclaaDoorW.PrintWords Go.Proofs.YtecpcbkoemhclaaDoorW.PrintLast
set_option linter.unusedVariables false
set_option linter.unusedSimpArgs false

theorem ba_ext {a b : ByteArray} (h : a.data.toList = b.data.toList) : a = b := by
  cases a; cases b; congr 1; exact Array.toList_inj.1 h
theorem ba_append (a b : ByteArray) : (a ++ b).data.toList = a.data.toList ++ b.data.toList := by
  rw [ByteArray.data_append, Array.toList_append]
theorem ba_size (a : ByteArray) : a.size = a.data.toList.length := by rw [Array.length_toList]; rfl
theorem itoaB_list (n : Int) : (itoaB n).data.toList = Lib.itoa n := by simp [itoaB]
theorem dig_list (d : Nat) (h : d < 10) : (strOfNums [(wrap64 (48 + (d : Int))) % 256]).data.toList = [UInt8.ofNat (48 + d)] := by
  have e : ((wrap64 (48 + (d : Int))) % 256).toNat = 48 + d := by rw [w64 (by omega) (by omega)]; omega
  simp only [strOfNums, List.map_cons, List.map_nil, e]
theorem itoaB_one (u : Nat) (h : u < 10) : strOfNums [(wrap64 (48 + (u : Int))) % 256] = itoaB u := by
  apply ba_ext
  rw [itoaB_list, dig_list u h, Lib.itoa_nonneg, Lib.decDigits_one h]
theorem itoaB_size (u : Nat) (h : u ≤ 1048576) : (itoaB u).size ≤ 20 := by
  rw [ba_size, itoaB_list]
  exact itoa_len u (by omega) (by omega)
theorem l1Num_ev (u : Nat) (hu : u ≤ 1048576) : Ev (fun k => spec_l1Num.f k (u : Int)) (itoaB u) := by
  induction u using Nat.strongRecOn with
  | ind u ih =>
    by_cases h : u < 10
    · refine Ev.step (f := fun _ => some (itoaB u)) (fun k => ?_) (Ev.now _)
      rw [spec_l1Num.f, if_pos (by omega), itoaB_one u h]
    · have e1 : wrap64 (Int.tdiv (u : Int) 10) = ((u / 10 : Nat) : Int) := by
        have : Int.tdiv (u : Int) 10 = ((u / 10 : Nat) : Int) := rfl
        rw [this, w64 (by omega) (by omega)]
      have e2 : Int.tmod (u : Int) 10 = ((u % 10 : Nat) : Int) := rfl
      have hs : (strOfNums [(wrap64 (48 + ((u % 10 : Nat) : Int))) % 256]).size = 1 := by rw [ba_size, dig_list _ (by omega)]; rfl
      have hz := itoaB_size (u / 10) (by omega)
      refine Ev.step (f := fun k => (spec_l1Num.f k ((u / 10 : Nat) : Int)).bind fun t => ((some ([(wrap64 (48 + ((u % 10 : Nat) : Int))) % 256] : List Int)).bind fun y => (if t.size + (strOfNums y).size ≤ 9223372036854775807 then (some (t ++ (strOfNums y))) else (none)))) (fun k => ?_) (Ev.bind (ih (u / 10) (by omega) (by omega)) (Ev.call rfl (Ev.pos (by rw [hs]; omega) (Ev.val (Ev.now _) ?_))))
      · rw [spec_l1Num.f, if_neg (by omega), e1, e2]
      · apply ba_ext
        rw [ba_append, itoaB_list, itoaB_list, dig_list _ (by omega), Lib.itoa_nonneg, Lib.itoa_nonneg]
        conv => rhs; rw [Lib.decDigits, dif_neg h]
/-- A text out of its bytes. -/
def ofL (l : List UInt8) : ByteArray := ⟨l.toArray⟩
theorem ofL_list (l : List UInt8) : (ofL l).data.toList = l := by simp [ofL]
theorem rd_bounds {l : List Int} {m : Int} (h : ∀ x ∈ l, 0 ≤ x ∧ x ≤ m) {i : Nat} (hi : i < l.length) : 0 ≤ rd l i ∧ rd l i ≤ m := h _ (by rw [rd_get hi]; exact List.getElem_mem hi)
theorem bxText_l0 (l : List Int) (hl : l.length ≤ 100) (hb : ∀ x ∈ l, 0 ≤ x ∧ x ≤ 1048576) (d : Nat) : ∀ (i : Nat) (x : ByteArray), i + d = l.length → 1 ≤ i → x.size ≤ 30 * i → Ev (fun k => spec_bxText.l0 k x l l.length i) (ofL (x.data.toList ++ Lib.joinTail [45] ((l.drop i).map Lib.itoa))) := by
  induction d with
  | zero =>
    intro i x hi h1 hx
    refine Ev.step (f := fun _ => some x) (fun k => ?_) (Ev.val (Ev.now _) ?_)
    · rw [spec_bxText.l0, if_neg (by omega)]
    · apply ba_ext; rw [ofL_list, List.drop_eq_nil_of_le (by omega)]; simp [Lib.joinTail]
  | succ d ih =>
    intro i x hi h1 hx
    have hi' : i < l.length := by omega
    obtain ⟨b0, b1⟩ := rd_bounds hb hi'
    obtain ⟨u, hu⟩ := Int.eq_ofNat_of_zero_le b0
    have hz := itoaB_size u (by omega)
    have hs : (x ++ (⟨#[45]⟩ : ByteArray)).size = x.size + 1 := by rw [ba_size, ba_append, List.length_append, ← ba_size]; rfl
    have hs2 : ((x ++ (⟨#[45]⟩ : ByteArray)) ++ itoaB u).size = x.size + 1 + (itoaB u).size := by rw [ba_size, ba_append, List.length_append, ← ba_size, ← ba_size, hs]
    refine Ev.step (f := fun k => (spec_l1Num.f k (u : Int)).bind fun t115 => (if (x ++ (⟨#[45]⟩ : ByteArray)).size + t115.size ≤ 9223372036854775807 then (spec_bxText.l0 k ((x ++ (⟨#[45]⟩ : ByteArray)) ++ t115) l (l.length : Int) ((i + 1 : Nat) : Int)) else (none))) (fun k => ?_) (Ev.bind (l1Num_ev u (by omega)) (Ev.pos (by omega) (Ev.val (ih (i + 1) _ (by omega) (by omega) (by omega)) ?_)))
    · rw [spec_bxText.l0, if_pos (by omega), if_pos (by omega), if_pos (by omega), if_pos (by omega), if_pos (by omega), w64i i (by omega), hu]
    · apply ba_ext
      rw [ofL_list, ofL_list, ba_append, ba_append, itoaB_list, drop_rd hi', hu]
      simp [Lib.joinTail]
theorem bxText_ev (l : List Int) (hl : l.length ≤ 100) (hb : ∀ x ∈ l, 0 ≤ x ∧ x ≤ 1048576) : Ev (fun k => spec_bxText.f k l) (joinB l ⟨#[45]⟩) := by
  unfold spec_bxText.f
  have hj : (joinB l ⟨#[45]⟩).data.toList = Lib.join (l.map Lib.itoa) [45] := by
    simp only [joinB, List.map_map]
    congr 1
  by_cases h0 : l = []
  · subst h0
    refine Ev.step (f := fun _ => some ⟨#[]⟩) (fun k => ?_) (Ev.val (Ev.now _) ?_)
    · rw [spec_bxText.l0, if_neg (by simp)]
    · apply ba_ext; rw [hj]; rfl
  · have hi' : 0 < l.length := by cases l with | nil => exact absurd rfl h0 | cons => simp
    obtain ⟨b0, b1⟩ := rd_bounds hb hi'
    obtain ⟨u, hu⟩ := Int.eq_ofNat_of_zero_le b0
    have hz := itoaB_size u (by omega)
    have hs2 : ((⟨#[]⟩ : ByteArray) ++ itoaB u).size = (itoaB u).size := by rw [ba_size, ba_append, List.length_append, ← ba_size (itoaB u)]; exact Nat.zero_add _
    refine Ev.step (f := fun k => (spec_l1Num.f k (u : Int)).bind fun t116 => (if (⟨#[]⟩ : ByteArray).size + t116.size ≤ 9223372036854775807 then (spec_bxText.l0 k ((⟨#[]⟩ : ByteArray) ++ t116) l (l.length : Int) ((0 + 1 : Nat) : Int)) else (none))) (fun k => ?_) (Ev.bind (l1Num_ev u (by omega)) (Ev.pos (by rw [show (⟨#[]⟩ : ByteArray).size = 0 from rfl]; omega) (Ev.val (bxText_l0 l hl hb (l.length - 1) (0 + 1) _ (by omega) (by omega) (by omega)) ?_)))
    · have e := w64i 0 (by omega)
      have hu' : rd l 0 = (u : Int) := hu
      rw [spec_bxText.l0, if_pos (by omega), if_pos (by omega), if_pos (by omega), if_neg (by omega), hu']
      rw [show ((0 : Nat) : Int) + 1 = 0 + 1 from rfl] at e
      rw [e]
    · apply ba_ext
      rw [ofL_list, hj, ba_append, itoaB_list]
      conv => rhs; rw [show l = l.drop 0 from rfl, drop_rd hi', List.map_cons, Lib.join_cons, hu]
      rfl
theorem specThingsText_ev (l : List Int) (hl : l.length ≤ 1048576) : Ev (fun k => spec_ThingsText.f k l) (ttV (goodT l) l, goodT l) := by
  unfold spec_ThingsText.f
  refine Ev.bind (bxGood_ev l hl) (Ev.ite (fun h => ?_) (fun h => ?_))
  · obtain ⟨h1, h2⟩ := (goodT_iff l).1 h
    rw [h]
    exact Ev.bind (bxText_ev l (by omega) (fun x hx => by
      obtain ⟨j, hj, rfl⟩ := List.getElem_of_mem hx
      have := h2 j hj
      rw [rd_get hj] at this
      omega)) (Ev.now _)
  · rw [Bool.eq_false_iff.mpr h]; exact Ev.now _
end Go.Proofs.YtecpcbkoemhclaaDoor.Q
