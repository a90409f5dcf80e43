/- The texts of things: the reference's text is the program's. Conditions: things that are good. -/
import Derived.Test.YtecpcbkoemhclaaDoorPx0
import Derived.Test.YtecpcbkoemhclaaDoorPx8
import Derived.Test.YtecpcbkoemhclaaDoorPx10
import Derived.Test.YtecpcbkoemhclaaDoorQEv
import Derived.Lib.ItoaMem
namespace Go.Proofs.YtecpcbkoemhclaaDoor.Q
open Go.RowKit Go.Proofs.YtecpcbkoemhclaaDoor.P Go.Proofs.YtecpcbkoemhclaaDoorW.PrintWords Go.Proofs.YtecpcbkoemhclaaDoorW.PrintLast
set_option linter.unusedVariables false
set_option linter.unusedSimpArgs false

theorem ba_ext {a b : ByteArray} (h : a.data.toList = b.data.toList) : a = b := by
  cases a; cases b; congr 1; exact Array.toList_inj.1 h
theorem ba_append (a b : ByteArray) : (a ++ b).data.toList = a.data.toList ++ b.data.toList := by
  rw [ByteArray.data_append, Array.toList_append]
theorem ba_size (a : ByteArray) : a.size = a.data.toList.length := by rw [Array.length_toList]; rfl
theorem itoaB_list (n : Int) : (itoaB n).data.toList = Lib.itoa n := by simp [itoaB]
theorem dig_list (d : Nat) (h : d < 10) : (strOfNums [(wrap64 (48 + (d : Int))) % 256]).data.toList = [UInt8.ofNat (48 + d)] := by
  have e : ((wrap64 (48 + (d : Int))) % 256).toNat = 48 + d := by rw [w64 (by omega) (by omega)]; omega
  simp only [strOfNums, List.map_cons, List.map_nil, e]
theorem itoaB_one (u : Nat) (h : u < 10) : strOfNums [(wrap64 (48 + (u : Int))) % 256] = itoaB u := by
  apply ba_ext
  rw [itoaB_list, dig_list u h, Lib.itoa_nonneg, Lib.decDigits_one h]
theorem itoaB_size (u : Nat) (h : u ≤ 1048576) : (itoaB u).size ≤ 20 := by
  rw [ba_size, itoaB_list]
  exact itoa_len u (by omega) (by omega)
theorem l1Num_ev (u : Nat) (hu : u ≤ 1048576) : Ev (fun k => spec_l1Num.f k (u : Int)) (itoaB u) := by
  induction u using Nat.strongRecOn with
  | ind u ih =>
    by_cases h : u < 10
    · refine Ev.step (f := fun _ => some (itoaB u)) (fun k => ?_) (Ev.now _)
      rw [spec_l1Num.f, if_pos (by omega), itoaB_one u h]
    · have e1 : wrap64 (Int.tdiv (u : Int) 10) = ((u / 10 : Nat) : Int) := by
        have : Int.tdiv (u : Int) 10 = ((u / 10 : Nat) : Int) := rfl
        rw [this, w64 (by omega) (by omega)]
      have e2 : Int.tmod (u : Int) 10 = ((u % 10 : Nat) : Int) := rfl
      have hs : (strOfNums [(wrap64 (48 + ((u % 10 : Nat) : Int))) % 256]).size = 1 := by rw [ba_size, dig_list _ (by omega)]; rfl
      have hz := itoaB_size (u / 10) (by omega)
      refine Ev.step (f := fun k => (spec_l1Num.f k ((u / 10 : Nat) : Int)).bind fun t => ((some ([(wrap64 (48 + ((u % 10 : Nat) : Int))) % 256] : List Int)).bind fun y => (if t.size + (strOfNums y).size ≤ 9223372036854775807 then (some (t ++ (strOfNums y))) else (none)))) (fun k => ?_) (Ev.bind (ih (u / 10) (by omega) (by omega)) (Ev.call rfl (Ev.pos (by rw [hs]; omega) (Ev.val (Ev.now _) ?_))))
      · rw [spec_l1Num.f, if_neg (by omega), e1, e2]
      · apply ba_ext
        rw [ba_append, itoaB_list, itoaB_list, dig_list _ (by omega), Lib.itoa_nonneg, Lib.itoa_nonneg]
        conv => rhs; rw [Lib.decDigits, dif_neg h]
/-- A text out of its bytes. -/
def ofL (l : List UInt8) : ByteArray := ⟨l.toArray⟩
theorem ofL_list (l : List UInt8) : (ofL l).data.toList = l := by simp [ofL]
theorem rd_bounds {l : List Int} {m : Int} (h : ∀ x ∈ l, 0 ≤ x ∧ x ≤ m) {i : Nat} (hi : i < l.length) : 0 ≤ rd l i ∧ rd l i ≤ m := h _ (by rw [rd_get hi]; exact List.getElem_mem hi)
end Go.Proofs.YtecpcbkoemhclaaDoor.Q
