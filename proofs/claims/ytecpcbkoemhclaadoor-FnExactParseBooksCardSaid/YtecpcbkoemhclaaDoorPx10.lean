-- Laid by wip/myprint.py of this project (a wrapper over the kit's print.py); Lean checks it.
import Derived.Test.YtecpcbkoemhclaaDoorPx0
import Derived.Test.YtecpcbkoemhclaaDoorPx1
namespace Go.Proofs.YtecpcbkoemhclaaDoor.P
open Go.RowKit Go.Proofs.YtecpcbkoemhclaaDoorW.PrintWords Go.Proofs.YtecpcbkoemhclaaDoorW.PrintLast Go.Proofs.YtecpcbkoemhclaaDoorW.PrintMore
attribute [local go_sem] max2_int min2_int max_two min_two max_three min_three max_four min_four   -- for this text's walks alone
set_option linter.unusedVariables false
set_option linter.unusedSimpArgs false

/-! ### strconv_Itoa_45: function 45 (by hand) -/
theorem infoStr : (Tryd.prog.info? 9).map (fun i => (i.zero, i.size, i.bytes)) = some (some (.string ⟨#[]⟩), 1, 16) := by kernel_rfl
/-- The text of a number. -/
def itoaB (n : Int) : ByteArray := ⟨(Lib.itoa n).toArray⟩
/-- The table that Itoa reads. -/
def Pow10 (W : World) : Prop := Lib.TabIs Tryd.prog W "internal/strconv.uint64pow10" .u64 Lib.pow10Tab
theorem pow10_below {B : Nat} {W W' : World} (h : Pow10 W) (hb : Below B W W') (hB : W.heap.size ≤ B) : Pow10 W' := by
  unfold Pow10 Lib.TabIs World.var? at *
  cases hg : Tryd.prog.globalNamed "internal/strconv.uint64pow10" with
  | none => simp [hg] at h
  | some g =>
    simp only [hg, Option.bind_some] at h ⊢
    have hlt : g < W.heap.size := by
      rcases Nat.lt_or_ge g W.heap.size with h' | h'
      · exact h'
      · rw [Array.getElem?_eq_none h'] at h; simp at h
    rw [hb.block g (by omega)]
    exact h
theorem itoa_calls (n : Int) (h0 : 0 ≤ n) (h1 : n ≤ 1048576) (W : World) (ht : Pow10 W) : Calls Tryd.prog 45 #[.int .i64 n] W fun e w' => e = .returned (.string (itoaB n)) ∧ Below W.heap.size W w' :=
  (Tryd.strconv_Itoa n (by omega) (by omega) W ht).mono (by rintro e w' ⟨rfl, k, os, rfl⟩; exact ⟨rfl, Lib.below_grow _ _ (Nat.le_refl _) _ _⟩)
theorem itoa_len (n : Int) (h0 : 0 ≤ n) (h1 : n ≤ 1048576) : (Lib.itoa n).length ≤ 20 := by
  obtain ⟨u, rfl⟩ := Int.eq_ofNat_of_zero_le h0
  rw [Lib.itoa_nonneg, Lib.decDigits_length]
  exact Lib.nDigits_le20 u (by omega)
def strconv_Itoa_45.f (a0 : Int) : Option ByteArray := if 0 ≤ a0 ∧ a0 ≤ 1048576 then some (itoaB a0) else none
theorem strconv_Itoa_45.calls (a0 : Int) (r : ByteArray) (w : World) (ht : Pow10 w) (h : strconv_Itoa_45.f a0 = some r) :
    Calls Tryd.prog 45 #[.int .i64 a0] w fun e w' => e = .returned (.string r) ∧ Below w.heap.size w w' := by
  unfold strconv_Itoa_45.f at h
  split at h
  next hc => obtain rfl := Option.some.inj h; exact itoa_calls a0 hc.1 hc.2 w ht
  next => cases h


end Go.Proofs.YtecpcbkoemhclaaDoor.P
