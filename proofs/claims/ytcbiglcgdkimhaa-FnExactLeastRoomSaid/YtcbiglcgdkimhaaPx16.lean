-- Laid by wip/myprint.py of this project (a wrapper over the kit's print.py); Lean checks it.
import Derived.Test.YtcbiglcgdkimhaaPx0
import Derived.Test.YtcbiglcgdkimhaaPx1
import Derived.Test.YtcbiglcgdkimhaaPx11
import Derived.Test.YtcbiglcgdkimhaaPx15
namespace Go.Proofs.Ytcbiglcgdkimhaa.P
open Go.RowKit Go.Proofs.YtcbiglcgdkimhaaW.PrintWords Go.Proofs.YtcbiglcgdkimhaaW.PrintLast Go.Proofs.YtcbiglcgdkimhaaW.PrintMore
attribute [local go_sem] max2_int min2_int max_two min_two max_three min_three max_four min_four   -- for this text's walks alone
set_option linter.unusedVariables false
set_option linter.unusedSimpArgs false

/-! ### impl_CountPackings: function 40 (by hand) -/
/-- How often 'each' has been called stands in block m. -/
def ManyP (m : Nat) (s : List (List Int)) (W : World) : Prop := W.heap[m]? = some (.cells #[.int .i64 (wrap64 (s.length : Int))] 3 (0, 0))
theorem manyP_stays (m : Nat) : StaysP (ManyP m) := fun s W W' h hb => (hb.block m (blk_lt h)).trans h
theorem wrapP_succ (a : Int) : wrap64 (wrap64 a + 1) = wrap64 (a + 1) := by unfold wrap64; omega
set_option maxHeartbeats 2000000 in
theorem manyP_each (m N0 : Nat) : EachP 80 #[.pointer (some ⟨m, 0, none⟩)] (fun k => k = m) N0 true (ManyP m) := by
  intro pre W A c p hj hr
  have hcell := cell_at_blk hj
  have hfr := blk_frozen hj 0
  have HJ := Aside0.mk hj
  have HW := Aside0.mk (wrapP_succ (pre.length : Int))
  clear hj hr
  go_enter Try.func80, Try.ntmps80
  go_wp2
  go_ret
  refine ⟨rfl, ?_, (Mod.refl (fun k => k = m) W).set (p := ⟨m, 0, none⟩) (.inl rfl) _⟩
  unfold ManyP
  rw [blk_set HJ.out]
  simp [HW.out]
def impl_CountPackings.f (k : Nat) (l0 : List Int) (a1 : Int) : Option (Int × Bool) := (impl_FewestBoxes.f k l0 a1).bind fun bt => if bt.2 = true then (if l0.length ≤ 9 then some (wrap64 ((plansL a1 bt.1 l0 [] []).length : Int), true) else none) else some (0, false)
theorem impl_CountPackings.mono : ∀ a0 a1 k, LeO (impl_CountPackings.f k a0 a1) (impl_CountPackings.f (k + 1) a0 a1) := by
  intro a0 a1 k
  unfold impl_CountPackings.f
  exact LeO.bind (impl_FewestBoxes.mono a0 a1 k) (fun _ => LeO.refl _)
theorem manyP_start (w : World) : ManyP w.heap.size [] (w.alloc (.cells #[.int .i64 0] 3)) := by
  unfold ManyP
  rw [heap_alloc_new]
  simp [wrap64]
set_option maxHeartbeats 4000000 in
theorem impl_CountPackings.calls (k : Nat) (A0 : Option Addr) (c0 : Nat) (l0 : List Int) (a1 : Int) (r1 : Int) (r2 : Bool) (w : World) (hr0 : Kd.C (Kd.int .i64) w A0 l0.length l0) (hc0 : l0.length ≤ c0) (h : impl_CountPackings.f k l0 a1 = some (r1, r2)) :
    Calls Try.prog 40 #[.slice A0 l0.length c0, .int .i64 a1] w fun e w' => e = .returned (.tuple #[.int .i64 r1, .bool r2]) ∧ Below w.heap.size w w' := by
  unfold impl_CountPackings.f at h
  obtain ⟨⟨most, t⟩, ht, h⟩ := Option.bind_eq_some_iff.mp h
  have HA := Aside0.mk (impl_FewestBoxes.calls k A0 c0 l0 a1 most t w hr0 hc0 ht)
  have HR := Aside0.mk hr0
  clear hr0 ht
  cases t with
  | false =>
    simp only [Bool.false_eq_true, if_false, Option.some.injEq, Prod.mk.injEq] at h
    obtain ⟨rfl, rfl⟩ := h
    go_enter Try.func40, Try.ntmps40
    go_wp2_with (go_at_call 36; refine HA.out.mono ?_; rintro e w1 ⟨rfl, hb1⟩; have HB1 := Aside0.mk hb1; clear hb1)
    go_ret2
    exact ⟨rfl, below_alloc' HB1.out _⟩
  | true =>
    simp only [if_true] at h
    by_cases hl : l0.length ≤ 9
    · rw [if_pos hl] at h
      simp only [Option.some.injEq, Prod.mk.injEq] at h
      obtain ⟨rfl, rfl⟩ := h
      have HP := Aside0.mk (fun (W : World) (m : Nat) => plans_calls (fun k => k = m) 80 #[.pointer (some ⟨m, 0, none⟩)] (entersOf Try.func80 (by kernel_rfl) rfl) true (ManyP m) (manyP_stays m) A0 c0 l0 most a1 W (manyP_each m _) hl)
      have HO : Aside0 (outL true (plansL a1 most l0 [] []) = plansL a1 most l0 [] []) := ⟨rfl⟩
      go_enter Try.func40, Try.ntmps40
      go_wp2_with (first | (go_at_call 36; refine HA.out.mono ?_; rintro e w1 ⟨rfl, hb1⟩; have HB1 := Aside0.mk hb1; clear hb1) | (go_at_call 76; refine (HP.out _ w1.heap.size (by simp) (manyP_start w1) (C_below (Kd.heap_int _) HR.out (below_alloc' HB1.out _)) (by rintro ad rfl hp; have := C_block_lt HR.out hp; have := HB1.out.size; omega)).mono ?_; rintro e w2 ⟨rfl, hj2, hm2⟩; rw [HO.out] at hj2; have HM2 := Aside0.mk hm2; have hcell := cell_at_blk hj2; clear hj2 hm2))
      go_ret2
      exact ⟨rfl, below_then HB1.out HB1.out.size (((Mod.refl _ w1).alloc _).trans (HM2.out) |>.below (fun k hk => by omega))⟩
    · rw [if_neg hl] at h; cases h


end Go.Proofs.Ytcbiglcgdkimhaa.P
