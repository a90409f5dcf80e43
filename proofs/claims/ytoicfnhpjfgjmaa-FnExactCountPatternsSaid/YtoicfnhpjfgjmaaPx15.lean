-- Laid by wip/myprint.py of this project (a wrapper over the kit's print.py); Lean checks it.
import Derived.Test.YtoicfnhpjfgjmaaPx0
import Derived.Test.YtoicfnhpjfgjmaaPx1
import Derived.Test.YtoicfnhpjfgjmaaPx6
import Derived.Test.YtoicfnhpjfgjmaaPx7
import Derived.Test.YtoicfnhpjfgjmaaPx10
import Derived.Test.YtoicfnhpjfgjmaaPx14
namespace Go.Proofs.Ytoicfnhpjfgjmaa.P
open Go.RowKit Go.Proofs.YtoicfnhpjfgjmaaW.PrintWords Go.Proofs.YtoicfnhpjfgjmaaW.PrintLast Go.Proofs.YtoicfnhpjfgjmaaW.PrintMore
attribute [local go_sem] max2_int min2_int max_two min_two max_three min_three max_four min_four   -- for this text's walks alone
set_option linter.unusedVariables false
set_option linter.unusedSimpArgs false

/-! ### impl_CountPatterns: function 34 (by hand) -/
/-- How often 'each' has been called stands in block m. -/
def Many (m : Nat) (s : List (List Int × Int)) (W : World) : Prop := W.heap[m]? = some (.cells #[.int .i64 (wrap64 (s.length : Int))] 3 (0, 0))
theorem many_stays (m : Nat) : Stays (Many m) := fun s W W' h hb => (hb.block m (blk_lt h)).trans h
theorem wrap64_succ (a : Int) : wrap64 (wrap64 a + 1) = wrap64 (a + 1) := by unfold wrap64; omega
set_option maxHeartbeats 2000000 in
theorem many_each (m : Nat) : Each 61 #[.pointer (some ⟨m, 0, none⟩)] (fun k => k = m) (Many m) := by
  intro pre W A c p n hj hr hc
  have hcell := cell_at_blk hj
  have hfr := blk_frozen hj 0
  have HJ := Aside0.mk hj
  have HW := Aside0.mk (wrap64_succ (pre.length : Int))
  clear hj hr hc
  go_enter Try.func61, Try.ntmps61
  go_wp2
  go_end0
  refine ⟨rfl, ?_, (Mod.refl (fun k => k = m) W).set (p := ⟨m, 0, none⟩) (.inl rfl) _⟩
  unfold Many
  rw [blk_set HJ.out]
  simp [HW.out]
theorem areLengths_inv (k : Nat) : ∀ (x : List Int) (i : Int), impl_AreLengths.l0 k x i = some true → inB 1 4 x.length = true ∧ allIn x 1 60 = true := by
  induction k with
  | zero => intro x i h; simp [impl_AreLengths.l0] at h
  | succ k ih =>
    intro x i h
    rw [impl_AreLengths.l0] at h
    by_cases h1 : i < (x.length : Int)
    · rw [if_pos h1] at h
      by_cases h2 : 0 ≤ i
      · rw [if_pos h2] at h
        by_cases h3 : 0 ≤ wrap64 (i - 1)
        · rw [if_pos h3] at h
          by_cases h4 : wrap64 (i - 1) < (x.length : Int)
          · rw [if_pos h4] at h
            by_cases h5 : rd x i ≤ rd x (wrap64 (i - 1))
            · rw [if_pos h5] at h; simp at h
            · rw [if_neg h5] at h; exact ih _ _ h
          · rw [if_neg h4] at h; simp at h
        · rw [if_neg h3] at h; simp at h
      · rw [if_neg h2] at h; simp at h
    · rw [if_neg h1, within_inB, Option.bind_some] at h
      by_cases h6 : inB 1 4 (x.length : Int) = true
      · rw [if_pos h6] at h
        unfold impl_areWithin.f at h
        exact ⟨h6, by simpa using h⟩
      · rw [if_neg h6] at h; simp at h
theorem areRod_inv {k : Nat} {n : Int} {l : List Int} (h : impl_areRod.f k n l = some true) : (1 ≤ n ∧ n ≤ 60) ∧ l.length ≤ 4 ∧ ∀ x ∈ l, 1 ≤ x ∧ x ≤ 60 := by
  unfold impl_areRod.f impl_isRod.f at h
  rw [within_inB] at h
  simp only [Option.bind_some] at h
  by_cases h1 : inB 1 60 n = true
  · rw [if_pos h1] at h
    have h2 : impl_AreLengths.f k l = some true := by cases h3 : impl_AreLengths.f k l <;> rw [h3] at h <;> simp at h; rw [h]
    obtain ⟨h4, h5⟩ := areLengths_inv k l 1 h2
    refine ⟨by simpa [inB] using h1, by have : 1 ≤ (l.length : Int) ∧ (l.length : Int) ≤ 4 := by { simpa [inB] using h4 }; omega, fun x hx => ?_⟩
    unfold allIn at h5
    simp only [Bool.not_eq_true', List.any_eq_false] at h5
    simpa [inB] using h5 x hx
  · rw [if_neg h1] at h; simp at h
def impl_CountPatterns.f (k : Nat) (a0 : Int) (l1 : List Int) : Option (Int × Bool) := (impl_areRod.f k a0 l1).bind fun t => if t = true then some (wrap64 ((pats l1 [] a0).length : Int), true) else some (0, false)
theorem impl_CountPatterns.mono : ∀ a0 a1 k, LeO (impl_CountPatterns.f k a0 a1) (impl_CountPatterns.f (k + 1) a0 a1) := by
  intro a0 a1 k
  unfold impl_CountPatterns.f
  exact LeO.bind (impl_areRod.mono a0 a1 k) (fun _ => LeO.refl _)
theorem many_start (w : World) : Many w.heap.size [] (w.alloc (.cells #[.int .i64 0] 3)) := by
  unfold Many
  rw [heap_alloc_new]
  simp [wrap64]
set_option maxHeartbeats 4000000 in
theorem impl_CountPatterns.calls (k : Nat) (a0 : Int) (A1 : Option Addr) (c1 : Nat) (l1 : List Int) (r1 : Int) (r2 : Bool) (w : World) (hr1 : Kd.C (Kd.int .i64) w A1 l1.length l1) (hc1 : l1.length ≤ c1) (h : impl_CountPatterns.f k a0 l1 = some (r1, r2)) :
    Calls Try.prog 34 #[.int .i64 a0, .slice A1 l1.length c1] w fun e w' => e = .returned (.tuple #[.int .i64 r1, .bool r2]) ∧ Below w.heap.size w w' := by
  unfold impl_CountPatterns.f at h
  obtain ⟨t, ht, h⟩ := Option.bind_eq_some_iff.mp h
  have HA := Aside0.mk (fun W hr => impl_areRod.calls k a0 A1 c1 l1 t W hr hc1 ht)
  have HR := Aside0.mk hr1
  have HT := Aside0.mk ht
  clear hr1 ht
  cases t with
  | false =>
    simp only [Bool.false_eq_true, if_false, Option.some.injEq, Prod.mk.injEq] at h
    obtain ⟨rfl, rfl⟩ := h
    go_enter Try.func34, Try.ntmps34
    go_wp2_with (go_at_call 52; refine (HA.out _ HR.out).mono ?_; rintro e w1 ⟨rfl, hb1⟩)
    go_ret2
    exact ⟨rfl, hb1⟩
  | true =>
    simp only [if_true, Option.some.injEq, Prod.mk.injEq] at h
    obtain ⟨rfl, rfl⟩ := h
    obtain ⟨⟨n0, n1⟩, hl, hg⟩ := areRod_inv HT.out
    have HP := Aside0.mk (fun (W : World) (m : Nat) => patterns_calls (fun k => k = m) 61 #[.pointer (some ⟨m, 0, none⟩)] (entersOf Try.func61 (by kernel_rfl) rfl) (Many m) (many_stays m) (many_each m) A1 c1 l1 a0 W hl hg (by omega) n1)
    clear hg
    go_enter Try.func34, Try.ntmps34
    go_wp2_with (first | (go_at_call 52; refine (HA.out _ HR.out).mono ?_; rintro e w1 ⟨rfl, hb1⟩; have HB1 := Aside0.mk hb1; clear hb1) | (go_at_call 60; refine (HP.out _ w1.heap.size (by simp) (many_start w1) (C_below (Kd.heap_int _) HR.out (below_alloc' HB1.out _)) (by rintro ad rfl hp; have := C_block_lt HR.out hp; have := HB1.out.size; omega)).mono ?_; rintro e w2 ⟨rfl, hj2, hm2⟩; have HJ2 := Aside0.mk hj2; have HM2 := Aside0.mk hm2; have hcell := cell_at_blk hj2; clear hj2 hm2))
    go_ret2
    exact ⟨rfl, below_then HB1.out HB1.out.size (((Mod.refl _ w1).alloc _).trans (HM2.out) |>.below (fun k hk => by omega))⟩


end Go.Proofs.Ytoicfnhpjfgjmaa.P
