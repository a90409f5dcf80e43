-- Laid by wip/myprint.py of this project (a wrapper over the kit's print.py); Lean checks it.
import Derived.Test.YthdfkgehgkfffaaPx0
import Derived.Test.YthdfkgehgkfffaaPx1
import Derived.Test.YthdfkgehgkfffaaPx7
namespace Go.Proofs.Ythdfkgehgkfffaa.P
open Go.RowKit Go.Proofs.YthdfkgehgkfffaaW.PrintWords Go.Proofs.YthdfkgehgkfffaaW.PrintLast Go.Proofs.YthdfkgehgkfffaaW.PrintMore
attribute [local go_sem] max2_int min2_int max_two min_two max_three min_three max_four min_four   -- for this text's walks alone
set_option linter.unusedVariables false
set_option linter.unusedSimpArgs false

/-! ### spec_shLowest: function 31 -/
mutual
def spec_shLowest.l0 : Nat → List (S40) → Int → Int → List Int → List Int → List Int → Int → Option (List Int × Int × Int)
  | 0, _, _, _, _, _, _, _ => none
  | k + 1, x0, x1, x7, x8, x9, x10, x11 => if x11 ≥ 0 then (spec_shLowest.l1 k x0 x1 x7 x8 x9 x10 x11 0 0 (wrap64 (x11 + 1))) else (spec_shLowest.l2 k x7 x8 x9 x10 ([] : List Int) 0)
def spec_shLowest.l1 : Nat → List (S40) → Int → Int → List Int → List Int → List Int → Int → Int → Int → Int → Option (List Int × Int × Int)
  | 0, _, _, _, _, _, _, _, _, _, _ => none
  | k + 1, x0, x1, x7, x8, x9, x10, x11, x12, x13, x14 => if x14 ≤ x7 then (if 0 ≤ (wrap64 (x14 - 1)) then (if (wrap64 (x14 - 1)) < (x0.length : Int) then ((spec_l1Most.f x13 ((rd_T40 x0 (wrap64 (x14 - 1))).f1)).bind fun t232 => (if (wrap64 (x12 + ((rd_T40 x0 (wrap64 (x14 - 1))).f0))) > x1 then (spec_shLowest.l0 k x0 x1 x7 x8 x9 x10 (wrap64 (x11 - 1))) else (if 0 ≤ x14 then (if x14 < (x8.length : Int) then (if 0 ≤ x11 then (if x11 < (x9.length : Int) then (if (rd x9 x11) = 0 then (spec_shLowest.j2 k x0 x1 x7 x8 x9 x10 x11 (wrap64 (x12 + ((rd_T40 x0 (wrap64 (x14 - 1))).f0))) t232 x14 (wrap64 (t232 + (rd x8 x14))) true) else (if x11 < (x8.length : Int) then (spec_shLowest.j2 k x0 x1 x7 x8 x9 x10 x11 (wrap64 (x12 + ((rd_T40 x0 (wrap64 (x14 - 1))).f0))) t232 x14 (wrap64 (t232 + (rd x8 x14))) (decide ((wrap64 (t232 + (rd x8 x14))) < (rd x8 x11)))) else (none))) else (none)) else (none)) else (none)) else (none)))) else (none)) else (none)) else (spec_shLowest.l0 k x0 x1 x7 x8 x9 x10 (wrap64 (x11 - 1)))
def spec_shLowest.j2 : Nat → List (S40) → Int → Int → List Int → List Int → List Int → Int → Int → Int → Int → Int → Bool → Option (List Int × Int × Int)
  | 0, _, _, _, _, _, _, _, _, _, _, _, _ => none
  | k + 1, x0, x1, x7, x8, x9, x10, x11, x12, x13, x14, x15, x70 => if x70 = true then (if 0 ≤ x11 then (if x11 < (x8.length : Int) then (if 0 ≤ x14 then (if x14 < (x9.length : Int) then (if x11 < (x9.length : Int) then (if x11 < (x10.length : Int) then (spec_shLowest.l1 k x0 x1 x7 (x8.set (x11 : Int).toNat x15) (x9.set (x11 : Int).toNat (rd x9 x14)) (x10.set (x11 : Int).toNat x14) x11 x12 x13 (wrap64 (x14 + 1))) else (none)) else (none)) else (none)) else (none)) else (none)) else (none)) else (if 0 ≤ x11 then (if x11 < (x8.length : Int) then (if x15 = (rd x8 x11) then (if x11 < (x9.length : Int) then (if 0 ≤ x14 then (if x14 < (x9.length : Int) then ((some (x9.set (x11 : Int).toNat (wrap64 ((rd x9 x11) + (rd x9 x14))) : List Int)).bind fun y243 => (if x14 = x7 then (if x11 < (x10.length : Int) then (spec_shLowest.l1 k x0 x1 x7 x8 y243 (x10.set (x11 : Int).toNat x14) x11 x12 x13 (wrap64 (x14 + 1))) else (none)) else (spec_shLowest.l1 k x0 x1 x7 x8 y243 x10 x11 x12 x13 (wrap64 (x14 + 1))))) else (none)) else (none)) else (none)) else (spec_shLowest.l1 k x0 x1 x7 x8 x9 x10 x11 x12 x13 (wrap64 (x14 + 1)))) else (none)) else (none))
def spec_shLowest.l2 : Nat → Int → List Int → List Int → List Int → List Int → Int → Option (List Int × Int × Int)
  | 0, _, _, _, _, _, _ => none
  | k + 1, x7, x8, x9, x10, x16, x17 => if x17 < x7 then (if x16.length < 17592186044416 then (if 0 ≤ x17 then (if x17 < (x10.length : Int) then (spec_shLowest.l2 k x7 x8 x9 x10 (x16 ++ [x17]) (rd x10 x17)) else (none)) else (none)) else (none)) else (if 0 < (x8.length : Int) then (if 0 < (x9.length : Int) then (some (x16, rd x8 0, rd x9 0)) else (none)) else (none))
end
def spec_shLowest.f (k : Nat) (l0 : List (S40)) (a1 : Int) : Option (List Int × Int × Int) := if 0 ≤ (wrap64 ((l0.length : Int) + 1)) then (if (wrap64 ((l0.length : Int) + 1) : Int).toNat ≤ 35184372088832 then ((some (List.replicate (wrap64 ((l0.length : Int) + 1) : Int).toNat 0 : List Int)).bind fun y223 => (if 0 ≤ (l0.length : Int) then (if (l0.length : Int) < (y223.length : Int) then (spec_shLowest.l0 k l0 a1 (l0.length : Int) (List.replicate (wrap64 ((l0.length : Int) + 1) : Int).toNat 0) (y223.set ((l0.length : Int) : Int).toNat 1) (List.replicate (wrap64 ((l0.length : Int) + 1) : Int).toNat 0) (wrap64 ((l0.length : Int) - 1))) else (none)) else (none))) else (none)) else (none)
theorem spec_shLowest.mono_l : ∀ k, (∀ y0 y1 y2 y3 y4 y5 y6, LeO (spec_shLowest.l0 k y0 y1 y2 y3 y4 y5 y6) (spec_shLowest.l0 (k + 1) y0 y1 y2 y3 y4 y5 y6)) ∧ (∀ y0 y1 y2 y3 y4 y5 y6 y7 y8 y9, LeO (spec_shLowest.l1 k y0 y1 y2 y3 y4 y5 y6 y7 y8 y9) (spec_shLowest.l1 (k + 1) y0 y1 y2 y3 y4 y5 y6 y7 y8 y9)) ∧ (∀ y0 y1 y2 y3 y4 y5 y6 y7 y8 y9 y10 y11, LeO (spec_shLowest.j2 k y0 y1 y2 y3 y4 y5 y6 y7 y8 y9 y10 y11) (spec_shLowest.j2 (k + 1) y0 y1 y2 y3 y4 y5 y6 y7 y8 y9 y10 y11)) ∧ (∀ y0 y1 y2 y3 y4 y5, LeO (spec_shLowest.l2 k y0 y1 y2 y3 y4 y5) (spec_shLowest.l2 (k + 1) y0 y1 y2 y3 y4 y5))
  | 0 => ⟨fun _ _ _ _ _ _ _ r h => by simp [spec_shLowest.l0] at h, fun _ _ _ _ _ _ _ _ _ _ r h => by simp [spec_shLowest.l1] at h, fun _ _ _ _ _ _ _ _ _ _ _ _ r h => by simp [spec_shLowest.j2] at h, fun _ _ _ _ _ _ r h => by simp [spec_shLowest.l2] at h⟩
  | k + 1 => by
    obtain ⟨ih0, ih1, ih2, ih3⟩ := spec_shLowest.mono_l k
    refine ⟨?_, ?_, ?_, ?_⟩
    · intro y0 y1 y2 y3 y4 y5 y6
      unfold spec_shLowest.l0
      repeat' first
      | (with_reducible exact ih0 _ _ _ _ _ _ _)
      | (with_reducible exact ih1 _ _ _ _ _ _ _ _ _ _)
      | (with_reducible exact ih2 _ _ _ _ _ _ _ _ _ _ _ _)
      | (with_reducible exact ih3 _ _ _ _ _ _)
      | (with_reducible exact LeO.refl _)
      | (with_reducible exact LeO.none _)
      | (with_reducible refine LeO.ite ?_ ?_)
      | (with_reducible refine LeO.bind ?_ (fun _ => ?_))
      | exact ih0 _ _ _ _ _ _ _
      | exact ih1 _ _ _ _ _ _ _ _ _ _
      | exact ih2 _ _ _ _ _ _ _ _ _ _ _ _
      | exact ih3 _ _ _ _ _ _
      | exact LeO.none _
      | refine LeO.ite ?_ ?_
      | refine LeO.bind ?_ (fun _ => ?_)
    · intro y0 y1 y2 y3 y4 y5 y6 y7 y8 y9
      unfold spec_shLowest.l1
      repeat' first
      | (with_reducible exact ih0 _ _ _ _ _ _ _)
      | (with_reducible exact ih1 _ _ _ _ _ _ _ _ _ _)
      | (with_reducible exact ih2 _ _ _ _ _ _ _ _ _ _ _ _)
      | (with_reducible exact ih3 _ _ _ _ _ _)
      | (with_reducible exact LeO.refl _)
      | (with_reducible exact LeO.none _)
      | (with_reducible refine LeO.ite ?_ ?_)
      | (with_reducible refine LeO.bind ?_ (fun _ => ?_))
      | exact ih0 _ _ _ _ _ _ _
      | exact ih1 _ _ _ _ _ _ _ _ _ _
      | exact ih2 _ _ _ _ _ _ _ _ _ _ _ _
      | exact ih3 _ _ _ _ _ _
      | exact LeO.none _
      | refine LeO.ite ?_ ?_
      | refine LeO.bind ?_ (fun _ => ?_)
    · intro y0 y1 y2 y3 y4 y5 y6 y7 y8 y9 y10 y11
      unfold spec_shLowest.j2
      repeat' first
      | (with_reducible exact ih0 _ _ _ _ _ _ _)
      | (with_reducible exact ih1 _ _ _ _ _ _ _ _ _ _)
      | (with_reducible exact ih2 _ _ _ _ _ _ _ _ _ _ _ _)
      | (with_reducible exact ih3 _ _ _ _ _ _)
      | (with_reducible exact LeO.refl _)
      | (with_reducible exact LeO.none _)
      | (with_reducible refine LeO.ite ?_ ?_)
      | (with_reducible refine LeO.bind ?_ (fun _ => ?_))
      | exact ih0 _ _ _ _ _ _ _
      | exact ih1 _ _ _ _ _ _ _ _ _ _
      | exact ih2 _ _ _ _ _ _ _ _ _ _ _ _
      | exact ih3 _ _ _ _ _ _
      | exact LeO.none _
      | refine LeO.ite ?_ ?_
      | refine LeO.bind ?_ (fun _ => ?_)
    · intro y0 y1 y2 y3 y4 y5
      unfold spec_shLowest.l2
      repeat' first
      | (with_reducible exact ih0 _ _ _ _ _ _ _)
      | (with_reducible exact ih1 _ _ _ _ _ _ _ _ _ _)
      | (with_reducible exact ih2 _ _ _ _ _ _ _ _ _ _ _ _)
      | (with_reducible exact ih3 _ _ _ _ _ _)
      | (with_reducible exact LeO.refl _)
      | (with_reducible exact LeO.none _)
      | (with_reducible refine LeO.ite ?_ ?_)
      | (with_reducible refine LeO.bind ?_ (fun _ => ?_))
      | exact ih0 _ _ _ _ _ _ _
      | exact ih1 _ _ _ _ _ _ _ _ _ _
      | exact ih2 _ _ _ _ _ _ _ _ _ _ _ _
      | exact ih3 _ _ _ _ _ _
      | exact LeO.none _
      | refine LeO.ite ?_ ?_
      | refine LeO.bind ?_ (fun _ => ?_)
theorem spec_shLowest.mono : ∀ a0 a1 k, LeO (spec_shLowest.f k a0 a1) (spec_shLowest.f (k + 1) a0 a1) := by
  intro a0 a1 k
  obtain ⟨ih0, ih1, ih2, ih3⟩ := spec_shLowest.mono_l k
  unfold spec_shLowest.f
  repeat' first
      | (with_reducible exact ih0 _ _ _ _ _ _ _)
      | (with_reducible exact ih1 _ _ _ _ _ _ _ _ _ _)
      | (with_reducible exact ih2 _ _ _ _ _ _ _ _ _ _ _ _)
      | (with_reducible exact ih3 _ _ _ _ _ _)
      | (with_reducible exact LeO.refl _)
      | (with_reducible exact LeO.none _)
      | (with_reducible refine LeO.ite ?_ ?_)
      | (with_reducible refine LeO.bind ?_ (fun _ => ?_))
      | exact ih0 _ _ _ _ _ _ _
      | exact ih1 _ _ _ _ _ _ _ _ _ _
      | exact ih2 _ _ _ _ _ _ _ _ _ _ _ _
      | exact ih3 _ _ _ _ _ _
      | exact LeO.none _
      | refine LeO.ite ?_ ?_
      | refine LeO.bind ?_ (fun _ => ?_)
def spec_shLowest.T22 : Bool × List (List Nat × List Nat) := (true, [([], []), ([], []), ([0, 1], [0, 1]), ([2], [2]), ([], []), ([], []), ([4, 5], [4, 5]), ([6], [6]), ([3, 7], [3, 7]), ([0, 1, 0, 1, 2, 3, 4, 5, 6, 7, 8], [0, 1]), ([9, 8, 0, 1, 2, 3, 4, 5, 6, 7, 8], [8, 9])])
def spec_shLowest.B22 : List Nat := [0, 0, 3, 7, 0, 0, 48, 112, 255, 511, 1023]
theorem spec_shLowest.tab22 : rtab .any (opsOf Try.f31 22) = spec_shLowest.T22 := by kernel_rfl
theorem spec_shLowest.bits22 : waitsOk spec_shLowest.T22.2 spec_shLowest.B22 = true := by kernel_rfl
def spec_shLowest.T30 : Bool × List (List Nat × List Nat) := (true, [([], []), ([], []), ([1], [1]), ([2], [2]), ([], []), ([4], [4]), ([5], [5]), ([0, 0], [0]), ([3, 7, 0, 1, 2, 3, 7], [3]), ([6, 8, 0, 1, 2, 3, 4, 5, 6, 7, 8], [6])])
def spec_shLowest.B30 : List Nat := [0, 0, 2, 6, 0, 16, 48, 1, 143, 511]
theorem spec_shLowest.tab30 : rtab .any (opsOf Try.f31 30) = spec_shLowest.T30 := by kernel_rfl
theorem spec_shLowest.bits30 : waitsOk spec_shLowest.T30.2 spec_shLowest.B30 = true := by kernel_rfl
set_option maxHeartbeats 8000000 in
set_option maxRecDepth 100000 in
theorem spec_shLowest.calls (k : Nat) (A0 : Option Addr) (c0 : Nat) (l0 : List (S40)) (a1 : Int) (r1 : List Int) (r2 : Int) (r3 : Int) (w : World) (hr0 : Kd.C k40 w A0 l0.length l0) (hc0 : l0.length ≤ c0) (h : spec_shLowest.f k l0 a1 = some (r1, r2, r3)) :
    Calls Try.prog 31 #[.slice A0 l0.length c0, .int .i64 a1] w fun e w' => ∃ v0_ : Value, e = .returned (.tuple #[v0_, .int .i64 r2, .int .i64 r3]) ∧ Kd.R (Kd.int .i64) 3 w' w.heap.size (fun _ => True) v0_ r1 ∧ Below w.heap.size w w' := by
  have HR0 := Aside0.mk hr0
  have HC0 := Aside0.mk hc0
  clear hr0 hc0
  have HB := Aside0.mk (Below.refl w.heap.size w)
  have H : (if 0 ≤ (wrap64 ((l0.length : Int) + 1)) then (if (wrap64 ((l0.length : Int) + 1) : Int).toNat ≤ 35184372088832 then ((some (List.replicate (wrap64 ((l0.length : Int) + 1) : Int).toNat 0 : List Int)).bind fun y223 => (if 0 ≤ (l0.length : Int) then (if (l0.length : Int) < (y223.length : Int) then (spec_shLowest.l0 k l0 a1 (l0.length : Int) (List.replicate (wrap64 ((l0.length : Int) + 1) : Int).toNat 0) (y223.set ((l0.length : Int) : Int).toNat 1) (List.replicate (wrap64 ((l0.length : Int) + 1) : Int).toNat 0) (wrap64 ((l0.length : Int) - 1))) else (none)) else (none))) else (none)) else (none)) = some (r1, r2, r3) := h
  clear h
  obtain ⟨ji3, hji3⟩ : ∃ j_ : Int, (wrap64 ((l0.length : Int) + 1)) = j_ := ⟨_, rfl⟩
  replace H : (if 0 ≤ (ji3) then (if (ji3 : Int).toNat ≤ 35184372088832 then ((some (List.replicate (ji3 : Int).toNat 0 : List Int)).bind fun y223 => (if 0 ≤ (l0.length : Int) then (if (l0.length : Int) < (y223.length : Int) then (spec_shLowest.l0 k l0 a1 (l0.length : Int) (List.replicate (ji3 : Int).toNat 0) (y223.set ((l0.length : Int) : Int).toNat 1) (List.replicate (ji3 : Int).toNat 0) (wrap64 ((l0.length : Int) - 1))) else (none)) else (none))) else (none)) else (none)) = some (r1, r2, r3) := by first | (rw [hji3] at H; exact H) | (simp only [hji3] at H ⊢; exact H)
  have hji3w : (IntKind.i64.wrap ((l0.length : Int) + 1)) = ji3 := (i64_w _).trans hji3
  by_cases c4 : 0 ≤ (ji3)
  · rw [if_pos c4] at H
    have c4b0 := eq_true c4
    have c4b1 : decide (0 ≤ (ji3)) = true := decide_eq_true c4
    clear c4
    by_cases c5 : (ji3 : Int).toNat ≤ 35184372088832
    · rw [if_pos c5] at H
      have c5b0 := eq_true c5
      have c5b1 : decide ((ji3 : Int).toNat ≤ 35184372088832) = true := decide_eq_true c5
      clear c5
      obtain ⟨y220, hy220⟩ : ∃ y_ : List Int, y_ = (List.replicate (ji3 : Int).toNat 0) := ⟨_, rfl⟩
      replace H : ((some (List.replicate (ji3 : Int).toNat 0 : List Int)).bind fun y223 => (if 0 ≤ (l0.length : Int) then (if (l0.length : Int) < (y223.length : Int) then (spec_shLowest.l0 k l0 a1 (l0.length : Int) y220 (y223.set ((l0.length : Int) : Int).toNat 1) (List.replicate (ji3 : Int).toNat 0) (wrap64 ((l0.length : Int) - 1))) else (none)) else (none))) = some (r1, r2, r3) := by first | (rw [hy220]; with_reducible exact H) | (have H2_ := (Option.bind_some _ _).symm.trans H; rw [hy220]; with_reducible exact H2_) | (have H2_ := (Option.bind_some _ _).symm.trans H; with_reducible exact H2_) | with_reducible exact H | (rw [hy220]; exact H) | exact H
      have Ny220 := Aside0.mk hy220
      clear hy220
      obtain ⟨y223, hy223⟩ : ∃ y_ : List Int, y_ = (List.replicate (ji3 : Int).toNat 0) := ⟨_, rfl⟩
      replace H : (if 0 ≤ (l0.length : Int) then (if (l0.length : Int) < (y223.length : Int) then (spec_shLowest.l0 k l0 a1 (l0.length : Int) y220 (y223.set ((l0.length : Int) : Int).toNat 1) (List.replicate (ji3 : Int).toNat 0) (wrap64 ((l0.length : Int) - 1))) else (none)) else (none)) = some (r1, r2, r3) := by first | (rw [hy223]; with_reducible exact H) | (have H2_ := (Option.bind_some _ _).symm.trans H; rw [hy223]; with_reducible exact H2_) | (have H2_ := (Option.bind_some _ _).symm.trans H; with_reducible exact H2_) | with_reducible exact H | (rw [hy223]; exact H) | exact H
      have Ny223 := Aside0.mk hy223
      clear hy223
      by_cases c6 : 0 ≤ (l0.length : Int)
      · rw [if_pos c6] at H
        have c6b0 : decide (0 ≤ (l0.length : Int)) = true := decide_eq_true c6
        have c6b1 : decide (0 ≤ l0.length) = true := decide_eq_true (by omega)
        clear c6
        by_cases c7 : (l0.length : Int) < (y223.length : Int)
        · rw [if_pos c7] at H
          have c7b0 : decide ((l0.length : Int) < (y223.length : Int)) = true := decide_eq_true c7
          have c7b1 : decide (l0.length < y223.length) = true := decide_eq_true (Int.ofNat_lt.mp c7)
          clear c7
          obtain ⟨y226, hy226⟩ : ∃ y_ : List Int, y_ = (y223.set ((l0.length : Int) : Int).toNat 1) := ⟨_, rfl⟩
          replace H : (spec_shLowest.l0 k l0 a1 (l0.length : Int) y220 y226 (List.replicate (ji3 : Int).toNat 0) (wrap64 ((l0.length : Int) - 1))) = some (r1, r2, r3) := by first | (rw [hy226]; with_reducible exact H) | (have H2_ := (Option.bind_some _ _).symm.trans H; rw [hy226]; with_reducible exact H2_) | (have H2_ := (Option.bind_some _ _).symm.trans H; with_reducible exact H2_) | with_reducible exact H | (rw [hy226]; exact H) | exact H
          have Ny226 := Aside0.mk hy226
          clear hy226
          obtain ⟨y227, hy227⟩ : ∃ y_ : List Int, y_ = (List.replicate (ji3 : Int).toNat 0) := ⟨_, rfl⟩
          replace H : (spec_shLowest.l0 k l0 a1 (l0.length : Int) y220 y226 y227 (wrap64 ((l0.length : Int) - 1))) = some (r1, r2, r3) := by first | (rw [hy227]; with_reducible exact H) | (have H2_ := (Option.bind_some _ _).symm.trans H; rw [hy227]; with_reducible exact H2_) | (have H2_ := (Option.bind_some _ _).symm.trans H; with_reducible exact H2_) | with_reducible exact H | (rw [hy227]; exact H) | exact H
          have Ny227 := Aside0.mk hy227
          clear hy227
          have H' := Aside0.mk H
          clear H
          go_enter Try.func31, Try.ntmps31
          go_wp2_with (first | ((with_reducible refine gate_dst (N := 22) rfl ?_); refine Kd.R_make (Kd.int .i64) _ 3 rfl (N := 22) rfl 30 _ _ rfl ji3 rfl rfl Try.underlying30 (.int .i64 0) 8 info3 rfl (by decide) (by omega) 0 (ok := fun _ => True) (okp := fun _ => True) rfl (fun _ hk => hk) trivial (of_decide_eq_true (by first | (with_reducible assumption) | assumption)) (Nat.le_trans (Nat.mul_le_mul_right _ (of_decide_eq_true (by first | (with_reducible assumption) | assumption) : ji3.toNat ≤ 35184372088832)) (by omega)) (Below.refl _ _) (Nat.le_refl _) ?_; intro v221 w9 ho10 hb hg_ hnew_; clear hg_ hnew_; (first | rw [← Ny220.out] at ho10 | (simp only [Int.reduceToNat] at ho10; rw [← Ny220.out] at ho10)); have n0_ := Aside0.mk (Kd.R_lower ho10 (below_size (by repeat (first | (with_reducible first | exact HB.out | apply below_alloc | apply pw_below_drewN | apply below_drew1) | exact HB.out)))); have n1_ := Aside0.mk (below_step (by repeat (first | (with_reducible first | exact HB.out | apply below_alloc | apply pw_below_drewN | apply below_drew1) | exact HB.out)) hb); clear HB; have HO222 := n0_; have HB := n1_; clear n0_ n1_; clear hb ho10) | ((with_reducible refine gate_dst (N := 25) rfl ?_); refine Kd.R_make (Kd.int .i64) _ 3 rfl (N := 25) rfl 30 _ _ rfl ji3 rfl rfl Try.underlying30 (.int .i64 0) 8 info3 rfl (by decide) (by omega) 0 (ok := fun _ => True) (okp := fun _ => True) rfl (fun _ hk => hk) trivial (of_decide_eq_true (by first | (with_reducible assumption) | assumption)) (Nat.le_trans (Nat.mul_le_mul_right _ (of_decide_eq_true (by first | (with_reducible assumption) | assumption) : ji3.toNat ≤ 35184372088832)) (by omega)) (Below.refl _ _) (Nat.le_refl _) ?_; intro v224 w11 ho12 hb hg_ hnew_; clear hg_ hnew_; (first | rw [← Ny223.out] at ho12 | (simp only [Int.reduceToNat] at ho12; rw [← Ny223.out] at ho12)); have n0_ := Aside0.mk (Kd.R_elder' (by (with_reducible repeat (first | apply Kd.R_alloc | apply Kd.R_drewN | apply Kd.R_drew)); exact HO222.out) (Kd.R_base ho12) hb); have n1_ := Aside0.mk (Kd.R_lower (Kd.R_new' ho12 (Kd.R_lt (by (with_reducible repeat (first | apply Kd.R_alloc | apply Kd.R_drewN | apply Kd.R_drew)); exact HO222.out))) (below_size (by repeat (first | (with_reducible first | exact HB.out | apply below_alloc | apply pw_below_drewN | apply below_drew1) | exact HB.out)))); have n2_ := Aside0.mk (below_step (by repeat (first | (with_reducible first | exact HB.out | apply below_alloc | apply pw_below_drewN | apply below_drew1) | exact HB.out)) hb); clear HO222; clear HB; have HO222 := n0_; have HO225 := n1_; have HB := n2_; clear n0_ n1_ n2_; clear hb ho12; have p8 : 0 ≤ ((l0.length : Int) : Int) := of_decide_eq_true (by first | (with_reducible assumption) | assumption); have q8 : ((l0.length : Int) : Int) < ((y223.length : Int) : Int) := of_decide_eq_true (by first | (with_reducible assumption) | assumption); obtain ⟨go8, co8, eo8, gb8, gl8, cl8, HG8⟩ := Kd.R_form HO225.out (by omega); (first | cases eo8 | (injection eo8 with ea_ en_ ec_; (first | subst ea_ | (injection ea_ with ea_; subst ea_)); subst ec_; clear en_)); have GB8 := Aside0.mk gb8; have GG8 := Aside0.mk HG8; clear gb8 gl8 HG8; obtain ⟨hx8_0, hf8_0⟩ := Kd.R_celln 0 HO225.out ((l0.length : Int) : Int) p8 q8; replace p8 := eq_true p8; replace q8 := eq_true q8; have n_ := Aside0.mk (Kd.R_mono (ok' := (fun k_ => some k_ ≠ (v221 : Value).ownBlock)) HO225.out (fun k_ hk => hk.2)); clear HO225; have HO225 := n_; clear n_; obtain ⟨hy13_, hz13_⟩ := Kd.R_celln 0 HO225.out ((l0.length : Int) : Int) (of_decide_eq_true (by first | (with_reducible assumption) | assumption)) (of_decide_eq_true (by first | (with_reducible assumption) | assumption)); (try simp only [Go.IntWalk.toNatUp] at hy13_ hz13_); have HP13 := Kd.R_putg HO225.out ((l0.length : Int) : Int) 1) | ((with_reducible refine gate_store (t := 3) (p := 28) rfl ?_); refine store_event (t := 3) (p := 28) (v := ?vo_w14) (w1 := (w11.setCell ⟨go8, l0.length, none⟩ (.int .i64 1))) ?hg ?ho ?hn ?hr ?_; (case ho => rfl); (case hg => rfl); (case hn => rfl); (case hr => first | (go_simp; done) | (go_simp; rfl)); intro w14 hw; have hg : w11.grownBy w14 (some go8) := (by rw [hw]; exact HP13.2); have hp_ : Kd.R (Kd.int .i64) 3 w14 w.heap.size (fun k_ => some k_ ≠ (v221 : Value).ownBlock) (.slice (some ⟨go8, 0, none⟩) y223.length co8) y226 := (by rw [hw, Ny226.out]; exact HP13.1); clear HP13; have n0_ := Aside0.mk (Kd.R_after (v := (.slice (some ⟨go8, 0, none⟩) y223.length co8)) (v1 := (.slice (some ⟨go8, 0, none⟩) y223.length co8)) (ok := (fun _ => True)) (by (with_reducible repeat (first | apply Kd.R_alloc | apply Kd.R_drewN | apply Kd.R_drew)); exact HO222.out) hg (.inl rfl)); have n1_ := Aside0.mk (hp_); have n2_ := Aside0.mk ((by rw [hw]; exact below_set (HB.out) GB8.out : Below w.heap.size w w14)); clear HO222; clear HO225; clear HB; have HO222 := n0_; have HO225 := n1_; have HB := n2_; clear n0_ n1_ n2_; clear hg hw hp_) | ((with_reducible refine gate_dst (N := 31) rfl ?_); refine Kd.R_make (Kd.int .i64) _ 3 rfl (N := 31) rfl 30 _ _ rfl ji3 rfl rfl Try.underlying30 (.int .i64 0) 8 info3 rfl (by decide) (by omega) 0 (ok := fun _ => True) (okp := fun _ => True) rfl (fun _ hk => hk) trivial (of_decide_eq_true (by first | (with_reducible assumption) | assumption)) (Nat.le_trans (Nat.mul_le_mul_right _ (of_decide_eq_true (by first | (with_reducible assumption) | assumption) : ji3.toNat ≤ 35184372088832)) (by omega)) (Below.refl _ _) (Nat.le_refl _) ?_; intro v228 w15 ho16 hb hg_ hnew_; clear hg_ hnew_; (first | rw [← Ny227.out] at ho16 | (simp only [Int.reduceToNat] at ho16; rw [← Ny227.out] at ho16)); have n0_ := Aside0.mk (Kd.R_elder' (by (with_reducible repeat (first | apply Kd.R_alloc | apply Kd.R_drewN | apply Kd.R_drew)); exact HO222.out) (Kd.R_base ho16) hb); have n1_ := Aside0.mk (Kd.R_elder' (by (with_reducible repeat (first | apply Kd.R_alloc | apply Kd.R_drewN | apply Kd.R_drew)); exact HO225.out) (Kd.R_base ho16) hb); have n2_ := Aside0.mk (Kd.R_lower (Kd.R_new' (Kd.R_new' ho16 (Kd.R_lt (by (with_reducible repeat (first | apply Kd.R_alloc | apply Kd.R_drewN | apply Kd.R_drew)); exact HO222.out))) (Kd.R_lt (by (with_reducible repeat (first | apply Kd.R_alloc | apply Kd.R_drewN | apply Kd.R_drew)); exact HO225.out))) (below_size (by repeat (first | (with_reducible first | exact HB.out | apply below_alloc | apply pw_below_drewN | apply below_drew1) | exact HB.out)))); have n3_ := Aside0.mk (below_step (by repeat (first | (with_reducible first | exact HB.out | apply below_alloc | apply pw_below_drewN | apply below_drew1) | exact HB.out)) hb); clear HO222; clear HO225; clear HB; have HO222 := n0_; have HO225 := n1_; have HO229 := n2_; have HB := n3_; clear n0_ n1_ n2_ n3_; clear hb ho16))
          go_loopg [11] k (fun kq v11 w' => ∃ (x8_1 : List Int) (x9_1 : List Int) (x10_1 : List Int) (x11_1 : Int), v11 = .int .i64 x11_1 ∧ Aside0 (spec_shLowest.l0 kq l0 a1 (l0.length : Int) x8_1 x9_1 x10_1 x11_1 = some (r1, r2, r3)) ∧ Aside0 (kq ≤ k) ∧ Aside0 (Kd.R (Kd.int .i64) 3 w' w.heap.size (fun k_ => some k_ ≠ ((.slice (some ⟨go8, 0, none⟩) y223.length co8) : Value).ownBlock ∧ some k_ ≠ (v228 : Value).ownBlock) v221 x8_1) ∧ Aside0 (Kd.R (Kd.int .i64) 3 w' w.heap.size (fun k_ => some k_ ≠ (v221 : Value).ownBlock ∧ some k_ ≠ (v228 : Value).ownBlock) (.slice (some ⟨go8, 0, none⟩) y223.length co8) x9_1) ∧ Aside0 (Kd.R (Kd.int .i64) 3 w' w.heap.size (fun k_ => some k_ ≠ (v221 : Value).ownBlock ∧ some k_ ≠ ((.slice (some ⟨go8, 0, none⟩) y223.length co8) : Value).ownBlock) v228 x10_1) ∧ Aside0 (Below w.heap.size w w'))
          case atStart => exact ⟨(y220), (y226), (y227), (wrap64 ((l0.length : Int) - 1)), (by first | rfl | (simp; done) | (simp [*]; done)), H', ⟨Nat.le_refl _⟩, ⟨by (with_reducible repeat (first | apply Kd.R_alloc | apply Kd.R_drewN | apply Kd.R_drew)); exact Kd.R_mono HO222.out (fun _ hk => ⟨hk.1.2, hk.2⟩)⟩, ⟨by (with_reducible repeat (first | apply Kd.R_alloc | apply Kd.R_drewN | apply Kd.R_drew)); exact HO225.out⟩, ⟨by (with_reducible repeat (first | apply Kd.R_alloc | apply Kd.R_drewN | apply Kd.R_drew)); exact Kd.R_mono HO229.out (fun _ hk => ⟨hk.1.2, hk.2⟩)⟩, ⟨by repeat (first | (with_reducible first | exact HB.out | apply below_alloc | apply pw_below_drewN | apply below_drew1) | exact HB.out)⟩⟩
          case round =>
            clear H'
            try clear p2
            try clear c3
            try clear c4
            try clear c4b0
            try clear c4b1
            try clear c5
            try clear c5b0
            try clear c5b1
            try clear c6
            try clear c6b0
            try clear c6b1
            try clear p6
            try clear c7
            try clear c7b0
            try clear c7b1
            try clear p8
            try clear q8
            try clear hx8
            try clear hf8
            try clear hx8_0
            try clear p8
            try clear q8
            obtain ⟨x8_1, x9_1, x10_1, x11_1, rfl, HA, HK1, HO_8, HO_9, HO_10, HB⟩ := hrel
            have hl9_1 := (Kd.R_reads' HO_9.out).1
            rw [hl9_1] at HO_9
            (try simp only [hl9_1])
            (try simp only [hl9_1] at HO_8)
            (try simp only [hl9_1] at HO_10)
            cases gk with
            | zero => exact absurd HA.out (by simp [spec_shLowest.l0])
            | succ k1 =>
              have H := HA.out
              clear HA
              simp only [spec_shLowest.l0] at H
              by_cases c17 : x11_1 ≥ 0
              · rw [if_pos c17] at H
                have c17b0 : decide (0 ≤ x11_1) = true := decide_eq_true c17
                clear c17
                have H' := Aside0.mk H
                clear H
                go_wp2
                go_loopg [12, 13, 14] k1 (fun kq v12 v13 v14 w' => ∃ (x8_2 : List Int) (x9_2 : List Int) (x10_2 : List Int) (x12_2 : Int) (x13_2 : Int) (x14_2 : Int), v12 = .int .i64 x12_2 ∧ v13 = .int .i64 x13_2 ∧ v14 = .int .i64 x14_2 ∧ Aside0 (spec_shLowest.l1 kq l0 a1 (l0.length : Int) x8_2 x9_2 x10_2 x11_1 x12_2 x13_2 x14_2 = some (r1, r2, r3)) ∧ Aside0 (kq ≤ k1) ∧ Aside0 (Kd.R (Kd.int .i64) 3 w' w.heap.size (fun k_ => some k_ ≠ ((.slice (some ⟨go8, 0, none⟩) x9_1.length co8) : Value).ownBlock ∧ some k_ ≠ (v228 : Value).ownBlock) v221 x8_2) ∧ Aside0 (Kd.R (Kd.int .i64) 3 w' w.heap.size (fun k_ => some k_ ≠ (v221 : Value).ownBlock ∧ some k_ ≠ (v228 : Value).ownBlock) (.slice (some ⟨go8, 0, none⟩) x9_1.length co8) x9_2) ∧ Aside0 (Kd.R (Kd.int .i64) 3 w' w.heap.size (fun k_ => some k_ ≠ (v221 : Value).ownBlock ∧ some k_ ≠ ((.slice (some ⟨go8, 0, none⟩) x9_1.length co8) : Value).ownBlock) v228 x10_2) ∧ Aside0 (Below w.heap.size w w'))
                case atStart => exact ⟨(x8_1), (x9_1), (x10_1), (0), (0), (wrap64 (x11_1 + 1)), (by first | rfl | (simp; done) | (simp [*]; done)), (by first | rfl | (simp; done) | (simp [*]; done)), (by first | rfl | (simp; done) | (simp [*]; done)), H', ⟨Nat.le_refl _⟩, ⟨by (try simp only [hl9_1]); (with_reducible repeat (first | apply Kd.R_alloc | apply Kd.R_drewN | apply Kd.R_drew)); exact HO_8.out⟩, ⟨by (try simp only [hl9_1]); (with_reducible repeat (first | apply Kd.R_alloc | apply Kd.R_drewN | apply Kd.R_drew)); exact HO_9.out⟩, ⟨by (try simp only [hl9_1]); (with_reducible repeat (first | apply Kd.R_alloc | apply Kd.R_drewN | apply Kd.R_drew)); exact HO_10.out⟩, ⟨by repeat (first | (with_reducible first | exact HB.out | apply below_alloc | apply pw_below_drewN | apply below_drew1) | exact HB.out)⟩⟩
                case round =>
                  clear H'
                  try clear c1
                  try clear p2
                  try clear c3
                  try clear c4
                  try clear c4b0
                  try clear c4b1
                  try clear c5
                  try clear c5b0
                  try clear c5b1
                  try clear c6
                  try clear c6b0
                  try clear c6b1
                  try clear p6
                  try clear c7
                  try clear c7b0
                  try clear c7b1
                  try clear p8
                  try clear q8
                  try clear hx8
                  try clear hf8
                  try clear c17
                  try clear c17b0
                  try clear hx8_0
                  try clear p2
                  try clear p6
                  try clear p8
                  try clear q8
                  obtain ⟨x8_2, x9_2, x10_2, x12_2, x13_2, x14_2, rfl, rfl, rfl, HA, HK2, HO_8, HO_9, HO_10, HB⟩ := hrel
                  have hl9_2 := (Kd.R_reads' HO_9.out).1
                  rw [hl9_2] at HO_9
                  (try simp only [hl9_2])
                  (try simp only [hl9_2] at HO_8)
                  (try simp only [hl9_2] at HO_10)
                  cases gk with
                  | zero => exact absurd HA.out (by simp [spec_shLowest.l1])
                  | succ k2 =>
                    have H := HA.out
                    clear HA
                    simp only [spec_shLowest.l1] at H
                    by_cases c18 : x14_2 ≤ (l0.length : Int)
                    · rw [if_pos c18] at H
                      have c18b0 : decide (x14_2 ≤ (l0.length : Int)) = true := decide_eq_true c18
                      clear c18
                      obtain ⟨ji19, hji19⟩ : ∃ j_ : Int, (wrap64 (x14_2 - 1)) = j_ := ⟨_, rfl⟩
                      replace H : (if 0 ≤ (ji19) then (if (ji19) < (l0.length : Int) then ((spec_l1Most.f x13_2 ((rd_T40 l0 (ji19)).f1)).bind fun t232 => (if (wrap64 (x12_2 + ((rd_T40 l0 (ji19)).f0))) > a1 then (spec_shLowest.l0 k2 l0 a1 (l0.length : Int) x8_2 x9_2 x10_2 (wrap64 (x11_1 - 1))) else (if 0 ≤ x14_2 then (if x14_2 < (x8_2.length : Int) then (if 0 ≤ x11_1 then (if x11_1 < (x9_2.length : Int) then (if (rd x9_2 x11_1) = 0 then (spec_shLowest.j2 k2 l0 a1 (l0.length : Int) x8_2 x9_2 x10_2 x11_1 (wrap64 (x12_2 + ((rd_T40 l0 (ji19)).f0))) t232 x14_2 (wrap64 (t232 + (rd x8_2 x14_2))) true) else (if x11_1 < (x8_2.length : Int) then (spec_shLowest.j2 k2 l0 a1 (l0.length : Int) x8_2 x9_2 x10_2 x11_1 (wrap64 (x12_2 + ((rd_T40 l0 (ji19)).f0))) t232 x14_2 (wrap64 (t232 + (rd x8_2 x14_2))) (decide ((wrap64 (t232 + (rd x8_2 x14_2))) < (rd x8_2 x11_1)))) else (none))) else (none)) else (none)) else (none)) else (none)))) else (none)) else (none)) = some (r1, r2, r3) := by first | (rw [hji19] at H; exact H) | (simp only [hji19] at H ⊢; exact H)
                      have hji19w : (IntKind.i64.wrap (x14_2 - 1)) = ji19 := (i64_w _).trans hji19
                      by_cases c20 : 0 ≤ (ji19)
                      · rw [if_pos c20] at H
                        have c20b0 : decide (0 ≤ (ji19)) = true := decide_eq_true c20
                        clear c20
                        by_cases c21 : (ji19) < (l0.length : Int)
                        · rw [if_pos c21] at H
                          have c21b0 : decide ((ji19) < (l0.length : Int)) = true := decide_eq_true c21
                          clear c21
                          replace H := Option.bind_eq_some_iff.mp H
                          obtain ⟨t232, A220, H⟩ := H
                          replace H : (if (wrap64 (x12_2 + ((rd_T40 l0 (ji19)).f0))) > a1 then (spec_shLowest.l0 k2 l0 a1 (l0.length : Int) x8_2 x9_2 x10_2 (wrap64 (x11_1 - 1))) else (if 0 ≤ x14_2 then (if x14_2 < (x8_2.length : Int) then (if 0 ≤ x11_1 then (if x11_1 < (x9_2.length : Int) then (if (rd x9_2 x11_1) = 0 then (spec_shLowest.j2 k2 l0 a1 (l0.length : Int) x8_2 x9_2 x10_2 x11_1 (wrap64 (x12_2 + ((rd_T40 l0 (ji19)).f0))) t232 x14_2 (wrap64 (t232 + (rd x8_2 x14_2))) true) else (if x11_1 < (x8_2.length : Int) then (spec_shLowest.j2 k2 l0 a1 (l0.length : Int) x8_2 x9_2 x10_2 x11_1 (wrap64 (x12_2 + ((rd_T40 l0 (ji19)).f0))) t232 x14_2 (wrap64 (t232 + (rd x8_2 x14_2))) (decide ((wrap64 (t232 + (rd x8_2 x14_2))) < (rd x8_2 x11_1)))) else (none))) else (none)) else (none)) else (none)) else (none))) = some (r1, r2, r3) := H
                          have A22 := Aside0.mk A220
                          clear A220
                          by_cases c23 : (wrap64 (x12_2 + ((rd_T40 l0 (ji19)).f0))) > a1
                          · rw [if_pos c23] at H
                            have c23b0 : decide (a1 < (wrap64 (x12_2 + ((rd_T40 l0 (ji19)).f0)))) = true := decide_eq_true c23
                            clear c23
                            have H' := Aside0.mk H
                            clear H
                            have p230 : 0 ≤ ((ji19) : Int) := of_decide_eq_true (by first | (with_reducible assumption) | assumption)
                            have q230 : (ji19) < (l0.length : Int) := of_decide_eq_true (by first | (with_reducible assumption) | assumption)
                            obtain ⟨ad230, e230, hx230_0, hx230_1⟩ := at_T40 HR0.out (ji19) p230 q230
                            cases e230
                            replace hx230_0 := (HB.out.cell (World.block_lt_of_cell? w _ hx230_0)).trans hx230_0
                            replace hx230_1 := (HB.out.cell (World.block_lt_of_cell? w _ hx230_1)).trans hx230_1
                            replace p230 := eq_true p230
                            replace q230 := eq_true q230
                            have p231 : 0 ≤ ((ji19) : Int) := of_decide_eq_true (by first | (with_reducible assumption) | assumption)
                            have q231 : (ji19) < (l0.length : Int) := of_decide_eq_true (by first | (with_reducible assumption) | assumption)
                            obtain ⟨ad231, e231, hx231_0, hx231_1⟩ := at_T40 HR0.out (ji19) p231 q231
                            obtain rfl : ad230 = ad231 := (by injection e231)
                            replace hx231_0 := (HB.out.cell (World.block_lt_of_cell? w _ hx231_0)).trans hx231_0
                            replace hx231_1 := (HB.out.cell (World.block_lt_of_cell? w _ hx231_1)).trans hx231_1
                            replace p231 := eq_true p231
                            replace q231 := eq_true q231
                            go_wp2_with (first | ((with_reducible refine gate_callee (f := 45) rfl ?_); refine goesL_ (some 60) rfl rfl Try.func45 (by kernel_rfl) rfl #[.int .i64 x13_2, .int .i64 ((rd_T40 l0 (ji19)).f1)] rfl (by (try simp only [List.map_toArray, List.map_cons, List.map_nil]); first | done | (simp only [hji19]; rfl) | rfl | (simp only [List.length_drop, List.length_take]; rfl)) ?_; (with_reducible refine (spec_l1Most.calls x13_2 ((rd_T40 l0 (ji19)).f1) t232 _ A22.out).mono ?_); rintro e w' ⟨rfl, ⟨nd, rfl⟩⟩; refine ⟨_, rfl, ?_⟩))
                            (try simp only [← hl9_1, ← hl9_2])
                            go_roundg k2
                            case measure => have := HK1.out; have := HK2.out; omega
                            case rel => exact ⟨(x8_2), (x9_2), (x10_2), (wrap64 (x11_1 - 1)), (by first | rfl | (simp; done) | (simp [*]; done)), H', ⟨by have := HK1.out; have := HK2.out; omega⟩, ⟨by (try simp only [hl9_1]); (try simp only [hl9_2]); (with_reducible repeat (first | apply Kd.R_alloc | apply Kd.R_drewN | apply Kd.R_drew)); exact HO_8.out⟩, ⟨by (try simp only [hl9_1]); (try simp only [hl9_2]); (with_reducible repeat (first | apply Kd.R_alloc | apply Kd.R_drewN | apply Kd.R_drew)); exact HO_9.out⟩, ⟨by (try simp only [hl9_1]); (try simp only [hl9_2]); (with_reducible repeat (first | apply Kd.R_alloc | apply Kd.R_drewN | apply Kd.R_drew)); exact HO_10.out⟩, ⟨by repeat (first | (with_reducible first | exact HB.out | apply below_alloc | apply pw_below_drewN | apply below_drew1) | exact HB.out)⟩⟩
                          · rw [if_neg c23] at H
                            have c23b0 : decide (a1 < (wrap64 (x12_2 + ((rd_T40 l0 (ji19)).f0)))) = false := decide_eq_false c23
                            clear c23
                            by_cases c24 : 0 ≤ x14_2
                            · rw [if_pos c24] at H
                              have c24b0 : decide (0 ≤ x14_2) = true := decide_eq_true c24
                              clear c24
                              by_cases c25 : x14_2 < (x8_2.length : Int)
                              · rw [if_pos c25] at H
                                have c25b0 : decide (x14_2 < (x8_2.length : Int)) = true := decide_eq_true c25
                                clear c25
                                have HC26 := Aside0.mk H
                                clear H
                                have p230 : 0 ≤ ((ji19) : Int) := of_decide_eq_true (by first | (with_reducible assumption) | assumption)
                                have q230 : (ji19) < (l0.length : Int) := of_decide_eq_true (by first | (with_reducible assumption) | assumption)
                                obtain ⟨ad230, e230, hx230_0, hx230_1⟩ := at_T40 HR0.out (ji19) p230 q230
                                cases e230
                                replace hx230_0 := (HB.out.cell (World.block_lt_of_cell? w _ hx230_0)).trans hx230_0
                                replace hx230_1 := (HB.out.cell (World.block_lt_of_cell? w _ hx230_1)).trans hx230_1
                                replace p230 := eq_true p230
                                replace q230 := eq_true q230
                                have p231 : 0 ≤ ((ji19) : Int) := of_decide_eq_true (by first | (with_reducible assumption) | assumption)
                                have q231 : (ji19) < (l0.length : Int) := of_decide_eq_true (by first | (with_reducible assumption) | assumption)
                                obtain ⟨ad231, e231, hx231_0, hx231_1⟩ := at_T40 HR0.out (ji19) p231 q231
                                obtain rfl : ad230 = ad231 := (by injection e231)
                                replace hx231_0 := (HB.out.cell (World.block_lt_of_cell? w _ hx231_0)).trans hx231_0
                                replace hx231_1 := (HB.out.cell (World.block_lt_of_cell? w _ hx231_1)).trans hx231_1
                                replace p231 := eq_true p231
                                replace q231 := eq_true q231
                                go_upto_region 17 with (first | ((with_reducible refine gate_callee (f := 45) rfl ?_); refine goesL_ (some 60) rfl rfl Try.func45 (by kernel_rfl) rfl #[.int .i64 x13_2, .int .i64 ((rd_T40 l0 (ji19)).f1)] rfl (by (try simp only [List.map_toArray, List.map_cons, List.map_nil]); first | done | (simp only [hji19]; rfl) | rfl | (simp only [List.length_drop, List.length_take]; rfl)) ?_; (with_reducible refine (spec_l1Most.calls x13_2 ((rd_T40 l0 (ji19)).f1) t232 _ A22.out).mono ?_); rintro e w' ⟨rfl, ⟨nd, rfl⟩⟩; refine ⟨_, rfl, ?_⟩; obtain ⟨Ao27, co27, eo27⟩ := Kd.R_slice HO_8.out; subst eo27; have p233 : 0 ≤ (x14_2 : Int) := of_decide_eq_true (by first | (with_reducible assumption) | assumption); have q233 : x14_2 < (x8_2.length : Int) := of_decide_eq_true (by first | (with_reducible assumption) | assumption); obtain ⟨ad233, e233, hx233_0⟩ := Kd.at_int (Kd.R_reads' HO_8.out).2.2 x14_2 p233 q233; cases e233; replace p233 := eq_true p233; replace q233 := eq_true q233))
                                (try simp only [Act.put, List.setIfInBounds_toArray, List.set_cons_zero, List.set_cons_succ])
                                go_cut [70] (fun v70 wc => ∃ (kq : Nat) (x70_25 : Bool), v70 = .bool x70_25 ∧ Aside0 (spec_shLowest.j2 kq l0 a1 (l0.length : Int) x8_2 x9_2 x10_2 x11_1 (wrap64 (x12_2 + ((rd_T40 l0 (ji19)).f0))) t232 x14_2 (wrap64 (t232 + (rd x8_2 x14_2))) x70_25 = some (r1, r2, r3)) ∧ Aside0 (kq ≤ k2) ∧ Aside0 (Kd.R (Kd.int .i64) 3 wc w.heap.size (fun k_ => some k_ ≠ ((.slice (some ⟨go8, 0, none⟩) x9_2.length co8) : Value).ownBlock ∧ some k_ ≠ (v228 : Value).ownBlock) (.slice (some ad233) x8_2.length co27) x8_2) ∧ Aside0 (Kd.R (Kd.int .i64) 3 wc w.heap.size (fun k_ => some k_ ≠ ((.slice (some ad233) x8_2.length co27) : Value).ownBlock ∧ some k_ ≠ (v228 : Value).ownBlock) (.slice (some ⟨go8, 0, none⟩) x9_2.length co8) x9_2) ∧ Aside0 (Kd.R (Kd.int .i64) 3 wc w.heap.size (fun k_ => some k_ ≠ ((.slice (some ad233) x8_2.length co27) : Value).ownBlock ∧ some k_ ≠ ((.slice (some ⟨go8, 0, none⟩) x9_2.length co8) : Value).ownBlock) v228 x10_2) ∧ Aside0 (Below w.heap.size w wc))
                                case first =>
                                  have H := HC26.out
                                  clear HC26
                                  by_cases c28 : 0 ≤ x11_1
                                  · rw [if_pos c28] at H
                                    have c28b0 : decide (0 ≤ x11_1) = true := decide_eq_true c28
                                    clear c28
                                    (first | rw [c28b0] | (simp only [i64_w, i32_w]; rw [c28b0]) | skip)
                                    by_cases c29 : x11_1 < (x9_2.length : Int)
                                    · rw [if_pos c29] at H
                                      have c29b0 : decide (x11_1 < (x9_2.length : Int)) = true := decide_eq_true c29
                                      clear c29
                                      by_cases c30 : (rd x9_2 x11_1) = 0
                                      · rw [if_pos c30] at H
                                        have c30b0 : ((rd x9_2 x11_1) == 0) = true := beq_iff_eq.mpr c30
                                        have c30b1 : ((rd x9_2 x11_1) != 0) = false := bne_eq_false_iff_eq.mpr c30
                                        clear c30
                                        have H' := Aside0.mk H
                                        clear H
                                        have p234 : 0 ≤ (x11_1 : Int) := of_decide_eq_true (by first | (with_reducible assumption) | assumption)
                                        have q234 : x11_1 < (x9_2.length : Int) := of_decide_eq_true (by first | (with_reducible assumption) | assumption)
                                        obtain ⟨ad234, e234, hx234_0⟩ := Kd.at_int (Kd.R_reads' HO_9.out).2.2 x11_1 p234 q234
                                        obtain rfl : (⟨go8, 0, none⟩ : Addr) = ad234 := (by injection e234)
                                        (first | simp only [add_plain] at hx234_0 | simp only [add_at] at hx234_0 | simp only [Addr.add, Nat.zero_add] at hx234_0 | skip)
                                        replace p234 := eq_true p234
                                        replace q234 := eq_true q234
                                        go_wp2
                                        go_meet
                                        case rel => exact ⟨_, (true), (by first | rfl | (simp; done) | (simp [*]; done)), H', ⟨by have := HK1.out; have := HK2.out; first | omega | exact Nat.le_refl _⟩, ⟨by (try simp only [hl9_1]); (try simp only [hl9_2]); (with_reducible repeat (first | apply Kd.R_alloc | apply Kd.R_drewN | apply Kd.R_drew)); exact HO_8.out⟩, ⟨by (try simp only [hl9_1]); (try simp only [hl9_2]); (with_reducible repeat (first | apply Kd.R_alloc | apply Kd.R_drewN | apply Kd.R_drew)); exact HO_9.out⟩, ⟨by (try simp only [hl9_1]); (try simp only [hl9_2]); (with_reducible repeat (first | apply Kd.R_alloc | apply Kd.R_drewN | apply Kd.R_drew)); exact HO_10.out⟩, ⟨by repeat (first | (with_reducible first | exact HB.out | apply below_alloc | apply pw_below_drewN | apply below_drew1) | exact HB.out)⟩⟩
                                      · rw [if_neg c30] at H
                                        have c30b0 : ((rd x9_2 x11_1) == 0) = false := beq_eq_false_iff_ne.mpr c30
                                        have c30b1 : ((rd x9_2 x11_1) != 0) = true := bne_iff_ne.mpr c30
                                        by_cases c31 : x11_1 < (x8_2.length : Int)
                                        · rw [if_pos c31] at H
                                          have c31b0 : decide (x11_1 < (x8_2.length : Int)) = true := decide_eq_true c31
                                          clear c31
                                          have H' := Aside0.mk H
                                          clear H
                                          have p234 : 0 ≤ (x11_1 : Int) := of_decide_eq_true (by first | (with_reducible assumption) | assumption)
                                          have q234 : x11_1 < (x9_2.length : Int) := of_decide_eq_true (by first | (with_reducible assumption) | assumption)
                                          obtain ⟨ad234, e234, hx234_0⟩ := Kd.at_int (Kd.R_reads' HO_9.out).2.2 x11_1 p234 q234
                                          obtain rfl : (⟨go8, 0, none⟩ : Addr) = ad234 := (by injection e234)
                                          (first | simp only [add_plain] at hx234_0 | simp only [add_at] at hx234_0 | simp only [Addr.add, Nat.zero_add] at hx234_0 | skip)
                                          replace p234 := eq_true p234
                                          replace q234 := eq_true q234
                                          have p235 : 0 ≤ (x11_1 : Int) := of_decide_eq_true (by first | (with_reducible assumption) | assumption)
                                          have q235 : x11_1 < (x8_2.length : Int) := of_decide_eq_true (by first | (with_reducible assumption) | assumption)
                                          obtain ⟨ad235, e235, hx235_0⟩ := Kd.at_int (Kd.R_reads' HO_8.out).2.2 x11_1 p235 q235
                                          obtain rfl : ad233 = ad235 := (by injection e235)
                                          replace p235 := eq_true p235
                                          replace q235 := eq_true q235
                                          go_wp2
                                          go_meet
                                          case rel => exact ⟨_, (decide ((wrap64 (t232 + (rd x8_2 x14_2))) < (rd x8_2 x11_1))), (by first | rfl | (simp; done) | (simp [*]; done)), H', ⟨by have := HK1.out; have := HK2.out; first | omega | exact Nat.le_refl _⟩, ⟨by (try simp only [hl9_1]); (try simp only [hl9_2]); (with_reducible repeat (first | apply Kd.R_alloc | apply Kd.R_drewN | apply Kd.R_drew)); exact HO_8.out⟩, ⟨by (try simp only [hl9_1]); (try simp only [hl9_2]); (with_reducible repeat (first | apply Kd.R_alloc | apply Kd.R_drewN | apply Kd.R_drew)); exact HO_9.out⟩, ⟨by (try simp only [hl9_1]); (try simp only [hl9_2]); (with_reducible repeat (first | apply Kd.R_alloc | apply Kd.R_drewN | apply Kd.R_drew)); exact HO_10.out⟩, ⟨by repeat (first | (with_reducible first | exact HB.out | apply below_alloc | apply pw_below_drewN | apply below_drew1) | exact HB.out)⟩⟩
                                        · rw [if_neg c31] at H
                                          exact absurd H (by simp)
                                    · rw [if_neg c29] at H
                                      exact absurd H (by simp)
                                  · rw [if_neg c28] at H
                                    exact absurd H (by simp)
                                case rest =>
                                  clear HC26
                                  try clear c1
                                  try clear c2
                                  try clear p2
                                  try clear q2
                                  try clear hx2
                                  try clear c3
                                  try clear c4
                                  try clear c4b0
                                  try clear c4b1
                                  try clear c5
                                  try clear c5b0
                                  try clear c5b1
                                  try clear c6
                                  try clear c6b0
                                  try clear c6b1
                                  try clear p6
                                  try clear c7
                                  try clear c7b0
                                  try clear c7b1
                                  try clear p8
                                  try clear q8
                                  try clear hx8
                                  try clear hf8
                                  try clear c17
                                  try clear c17b0
                                  try clear c18
                                  try clear c18b0
                                  try clear c20
                                  try clear c20b0
                                  try clear c21
                                  try clear c21b0
                                  try clear c23
                                  try clear c23b0
                                  try clear p23
                                  try clear q23
                                  try clear hx23
                                  try clear c24
                                  try clear c24b0
                                  try clear c25
                                  try clear c25b0
                                  try clear c28
                                  try clear c28b0
                                  try clear c29
                                  try clear c29b0
                                  try clear c30
                                  try clear c30b0
                                  try clear c30b1
                                  try clear c31
                                  try clear c31b0
                                  try clear hx230_0
                                  try clear hx230_1
                                  try clear hx231_0
                                  try clear hx231_1
                                  try clear hx233_0
                                  try clear hx234_0
                                  try clear hx235_0
                                  try clear hx8_0
                                  try clear p2
                                  try clear p230
                                  try clear p231
                                  try clear p233
                                  try clear p234
                                  try clear p235
                                  try clear p6
                                  try clear p8
                                  try clear q230
                                  try clear q231
                                  try clear q233
                                  try clear q234
                                  try clear q235
                                  try clear q8
                                  obtain ⟨kq, x70_25, rfl, HA, HJ25, HO_8, HO_9, HO_10, HB⟩ := hcut
                                  cases kq with
                                  | zero => exact absurd HA.out (by simp [spec_shLowest.j2])
                                  | succ kj25 =>
                                    have H := HA.out
                                    clear HA
                                    simp only [spec_shLowest.j2] at H
                                    by_cases c32 : x70_25 = true
                                    · subst c32
                                      have H1 : (if 0 ≤ x11_1 then (if x11_1 < (x8_2.length : Int) then (if 0 ≤ x14_2 then (if x14_2 < (x9_2.length : Int) then (if x11_1 < (x9_2.length : Int) then (if x11_1 < (x10_2.length : Int) then (spec_shLowest.l1 kj25 l0 a1 (l0.length : Int) (x8_2.set (x11_1 : Int).toNat (wrap64 (t232 + (rd x8_2 x14_2)))) (x9_2.set (x11_1 : Int).toNat (rd x9_2 x14_2)) (x10_2.set (x11_1 : Int).toNat x14_2) x11_1 (wrap64 (x12_2 + ((rd_T40 l0 (ji19)).f0))) t232 (wrap64 (x14_2 + 1))) else (none)) else (none)) else (none)) else (none)) else (none)) else (none)) = some (r1, r2, r3) := by rw [if_pos rfl] at H; exact H
                                      clear H
                                      have H := H1
                                      clear H1
                                      by_cases c33 : 0 ≤ x11_1
                                      · rw [if_pos c33] at H
                                        have c33b0 : decide (0 ≤ x11_1) = true := decide_eq_true c33
                                        clear c33
                                        by_cases c34 : x11_1 < (x8_2.length : Int)
                                        · rw [if_pos c34] at H
                                          have c34b0 : decide (x11_1 < (x8_2.length : Int)) = true := decide_eq_true c34
                                          clear c34
                                          obtain ⟨y236, hy236⟩ : ∃ y_ : List Int, y_ = (x8_2.set (x11_1 : Int).toNat (wrap64 (t232 + (rd x8_2 x14_2)))) := ⟨_, rfl⟩
                                          replace H : (if 0 ≤ x14_2 then (if x14_2 < (x9_2.length : Int) then (if x11_1 < (x9_2.length : Int) then (if x11_1 < (x10_2.length : Int) then (spec_shLowest.l1 kj25 l0 a1 (l0.length : Int) y236 (x9_2.set (x11_1 : Int).toNat (rd x9_2 x14_2)) (x10_2.set (x11_1 : Int).toNat x14_2) x11_1 (wrap64 (x12_2 + ((rd_T40 l0 (ji19)).f0))) t232 (wrap64 (x14_2 + 1))) else (none)) else (none)) else (none)) else (none)) = some (r1, r2, r3) := by first | (rw [hy236]; with_reducible exact H) | (have H2_ := (Option.bind_some _ _).symm.trans H; rw [hy236]; with_reducible exact H2_) | (have H2_ := (Option.bind_some _ _).symm.trans H; with_reducible exact H2_) | with_reducible exact H | (rw [hy236]; exact H) | exact H
                                          have Ny236 := Aside0.mk hy236
                                          clear hy236
                                          by_cases c36 : 0 ≤ x14_2
                                          · rw [if_pos c36] at H
                                            have c36b0 : decide (0 ≤ x14_2) = true := decide_eq_true c36
                                            clear c36
                                            by_cases c37 : x14_2 < (x9_2.length : Int)
                                            · rw [if_pos c37] at H
                                              have c37b0 : decide (x14_2 < (x9_2.length : Int)) = true := decide_eq_true c37
                                              clear c37
                                              by_cases c38 : x11_1 < (x9_2.length : Int)
                                              · rw [if_pos c38] at H
                                                have c38b0 : decide (x11_1 < (x9_2.length : Int)) = true := decide_eq_true c38
                                                clear c38
                                                obtain ⟨y238, hy238⟩ : ∃ y_ : List Int, y_ = (x9_2.set (x11_1 : Int).toNat (rd x9_2 x14_2)) := ⟨_, rfl⟩
                                                replace H : (if x11_1 < (x10_2.length : Int) then (spec_shLowest.l1 kj25 l0 a1 (l0.length : Int) y236 y238 (x10_2.set (x11_1 : Int).toNat x14_2) x11_1 (wrap64 (x12_2 + ((rd_T40 l0 (ji19)).f0))) t232 (wrap64 (x14_2 + 1))) else (none)) = some (r1, r2, r3) := by first | (rw [hy238]; with_reducible exact H) | (have H2_ := (Option.bind_some _ _).symm.trans H; rw [hy238]; with_reducible exact H2_) | (have H2_ := (Option.bind_some _ _).symm.trans H; with_reducible exact H2_) | with_reducible exact H | (rw [hy238]; exact H) | exact H
                                                have Ny238 := Aside0.mk hy238
                                                clear hy238
                                                by_cases c40 : x11_1 < (x10_2.length : Int)
                                                · rw [if_pos c40] at H
                                                  have c40b0 : decide (x11_1 < (x10_2.length : Int)) = true := decide_eq_true c40
                                                  clear c40
                                                  obtain ⟨y239, hy239⟩ : ∃ y_ : List Int, y_ = (x10_2.set (x11_1 : Int).toNat x14_2) := ⟨_, rfl⟩
                                                  replace H : (spec_shLowest.l1 kj25 l0 a1 (l0.length : Int) y236 y238 y239 x11_1 (wrap64 (x12_2 + ((rd_T40 l0 (ji19)).f0))) t232 (wrap64 (x14_2 + 1))) = some (r1, r2, r3) := by first | (rw [hy239]; with_reducible exact H) | (have H2_ := (Option.bind_some _ _).symm.trans H; rw [hy239]; with_reducible exact H2_) | (have H2_ := (Option.bind_some _ _).symm.trans H; with_reducible exact H2_) | with_reducible exact H | (rw [hy239]; exact H) | exact H
                                                  have Ny239 := Aside0.mk hy239
                                                  clear hy239
                                                  have H' := Aside0.mk H
                                                  clear H
                                                  have p35 : 0 ≤ (x11_1 : Int) := of_decide_eq_true (by first | (with_reducible assumption) | assumption)
                                                  have q35 : (x11_1 : Int) < ((x8_2.length : Int) : Int) := of_decide_eq_true (by first | (with_reducible assumption) | assumption)
                                                  obtain ⟨go35, co35, eo35, gb35, gl35, cl35, HG35⟩ := Kd.R_form HO_8.out (by omega)
                                                  (first | cases eo35 | (injection eo35 with ea_ en_ ec_; (first | subst ea_ | (injection ea_ with ea_; subst ea_)); subst ec_; clear en_))
                                                  have GB35 := Aside0.mk gb35
                                                  have GG35 := Aside0.mk HG35
                                                  clear gb35 gl35 HG35
                                                  (first | simp only [add_plain] at hx233_0 | skip)
                                                  (first | simp only [add_plain] at hx235_0 | skip)
                                                  obtain ⟨hx35_0, hf35_0⟩ := Kd.R_celln 0 HO_8.out (x11_1 : Int) p35 q35
                                                  (try simp only [Go.IntWalk.toNatUp] at hx35_0)
                                                  (try simp only [Go.IntWalk.toNatUp] at hf35_0)
                                                  replace p35 := eq_true p35
                                                  replace q35 := eq_true q35
                                                  have HP42 := Kd.R_putg HO_8.out (x11_1 : Int) (wrap64 (t232 + (rd x8_2 x14_2)))
                                                  go_wp2_with (first | ((with_reducible refine gate_store (t := 3) (p := 87) rfl ?_); refine store_event (t := 3) (p := 87) (v := ?vo_w43) (w1 := (wc.setCell ⟨go35, (x11_1 : Int).toNat, none⟩ (.int .i64 (wrap64 (t232 + (rd x8_2 x14_2)))))) ?hg ?ho ?hn ?hr ?_; (case ho => rfl); (case hg => rfl); (case hn => rfl); (case hr => first | (go_simp; done) | (go_simp; rfl)); intro w43 hw; have hg : wc.grownBy w43 (some go35) := (by rw [hw]; exact HP42.2); have hp_ : Kd.R (Kd.int .i64) 3 w43 w.heap.size (fun k_ => some k_ ≠ (.slice (some ⟨go8, 0, none⟩) x9_2.length co8 : Value).ownBlock ∧ some k_ ≠ (v228 : Value).ownBlock) (.slice (some ⟨go35, 0, none⟩) x8_2.length co27) y236 := (by rw [hw, Ny236.out]; exact HP42.1); clear HP42; have n0_ := Aside0.mk (hp_); have n1_ := Aside0.mk (Kd.R_after (v := (.slice (some ⟨go35, 0, none⟩) x8_2.length co27)) (v1 := (.slice (some ⟨go35, 0, none⟩) x8_2.length co27)) (ok := (fun k_ => some k_ ≠ (v228 : Value).ownBlock)) (by (with_reducible repeat (first | apply Kd.R_alloc | apply Kd.R_drewN | apply Kd.R_drew)); exact Kd.R_mono HO_9.out (fun _ hk => ⟨hk.2, hk.1⟩)) hg (.inl rfl)); have n2_ := Aside0.mk (Kd.R_after (v := (.slice (some ⟨go35, 0, none⟩) x8_2.length co27)) (v1 := (.slice (some ⟨go35, 0, none⟩) x8_2.length co27)) (ok := (fun k_ => some k_ ≠ (.slice (some ⟨go8, 0, none⟩) x9_2.length co8 : Value).ownBlock)) (by (with_reducible repeat (first | apply Kd.R_alloc | apply Kd.R_drewN | apply Kd.R_drew)); exact Kd.R_mono HO_10.out (fun _ hk => ⟨hk.2, hk.1⟩)) hg (.inl rfl)); have n3_ := Aside0.mk ((by rw [hw]; exact below_set (HB.out) GB35.out : Below w.heap.size w w43)); clear HO_8; clear HO_9; clear HO_10; clear HB; have HO_8 := n0_; have HO_9 := n1_; have HO_10 := n2_; have HB := n3_; clear n0_ n1_ n2_ n3_; clear hg hw hp_; have p237 : 0 ≤ (x14_2 : Int) := of_decide_eq_true (by first | (with_reducible assumption) | assumption); have q237 : x14_2 < (x9_2.length : Int) := of_decide_eq_true (by first | (with_reducible assumption) | assumption); obtain ⟨ad237, e237, hx237_0⟩ := Kd.at_int (Kd.R_reads' HO_9.out).2.2 x14_2 p237 q237; obtain rfl : (⟨go8, 0, none⟩ : Addr) = ad237 := (by injection e237); (first | simp only [add_plain] at hx237_0 | simp only [add_at] at hx237_0 | simp only [Addr.add, Nat.zero_add] at hx237_0 | skip); replace p237 := eq_true p237; replace q237 := eq_true q237; have p39 : 0 ≤ (x11_1 : Int) := of_decide_eq_true (by first | (with_reducible assumption) | assumption); have q39 : (x11_1 : Int) < ((x9_2.length : Int) : Int) := of_decide_eq_true (by first | (with_reducible assumption) | assumption); obtain ⟨hx39_0, hf39_0⟩ := Kd.R_celln 0 HO_9.out (x11_1 : Int) p39 q39; replace p39 := eq_true p39; replace q39 := eq_true q39; obtain ⟨hy44_, hz44_⟩ := Kd.R_celln 0 HO_9.out (x11_1 : Int) (of_decide_eq_true (by first | (with_reducible assumption) | assumption)) (of_decide_eq_true (by first | (with_reducible assumption) | assumption)); have HP44 := Kd.R_putg HO_9.out (x11_1 : Int) (rd x9_2 x14_2)) | ((with_reducible refine gate_store (t := 3) (p := 94) rfl ?_); refine store_event (t := 3) (p := 94) (v := ?vo_w45) (w1 := (w43.setCell ⟨go8, (x11_1 : Int).toNat, none⟩ (.int .i64 (rd x9_2 x14_2)))) ?hg ?ho ?hn ?hr ?_; (case ho => rfl); (case hg => rfl); (case hn => rfl); (case hr => first | (go_simp; done) | (go_simp; rfl)); intro w45 hw; have hg : w43.grownBy w45 (some go8) := (by rw [hw]; exact HP44.2); have hp_ : Kd.R (Kd.int .i64) 3 w45 w.heap.size (fun k_ => some k_ ≠ (v228 : Value).ownBlock ∧ some k_ ≠ (.slice (some ⟨go35, 0, none⟩) x8_2.length co27 : Value).ownBlock) (.slice (some ⟨go8, 0, none⟩) x9_2.length co8) y238 := (by rw [hw, Ny238.out]; exact HP44.1); clear HP44; have n0_ := Aside0.mk (Kd.R_after (v := (.slice (some ⟨go8, 0, none⟩) x9_2.length co8)) (v1 := (.slice (some ⟨go8, 0, none⟩) x9_2.length co8)) (ok := (fun k_ => some k_ ≠ (v228 : Value).ownBlock)) (by (with_reducible repeat (first | apply Kd.R_alloc | apply Kd.R_drewN | apply Kd.R_drew)); exact Kd.R_mono HO_8.out (fun _ hk => ⟨hk.2, hk.1⟩)) hg (.inl rfl)); have n1_ := Aside0.mk (hp_); have n2_ := Aside0.mk (Kd.R_after (v := (.slice (some ⟨go8, 0, none⟩) x9_2.length co8)) (v1 := (.slice (some ⟨go8, 0, none⟩) x9_2.length co8)) (ok := (fun k_ => some k_ ≠ (.slice (some ⟨go35, 0, none⟩) x8_2.length co27 : Value).ownBlock)) (by (with_reducible repeat (first | apply Kd.R_alloc | apply Kd.R_drewN | apply Kd.R_drew)); exact Kd.R_mono HO_10.out (fun _ hk => ⟨hk.2, hk.1⟩)) hg (.inl rfl)); have n3_ := Aside0.mk ((by rw [hw]; exact below_set (HB.out) GB8.out : Below w.heap.size w w45)); clear HO_8; clear HO_9; clear HO_10; clear HB; have HO_8 := n0_; have HO_9 := n1_; have HO_10 := n2_; have HB := n3_; clear n0_ n1_ n2_ n3_; clear hg hw hp_; have p41 : 0 ≤ (x11_1 : Int) := of_decide_eq_true (by first | (with_reducible assumption) | assumption); have q41 : (x11_1 : Int) < ((x10_2.length : Int) : Int) := of_decide_eq_true (by first | (with_reducible assumption) | assumption); obtain ⟨go41, co41, eo41, gb41, gl41, cl41, HG41⟩ := Kd.R_form HO_10.out (by omega); (first | cases eo41 | (injection eo41 with ea_ en_ ec_; (first | subst ea_ | (injection ea_ with ea_; subst ea_)); subst ec_; clear en_)); have GB41 := Aside0.mk gb41; have GG41 := Aside0.mk HG41; clear gb41 gl41 HG41; obtain ⟨hx41_0, hf41_0⟩ := Kd.R_celln 0 HO_10.out (x11_1 : Int) p41 q41; replace p41 := eq_true p41; replace q41 := eq_true q41; obtain ⟨hy46_, hz46_⟩ := Kd.R_celln 0 HO_10.out (x11_1 : Int) (of_decide_eq_true (by first | (with_reducible assumption) | assumption)) (of_decide_eq_true (by first | (with_reducible assumption) | assumption)); have HP46 := Kd.R_putg HO_10.out (x11_1 : Int) x14_2) | ((with_reducible refine gate_store (t := 3) (p := 98) rfl ?_); refine store_event (t := 3) (p := 98) (v := ?vo_w47) (w1 := (w45.setCell ⟨go41, (x11_1 : Int).toNat, none⟩ (.int .i64 x14_2))) ?hg ?ho ?hn ?hr ?_; (case ho => rfl); (case hg => rfl); (case hn => rfl); (case hr => first | (go_simp; done) | (go_simp; rfl)); intro w47 hw; have hg : w45.grownBy w47 (some go41) := (by rw [hw]; exact HP46.2); have hp_ : Kd.R (Kd.int .i64) 3 w47 w.heap.size (fun k_ => some k_ ≠ (.slice (some ⟨go35, 0, none⟩) x8_2.length co27 : Value).ownBlock ∧ some k_ ≠ (.slice (some ⟨go8, 0, none⟩) x9_2.length co8 : Value).ownBlock) (.slice (some ⟨go41, 0, none⟩) x10_2.length co41) y239 := (by rw [hw, Ny239.out]; exact HP46.1); clear HP46; have n0_ := Aside0.mk (Kd.R_after (v := (.slice (some ⟨go41, 0, none⟩) x10_2.length co41)) (v1 := (.slice (some ⟨go41, 0, none⟩) x10_2.length co41)) (ok := (fun k_ => some k_ ≠ (.slice (some ⟨go8, 0, none⟩) x9_2.length co8 : Value).ownBlock)) (by (with_reducible repeat (first | apply Kd.R_alloc | apply Kd.R_drewN | apply Kd.R_drew)); exact Kd.R_mono HO_8.out (fun _ hk => ⟨hk.2, hk.1⟩)) hg (.inl rfl)); have n1_ := Aside0.mk (Kd.R_after (v := (.slice (some ⟨go41, 0, none⟩) x10_2.length co41)) (v1 := (.slice (some ⟨go41, 0, none⟩) x10_2.length co41)) (ok := (fun k_ => some k_ ≠ (.slice (some ⟨go35, 0, none⟩) x8_2.length co27 : Value).ownBlock)) (by (with_reducible repeat (first | apply Kd.R_alloc | apply Kd.R_drewN | apply Kd.R_drew)); exact Kd.R_mono HO_9.out (fun _ hk => ⟨hk.2, hk.1⟩)) hg (.inl rfl)); have n2_ := Aside0.mk (hp_); have n3_ := Aside0.mk ((by rw [hw]; exact below_set (HB.out) GB41.out : Below w.heap.size w w47)); clear HO_8; clear HO_9; clear HO_10; clear HB; have HO_8 := n0_; have HO_9 := n1_; have HO_10 := n2_; have HB := n3_; clear n0_ n1_ n2_ n3_; clear hg hw hp_))
                                                  (try simp only [← hl9_2])
                                                  go_roundg kj25
                                                  case measure => have := HK1.out; have := HK2.out; have := HJ25.out; omega
                                                  case rel => exact ⟨(y236), (y238), (y239), ((wrap64 (x12_2 + ((rd_T40 l0 (ji19)).f0)))), (t232), (wrap64 (x14_2 + 1)), (by first | rfl | (simp; done) | (simp only [← hji19] <;> (first | rfl | simp)) | (simp [*]; done)), (by first | rfl | (simp; done) | (simp [*]; done)), (by first | rfl | (simp; done) | (simp [*]; done)), H', ⟨by have := HK1.out; have := HK2.out; have := HJ25.out; omega⟩, ⟨by (try simp only [hl9_1]); (try simp only [hl9_2]); (with_reducible repeat (first | apply Kd.R_alloc | apply Kd.R_drewN | apply Kd.R_drew)); exact HO_8.out⟩, ⟨by (try simp only [hl9_1]); (try simp only [hl9_2]); (with_reducible repeat (first | apply Kd.R_alloc | apply Kd.R_drewN | apply Kd.R_drew)); exact HO_9.out⟩, ⟨by (try simp only [hl9_1]); (try simp only [hl9_2]); (with_reducible repeat (first | apply Kd.R_alloc | apply Kd.R_drewN | apply Kd.R_drew)); exact HO_10.out⟩, ⟨by repeat (first | (with_reducible first | exact HB.out | apply below_alloc | apply pw_below_drewN | apply below_drew1) | exact HB.out)⟩⟩
                                                · rw [if_neg c40] at H
                                                  exact absurd H (by simp)
                                              · rw [if_neg c38] at H
                                                exact absurd H (by simp)
                                            · rw [if_neg c37] at H
                                              exact absurd H (by simp)
                                          · rw [if_neg c36] at H
                                            exact absurd H (by simp)
                                        · rw [if_neg c34] at H
                                          exact absurd H (by simp)
                                      · rw [if_neg c33] at H
                                        exact absurd H (by simp)
                                    · replace c32 := Bool.eq_false_iff.mpr c32
                                      subst c32
                                      have H1 : (if 0 ≤ x11_1 then (if x11_1 < (x8_2.length : Int) then (if (wrap64 (t232 + (rd x8_2 x14_2))) = (rd x8_2 x11_1) then (if x11_1 < (x9_2.length : Int) then (if 0 ≤ x14_2 then (if x14_2 < (x9_2.length : Int) then ((some (x9_2.set (x11_1 : Int).toNat (wrap64 ((rd x9_2 x11_1) + (rd x9_2 x14_2))) : List Int)).bind fun y243 => (if x14_2 = (l0.length : Int) then (if x11_1 < (x10_2.length : Int) then (spec_shLowest.l1 kj25 l0 a1 (l0.length : Int) x8_2 y243 (x10_2.set (x11_1 : Int).toNat x14_2) x11_1 (wrap64 (x12_2 + ((rd_T40 l0 (ji19)).f0))) t232 (wrap64 (x14_2 + 1))) else (none)) else (spec_shLowest.l1 kj25 l0 a1 (l0.length : Int) x8_2 y243 x10_2 x11_1 (wrap64 (x12_2 + ((rd_T40 l0 (ji19)).f0))) t232 (wrap64 (x14_2 + 1))))) else (none)) else (none)) else (none)) else (spec_shLowest.l1 kj25 l0 a1 (l0.length : Int) x8_2 x9_2 x10_2 x11_1 (wrap64 (x12_2 + ((rd_T40 l0 (ji19)).f0))) t232 (wrap64 (x14_2 + 1)))) else (none)) else (none)) = some (r1, r2, r3) := by rw [if_neg (show ¬ (false = true) by decide)] at H; exact H
                                      clear H
                                      have H := H1
                                      clear H1
                                      by_cases c48 : 0 ≤ x11_1
                                      · rw [if_pos c48] at H
                                        have c48b0 : decide (0 ≤ x11_1) = true := decide_eq_true c48
                                        clear c48
                                        by_cases c49 : x11_1 < (x8_2.length : Int)
                                        · rw [if_pos c49] at H
                                          have c49b0 : decide (x11_1 < (x8_2.length : Int)) = true := decide_eq_true c49
                                          clear c49
                                          by_cases c50 : (wrap64 (t232 + (rd x8_2 x14_2))) = (rd x8_2 x11_1)
                                          · rw [if_pos c50] at H
                                            have c50b0 : ((wrap64 (t232 + (rd x8_2 x14_2))) == (rd x8_2 x11_1)) = true := beq_iff_eq.mpr c50
                                            have c50b1 : ((wrap64 (t232 + (rd x8_2 x14_2))) != (rd x8_2 x11_1)) = false := bne_eq_false_iff_eq.mpr c50
                                            clear c50
                                            by_cases c51 : x11_1 < (x9_2.length : Int)
                                            · rw [if_pos c51] at H
                                              have c51b0 : decide (x11_1 < (x9_2.length : Int)) = true := decide_eq_true c51
                                              clear c51
                                              by_cases c52 : 0 ≤ x14_2
                                              · rw [if_pos c52] at H
                                                have c52b0 : decide (0 ≤ x14_2) = true := decide_eq_true c52
                                                clear c52
                                                by_cases c53 : x14_2 < (x9_2.length : Int)
                                                · rw [if_pos c53] at H
                                                  have c53b0 : decide (x14_2 < (x9_2.length : Int)) = true := decide_eq_true c53
                                                  clear c53
                                                  obtain ⟨y243, hy243⟩ : ∃ y_ : List Int, y_ = (x9_2.set (x11_1 : Int).toNat (wrap64 ((rd x9_2 x11_1) + (rd x9_2 x14_2)))) := ⟨_, rfl⟩
                                                  replace H : (if x14_2 = (l0.length : Int) then (if x11_1 < (x10_2.length : Int) then (spec_shLowest.l1 kj25 l0 a1 (l0.length : Int) x8_2 y243 (x10_2.set (x11_1 : Int).toNat x14_2) x11_1 (wrap64 (x12_2 + ((rd_T40 l0 (ji19)).f0))) t232 (wrap64 (x14_2 + 1))) else (none)) else (spec_shLowest.l1 kj25 l0 a1 (l0.length : Int) x8_2 y243 x10_2 x11_1 (wrap64 (x12_2 + ((rd_T40 l0 (ji19)).f0))) t232 (wrap64 (x14_2 + 1)))) = some (r1, r2, r3) := by first | (rw [hy243]; with_reducible exact H) | (have H2_ := (Option.bind_some _ _).symm.trans H; rw [hy243]; with_reducible exact H2_) | (have H2_ := (Option.bind_some _ _).symm.trans H; with_reducible exact H2_) | with_reducible exact H | (rw [hy243]; exact H) | exact H
                                                  have Ny243 := Aside0.mk hy243
                                                  clear hy243
                                                  by_cases c55 : x14_2 = (l0.length : Int)
                                                  · rw [if_pos c55] at H
                                                    have c55b0 : (x14_2 == (l0.length : Int)) = true := beq_iff_eq.mpr c55
                                                    have c55b1 : (x14_2 != (l0.length : Int)) = false := bne_eq_false_iff_eq.mpr c55
                                                    clear c55
                                                    by_cases c56 : x11_1 < (x10_2.length : Int)
                                                    · rw [if_pos c56] at H
                                                      have c56b0 : decide (x11_1 < (x10_2.length : Int)) = true := decide_eq_true c56
                                                      clear c56
                                                      obtain ⟨y244, hy244⟩ : ∃ y_ : List Int, y_ = (x10_2.set (x11_1 : Int).toNat x14_2) := ⟨_, rfl⟩
                                                      replace H : (spec_shLowest.l1 kj25 l0 a1 (l0.length : Int) x8_2 y243 y244 x11_1 (wrap64 (x12_2 + ((rd_T40 l0 (ji19)).f0))) t232 (wrap64 (x14_2 + 1))) = some (r1, r2, r3) := by first | (rw [hy244]; with_reducible exact H) | (have H2_ := (Option.bind_some _ _).symm.trans H; rw [hy244]; with_reducible exact H2_) | (have H2_ := (Option.bind_some _ _).symm.trans H; with_reducible exact H2_) | with_reducible exact H | (rw [hy244]; exact H) | exact H
                                                      have Ny244 := Aside0.mk hy244
                                                      clear hy244
                                                      have H' := Aside0.mk H
                                                      clear H
                                                      have p240 : 0 ≤ (x11_1 : Int) := of_decide_eq_true (by first | (with_reducible assumption) | assumption)
                                                      have q240 : x11_1 < (x8_2.length : Int) := of_decide_eq_true (by first | (with_reducible assumption) | assumption)
                                                      obtain ⟨ad240, e240, hx240_0⟩ := Kd.at_int (Kd.R_reads' HO_8.out).2.2 x11_1 p240 q240
                                                      obtain rfl : ad233 = ad240 := (by injection e240)
                                                      replace p240 := eq_true p240
                                                      replace q240 := eq_true q240
                                                      try go_wp2
                                                      have n0_ := Aside0.mk (Kd.R_drew HO_8.out)
                                                      have n1_ := Aside0.mk (Kd.R_drew HO_9.out)
                                                      have n2_ := Aside0.mk (Kd.R_drew HO_10.out)
                                                      have n3_ := Aside0.mk (below_drew1 HB.out)
                                                      clear HO_8
                                                      clear HO_9
                                                      clear HO_10
                                                      clear HB
                                                      have HO_8 := n0_
                                                      have HO_9 := n1_
                                                      have HO_10 := n2_
                                                      have HB := n3_
                                                      clear n0_ n1_ n2_ n3_
                                                      have p241 : 0 ≤ (x11_1 : Int) := of_decide_eq_true (by first | (with_reducible assumption) | assumption)
                                                      have q241 : x11_1 < (x9_2.length : Int) := of_decide_eq_true (by first | (with_reducible assumption) | assumption)
                                                      obtain ⟨ad241, e241, hx241_0⟩ := Kd.at_int (Kd.R_reads' HO_9.out).2.2 x11_1 p241 q241
                                                      obtain rfl : (⟨go8, 0, none⟩ : Addr) = ad241 := (by injection e241)
                                                      (first | simp only [add_plain] at hx241_0 | simp only [add_at] at hx241_0 | simp only [Addr.add, Nat.zero_add] at hx241_0 | skip)
                                                      replace p241 := eq_true p241
                                                      replace q241 := eq_true q241
                                                      have p242 : 0 ≤ (x14_2 : Int) := of_decide_eq_true (by first | (with_reducible assumption) | assumption)
                                                      have q242 : x14_2 < (x9_2.length : Int) := of_decide_eq_true (by first | (with_reducible assumption) | assumption)
                                                      obtain ⟨ad242, e242, hx242_0⟩ := Kd.at_int (Kd.R_reads' HO_9.out).2.2 x14_2 p242 q242
                                                      obtain rfl : (⟨go8, 0, none⟩ : Addr) = ad242 := (by injection e242)
                                                      (first | simp only [add_plain] at hx242_0 | simp only [add_at] at hx242_0 | simp only [Addr.add, Nat.zero_add] at hx242_0 | skip)
                                                      replace p242 := eq_true p242
                                                      replace q242 := eq_true q242
                                                      have p54 : 0 ≤ (x11_1 : Int) := of_decide_eq_true (by first | (with_reducible assumption) | assumption)
                                                      have q54 : (x11_1 : Int) < ((x9_2.length : Int) : Int) := of_decide_eq_true (by first | (with_reducible assumption) | assumption)
                                                      obtain ⟨hx54_0, hf54_0⟩ := Kd.R_celln 0 HO_9.out (x11_1 : Int) p54 q54
                                                      (try simp only [Go.IntWalk.toNatUp] at hx54_0)
                                                      (try simp only [Go.IntWalk.toNatUp] at hf54_0)
                                                      replace p54 := eq_true p54
                                                      replace q54 := eq_true q54
                                                      have HP59 := Kd.R_putn HO_9.out (x11_1 : Int) (wrap64 ((rd x9_2 x11_1) + (rd x9_2 x14_2)))
                                                      rw [← Ny243.out] at HP59
                                                      have HQ59 := Aside0.mk HP59
                                                      clear HP59
                                                      refine start_ (n := 11) (S := fun w' => w'.cell? ⟨go8, (x11_1).toNat, none⟩ = some (.int .i64 (rd x9_2 x11_1)) ∧ w'.cell? ⟨go8, (x14_2).toNat, none⟩ = some (.int .i64 (rd x9_2 x14_2))) (ds := [10]) #[false, false, false, false, false, false, false, false, false, false, false] (by kernel_rfl) rfl rfl ⟨hx241_0, hx242_0⟩ (fun hHeld => ?_); refine with_tabW spec_shLowest.tab22 spec_shLowest.bits22 (fun HT_ HW_ => ?_)
                                                      generalize wc.drew = w58 at HO_8 HO_9 HO_10 HB HQ59 hf54_0 hx241_0 hx242_0 hx54_0 hHeld ⊢
                                                      refine pure_ (i := 0) (N := some 106) (v := ?_) (a' := ?_) #[true, false, false, false, false, false, false, false, false, false, false] rfl rfl (any_of HT_.out (by kernel_rfl)) (fun _ _ _ h => h) (Or.inl ⟨by rfl, ?_⟩) ?_ ?_
                                                      rotate_left
                                                      · intro w'
                                                        go_simp
                                                        with_reducible rfl
                                                      rotate_left
                                                      · simp only [Act.put, List.setIfInBounds_toArray, List.set_cons_zero, List.set_cons_succ, i64_w, i32_w]
                                                        rfl
                                                      refine pure_ (i := 1) (N := some 107) (v := ?_) (a' := ?_) #[true, true, false, false, false, false, false, false, false, false, false] rfl rfl (any_of HT_.out (by kernel_rfl)) (fun _ _ _ h => h) (Or.inl ⟨by rfl, ?_⟩) ?_ ?_
                                                      rotate_left
                                                      · intro w'
                                                        go_simp
                                                        with_reducible rfl
                                                      rotate_left
                                                      · simp only [Act.put, List.setIfInBounds_toArray, List.set_cons_zero, List.set_cons_succ, i64_w, i32_w]
                                                        rfl
                                                      refine pure_ (i := 2) (N := some 108) (v := ?_) (a' := ?_) #[true, true, true, false, false, false, false, false, false, false, false] rfl rfl (any_of HT_.out (by kernel_rfl)) (fun _ _ _ h => h) (Or.inl ⟨by rfl, ?_⟩) ?_ ?_
                                                      rotate_left
                                                      · intro w'
                                                        go_simp
                                                        with_reducible rfl
                                                      rotate_left
                                                      · simp only [Act.put, List.setIfInBounds_toArray, List.set_cons_zero, List.set_cons_succ, i64_w, i32_w]
                                                        rfl
                                                      refine pure_ (i := 4) (N := some 110) (v := ?_) (a' := ?_) #[true, true, true, false, true, false, false, false, false, false, false] rfl rfl (any_of HT_.out (by kernel_rfl)) (fun _ _ _ h => h) (Or.inl ⟨by rfl, ?_⟩) ?_ ?_
                                                      rotate_left
                                                      · intro w'
                                                        go_simp
                                                        with_reducible rfl
                                                      rotate_left
                                                      · simp only [Act.put, List.setIfInBounds_toArray, List.set_cons_zero, List.set_cons_succ, i64_w, i32_w]
                                                        rfl
                                                      refine pure_ (i := 5) (N := some 111) (v := ?_) (a' := ?_) #[true, true, true, false, true, true, false, false, false, false, false] rfl rfl (any_of HT_.out (by kernel_rfl)) (fun _ _ _ h => h) (Or.inl ⟨by rfl, ?_⟩) ?_ ?_
                                                      rotate_left
                                                      · intro w'
                                                        go_simp
                                                        with_reducible rfl
                                                      rotate_left
                                                      · simp only [Act.put, List.setIfInBounds_toArray, List.set_cons_zero, List.set_cons_succ, i64_w, i32_w]
                                                        rfl
                                                      refine pure_ (i := 6) (N := some 112) (v := ?_) (a' := ?_) #[true, true, true, false, true, true, true, false, false, false, false] rfl rfl (any_of HT_.out (by kernel_rfl)) (fun _ _ _ h => h) (Or.inl ⟨by rfl, ?_⟩) ?_ ?_
                                                      rotate_left
                                                      · intro w'
                                                        go_simp
                                                        with_reducible rfl
                                                      rotate_left
                                                      · simp only [Act.put, List.setIfInBounds_toArray, List.set_cons_zero, List.set_cons_succ, i64_w, i32_w]
                                                        rfl
                                                      refine take_ (i := 3) (N := some 109) (v := ?_) (a' := ?_) #[true, true, true, true, true, true, true, false, false, false, false] rfl rfl (take_ofW HT_.out HW_.out (by kernel_rfl)) (fun _ _ _ h => h) (Or.inl ⟨by rfl, ?_⟩) hHeld ?_ ?_
                                                      rotate_left
                                                      · rintro w' ⟨s0, s1⟩
                                                        (try simp only [Go.IntWalk.toNatUp] at s0 s1)
                                                        go_simp
                                                        with_reducible rfl
                                                      rotate_left
                                                      · simp only [Act.put, List.setIfInBounds_toArray, List.set_cons_zero, List.set_cons_succ, i64_w, i32_w]
                                                        rfl
                                                      refine take_ (i := 7) (N := some 113) (v := ?_) (a' := ?_) #[true, true, true, true, true, true, true, true, false, false, false] rfl rfl (take_ofW HT_.out HW_.out (by kernel_rfl)) (fun _ _ _ h => h) (Or.inl ⟨by rfl, ?_⟩) hHeld ?_ ?_
                                                      rotate_left
                                                      · rintro w' ⟨s0, s1⟩
                                                        (try simp only [Go.IntWalk.toNatUp] at s0 s1)
                                                        go_simp
                                                        with_reducible rfl
                                                      rotate_left
                                                      · simp only [Act.put, List.setIfInBounds_toArray, List.set_cons_zero, List.set_cons_succ, i64_w, i32_w]
                                                        rfl
                                                      refine pure_ (i := 8) (N := some 114) (v := ?_) (a' := ?_) #[true, true, true, true, true, true, true, true, true, false, false] rfl rfl (any_of HT_.out (by kernel_rfl)) (fun _ _ _ h => h) (Or.inl ⟨by rfl, ?_⟩) ?_ ?_
                                                      rotate_left
                                                      · intro w'
                                                        go_simp
                                                        with_reducible rfl
                                                      rotate_left
                                                      · simp only [Act.put, List.setIfInBounds_toArray, List.set_cons_zero, List.set_cons_succ, i64_w, i32_w]
                                                        rfl
                                                      refine pure_ (i := 9) (N := some 115) (v := ?_) (a' := ?_) #[true, true, true, true, true, true, true, true, true, true, false] rfl rfl (any_of HT_.out (by kernel_rfl)) (fun _ _ _ h => h) (Or.inl ⟨by rfl, ?_⟩) ?_ ?_
                                                      rotate_left
                                                      · intro w'
                                                        go_simp
                                                        with_reducible rfl
                                                      rotate_left
                                                      · simp only [Act.put, List.setIfInBounds_toArray, List.set_cons_zero, List.set_cons_succ, i64_w, i32_w]
                                                        rfl
                                                      refine last_ (i := 10) (N := none) #[true, true, true, true, true, true, true, true, true, true, true] rfl rfl (one_of HT_.out (by kernel_rfl)) (by decide) (fun K hK => ?_)
                                                      refine skip_ (w1 := ?_) (by rfl) rfl ?_ ?_
                                                      rotate_left
                                                      · go_simp
                                                        rfl
                                                      refine hK.out _ _ ?_
                                                      clear hK K
                                                      refine done_ (done_of HT_.out (by kernel_rfl)) ?_
                                                      have n0_ : Aside0 (Kd.R (Kd.int .i64) 3 (w58.setCell ⟨go8, (x11_1 : Int).toNat, none⟩ (.int .i64 (wrap64 ((rd x9_2 x11_1) + (rd x9_2 x14_2))))) w.heap.size (fun k_ => some k_ ≠ (.slice (some ⟨go8, 0, none⟩) x9_2.length co8 : Value).ownBlock ∧ some k_ ≠ (v228 : Value).ownBlock) (.slice (some ad233) x8_2.length co27) x8_2) := ⟨by (with_reducible repeat (first | apply Kd.R_alloc | apply Kd.R_drewN | apply Kd.R_drew)); exact Kd.R_mono (Kd.R_far (p := ⟨go8, (x11_1 : Int).toNat, none⟩) (Kd.R_mono HO_8.out (fun k_ hk => (⟨hk, fun e_ => hk.1 (by rw [e_]; rfl)⟩ : _ ∧ k_ ≠ go8))) (fun _ hk => hk.2) (.int .i64 (wrap64 ((rd x9_2 x11_1) + (rd x9_2 x14_2))))) (fun _ hk => ⟨hk.1.1, hk.1.2⟩)⟩
                                                      have n1_ : Aside0 (Kd.R (Kd.int .i64) 3 (w58.setCell ⟨go8, (x11_1 : Int).toNat, none⟩ (.int .i64 (wrap64 ((rd x9_2 x11_1) + (rd x9_2 x14_2))))) w.heap.size (fun k_ => some k_ ≠ (.slice (some ad233) x8_2.length co27 : Value).ownBlock ∧ some k_ ≠ (v228 : Value).ownBlock) (.slice (some ⟨go8, 0, none⟩) x9_2.length co8) y243) := ⟨by (with_reducible repeat (first | apply Kd.R_alloc | apply Kd.R_drewN | apply Kd.R_drew)); exact HQ59.out⟩
                                                      have n2_ : Aside0 (Kd.R (Kd.int .i64) 3 (w58.setCell ⟨go8, (x11_1 : Int).toNat, none⟩ (.int .i64 (wrap64 ((rd x9_2 x11_1) + (rd x9_2 x14_2))))) w.heap.size (fun k_ => some k_ ≠ (.slice (some ad233) x8_2.length co27 : Value).ownBlock ∧ some k_ ≠ (.slice (some ⟨go8, 0, none⟩) x9_2.length co8 : Value).ownBlock) v228 x10_2) := ⟨by (with_reducible repeat (first | apply Kd.R_alloc | apply Kd.R_drewN | apply Kd.R_drew)); exact Kd.R_mono (Kd.R_far (p := ⟨go8, (x11_1 : Int).toNat, none⟩) (Kd.R_mono HO_10.out (fun k_ hk => (⟨hk, fun e_ => hk.2 (by rw [e_]; rfl)⟩ : _ ∧ k_ ≠ go8))) (fun _ hk => hk.2) (.int .i64 (wrap64 ((rd x9_2 x11_1) + (rd x9_2 x14_2))))) (fun _ hk => ⟨hk.1.1, hk.1.2⟩)⟩
                                                      have n3_ : Aside0 (Below w.heap.size w (w58.setCell ⟨go8, (x11_1 : Int).toNat, none⟩ (.int .i64 (wrap64 ((rd x9_2 x11_1) + (rd x9_2 x14_2)))))) := ⟨by repeat (first | (with_reducible first | exact HB.out | apply below_alloc | apply pw_below_drewN | apply below_drew1 | refine below_set ?_ GB8.out) | exact HB.out)⟩
                                                      (try clear HO_8)
                                                      (try clear HO_9)
                                                      (try clear HO_10)
                                                      (try clear HB)
                                                      generalize (w58.setCell ⟨go8, (x11_1 : Int).toNat, none⟩ (.int .i64 (wrap64 ((rd x9_2 x11_1) + (rd x9_2 x14_2))))) = w60 at n0_ n1_ n2_ n3_ ⊢
                                                      have HO_8 := n0_
                                                      have HO_9 := n1_
                                                      have HO_10 := n2_
                                                      have HB := n3_
                                                      clear n0_ n1_ n2_ n3_
                                                      have p57 : 0 ≤ (x11_1 : Int) := of_decide_eq_true (by first | (with_reducible assumption) | assumption)
                                                      have q57 : (x11_1 : Int) < ((x10_2.length : Int) : Int) := of_decide_eq_true (by first | (with_reducible assumption) | assumption)
                                                      obtain ⟨go57, co57, eo57, gb57, gl57, cl57, HG57⟩ := Kd.R_form HO_10.out (by omega)
                                                      (first | cases eo57 | (injection eo57 with ea_ en_ ec_; (first | subst ea_ | (injection ea_ with ea_; subst ea_)); subst ec_; clear en_))
                                                      have GB57 := Aside0.mk gb57
                                                      have GG57 := Aside0.mk HG57
                                                      clear gb57 gl57 HG57
                                                      obtain ⟨hx57_0, hf57_0⟩ := Kd.R_celln 0 HO_10.out (x11_1 : Int) p57 q57
                                                      (try simp only [Go.IntWalk.toNatUp] at hx57_0)
                                                      (try simp only [Go.IntWalk.toNatUp] at hf57_0)
                                                      replace p57 := eq_true p57
                                                      replace q57 := eq_true q57
                                                      obtain ⟨hy61_, hz61_⟩ := Kd.R_celln 0 HO_10.out (x11_1 : Int) (of_decide_eq_true (by first | (with_reducible assumption) | assumption)) (of_decide_eq_true (by first | (with_reducible assumption) | assumption))
                                                      have HP61 := Kd.R_putg HO_10.out (x11_1 : Int) x14_2
                                                      try go_wp2_with (first | ((with_reducible refine gate_store (t := 3) (p := 122) rfl ?_); refine store_event (t := 3) (p := 122) (v := ?vo_w62) (w1 := (w60.setCell ⟨go57, (x11_1 : Int).toNat, none⟩ (.int .i64 x14_2))) ?hg ?ho ?hn ?hr ?_; (case ho => rfl); (case hg => rfl); (case hn => rfl); (case hr => first | (go_simp; done) | (go_simp; rfl)); intro w62 hw; have hg : w60.grownBy w62 (some go57) := (by rw [hw]; exact HP61.2); have hp_ : Kd.R (Kd.int .i64) 3 w62 w.heap.size (fun k_ => some k_ ≠ (.slice (some ad233) x8_2.length co27 : Value).ownBlock ∧ some k_ ≠ (.slice (some ⟨go8, 0, none⟩) x9_2.length co8 : Value).ownBlock) (.slice (some ⟨go57, 0, none⟩) x10_2.length co57) y244 := (by rw [hw, Ny244.out]; exact HP61.1); clear HP61; have n0_ := Aside0.mk (Kd.R_after (v := (.slice (some ⟨go57, 0, none⟩) x10_2.length co57)) (v1 := (.slice (some ⟨go57, 0, none⟩) x10_2.length co57)) (ok := (fun k_ => some k_ ≠ (.slice (some ⟨go8, 0, none⟩) x9_2.length co8 : Value).ownBlock)) (by (with_reducible repeat (first | apply Kd.R_alloc | apply Kd.R_drewN | apply Kd.R_drew)); exact HO_8.out) hg (.inl rfl)); have n1_ := Aside0.mk (Kd.R_after (v := (.slice (some ⟨go57, 0, none⟩) x10_2.length co57)) (v1 := (.slice (some ⟨go57, 0, none⟩) x10_2.length co57)) (ok := (fun k_ => some k_ ≠ (.slice (some ad233) x8_2.length co27 : Value).ownBlock)) (by (with_reducible repeat (first | apply Kd.R_alloc | apply Kd.R_drewN | apply Kd.R_drew)); exact HO_9.out) hg (.inl rfl)); have n2_ := Aside0.mk (hp_); have n3_ := Aside0.mk ((by rw [hw]; exact below_set (HB.out) GB57.out : Below w.heap.size w w62)); clear HO_8; clear HO_9; clear HO_10; clear HB; have HO_8 := n0_; have HO_9 := n1_; have HO_10 := n2_; have HB := n3_; clear n0_ n1_ n2_ n3_; clear hg hw hp_))
                                                      (try simp only [← hl9_2])
                                                      go_roundg kj25
                                                      case measure => have := HK1.out; have := HK2.out; have := HJ25.out; omega
                                                      case rel => exact ⟨(x8_2), (y243), (y244), ((wrap64 (x12_2 + ((rd_T40 l0 (ji19)).f0)))), (t232), (wrap64 (x14_2 + 1)), (by first | rfl | (simp; done) | (simp only [← hji19] <;> (first | rfl | simp)) | (simp [*]; done)), (by first | rfl | (simp; done) | (simp [*]; done)), (by first | rfl | (simp; done) | (simp [*]; done)), H', ⟨by have := HK1.out; have := HK2.out; have := HJ25.out; omega⟩, ⟨by (try simp only [hl9_1]); (try simp only [hl9_2]); (with_reducible repeat (first | apply Kd.R_alloc | apply Kd.R_drewN | apply Kd.R_drew)); exact HO_8.out⟩, ⟨by (try simp only [hl9_1]); (try simp only [hl9_2]); (with_reducible repeat (first | apply Kd.R_alloc | apply Kd.R_drewN | apply Kd.R_drew)); exact HO_9.out⟩, ⟨by (try simp only [hl9_1]); (try simp only [hl9_2]); (with_reducible repeat (first | apply Kd.R_alloc | apply Kd.R_drewN | apply Kd.R_drew)); exact HO_10.out⟩, ⟨by repeat (first | (with_reducible first | exact HB.out | apply below_alloc | apply pw_below_drewN | apply below_drew1) | exact HB.out)⟩⟩
                                                    · rw [if_neg c56] at H
                                                      exact absurd H (by simp)
                                                  · rw [if_neg c55] at H
                                                    have c55b0 : (x14_2 == (l0.length : Int)) = false := beq_eq_false_iff_ne.mpr c55
                                                    have c55b1 : (x14_2 != (l0.length : Int)) = true := bne_iff_ne.mpr c55
                                                    have H' := Aside0.mk H
                                                    clear H
                                                    have p240 : 0 ≤ (x11_1 : Int) := of_decide_eq_true (by first | (with_reducible assumption) | assumption)
                                                    have q240 : x11_1 < (x8_2.length : Int) := of_decide_eq_true (by first | (with_reducible assumption) | assumption)
                                                    obtain ⟨ad240, e240, hx240_0⟩ := Kd.at_int (Kd.R_reads' HO_8.out).2.2 x11_1 p240 q240
                                                    obtain rfl : ad233 = ad240 := (by injection e240)
                                                    replace p240 := eq_true p240
                                                    replace q240 := eq_true q240
                                                    try go_wp2
                                                    have n0_ := Aside0.mk (Kd.R_drew HO_8.out)
                                                    have n1_ := Aside0.mk (Kd.R_drew HO_9.out)
                                                    have n2_ := Aside0.mk (Kd.R_drew HO_10.out)
                                                    have n3_ := Aside0.mk (below_drew1 HB.out)
                                                    clear HO_8
                                                    clear HO_9
                                                    clear HO_10
                                                    clear HB
                                                    have HO_8 := n0_
                                                    have HO_9 := n1_
                                                    have HO_10 := n2_
                                                    have HB := n3_
                                                    clear n0_ n1_ n2_ n3_
                                                    have p241 : 0 ≤ (x11_1 : Int) := of_decide_eq_true (by first | (with_reducible assumption) | assumption)
                                                    have q241 : x11_1 < (x9_2.length : Int) := of_decide_eq_true (by first | (with_reducible assumption) | assumption)
                                                    obtain ⟨ad241, e241, hx241_0⟩ := Kd.at_int (Kd.R_reads' HO_9.out).2.2 x11_1 p241 q241
                                                    obtain rfl : (⟨go8, 0, none⟩ : Addr) = ad241 := (by injection e241)
                                                    (first | simp only [add_plain] at hx241_0 | simp only [add_at] at hx241_0 | simp only [Addr.add, Nat.zero_add] at hx241_0 | skip)
                                                    replace p241 := eq_true p241
                                                    replace q241 := eq_true q241
                                                    have p242 : 0 ≤ (x14_2 : Int) := of_decide_eq_true (by first | (with_reducible assumption) | assumption)
                                                    have q242 : x14_2 < (x9_2.length : Int) := of_decide_eq_true (by first | (with_reducible assumption) | assumption)
                                                    obtain ⟨ad242, e242, hx242_0⟩ := Kd.at_int (Kd.R_reads' HO_9.out).2.2 x14_2 p242 q242
                                                    obtain rfl : (⟨go8, 0, none⟩ : Addr) = ad242 := (by injection e242)
                                                    (first | simp only [add_plain] at hx242_0 | simp only [add_at] at hx242_0 | simp only [Addr.add, Nat.zero_add] at hx242_0 | skip)
                                                    replace p242 := eq_true p242
                                                    replace q242 := eq_true q242
                                                    have p54 : 0 ≤ (x11_1 : Int) := of_decide_eq_true (by first | (with_reducible assumption) | assumption)
                                                    have q54 : (x11_1 : Int) < ((x9_2.length : Int) : Int) := of_decide_eq_true (by first | (with_reducible assumption) | assumption)
                                                    obtain ⟨hx54_0, hf54_0⟩ := Kd.R_celln 0 HO_9.out (x11_1 : Int) p54 q54
                                                    (try simp only [Go.IntWalk.toNatUp] at hx54_0)
                                                    (try simp only [Go.IntWalk.toNatUp] at hf54_0)
                                                    replace p54 := eq_true p54
                                                    replace q54 := eq_true q54
                                                    have HP64 := Kd.R_putn HO_9.out (x11_1 : Int) (wrap64 ((rd x9_2 x11_1) + (rd x9_2 x14_2)))
                                                    rw [← Ny243.out] at HP64
                                                    have HQ64 := Aside0.mk HP64
                                                    clear HP64
                                                    refine start_ (n := 11) (S := fun w' => w'.cell? ⟨go8, (x11_1).toNat, none⟩ = some (.int .i64 (rd x9_2 x11_1)) ∧ w'.cell? ⟨go8, (x14_2).toNat, none⟩ = some (.int .i64 (rd x9_2 x14_2))) (ds := [10]) #[false, false, false, false, false, false, false, false, false, false, false] (by kernel_rfl) rfl rfl ⟨hx241_0, hx242_0⟩ (fun hHeld => ?_); refine with_tabW spec_shLowest.tab22 spec_shLowest.bits22 (fun HT_ HW_ => ?_)
                                                    generalize wc.drew = w63 at HO_8 HO_9 HO_10 HB HQ64 hf54_0 hx241_0 hx242_0 hx54_0 hHeld ⊢
                                                    refine pure_ (i := 0) (N := some 106) (v := ?_) (a' := ?_) #[true, false, false, false, false, false, false, false, false, false, false] rfl rfl (any_of HT_.out (by kernel_rfl)) (fun _ _ _ h => h) (Or.inl ⟨by rfl, ?_⟩) ?_ ?_
                                                    rotate_left
                                                    · intro w'
                                                      go_simp
                                                      with_reducible rfl
                                                    rotate_left
                                                    · simp only [Act.put, List.setIfInBounds_toArray, List.set_cons_zero, List.set_cons_succ, i64_w, i32_w]
                                                      rfl
                                                    refine pure_ (i := 1) (N := some 107) (v := ?_) (a' := ?_) #[true, true, false, false, false, false, false, false, false, false, false] rfl rfl (any_of HT_.out (by kernel_rfl)) (fun _ _ _ h => h) (Or.inl ⟨by rfl, ?_⟩) ?_ ?_
                                                    rotate_left
                                                    · intro w'
                                                      go_simp
                                                      with_reducible rfl
                                                    rotate_left
                                                    · simp only [Act.put, List.setIfInBounds_toArray, List.set_cons_zero, List.set_cons_succ, i64_w, i32_w]
                                                      rfl
                                                    refine pure_ (i := 2) (N := some 108) (v := ?_) (a' := ?_) #[true, true, true, false, false, false, false, false, false, false, false] rfl rfl (any_of HT_.out (by kernel_rfl)) (fun _ _ _ h => h) (Or.inl ⟨by rfl, ?_⟩) ?_ ?_
                                                    rotate_left
                                                    · intro w'
                                                      go_simp
                                                      with_reducible rfl
                                                    rotate_left
                                                    · simp only [Act.put, List.setIfInBounds_toArray, List.set_cons_zero, List.set_cons_succ, i64_w, i32_w]
                                                      rfl
                                                    refine pure_ (i := 4) (N := some 110) (v := ?_) (a' := ?_) #[true, true, true, false, true, false, false, false, false, false, false] rfl rfl (any_of HT_.out (by kernel_rfl)) (fun _ _ _ h => h) (Or.inl ⟨by rfl, ?_⟩) ?_ ?_
                                                    rotate_left
                                                    · intro w'
                                                      go_simp
                                                      with_reducible rfl
                                                    rotate_left
                                                    · simp only [Act.put, List.setIfInBounds_toArray, List.set_cons_zero, List.set_cons_succ, i64_w, i32_w]
                                                      rfl
                                                    refine pure_ (i := 5) (N := some 111) (v := ?_) (a' := ?_) #[true, true, true, false, true, true, false, false, false, false, false] rfl rfl (any_of HT_.out (by kernel_rfl)) (fun _ _ _ h => h) (Or.inl ⟨by rfl, ?_⟩) ?_ ?_
                                                    rotate_left
                                                    · intro w'
                                                      go_simp
                                                      with_reducible rfl
                                                    rotate_left
                                                    · simp only [Act.put, List.setIfInBounds_toArray, List.set_cons_zero, List.set_cons_succ, i64_w, i32_w]
                                                      rfl
                                                    refine pure_ (i := 6) (N := some 112) (v := ?_) (a' := ?_) #[true, true, true, false, true, true, true, false, false, false, false] rfl rfl (any_of HT_.out (by kernel_rfl)) (fun _ _ _ h => h) (Or.inl ⟨by rfl, ?_⟩) ?_ ?_
                                                    rotate_left
                                                    · intro w'
                                                      go_simp
                                                      with_reducible rfl
                                                    rotate_left
                                                    · simp only [Act.put, List.setIfInBounds_toArray, List.set_cons_zero, List.set_cons_succ, i64_w, i32_w]
                                                      rfl
                                                    refine take_ (i := 3) (N := some 109) (v := ?_) (a' := ?_) #[true, true, true, true, true, true, true, false, false, false, false] rfl rfl (take_ofW HT_.out HW_.out (by kernel_rfl)) (fun _ _ _ h => h) (Or.inl ⟨by rfl, ?_⟩) hHeld ?_ ?_
                                                    rotate_left
                                                    · rintro w' ⟨s0, s1⟩
                                                      (try simp only [Go.IntWalk.toNatUp] at s0 s1)
                                                      go_simp
                                                      with_reducible rfl
                                                    rotate_left
                                                    · simp only [Act.put, List.setIfInBounds_toArray, List.set_cons_zero, List.set_cons_succ, i64_w, i32_w]
                                                      rfl
                                                    refine take_ (i := 7) (N := some 113) (v := ?_) (a' := ?_) #[true, true, true, true, true, true, true, true, false, false, false] rfl rfl (take_ofW HT_.out HW_.out (by kernel_rfl)) (fun _ _ _ h => h) (Or.inl ⟨by rfl, ?_⟩) hHeld ?_ ?_
                                                    rotate_left
                                                    · rintro w' ⟨s0, s1⟩
                                                      (try simp only [Go.IntWalk.toNatUp] at s0 s1)
                                                      go_simp
                                                      with_reducible rfl
                                                    rotate_left
                                                    · simp only [Act.put, List.setIfInBounds_toArray, List.set_cons_zero, List.set_cons_succ, i64_w, i32_w]
                                                      rfl
                                                    refine pure_ (i := 8) (N := some 114) (v := ?_) (a' := ?_) #[true, true, true, true, true, true, true, true, true, false, false] rfl rfl (any_of HT_.out (by kernel_rfl)) (fun _ _ _ h => h) (Or.inl ⟨by rfl, ?_⟩) ?_ ?_
                                                    rotate_left
                                                    · intro w'
                                                      go_simp
                                                      with_reducible rfl
                                                    rotate_left
                                                    · simp only [Act.put, List.setIfInBounds_toArray, List.set_cons_zero, List.set_cons_succ, i64_w, i32_w]
                                                      rfl
                                                    refine pure_ (i := 9) (N := some 115) (v := ?_) (a' := ?_) #[true, true, true, true, true, true, true, true, true, true, false] rfl rfl (any_of HT_.out (by kernel_rfl)) (fun _ _ _ h => h) (Or.inl ⟨by rfl, ?_⟩) ?_ ?_
                                                    rotate_left
                                                    · intro w'
                                                      go_simp
                                                      with_reducible rfl
                                                    rotate_left
                                                    · simp only [Act.put, List.setIfInBounds_toArray, List.set_cons_zero, List.set_cons_succ, i64_w, i32_w]
                                                      rfl
                                                    refine last_ (i := 10) (N := none) #[true, true, true, true, true, true, true, true, true, true, true] rfl rfl (one_of HT_.out (by kernel_rfl)) (by decide) (fun K hK => ?_)
                                                    refine skip_ (w1 := ?_) (by rfl) rfl ?_ ?_
                                                    rotate_left
                                                    · go_simp
                                                      rfl
                                                    refine hK.out _ _ ?_
                                                    clear hK K
                                                    refine done_ (done_of HT_.out (by kernel_rfl)) ?_
                                                    try go_wp2
                                                    (try simp only [← hl9_2])
                                                    go_roundg kj25
                                                    case measure => have := HK1.out; have := HK2.out; have := HJ25.out; omega
                                                    case rel => exact ⟨(x8_2), (y243), (x10_2), ((wrap64 (x12_2 + ((rd_T40 l0 (ji19)).f0)))), (t232), (wrap64 (x14_2 + 1)), (by first | rfl | (simp; done) | (simp only [← hji19] <;> (first | rfl | simp)) | (simp [*]; done)), (by first | rfl | (simp; done) | (simp [*]; done)), (by first | rfl | (simp; done) | (simp [*]; done)), H', ⟨by have := HK1.out; have := HK2.out; have := HJ25.out; omega⟩, ⟨by (try simp only [hl9_1]); (try simp only [hl9_2]); (with_reducible repeat (first | apply Kd.R_alloc | apply Kd.R_drewN | apply Kd.R_drew)); exact Kd.R_mono (Kd.R_far (p := ⟨go8, (x11_1 : Int).toNat, none⟩) (Kd.R_mono HO_8.out (fun k_ hk => (⟨hk, fun e_ => hk.1 (by rw [e_]; rfl)⟩ : _ ∧ k_ ≠ go8))) (fun _ hk => hk.2) (.int .i64 (wrap64 ((rd x9_2 x11_1) + (rd x9_2 x14_2))))) (fun _ hk => ⟨hk.1.1, hk.1.2⟩)⟩, ⟨by (try simp only [hl9_1]); (try simp only [hl9_2]); (with_reducible repeat (first | apply Kd.R_alloc | apply Kd.R_drewN | apply Kd.R_drew)); exact HQ64.out⟩, ⟨by (try simp only [hl9_1]); (try simp only [hl9_2]); (with_reducible repeat (first | apply Kd.R_alloc | apply Kd.R_drewN | apply Kd.R_drew)); exact Kd.R_mono (Kd.R_far (p := ⟨go8, (x11_1 : Int).toNat, none⟩) (Kd.R_mono HO_10.out (fun k_ hk => (⟨hk, fun e_ => hk.2 (by rw [e_]; rfl)⟩ : _ ∧ k_ ≠ go8))) (fun _ hk => hk.2) (.int .i64 (wrap64 ((rd x9_2 x11_1) + (rd x9_2 x14_2))))) (fun _ hk => ⟨hk.1.1, hk.1.2⟩)⟩, ⟨by repeat (first | (with_reducible first | exact HB.out | apply below_alloc | apply pw_below_drewN | apply below_drew1 | refine below_set ?_ GB8.out) | exact HB.out)⟩⟩
                                                · rw [if_neg c53] at H
                                                  exact absurd H (by simp)
                                              · rw [if_neg c52] at H
                                                exact absurd H (by simp)
                                            · rw [if_neg c51] at H
                                              exact absurd H (by simp)
                                          · rw [if_neg c50] at H
                                            have c50b0 : ((wrap64 (t232 + (rd x8_2 x14_2))) == (rd x8_2 x11_1)) = false := beq_eq_false_iff_ne.mpr c50
                                            have c50b1 : ((wrap64 (t232 + (rd x8_2 x14_2))) != (rd x8_2 x11_1)) = true := bne_iff_ne.mpr c50
                                            have H' := Aside0.mk H
                                            clear H
                                            have p240 : 0 ≤ (x11_1 : Int) := of_decide_eq_true (by first | (with_reducible assumption) | assumption)
                                            have q240 : x11_1 < (x8_2.length : Int) := of_decide_eq_true (by first | (with_reducible assumption) | assumption)
                                            obtain ⟨ad240, e240, hx240_0⟩ := Kd.at_int (Kd.R_reads' HO_8.out).2.2 x11_1 p240 q240
                                            obtain rfl : ad233 = ad240 := (by injection e240)
                                            replace p240 := eq_true p240
                                            replace q240 := eq_true q240
                                            go_wp2
                                            (try simp only [← hl9_2])
                                            go_roundg kj25
                                            case measure => have := HK1.out; have := HK2.out; have := HJ25.out; omega
                                            case rel => exact ⟨(x8_2), (x9_2), (x10_2), ((wrap64 (x12_2 + ((rd_T40 l0 (ji19)).f0)))), (t232), (wrap64 (x14_2 + 1)), (by first | rfl | (simp; done) | (simp only [← hji19] <;> (first | rfl | simp)) | (simp [*]; done)), (by first | rfl | (simp; done) | (simp [*]; done)), (by first | rfl | (simp; done) | (simp [*]; done)), H', ⟨by have := HK1.out; have := HK2.out; have := HJ25.out; omega⟩, ⟨by (try simp only [hl9_1]); (try simp only [hl9_2]); (with_reducible repeat (first | apply Kd.R_alloc | apply Kd.R_drewN | apply Kd.R_drew)); exact HO_8.out⟩, ⟨by (try simp only [hl9_1]); (try simp only [hl9_2]); (with_reducible repeat (first | apply Kd.R_alloc | apply Kd.R_drewN | apply Kd.R_drew)); exact HO_9.out⟩, ⟨by (try simp only [hl9_1]); (try simp only [hl9_2]); (with_reducible repeat (first | apply Kd.R_alloc | apply Kd.R_drewN | apply Kd.R_drew)); exact HO_10.out⟩, ⟨by repeat (first | (with_reducible first | exact HB.out | apply below_alloc | apply pw_below_drewN | apply below_drew1) | exact HB.out)⟩⟩
                                        · rw [if_neg c49] at H
                                          exact absurd H (by simp)
                                      · rw [if_neg c48] at H
                                        exact absurd H (by simp)
                              · rw [if_neg c25] at H
                                exact absurd H (by simp)
                            · rw [if_neg c24] at H
                              exact absurd H (by simp)
                        · rw [if_neg c21] at H
                          exact absurd H (by simp)
                      · rw [if_neg c20] at H
                        exact absurd H (by simp)
                    · rw [if_neg c18] at H
                      have c18b0 : decide (x14_2 ≤ (l0.length : Int)) = false := decide_eq_false c18
                      clear c18
                      have H' := Aside0.mk H
                      clear H
                      go_wp2
                      (try simp only [← hl9_1, ← hl9_2])
                      go_roundg k2
                      case measure => have := HK1.out; have := HK2.out; omega
                      case rel => exact ⟨(x8_2), (x9_2), (x10_2), (wrap64 (x11_1 - 1)), (by first | rfl | (simp; done) | (simp [*]; done)), H', ⟨by have := HK1.out; have := HK2.out; omega⟩, ⟨by (try simp only [hl9_1]); (try simp only [hl9_2]); (with_reducible repeat (first | apply Kd.R_alloc | apply Kd.R_drewN | apply Kd.R_drew)); exact HO_8.out⟩, ⟨by (try simp only [hl9_1]); (try simp only [hl9_2]); (with_reducible repeat (first | apply Kd.R_alloc | apply Kd.R_drewN | apply Kd.R_drew)); exact HO_9.out⟩, ⟨by (try simp only [hl9_1]); (try simp only [hl9_2]); (with_reducible repeat (first | apply Kd.R_alloc | apply Kd.R_drewN | apply Kd.R_drew)); exact HO_10.out⟩, ⟨by repeat (first | (with_reducible first | exact HB.out | apply below_alloc | apply pw_below_drewN | apply below_drew1) | exact HB.out)⟩⟩
              · rw [if_neg c17] at H
                have c17b0 : decide (0 ≤ x11_1) = false := decide_eq_false c17
                clear c17
                have H' := Aside0.mk H
                clear H
                go_wp2
                go_loopg [16, 17] k1 (fun kq v16 v17 w' => ∃ (x16_2 : List Int) (x17_2 : Int), v17 = .int .i64 x17_2 ∧ Aside0 (spec_shLowest.l2 kq (l0.length : Int) x8_1 x9_1 x10_1 x16_2 x17_2 = some (r1, r2, r3)) ∧ Aside0 (kq ≤ k1) ∧ Aside0 (Kd.R (Kd.int .i64) 3 w' w.heap.size (fun k_ => some k_ ≠ ((.slice (some ⟨go8, 0, none⟩) x9_1.length co8) : Value).ownBlock ∧ some k_ ≠ (v228 : Value).ownBlock ∧ some k_ ≠ (v16 : Value).ownBlock) v221 x8_1) ∧ Aside0 (Kd.R (Kd.int .i64) 3 w' w.heap.size (fun k_ => some k_ ≠ (v221 : Value).ownBlock ∧ some k_ ≠ (v228 : Value).ownBlock ∧ some k_ ≠ (v16 : Value).ownBlock) (.slice (some ⟨go8, 0, none⟩) x9_1.length co8) x9_1) ∧ Aside0 (Kd.R (Kd.int .i64) 3 w' w.heap.size (fun k_ => some k_ ≠ (v221 : Value).ownBlock ∧ some k_ ≠ ((.slice (some ⟨go8, 0, none⟩) x9_1.length co8) : Value).ownBlock ∧ some k_ ≠ (v16 : Value).ownBlock) v228 x10_1) ∧ Aside0 (Kd.R (Kd.int .i64) 3 w' w.heap.size (fun k_ => some k_ ≠ (v221 : Value).ownBlock ∧ some k_ ≠ ((.slice (some ⟨go8, 0, none⟩) x9_1.length co8) : Value).ownBlock ∧ some k_ ≠ (v228 : Value).ownBlock) v16 x16_2) ∧ Aside0 (Below w.heap.size w w'))
                case atStart => exact ⟨(([] : List Int)), (0), (by first | rfl | (simp; done) | (simp [*]; done)), H', ⟨Nat.le_refl _⟩, ⟨by (try simp only [hl9_1]); (with_reducible repeat (first | apply Kd.R_alloc | apply Kd.R_drewN | apply Kd.R_drew)); exact Kd.R_mono HO_8.out (fun _ hk => ⟨hk.1, ⟨hk.2, (by simp [Value.ownBlock])⟩⟩)⟩, ⟨by (try simp only [hl9_1]); (with_reducible repeat (first | apply Kd.R_alloc | apply Kd.R_drewN | apply Kd.R_drew)); exact Kd.R_mono HO_9.out (fun _ hk => ⟨hk.1, ⟨hk.2, (by simp [Value.ownBlock])⟩⟩)⟩, ⟨by (try simp only [hl9_1]); (with_reducible repeat (first | apply Kd.R_alloc | apply Kd.R_drewN | apply Kd.R_drew)); exact Kd.R_mono HO_10.out (fun _ hk => ⟨hk.1, ⟨hk.2, (by simp [Value.ownBlock])⟩⟩)⟩, ⟨by (try simp only [hl9_1]); first | exact Kd.R_nil _ _ _ _ _ | exact Kd.N_nil _ _ _ _ _ | exact Kd.V_nil _ _ _ _ _ | exact Kd.Q_nil _ _ _ _ _ | exact Kd.S_nil _ _ _ _ _⟩, ⟨by repeat (first | (with_reducible first | exact HB.out | apply below_alloc | apply pw_below_drewN | apply below_drew1) | exact HB.out)⟩⟩
                case round =>
                  clear H'
                  try clear c1
                  try clear c2
                  try clear p2
                  try clear q2
                  try clear hx2
                  try clear c3
                  try clear p3
                  try clear q3
                  try clear hx3
                  try clear hf3
                  try clear c4
                  try clear c4b0
                  try clear c4b1
                  try clear p4
                  try clear q4
                  try clear hx4
                  try clear hf4
                  try clear c5
                  try clear c5b0
                  try clear c5b1
                  try clear p5
                  try clear q5
                  try clear hx5
                  try clear hf5
                  try clear c6
                  try clear c6b0
                  try clear c6b1
                  try clear p6
                  try clear c7
                  try clear c7b0
                  try clear c7b1
                  try clear p8
                  try clear q8
                  try clear hx8
                  try clear hf8
                  try clear c17
                  try clear c17b0
                  try clear c18
                  try clear c18b0
                  try clear c20
                  try clear c20b0
                  try clear c21
                  try clear c21b0
                  try clear c23
                  try clear c23b0
                  try clear p23
                  try clear q23
                  try clear hx23
                  try clear c24
                  try clear c24b0
                  try clear p24
                  try clear q24
                  try clear hx24
                  try clear c25
                  try clear c25b0
                  try clear c28
                  try clear c28b0
                  try clear c29
                  try clear c29b0
                  try clear c30
                  try clear c30b0
                  try clear c30b1
                  try clear c31
                  try clear c31b0
                  try clear c32
                  try clear c33
                  try clear c33b0
                  try clear c34
                  try clear c34b0
                  try clear p35
                  try clear q35
                  try clear hx35
                  try clear hf35
                  try clear c36
                  try clear c36b0
                  try clear c37
                  try clear c37b0
                  try clear c38
                  try clear c38b0
                  try clear p39
                  try clear q39
                  try clear hx39
                  try clear hf39
                  try clear c40
                  try clear c40b0
                  try clear p41
                  try clear q41
                  try clear hx41
                  try clear hf41
                  try clear c48
                  try clear c48b0
                  try clear c49
                  try clear c49b0
                  try clear c50
                  try clear c50b0
                  try clear c50b1
                  try clear c51
                  try clear c51b0
                  try clear c52
                  try clear c52b0
                  try clear c53
                  try clear c53b0
                  try clear p54
                  try clear q54
                  try clear hx54
                  try clear hf54
                  try clear c55
                  try clear c55b0
                  try clear c55b1
                  try clear c56
                  try clear c56b0
                  try clear p57
                  try clear q57
                  try clear hx57
                  try clear hf57
                  try clear p64
                  try clear hx230_0
                  try clear hx230_1
                  try clear hx231_0
                  try clear hx231_1
                  try clear hx233_0
                  try clear hx234_0
                  try clear hx235_0
                  try clear hx237_0
                  try clear hx240_0
                  try clear hx241_0
                  try clear hx242_0
                  try clear hx35_0
                  try clear hx39_0
                  try clear hx41_0
                  try clear hx54_0
                  try clear hx57_0
                  try clear hx8_0
                  try clear p2
                  try clear p23
                  try clear p230
                  try clear p231
                  try clear p233
                  try clear p234
                  try clear p235
                  try clear p237
                  try clear p240
                  try clear p241
                  try clear p242
                  try clear p35
                  try clear p39
                  try clear p41
                  try clear p54
                  try clear p57
                  try clear p6
                  try clear p8
                  try clear q2
                  try clear q23
                  try clear q230
                  try clear q231
                  try clear q233
                  try clear q234
                  try clear q235
                  try clear q237
                  try clear q240
                  try clear q241
                  try clear q242
                  try clear q35
                  try clear q39
                  try clear q41
                  try clear q54
                  try clear q57
                  try clear q8
                  obtain ⟨x16_2, x17_2, rfl, HA, HK2, HO_8, HO_9, HO_10, HO_16, HB⟩ := hrel
                  cases gk with
                  | zero => exact absurd HA.out (by simp [spec_shLowest.l2])
                  | succ k2 =>
                    have H := HA.out
                    clear HA
                    simp only [spec_shLowest.l2] at H
                    by_cases c65 : x17_2 < (l0.length : Int)
                    · rw [if_pos c65] at H
                      have c65b0 : decide (x17_2 < (l0.length : Int)) = true := decide_eq_true c65
                      clear c65
                      by_cases c66 : x16_2.length < 17592186044416
                      · rw [if_pos c66] at H
                        have LMc66 := Aside0.mk c66
                        clear c66
                        obtain ⟨y245, hy245⟩ : ∃ y_ : List Int, y_ = (x16_2 ++ [x17_2]) := ⟨_, rfl⟩
                        replace H : (if 0 ≤ x17_2 then (if x17_2 < (x10_1.length : Int) then (spec_shLowest.l2 k2 (l0.length : Int) x8_1 x9_1 x10_1 y245 (rd x10_1 x17_2)) else (none)) else (none)) = some (r1, r2, r3) := by first | (rw [hy245]; with_reducible exact H) | (have H2_ := (Option.bind_some _ _).symm.trans H; rw [hy245]; with_reducible exact H2_) | (have H2_ := (Option.bind_some _ _).symm.trans H; with_reducible exact H2_) | with_reducible exact H | (rw [hy245]; exact H) | exact H
                        have Ny245 := Aside0.mk hy245
                        clear hy245
                        by_cases c67 : 0 ≤ x17_2
                        · rw [if_pos c67] at H
                          have c67b0 : decide (0 ≤ x17_2) = true := decide_eq_true c67
                          clear c67
                          by_cases c68 : x17_2 < (x10_1.length : Int)
                          · rw [if_pos c68] at H
                            have c68b0 : decide (x17_2 < (x10_1.length : Int)) = true := decide_eq_true c68
                            clear c68
                            have H' := Aside0.mk H
                            clear H
                            go_wp2_with (first | ((with_reducible refine gate_builtin (b := .append) (xs := #[.tmp 130, .tmp 132]) rfl ?_); at_builtin; refine Kd.R_append (Kd.int .i64) (w0 := w) w.heap.size rfl (.tmp 130) (.tmp 132) 30 3 (.int .i64 0) 8 rfl Try.underlying30 info3 rfl (by decide) (by omega) u16 x16_2 x17_2 [.int .i64 x17_2] (fun k_ => some k_ ≠ (v221 : Value).ownBlock ∧ some k_ ≠ (.slice (some ⟨go8, 0, none⟩) x9_1.length co8 : Value).ownBlock ∧ some k_ ≠ (v228 : Value).ownBlock) (fun _ => False) rfl rfl ?aP (fun _ hk => hk.elim) ?aF ?aO ?aB ?aS ?aL ?_; (case aP => exact rfl); (case aB => exact (by repeat (first | (with_reducible first | exact HB.out | apply below_alloc | apply pw_below_drewN | apply below_drew1) | exact HB.out))); (case aF => exact (fun k_ hk => ⟨Kd.fresh' (Kd.R_lt (by (with_reducible repeat (first | apply Kd.R_alloc | apply Kd.R_drewN | apply Kd.R_drew)); exact HO_8.out)) k_ hk, Kd.fresh' (Kd.R_lt (by (with_reducible repeat (first | apply Kd.R_alloc | apply Kd.R_drewN | apply Kd.R_drew)); exact HO_9.out)) k_ hk, Kd.fresh' (Kd.R_lt (by (with_reducible repeat (first | apply Kd.R_alloc | apply Kd.R_drewN | apply Kd.R_drew)); exact HO_10.out)) k_ hk⟩)); (case aO => exact (by (with_reducible repeat (first | apply Kd.R_alloc | apply Kd.R_drewN | apply Kd.R_drew)); exact HO_16.out)); (case aS => exact (below_size (by repeat (first | (with_reducible first | exact HB.out | apply below_alloc | apply pw_below_drewN | apply below_drew1) | exact HB.out)))); (case aL => have := LMc66.out; omega); intro v246 w69 ho hb hg hat; rw [← Ny245.out] at ho; have n0_ := Aside0.mk (Kd.R_after (ok := (fun k_ => some k_ ≠ (.slice (some ⟨go8, 0, none⟩) x9_1.length co8 : Value).ownBlock ∧ some k_ ≠ (v228 : Value).ownBlock)) (by (with_reducible repeat (first | apply Kd.R_alloc | apply Kd.R_drewN | apply Kd.R_drew)); exact Kd.R_mono HO_8.out (fun _ hk => ⟨⟨hk.1, hk.2.1⟩, hk.2.2⟩)) hg hat); have n1_ := Aside0.mk (Kd.R_after (ok := (fun k_ => some k_ ≠ (v221 : Value).ownBlock ∧ some k_ ≠ (v228 : Value).ownBlock)) (by (with_reducible repeat (first | apply Kd.R_alloc | apply Kd.R_drewN | apply Kd.R_drew)); exact Kd.R_mono HO_9.out (fun _ hk => ⟨⟨hk.1, hk.2.1⟩, hk.2.2⟩)) hg hat); have n2_ := Aside0.mk (Kd.R_after (ok := (fun k_ => some k_ ≠ (v221 : Value).ownBlock ∧ some k_ ≠ (.slice (some ⟨go8, 0, none⟩) x9_1.length co8 : Value).ownBlock)) (by (with_reducible repeat (first | apply Kd.R_alloc | apply Kd.R_drewN | apply Kd.R_drew)); exact Kd.R_mono HO_10.out (fun _ hk => ⟨⟨hk.1, hk.2.1⟩, hk.2.2⟩)) hg hat); have n3_ := Aside0.mk (hb); have n4_ := Aside0.mk (ho); clear HO_8; clear HO_9; clear HO_10; clear HB; clear HO_16; have HO_8 := n0_; have HO_9 := n1_; have HO_10 := n2_; have HB := n3_; have HO247 := n4_; clear n0_ n1_ n2_ n3_ n4_; clear ho hb hg hat; obtain ⟨Ao70, co70, eo70⟩ := Kd.R_slice HO_10.out; subst eo70; have p248 : 0 ≤ (x17_2 : Int) := of_decide_eq_true (by first | (with_reducible assumption) | assumption); have q248 : x17_2 < (x10_1.length : Int) := of_decide_eq_true (by first | (with_reducible assumption) | assumption); obtain ⟨ad248, e248, hx248_0⟩ := Kd.at_int (Kd.R_reads' HO_10.out).2.2 x17_2 p248 q248; cases e248; replace p248 := eq_true p248; replace q248 := eq_true q248))
                            go_roundg k2
                            case measure => have := HK1.out; have := HK2.out; omega
                            case rel => exact ⟨(y245), (rd x10_1 x17_2), (by first | rfl | (simp; done) | (simp [*]; done)), H', ⟨by have := HK1.out; have := HK2.out; omega⟩, ⟨by (try simp only [hl9_1]); (with_reducible repeat (first | apply Kd.R_alloc | apply Kd.R_drewN | apply Kd.R_drew)); exact Kd.R_mono HO_8.out (fun _ hk => ⟨hk.1.1, ⟨hk.1.2, hk.2⟩⟩)⟩, ⟨by (try simp only [hl9_1]); (with_reducible repeat (first | apply Kd.R_alloc | apply Kd.R_drewN | apply Kd.R_drew)); exact Kd.R_mono HO_9.out (fun _ hk => ⟨hk.1.1, ⟨hk.1.2, hk.2⟩⟩)⟩, ⟨by (try simp only [hl9_1]); (with_reducible repeat (first | apply Kd.R_alloc | apply Kd.R_drewN | apply Kd.R_drew)); exact Kd.R_mono HO_10.out (fun _ hk => ⟨hk.1.1, ⟨hk.1.2, hk.2⟩⟩)⟩, ⟨by (try simp only [hl9_1]); (with_reducible repeat (first | apply Kd.R_alloc | apply Kd.R_drewN | apply Kd.R_drew)); exact HO247.out⟩, ⟨by repeat (first | (with_reducible first | exact HB.out | apply below_alloc | apply pw_below_drewN | apply below_drew1) | exact HB.out)⟩⟩
                          · rw [if_neg c68] at H
                            exact absurd H (by simp)
                        · rw [if_neg c67] at H
                          exact absurd H (by simp)
                      · rw [if_neg c66] at H
                        exact absurd H (by simp)
                    · rw [if_neg c65] at H
                      have c65b0 : decide (x17_2 < (l0.length : Int)) = false := decide_eq_false c65
                      clear c65
                      by_cases c71 : 0 < (x8_1.length : Int)
                      · rw [if_pos c71] at H
                        have c71b0 : decide (0 < (x8_1.length : Int)) = true := decide_eq_true c71
                        have c71b1 : decide (0 < x8_1.length) = true := decide_eq_true (by omega)
                        clear c71
                        by_cases c72 : 0 < (x9_1.length : Int)
                        · rw [if_pos c72] at H
                          have c72b0 : decide (0 < (x9_1.length : Int)) = true := decide_eq_true c72
                          have c72b1 : decide (0 < x9_1.length) = true := decide_eq_true (by omega)
                          clear c72
                          simp only [Option.some.injEq, Prod.mk.injEq] at H
                          obtain ⟨rfl, rfl, rfl⟩ := H
                          try go_wp2
                          have n0_ := Aside0.mk (Kd.R_drew HO_8.out)
                          have n1_ := Aside0.mk (Kd.R_drew HO_9.out)
                          have n2_ := Aside0.mk (Kd.R_drew HO_10.out)
                          have n3_ := Aside0.mk (Kd.R_drew HO_16.out)
                          have n4_ := Aside0.mk (below_drew1 HB.out)
                          clear HO_8
                          clear HO_9
                          clear HO_10
                          clear HO_16
                          clear HB
                          have HO_8 := n0_
                          have HO_9 := n1_
                          have HO_10 := n2_
                          have HO_16 := n3_
                          have HB := n4_
                          clear n0_ n1_ n2_ n3_ n4_
                          obtain ⟨Ao74, co74, eo74⟩ := Kd.R_slice HO_8.out
                          (first | subst eo74 | (injection eo74 with f1_ f2_ f3_; have f4_ := f1_.symm; have f5_ := f3_.symm; clear f1_ f2_ f3_; subst f4_; subst f5_))
                          have p249 : 0 ≤ (0 : Int) := (by omega)
                          have q249 : 0 < (x8_1.length : Int) := of_decide_eq_true (by first | (with_reducible assumption) | assumption)
                          obtain ⟨ad249, e249, hx249_0⟩ := Kd.at_int (Kd.R_reads' HO_8.out).2.2 0 p249 q249
                          cases e249
                          have qi249 : (0 < x8_1.length) = True := eq_true (by omega)
                          (try rw [show ((0 : Int)).toNat = 0 from rfl] at hx249_0)
                          (try rw [Addr.add_zero'] at hx249_0)
                          replace p249 := eq_true p249
                          replace q249 := eq_true q249
                          have p250 : 0 ≤ (0 : Int) := (by omega)
                          have q250 : 0 < (x9_1.length : Int) := of_decide_eq_true (by first | (with_reducible assumption) | assumption)
                          obtain ⟨ad250, e250, hx250_0⟩ := Kd.at_int (Kd.R_reads' HO_9.out).2.2 0 p250 q250
                          obtain rfl : (⟨go8, 0, none⟩ : Addr) = ad250 := (by injection e250)
                          (first | simp only [add_plain] at hx250_0 | simp only [add_at] at hx250_0 | simp only [Addr.add, Nat.zero_add] at hx250_0 | skip)
                          have qi250 : (0 < x9_1.length) = True := eq_true (by omega)
                          (try rw [show ((0 : Int)).toNat = 0 from rfl] at hx250_0)
                          (try rw [Addr.add_zero'] at hx250_0)
                          replace p250 := eq_true p250
                          replace q250 := eq_true q250
                          refine start_ (n := 10) (S := fun w' => w'.cell? ad249 = some (.int .i64 (rd x8_1 0)) ∧ w'.cell? ⟨go8, 0, none⟩ = some (.int .i64 (rd x9_1 0))) (ds := []) #[false, false, false, false, false, false, false, false, false, false] (by kernel_rfl) rfl rfl ⟨hx249_0, hx250_0⟩ (fun hHeld => ?_); refine with_tabW spec_shLowest.tab30 spec_shLowest.bits30 (fun HT_ HW_ => ?_)
                          generalize wr.drew = w73 at HO_8 HO_9 HO_10 HO_16 HB hx249_0 hx250_0 hHeld ⊢
                          refine pure_ (i := 0) (N := some 134) (v := ?_) (a' := ?_) #[true, false, false, false, false, false, false, false, false, false] rfl rfl (any_of HT_.out (by kernel_rfl)) (fun _ _ _ h => h) (Or.inl ⟨by rfl, ?_⟩) ?_ ?_
                          rotate_left
                          · intro w'
                            go_simp
                            with_reducible rfl
                          rotate_left
                          · simp only [Act.put, List.setIfInBounds_toArray, List.set_cons_zero, List.set_cons_succ, i64_w, i32_w]
                            rfl
                          refine pure_ (i := 1) (N := some 135) (v := ?_) (a' := ?_) #[true, true, false, false, false, false, false, false, false, false] rfl rfl (any_of HT_.out (by kernel_rfl)) (fun _ _ _ h => h) (Or.inl ⟨by rfl, ?_⟩) ?_ ?_
                          rotate_left
                          · intro w'
                            go_simp
                            with_reducible rfl
                          rotate_left
                          · simp only [Act.put, List.setIfInBounds_toArray, List.set_cons_zero, List.set_cons_succ, i64_w, i32_w]
                            rfl
                          refine pure_ (i := 2) (N := some 136) (v := ?_) (a' := ?_) #[true, true, true, false, false, false, false, false, false, false] rfl rfl (any_of HT_.out (by kernel_rfl)) (fun _ _ _ h => h) (Or.inl ⟨by rfl, ?_⟩) ?_ ?_
                          rotate_left
                          · intro w'
                            go_simp
                            with_reducible rfl
                          rotate_left
                          · simp only [Act.put, List.setIfInBounds_toArray, List.set_cons_zero, List.set_cons_succ, i64_w, i32_w]
                            rfl
                          refine pure_ (i := 4) (N := some 138) (v := ?_) (a' := ?_) #[true, true, true, false, true, false, false, false, false, false] rfl rfl (any_of HT_.out (by kernel_rfl)) (fun _ _ _ h => h) (Or.inl ⟨by rfl, ?_⟩) ?_ ?_
                          rotate_left
                          · intro w'
                            go_simp
                            with_reducible rfl
                          rotate_left
                          · simp only [Act.put, List.setIfInBounds_toArray, List.set_cons_zero, List.set_cons_succ, i64_w, i32_w]
                            rfl
                          refine pure_ (i := 5) (N := some 139) (v := ?_) (a' := ?_) #[true, true, true, false, true, true, false, false, false, false] rfl rfl (any_of HT_.out (by kernel_rfl)) (fun _ _ _ h => h) (Or.inl ⟨by rfl, ?_⟩) ?_ ?_
                          rotate_left
                          · intro w'
                            go_simp
                            with_reducible rfl
                          rotate_left
                          · simp only [Act.put, List.setIfInBounds_toArray, List.set_cons_zero, List.set_cons_succ, i64_w, i32_w]
                            rfl
                          refine pure_ (i := 7) (N := some 4) (v := ?_) (a' := ?_) #[true, true, true, false, true, true, false, true, false, false] rfl rfl (any_of HT_.out (by kernel_rfl)) (fun _ _ _ h => h) (Or.inl ⟨by rfl, ?_⟩) ?_ ?_
                          rotate_left
                          · intro w'
                            go_simp
                            with_reducible rfl
                          rotate_left
                          · simp only [Act.put, List.setIfInBounds_toArray, List.set_cons_zero, List.set_cons_succ, i64_w, i32_w]
                            rfl
                          refine take_ (i := 3) (N := some 137) (v := ?_) (a' := ?_) #[true, true, true, true, true, true, false, true, false, false] rfl rfl (take_ofW HT_.out HW_.out (by kernel_rfl)) (fun _ _ _ h => h) (Or.inl ⟨by rfl, ?_⟩) hHeld ?_ ?_
                          rotate_left
                          · rintro w' ⟨s0, s1⟩
                            (try simp only [Go.IntWalk.toNatUp] at s0 s1)
                            go_simp
                            with_reducible rfl
                          rotate_left
                          · simp only [Act.put, List.setIfInBounds_toArray, List.set_cons_zero, List.set_cons_succ, i64_w, i32_w]
                            rfl
                          refine pure_ (i := 8) (N := some 5) (v := ?_) (a' := ?_) #[true, true, true, true, true, true, false, true, true, false] rfl rfl (any_of HT_.out (by kernel_rfl)) (fun _ _ _ h => h) (Or.inl ⟨by rfl, ?_⟩) ?_ ?_
                          rotate_left
                          · intro w'
                            go_simp
                            with_reducible rfl
                          rotate_left
                          · simp only [Act.put, List.setIfInBounds_toArray, List.set_cons_zero, List.set_cons_succ, i64_w, i32_w]
                            rfl
                          refine take_ (i := 6) (N := some 140) (v := ?_) (a' := ?_) #[true, true, true, true, true, true, true, true, true, false] rfl rfl (take_ofW HT_.out HW_.out (by kernel_rfl)) (fun _ _ _ h => h) (Or.inl ⟨by rfl, ?_⟩) hHeld ?_ ?_
                          rotate_left
                          · rintro w' ⟨s0, s1⟩
                            (try simp only [Go.IntWalk.toNatUp] at s0 s1)
                            go_simp
                            with_reducible rfl
                          rotate_left
                          · simp only [Act.put, List.setIfInBounds_toArray, List.set_cons_zero, List.set_cons_succ, i64_w, i32_w]
                            rfl
                          refine pure_ (i := 9) (N := some 6) (v := ?_) (a' := ?_) #[true, true, true, true, true, true, true, true, true, true] rfl rfl (any_of HT_.out (by kernel_rfl)) (fun _ _ _ h => h) (Or.inl ⟨by rfl, ?_⟩) ?_ ?_
                          rotate_left
                          · intro w'
                            go_simp
                            with_reducible rfl
                          rotate_left
                          · simp only [Act.put, List.setIfInBounds_toArray, List.set_cons_zero, List.set_cons_succ, i64_w, i32_w]
                            rfl
                          refine done_ (done_of HT_.out (by kernel_rfl)) ?_
                          try go_wp2
                          go_ret3
                          exact ⟨_, by first | rfl | (simp [errW_none, errW_some] <;> rfl) | (simp only [← hji3]; first | rfl | (simp [errW_none, errW_some] <;> rfl)) | (simp [*, errW_none, errW_some] <;> rfl), by (with_reducible repeat (first | apply Kd.R_alloc | apply Kd.R_drewN | apply Kd.R_drew)); exact Kd.R_mono HO_16.out (fun _ hk => trivial), by repeat (first | (with_reducible first | exact HB.out | apply below_alloc | apply pw_below_drewN | apply below_drew1) | exact HB.out)⟩
                        · rw [if_neg c72] at H
                          exact absurd H (by simp)
                      · rw [if_neg c71] at H
                        exact absurd H (by simp)
        · rw [if_neg c7] at H
          exact absurd H (by simp)
      · rw [if_neg c6] at H
        exact absurd H (by simp)
    · rw [if_neg c5] at H
      exact absurd H (by simp)
  · rw [if_neg c4] at H
    exact absurd H (by simp)

end Go.Proofs.Ythdfkgehgkfffaa.P
