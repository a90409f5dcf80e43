-- Laid by wip/myprint.py of this project (a wrapper over the kit's print.py); Lean checks it.
import Derived.Test.YtclfjjinfbfajaaPx0
import Derived.Test.YtclfjjinfbfajaaPx1
namespace Go.Proofs.Ytclfjjinfbfajaa.P
open Go.RowKit Go.Proofs.YtclfjjinfbfajaaW.PrintWords Go.Proofs.YtclfjjinfbfajaaW.PrintLast Go.Proofs.YtclfjjinfbfajaaW.PrintMore
attribute [local go_sem] max2_int min2_int max_two min_two max_three min_three max_four min_four   -- for this text's walks alone
set_option linter.unusedVariables false
set_option linter.unusedSimpArgs false

/-! ### spec_bxRule: function 22 -/
mutual
def spec_bxRule.l0 : Nat → List Int → Int → Int → List Int → List Int → List Int → Int → Int → Option (List Int)
  | 0, _, _, _, _, _, _, _, _ => none
  | k + 1, x0, x2, x3, x9, x10, x19, x20, x21 => if x21 < x20 then (if 0 ≤ x21 then (if x21 < (x19.length : Int) then (spec_bxRule.l1 k x0 x2 x3 x9 x10 (rd x19 x21) (-1) x19 x20 x21 (x10.length : Int) 0) else (none)) else (none)) else (some x9)
def spec_bxRule.l1 : Nat → List Int → Int → Int → List Int → List Int → Int → Int → List Int → Int → Int → Int → Int → Option (List Int)
  | 0, _, _, _, _, _, _, _, _, _, _, _, _ => none
  | k + 1, x0, x2, x3, x9, x10, x12, x13, x19, x20, x21, x26, x27 => if x27 < x26 then (if 0 ≤ x27 then (if x27 < (x10.length : Int) then (if 0 ≤ x12 then (if x12 < (x0.length : Int) then (if (wrap64 ((rd x10 x27) + (rd x0 x12))) > x2 then (spec_bxRule.j2 k x0 x2 x3 x9 x10 x12 x13 x27 (rd x10 x27) x19 x20 x21 x26 x27 true) else (if x3 = 110 then (spec_bxRule.j2 k x0 x2 x3 x9 x10 x12 x13 x27 (rd x10 x27) x19 x20 x21 x26 x27 (decide (x27 < (wrap64 ((x10.length : Int) - 1))))) else (spec_bxRule.j2 k x0 x2 x3 x9 x10 x12 x13 x27 (rd x10 x27) x19 x20 x21 x26 x27 false))) else (none)) else (none)) else (none)) else (none)) else (if x13 < 0 then (if x10.length < 17592186044416 then ((some (x10 ++ [0] : List Int)).bind fun y177 => (if 0 ≤ (x10.length : Int) then (if (x10.length : Int) < (y177.length : Int) then (if 0 ≤ x12 then (if x12 < (x0.length : Int) then (if x12 < (x9.length : Int) then (spec_bxRule.l0 k x0 x2 x3 (x9.set (x12 : Int).toNat (x10.length : Int)) (y177.set ((x10.length : Int) : Int).toNat (wrap64 ((rd y177 (x10.length : Int)) + (rd x0 x12)))) x19 x20 (wrap64 (x21 + 1))) else (none)) else (none)) else (none)) else (none)) else (none))) else (none)) else (if 0 ≤ x13 then (if x13 < (x10.length : Int) then (if 0 ≤ x12 then (if x12 < (x0.length : Int) then (if x12 < (x9.length : Int) then (spec_bxRule.l0 k x0 x2 x3 (x9.set (x12 : Int).toNat x13) (x10.set (x13 : Int).toNat (wrap64 ((rd x10 x13) + (rd x0 x12)))) x19 x20 (wrap64 (x21 + 1))) else (none)) else (none)) else (none)) else (none)) else (none)))
def spec_bxRule.j2 : Nat → List Int → Int → Int → List Int → List Int → Int → Int → Int → Int → List Int → Int → Int → Int → Int → Bool → Option (List Int)
  | 0, _, _, _, _, _, _, _, _, _, _, _, _, _, _, _ => none
  | k + 1, x0, x2, x3, x9, x10, x12, x13, x14, x15, x19, x20, x21, x26, x27, x50 => if x50 = true then (spec_bxRule.l1 k x0 x2 x3 x9 x10 x12 x13 x19 x20 x21 x26 (wrap64 (x27 + 1))) else (if x13 < 0 then (spec_bxRule.l1 k x0 x2 x3 x9 x10 x12 x14 x19 x20 x21 x26 (wrap64 (x27 + 1))) else (if x3 = 98 then (if 0 ≤ x13 then (if x13 < (x10.length : Int) then (if x15 > (rd x10 x13) then (spec_bxRule.l1 k x0 x2 x3 x9 x10 x12 x14 x19 x20 x21 x26 (wrap64 (x27 + 1))) else (if x3 = 119 then (if x15 < (rd x10 x13) then (spec_bxRule.l1 k x0 x2 x3 x9 x10 x12 x14 x19 x20 x21 x26 (wrap64 (x27 + 1))) else (spec_bxRule.l1 k x0 x2 x3 x9 x10 x12 x13 x19 x20 x21 x26 (wrap64 (x27 + 1)))) else (spec_bxRule.l1 k x0 x2 x3 x9 x10 x12 x13 x19 x20 x21 x26 (wrap64 (x27 + 1))))) else (none)) else (none)) else (if x3 = 119 then (if 0 ≤ x13 then (if x13 < (x10.length : Int) then (if x15 < (rd x10 x13) then (spec_bxRule.l1 k x0 x2 x3 x9 x10 x12 x14 x19 x20 x21 x26 (wrap64 (x27 + 1))) else (spec_bxRule.l1 k x0 x2 x3 x9 x10 x12 x13 x19 x20 x21 x26 (wrap64 (x27 + 1)))) else (none)) else (none)) else (spec_bxRule.l1 k x0 x2 x3 x9 x10 x12 x13 x19 x20 x21 x26 (wrap64 (x27 + 1))))))
end
def spec_bxRule.f (k : Nat) (l0 : List Int) (l1 : List Int) (a2 : Int) (a3 : Int) : Option (List Int) := if 0 ≤ (l0.length : Int) then (if ((l0.length : Int) : Int).toNat ≤ 35184372088832 then (spec_bxRule.l0 k l0 a2 a3 (List.replicate ((l0.length : Int) : Int).toNat 0) ([] : List Int) l1 (l1.length : Int) 0) else (none)) else (none)
theorem spec_bxRule.mono_l : ∀ k, (∀ y0 y1 y2 y3 y4 y5 y6 y7, LeO (spec_bxRule.l0 k y0 y1 y2 y3 y4 y5 y6 y7) (spec_bxRule.l0 (k + 1) y0 y1 y2 y3 y4 y5 y6 y7)) ∧ (∀ y0 y1 y2 y3 y4 y5 y6 y7 y8 y9 y10 y11, LeO (spec_bxRule.l1 k y0 y1 y2 y3 y4 y5 y6 y7 y8 y9 y10 y11) (spec_bxRule.l1 (k + 1) y0 y1 y2 y3 y4 y5 y6 y7 y8 y9 y10 y11)) ∧ (∀ y0 y1 y2 y3 y4 y5 y6 y7 y8 y9 y10 y11 y12 y13 y14, LeO (spec_bxRule.j2 k y0 y1 y2 y3 y4 y5 y6 y7 y8 y9 y10 y11 y12 y13 y14) (spec_bxRule.j2 (k + 1) y0 y1 y2 y3 y4 y5 y6 y7 y8 y9 y10 y11 y12 y13 y14))
  | 0 => ⟨fun _ _ _ _ _ _ _ _ r h => by simp [spec_bxRule.l0] at h, fun _ _ _ _ _ _ _ _ _ _ _ _ r h => by simp [spec_bxRule.l1] at h, fun _ _ _ _ _ _ _ _ _ _ _ _ _ _ _ r h => by simp [spec_bxRule.j2] at h⟩
  | k + 1 => by
    obtain ⟨ih0, ih1, ih2⟩ := spec_bxRule.mono_l k
    refine ⟨?_, ?_, ?_⟩
    · intro y0 y1 y2 y3 y4 y5 y6 y7
      unfold spec_bxRule.l0
      repeat' first
      | (with_reducible exact ih0 _ _ _ _ _ _ _ _)
      | (with_reducible exact ih1 _ _ _ _ _ _ _ _ _ _ _ _)
      | (with_reducible exact ih2 _ _ _ _ _ _ _ _ _ _ _ _ _ _ _)
      | (with_reducible exact LeO.refl _)
      | (with_reducible exact LeO.none _)
      | (with_reducible refine LeO.ite ?_ ?_)
      | (with_reducible refine LeO.bind ?_ (fun _ => ?_))
      | exact ih0 _ _ _ _ _ _ _ _
      | exact ih1 _ _ _ _ _ _ _ _ _ _ _ _
      | exact ih2 _ _ _ _ _ _ _ _ _ _ _ _ _ _ _
      | exact LeO.none _
      | refine LeO.ite ?_ ?_
      | refine LeO.bind ?_ (fun _ => ?_)
    · intro y0 y1 y2 y3 y4 y5 y6 y7 y8 y9 y10 y11
      unfold spec_bxRule.l1
      repeat' first
      | (with_reducible exact ih0 _ _ _ _ _ _ _ _)
      | (with_reducible exact ih1 _ _ _ _ _ _ _ _ _ _ _ _)
      | (with_reducible exact ih2 _ _ _ _ _ _ _ _ _ _ _ _ _ _ _)
      | (with_reducible exact LeO.refl _)
      | (with_reducible exact LeO.none _)
      | (with_reducible refine LeO.ite ?_ ?_)
      | (with_reducible refine LeO.bind ?_ (fun _ => ?_))
      | exact ih0 _ _ _ _ _ _ _ _
      | exact ih1 _ _ _ _ _ _ _ _ _ _ _ _
      | exact ih2 _ _ _ _ _ _ _ _ _ _ _ _ _ _ _
      | exact LeO.none _
      | refine LeO.ite ?_ ?_
      | refine LeO.bind ?_ (fun _ => ?_)
    · intro y0 y1 y2 y3 y4 y5 y6 y7 y8 y9 y10 y11 y12 y13 y14
      unfold spec_bxRule.j2
      repeat' first
      | (with_reducible exact ih0 _ _ _ _ _ _ _ _)
      | (with_reducible exact ih1 _ _ _ _ _ _ _ _ _ _ _ _)
      | (with_reducible exact ih2 _ _ _ _ _ _ _ _ _ _ _ _ _ _ _)
      | (with_reducible exact LeO.refl _)
      | (with_reducible exact LeO.none _)
      | (with_reducible refine LeO.ite ?_ ?_)
      | (with_reducible refine LeO.bind ?_ (fun _ => ?_))
      | exact ih0 _ _ _ _ _ _ _ _
      | exact ih1 _ _ _ _ _ _ _ _ _ _ _ _
      | exact ih2 _ _ _ _ _ _ _ _ _ _ _ _ _ _ _
      | exact LeO.none _
      | refine LeO.ite ?_ ?_
      | refine LeO.bind ?_ (fun _ => ?_)
theorem spec_bxRule.mono : ∀ a0 a1 a2 a3 k, LeO (spec_bxRule.f k a0 a1 a2 a3) (spec_bxRule.f (k + 1) a0 a1 a2 a3) := by
  intro a0 a1 a2 a3 k
  obtain ⟨ih0, ih1, ih2⟩ := spec_bxRule.mono_l k
  unfold spec_bxRule.f
  repeat' first
      | (with_reducible exact ih0 _ _ _ _ _ _ _ _)
      | (with_reducible exact ih1 _ _ _ _ _ _ _ _ _ _ _ _)
      | (with_reducible exact ih2 _ _ _ _ _ _ _ _ _ _ _ _ _ _ _)
      | (with_reducible exact LeO.refl _)
      | (with_reducible exact LeO.none _)
      | (with_reducible refine LeO.ite ?_ ?_)
      | (with_reducible refine LeO.bind ?_ (fun _ => ?_))
      | exact ih0 _ _ _ _ _ _ _ _
      | exact ih1 _ _ _ _ _ _ _ _ _ _ _ _
      | exact ih2 _ _ _ _ _ _ _ _ _ _ _ _ _ _ _
      | exact LeO.none _
      | refine LeO.ite ?_ ?_
      | refine LeO.bind ?_ (fun _ => ?_)
def spec_bxRule.T17 : Bool × List (List Nat × List Nat) := (true, [([], []), ([], []), ([0, 1], [0, 1]), ([2], [2]), ([], []), ([], []), ([4, 5], [4, 5]), ([6], [6]), ([3, 7], [3, 7]), ([0, 1, 0, 1, 2, 3, 4, 5, 6, 7, 8], [0, 1]), ([9, 8, 0, 1, 2, 3, 4, 5, 6, 7, 8], [8, 9])])
def spec_bxRule.B17 : List Nat := [0, 0, 3, 7, 0, 0, 48, 112, 255, 511, 1023]
theorem spec_bxRule.tab17 : rtab .any (opsOf Try.f22 17) = spec_bxRule.T17 := by kernel_rfl
theorem spec_bxRule.bits17 : waitsOk spec_bxRule.T17.2 spec_bxRule.B17 = true := by kernel_rfl
set_option maxHeartbeats 8000000 in
set_option maxRecDepth 100000 in
theorem spec_bxRule.calls (k : Nat) (A0 : Option Addr) (c0 : Nat) (l0 : List Int) (A1 : Option Addr) (c1 : Nat) (l1 : List Int) (a2 : Int) (a3 : Int) (r : List Int) (w : World) (hr0 : Kd.C (Kd.int .i64) w A0 l0.length l0) (hc0 : l0.length ≤ c0) (hr1 : Kd.C (Kd.int .i64) w A1 l1.length l1) (hc1 : l1.length ≤ c1) (h : spec_bxRule.f k l0 l1 a2 a3 = some r) :
    Calls Try.prog 22 #[.slice A0 l0.length c0, .slice A1 l1.length c1, .int .i64 a2, .int .u8 a3] w fun e w' => ∃ v0_ : Value, e = .returned (v0_) ∧ Kd.R (Kd.int .i64) 3 w' w.heap.size (fun _ => True) v0_ r ∧ Below w.heap.size w w' := by
  have HR0 := Aside0.mk hr0
  have HC0 := Aside0.mk hc0
  clear hr0 hc0
  have HR1 := Aside0.mk hr1
  have HC1 := Aside0.mk hc1
  clear hr1 hc1
  have HB := Aside0.mk (Below.refl w.heap.size w)
  have H : (if 0 ≤ (l0.length : Int) then (if ((l0.length : Int) : Int).toNat ≤ 35184372088832 then (spec_bxRule.l0 k l0 a2 a3 (List.replicate ((l0.length : Int) : Int).toNat 0) ([] : List Int) l1 (l1.length : Int) 0) else (none)) else (none)) = some r := h
  clear h
  by_cases c5 : 0 ≤ (l0.length : Int)
  · rw [if_pos c5] at H
    have c5b0 := eq_true c5
    have c5b1 : decide (0 ≤ (l0.length : Int)) = true := decide_eq_true c5
    clear c5
    by_cases c6 : ((l0.length : Int) : Int).toNat ≤ 35184372088832
    · rw [if_pos c6] at H
      have c6b0 := eq_true c6
      have c6b1 : decide (((l0.length : Int) : Int).toNat ≤ 35184372088832) = true := decide_eq_true c6
      clear c6
      obtain ⟨y173, hy173⟩ : ∃ y_ : List Int, y_ = (List.replicate ((l0.length : Int) : Int).toNat 0) := ⟨_, rfl⟩
      replace H : (spec_bxRule.l0 k l0 a2 a3 y173 ([] : List Int) l1 (l1.length : Int) 0) = some r := by first | (rw [hy173]; with_reducible exact H) | (have H2_ := (Option.bind_some _ _).symm.trans H; rw [hy173]; with_reducible exact H2_) | (have H2_ := (Option.bind_some _ _).symm.trans H; with_reducible exact H2_) | with_reducible exact H | (rw [hy173]; exact H) | exact H
      have Ny173 := Aside0.mk hy173
      clear hy173
      have H' := Aside0.mk H
      clear H
      go_enter Try.func22, Try.ntmps22
      go_wp2_with (first | ((with_reducible refine gate_dst (N := 18) rfl ?_); (try (refine gate_guard (by rfl) ?_; dsimp only)); refine Kd.R_make (Kd.int .i64) _ 3 rfl (N := 18) rfl 22 _ _ rfl (l0.length : Int) rfl rfl Try.underlying22 (.int .i64 0) 8 info3 rfl (by decide) (by omega) 0 (ok := fun _ => True) (okp := fun _ => True) rfl (fun _ hk => hk) trivial (of_decide_eq_true (by first | (with_reducible assumption) | assumption)) (Nat.le_trans (Nat.mul_le_mul_right _ (of_decide_eq_true (by first | (with_reducible assumption) | assumption) : (l0.length : Int).toNat ≤ 35184372088832)) (by omega)) (Below.refl _ _) (Nat.le_refl _) ?_; intro v174 w7 ho8 hb hg_ hnew_; clear hg_ hnew_; (first | rw [← Ny173.out] at ho8 | (simp only [Int.reduceToNat] at ho8; rw [← Ny173.out] at ho8)); have n0_ := Aside0.mk (Kd.R_lower ho8 (below_size (by repeat (first | (with_reducible first | exact HB.out | apply below_alloc | apply pw_below_drewN | apply below_drew1) | exact HB.out)))); have n1_ := Aside0.mk (below_step (by repeat (first | (with_reducible first | exact HB.out | apply below_alloc | apply pw_below_drewN | apply below_drew1) | exact HB.out)) hb); clear HB; have HO175 := n0_; have HB := n1_; clear n0_ n1_; clear hb ho8))
      go_loopg [10, 21] k (fun kq v10 v21 w' => ∃ (x9_1 : List Int) (x10_1 : List Int) (x21_1 : Int), v21 = .int .i64 x21_1 ∧ Aside0 (spec_bxRule.l0 kq l0 a2 a3 x9_1 x10_1 l1 (l1.length : Int) x21_1 = some r) ∧ Aside0 (kq ≤ k) ∧ Aside0 (Kd.R (Kd.int .i64) 3 w' w.heap.size (fun k_ => some k_ ≠ (v10 : Value).ownBlock) v174 x9_1) ∧ Aside0 (Kd.R (Kd.int .i64) 3 w' w.heap.size (fun k_ => some k_ ≠ (v174 : Value).ownBlock) v10 x10_1) ∧ Aside0 (Below w.heap.size w w'))
      case atStart => exact ⟨(y173), (([] : List Int)), (0), (by first | rfl | (simp; done) | (simp [*]; done)), H', ⟨Nat.le_refl _⟩, ⟨by (with_reducible repeat (first | apply Kd.R_alloc | apply Kd.R_drewN | apply Kd.R_drew)); exact Kd.R_mono HO175.out (fun _ hk => (by simp [Value.ownBlock]))⟩, ⟨by first | exact Kd.R_nil _ _ _ _ _ | exact Kd.N_nil _ _ _ _ _ | exact Kd.V_nil _ _ _ _ _ | exact Kd.Q_nil _ _ _ _ _ | exact Kd.S_nil _ _ _ _ _⟩, ⟨by repeat (first | (with_reducible first | exact HB.out | apply below_alloc | apply pw_below_drewN | apply below_drew1) | exact HB.out)⟩⟩
      case round =>
        clear H'
        try clear c1
        try clear c2
        try clear p2
        try clear c5
        try clear c5b0
        try clear c5b1
        try clear c6
        try clear c6b0
        try clear c6b1
        obtain ⟨x9_1, x10_1, x21_1, rfl, HA, HK1, HO_9, HO_10, HB⟩ := hrel
        cases gk with
        | zero => exact absurd HA.out (by simp [spec_bxRule.l0])
        | succ k1 =>
          have H := HA.out
          clear HA
          simp only [spec_bxRule.l0] at H
          by_cases c9 : x21_1 < (l1.length : Int)
          · rw [if_pos c9] at H
            have c9b0 : decide (x21_1 < (l1.length : Int)) = true := decide_eq_true c9
            clear c9
            by_cases c10 : 0 ≤ x21_1
            · rw [if_pos c10] at H
              have c10b0 : decide (0 ≤ x21_1) = true := decide_eq_true c10
              clear c10
              by_cases c11 : x21_1 < (l1.length : Int)
              · rw [if_pos c11] at H
                have c11b0 : decide (x21_1 < (l1.length : Int)) = true := decide_eq_true c11
                clear c11
                have H' := Aside0.mk H
                clear H
                have p176 : 0 ≤ (x21_1 : Int) := of_decide_eq_true (by first | (with_reducible assumption) | assumption)
                have q176 : x21_1 < (l1.length : Int) := of_decide_eq_true (by first | (with_reducible assumption) | assumption)
                obtain ⟨ad176, e176, hx176_0⟩ := Kd.at_int HR1.out x21_1 p176 q176
                cases e176
                replace hx176_0 := (HB.out.cell (World.block_lt_of_cell? w _ hx176_0)).trans hx176_0
                replace p176 := eq_true p176
                replace q176 := eq_true q176
                obtain ⟨Ao12, co12, eo12⟩ := Kd.R_slice HO_10.out
                subst eo12
                go_wp2
                go_loopg [13, 27] k1 (fun kq v13 v27 w' => ∃ (x13_2 : Int) (x27_2 : Int), v13 = .int .i64 x13_2 ∧ v27 = .int .i64 x27_2 ∧ Aside0 (spec_bxRule.l1 kq l0 a2 a3 x9_1 x10_1 (rd l1 x21_1) x13_2 l1 (l1.length : Int) x21_1 (x10_1.length : Int) x27_2 = some r) ∧ Aside0 (kq ≤ k1) ∧ Aside0 (Kd.R (Kd.int .i64) 3 w' w.heap.size (fun k_ => some k_ ≠ ((.slice Ao12 x10_1.length co12) : Value).ownBlock) v174 x9_1) ∧ Aside0 (Kd.R (Kd.int .i64) 3 w' w.heap.size (fun k_ => some k_ ≠ (v174 : Value).ownBlock) (.slice Ao12 x10_1.length co12) x10_1) ∧ Aside0 (Below w.heap.size w w'))
                case atStart => exact ⟨((-1)), (0), (by first | rfl | (simp; done) | (simp [*]; done)), (by first | rfl | (simp; done) | (simp [*]; done)), H', ⟨Nat.le_refl _⟩, ⟨by (with_reducible repeat (first | apply Kd.R_alloc | apply Kd.R_drewN | apply Kd.R_drew)); exact HO_9.out⟩, ⟨by (with_reducible repeat (first | apply Kd.R_alloc | apply Kd.R_drewN | apply Kd.R_drew)); exact HO_10.out⟩, ⟨by repeat (first | (with_reducible first | exact HB.out | apply below_alloc | apply pw_below_drewN | apply below_drew1) | exact HB.out)⟩⟩
                case round =>
                  clear H'
                  try clear c1
                  try clear p1
                  try clear q1
                  try clear hx1
                  try clear c2
                  try clear p2
                  try clear c5
                  try clear c5b0
                  try clear c5b1
                  try clear c6
                  try clear c6b0
                  try clear c6b1
                  try clear c9
                  try clear c9b0
                  try clear c10
                  try clear c10b0
                  try clear c11
                  try clear c11b0
                  try clear hx176_0
                  try clear p176
                  try clear p2
                  try clear q176
                  obtain ⟨x13_2, x27_2, rfl, rfl, HA, HK2, HO_9, HO_10, HB⟩ := hrel
                  cases gk with
                  | zero => exact absurd HA.out (by simp [spec_bxRule.l1])
                  | succ k2 =>
                    have H := HA.out
                    clear HA
                    simp only [spec_bxRule.l1] at H
                    by_cases c13 : x27_2 < (x10_1.length : Int)
                    · rw [if_pos c13] at H
                      have c13b0 : decide (x27_2 < (x10_1.length : Int)) = true := decide_eq_true c13
                      clear c13
                      by_cases c14 : 0 ≤ x27_2
                      · rw [if_pos c14] at H
                        have c14b0 : decide (0 ≤ x27_2) = true := decide_eq_true c14
                        clear c14
                        by_cases c15 : x27_2 < (x10_1.length : Int)
                        · rw [if_pos c15] at H
                          have c15b0 : decide (x27_2 < (x10_1.length : Int)) = true := decide_eq_true c15
                          clear c15
                          have HC16 := Aside0.mk H
                          clear H
                          have p188 : 0 ≤ (x27_2 : Int) := of_decide_eq_true (by first | (with_reducible assumption) | assumption)
                          have q188 : x27_2 < (x10_1.length : Int) := of_decide_eq_true (by first | (with_reducible assumption) | assumption)
                          obtain ⟨ad188, e188, hx188_0⟩ := Kd.at_int (Kd.R_reads' HO_10.out).2.2 x27_2 p188 q188
                          cases e188
                          replace p188 := eq_true p188
                          replace q188 := eq_true q188
                          go_upto_region 10 with (fail)
                          go_cut [50] (fun v50 wc => ∃ (kq : Nat) (x50_15 : Bool), v50 = .bool x50_15 ∧ Aside0 (spec_bxRule.j2 kq l0 a2 a3 x9_1 x10_1 (rd l1 x21_1) x13_2 x27_2 (rd x10_1 x27_2) l1 (l1.length : Int) x21_1 (x10_1.length : Int) x27_2 x50_15 = some r) ∧ Aside0 (kq ≤ k2) ∧ Aside0 (Kd.R (Kd.int .i64) 3 wc w.heap.size (fun k_ => some k_ ≠ ((.slice (some ad188) x10_1.length co12) : Value).ownBlock) v174 x9_1) ∧ Aside0 (Kd.R (Kd.int .i64) 3 wc w.heap.size (fun k_ => some k_ ≠ (v174 : Value).ownBlock) (.slice (some ad188) x10_1.length co12) x10_1) ∧ Aside0 (Below w.heap.size w wc))
                          case first =>
                            have H := HC16.out
                            clear HC16
                            by_cases c17 : 0 ≤ (rd l1 x21_1)
                            · rw [if_pos c17] at H
                              have c17b0 : decide (0 ≤ (rd l1 x21_1)) = true := decide_eq_true c17
                              clear c17
                              (first | rw [c17b0] | (simp only [i64_w, i32_w]; rw [c17b0]) | skip)
                              by_cases c18 : (rd l1 x21_1) < (l0.length : Int)
                              · rw [if_pos c18] at H
                                have c18b0 : decide ((rd l1 x21_1) < (l0.length : Int)) = true := decide_eq_true c18
                                clear c18
                                by_cases c19 : (wrap64 ((rd x10_1 x27_2) + (rd l0 (rd l1 x21_1)))) > a2
                                · rw [if_pos c19] at H
                                  have c19b0 : decide (a2 < (wrap64 ((rd x10_1 x27_2) + (rd l0 (rd l1 x21_1))))) = true := decide_eq_true c19
                                  clear c19
                                  have H' := Aside0.mk H
                                  clear H
                                  have p189 : 0 ≤ ((rd l1 x21_1) : Int) := of_decide_eq_true (by first | (with_reducible assumption) | assumption)
                                  have q189 : (rd l1 x21_1) < (l0.length : Int) := of_decide_eq_true (by first | (with_reducible assumption) | assumption)
                                  obtain ⟨ad189, e189, hx189_0⟩ := Kd.at_int HR0.out (rd l1 x21_1) p189 q189
                                  cases e189
                                  replace hx189_0 := (HB.out.cell (World.block_lt_of_cell? w _ hx189_0)).trans hx189_0
                                  replace p189 := eq_true p189
                                  replace q189 := eq_true q189
                                  go_wp2
                                  go_meet
                                  case rel => exact ⟨_, (true), (by first | rfl | (simp; done) | (simp [*]; done)), H', ⟨by have := HK1.out; have := HK2.out; first | omega | exact Nat.le_refl _⟩, ⟨by (with_reducible repeat (first | apply Kd.R_alloc | apply Kd.R_drewN | apply Kd.R_drew)); exact HO_9.out⟩, ⟨by (with_reducible repeat (first | apply Kd.R_alloc | apply Kd.R_drewN | apply Kd.R_drew)); exact HO_10.out⟩, ⟨by repeat (first | (with_reducible first | exact HB.out | apply below_alloc | apply pw_below_drewN | apply below_drew1) | exact HB.out)⟩⟩
                                · rw [if_neg c19] at H
                                  have c19b0 : decide (a2 < (wrap64 ((rd x10_1 x27_2) + (rd l0 (rd l1 x21_1))))) = false := decide_eq_false c19
                                  clear c19
                                  by_cases c20 : a3 = 110
                                  · rw [if_pos c20] at H
                                    have c20b0 : (a3 == 110) = true := beq_iff_eq.mpr c20
                                    have c20b1 : (a3 != 110) = false := bne_eq_false_iff_eq.mpr c20
                                    clear c20
                                    have H' := Aside0.mk H
                                    clear H
                                    have p189 : 0 ≤ ((rd l1 x21_1) : Int) := of_decide_eq_true (by first | (with_reducible assumption) | assumption)
                                    have q189 : (rd l1 x21_1) < (l0.length : Int) := of_decide_eq_true (by first | (with_reducible assumption) | assumption)
                                    obtain ⟨ad189, e189, hx189_0⟩ := Kd.at_int HR0.out (rd l1 x21_1) p189 q189
                                    cases e189
                                    replace hx189_0 := (HB.out.cell (World.block_lt_of_cell? w _ hx189_0)).trans hx189_0
                                    replace p189 := eq_true p189
                                    replace q189 := eq_true q189
                                    go_wp2
                                    go_meet
                                    case rel => exact ⟨_, (decide (x27_2 < (wrap64 ((x10_1.length : Int) - 1)))), (by first | rfl | (simp; done) | (simp [*]; done)), H', ⟨by have := HK1.out; have := HK2.out; first | omega | exact Nat.le_refl _⟩, ⟨by (with_reducible repeat (first | apply Kd.R_alloc | apply Kd.R_drewN | apply Kd.R_drew)); exact HO_9.out⟩, ⟨by (with_reducible repeat (first | apply Kd.R_alloc | apply Kd.R_drewN | apply Kd.R_drew)); exact HO_10.out⟩, ⟨by repeat (first | (with_reducible first | exact HB.out | apply below_alloc | apply pw_below_drewN | apply below_drew1) | exact HB.out)⟩⟩
                                  · rw [if_neg c20] at H
                                    have c20b0 : (a3 == 110) = false := beq_eq_false_iff_ne.mpr c20
                                    have c20b1 : (a3 != 110) = true := bne_iff_ne.mpr c20
                                    have H' := Aside0.mk H
                                    clear H
                                    have p189 : 0 ≤ ((rd l1 x21_1) : Int) := of_decide_eq_true (by first | (with_reducible assumption) | assumption)
                                    have q189 : (rd l1 x21_1) < (l0.length : Int) := of_decide_eq_true (by first | (with_reducible assumption) | assumption)
                                    obtain ⟨ad189, e189, hx189_0⟩ := Kd.at_int HR0.out (rd l1 x21_1) p189 q189
                                    cases e189
                                    replace hx189_0 := (HB.out.cell (World.block_lt_of_cell? w _ hx189_0)).trans hx189_0
                                    replace p189 := eq_true p189
                                    replace q189 := eq_true q189
                                    go_wp2
                                    go_meet
                                    case rel => exact ⟨_, (false), (by first | rfl | (simp; done) | (simp [*]; done)), H', ⟨by have := HK1.out; have := HK2.out; first | omega | exact Nat.le_refl _⟩, ⟨by (with_reducible repeat (first | apply Kd.R_alloc | apply Kd.R_drewN | apply Kd.R_drew)); exact HO_9.out⟩, ⟨by (with_reducible repeat (first | apply Kd.R_alloc | apply Kd.R_drewN | apply Kd.R_drew)); exact HO_10.out⟩, ⟨by repeat (first | (with_reducible first | exact HB.out | apply below_alloc | apply pw_below_drewN | apply below_drew1) | exact HB.out)⟩⟩
                              · rw [if_neg c18] at H
                                exact absurd H (by simp)
                            · rw [if_neg c17] at H
                              exact absurd H (by simp)
                          case rest =>
                            clear HC16
                            try clear c1
                            try clear p1
                            try clear q1
                            try clear hx1
                            try clear c2
                            try clear p2
                            try clear c5
                            try clear c5b0
                            try clear c5b1
                            try clear c6
                            try clear c6b0
                            try clear c6b1
                            try clear p6
                            try clear c9
                            try clear c9b0
                            try clear c10
                            try clear c10b0
                            try clear c11
                            try clear c11b0
                            try clear c13
                            try clear c13b0
                            try clear c14
                            try clear c14b0
                            try clear c15
                            try clear c15b0
                            try clear c17
                            try clear c17b0
                            try clear p17
                            try clear q17
                            try clear hx17
                            try clear c18
                            try clear c18b0
                            try clear p18
                            try clear q18
                            try clear hx18
                            try clear c19
                            try clear c19b0
                            try clear c20
                            try clear c20b0
                            try clear c20b1
                            try clear hx176_0
                            try clear hx188_0
                            try clear hx189_0
                            try clear p1
                            try clear p176
                            try clear p188
                            try clear p189
                            try clear p2
                            try clear q1
                            try clear q176
                            try clear q188
                            try clear q189
                            obtain ⟨kq, x50_15, rfl, HA, HJ15, HO_9, HO_10, HB⟩ := hcut
                            cases kq with
                            | zero => exact absurd HA.out (by simp [spec_bxRule.j2])
                            | succ kj15 =>
                              have H := HA.out
                              clear HA
                              simp only [spec_bxRule.j2] at H
                              by_cases c21 : x50_15 = true
                              · subst c21
                                have H1 : (spec_bxRule.l1 kj15 l0 a2 a3 x9_1 x10_1 (rd l1 x21_1) x13_2 l1 (l1.length : Int) x21_1 (x10_1.length : Int) (wrap64 (x27_2 + 1))) = some r := by rw [if_pos rfl] at H; exact H
                                clear H
                                have H := H1
                                clear H1
                                have H' := Aside0.mk H
                                clear H
                                go_wp2
                                go_roundg kj15
                                case measure => have := HK1.out; have := HK2.out; have := HJ15.out; omega
                                case rel => exact ⟨(x13_2), (wrap64 (x27_2 + 1)), (by first | rfl | (simp; done) | (simp [*]; done)), (by first | rfl | (simp; done) | (simp [*]; done)), H', ⟨by have := HK1.out; have := HK2.out; have := HJ15.out; omega⟩, ⟨by (with_reducible repeat (first | apply Kd.R_alloc | apply Kd.R_drewN | apply Kd.R_drew)); exact HO_9.out⟩, ⟨by (with_reducible repeat (first | apply Kd.R_alloc | apply Kd.R_drewN | apply Kd.R_drew)); exact HO_10.out⟩, ⟨by repeat (first | (with_reducible first | exact HB.out | apply below_alloc | apply pw_below_drewN | apply below_drew1) | exact HB.out)⟩⟩
                              · replace c21 := Bool.eq_false_iff.mpr c21
                                subst c21
                                have H1 : (if x13_2 < 0 then (spec_bxRule.l1 kj15 l0 a2 a3 x9_1 x10_1 (rd l1 x21_1) x27_2 l1 (l1.length : Int) x21_1 (x10_1.length : Int) (wrap64 (x27_2 + 1))) else (if a3 = 98 then (if 0 ≤ x13_2 then (if x13_2 < (x10_1.length : Int) then (if (rd x10_1 x27_2) > (rd x10_1 x13_2) then (spec_bxRule.l1 kj15 l0 a2 a3 x9_1 x10_1 (rd l1 x21_1) x27_2 l1 (l1.length : Int) x21_1 (x10_1.length : Int) (wrap64 (x27_2 + 1))) else (if a3 = 119 then (if (rd x10_1 x27_2) < (rd x10_1 x13_2) then (spec_bxRule.l1 kj15 l0 a2 a3 x9_1 x10_1 (rd l1 x21_1) x27_2 l1 (l1.length : Int) x21_1 (x10_1.length : Int) (wrap64 (x27_2 + 1))) else (spec_bxRule.l1 kj15 l0 a2 a3 x9_1 x10_1 (rd l1 x21_1) x13_2 l1 (l1.length : Int) x21_1 (x10_1.length : Int) (wrap64 (x27_2 + 1)))) else (spec_bxRule.l1 kj15 l0 a2 a3 x9_1 x10_1 (rd l1 x21_1) x13_2 l1 (l1.length : Int) x21_1 (x10_1.length : Int) (wrap64 (x27_2 + 1))))) else (none)) else (none)) else (if a3 = 119 then (if 0 ≤ x13_2 then (if x13_2 < (x10_1.length : Int) then (if (rd x10_1 x27_2) < (rd x10_1 x13_2) then (spec_bxRule.l1 kj15 l0 a2 a3 x9_1 x10_1 (rd l1 x21_1) x27_2 l1 (l1.length : Int) x21_1 (x10_1.length : Int) (wrap64 (x27_2 + 1))) else (spec_bxRule.l1 kj15 l0 a2 a3 x9_1 x10_1 (rd l1 x21_1) x13_2 l1 (l1.length : Int) x21_1 (x10_1.length : Int) (wrap64 (x27_2 + 1)))) else (none)) else (none)) else (spec_bxRule.l1 kj15 l0 a2 a3 x9_1 x10_1 (rd l1 x21_1) x13_2 l1 (l1.length : Int) x21_1 (x10_1.length : Int) (wrap64 (x27_2 + 1)))))) = some r := by rw [if_neg (show ¬ (false = true) by decide)] at H; exact H
                                clear H
                                have H := H1
                                clear H1
                                by_cases c22 : x13_2 < 0
                                · rw [if_pos c22] at H
                                  have c22b0 : decide (x13_2 < 0) = true := decide_eq_true c22
                                  clear c22
                                  have H' := Aside0.mk H
                                  clear H
                                  go_wp2
                                  go_roundg kj15
                                  case measure => have := HK1.out; have := HK2.out; have := HJ15.out; omega
                                  case rel => exact ⟨(x27_2), (wrap64 (x27_2 + 1)), (by first | rfl | (simp; done) | (simp [*]; done)), (by first | rfl | (simp; done) | (simp [*]; done)), H', ⟨by have := HK1.out; have := HK2.out; have := HJ15.out; omega⟩, ⟨by (with_reducible repeat (first | apply Kd.R_alloc | apply Kd.R_drewN | apply Kd.R_drew)); exact HO_9.out⟩, ⟨by (with_reducible repeat (first | apply Kd.R_alloc | apply Kd.R_drewN | apply Kd.R_drew)); exact HO_10.out⟩, ⟨by repeat (first | (with_reducible first | exact HB.out | apply below_alloc | apply pw_below_drewN | apply below_drew1) | exact HB.out)⟩⟩
                                · rw [if_neg c22] at H
                                  have c22b0 : decide (x13_2 < 0) = false := decide_eq_false c22
                                  clear c22
                                  by_cases c23 : a3 = 98
                                  · rw [if_pos c23] at H
                                    have c23b0 : (a3 == 98) = true := beq_iff_eq.mpr c23
                                    have c23b1 : (a3 != 98) = false := bne_eq_false_iff_eq.mpr c23
                                    clear c23
                                    by_cases c24 : 0 ≤ x13_2
                                    · rw [if_pos c24] at H
                                      have c24b0 : decide (0 ≤ x13_2) = true := decide_eq_true c24
                                      clear c24
                                      by_cases c25 : x13_2 < (x10_1.length : Int)
                                      · rw [if_pos c25] at H
                                        have c25b0 : decide (x13_2 < (x10_1.length : Int)) = true := decide_eq_true c25
                                        clear c25
                                        by_cases c26 : (rd x10_1 x27_2) > (rd x10_1 x13_2)
                                        · rw [if_pos c26] at H
                                          have c26b0 : decide ((rd x10_1 x13_2) < (rd x10_1 x27_2)) = true := decide_eq_true c26
                                          clear c26
                                          have H' := Aside0.mk H
                                          clear H
                                          have p190 : 0 ≤ (x13_2 : Int) := of_decide_eq_true (by first | (with_reducible assumption) | assumption)
                                          have q190 : x13_2 < (x10_1.length : Int) := of_decide_eq_true (by first | (with_reducible assumption) | assumption)
                                          obtain ⟨ad190, e190, hx190_0⟩ := Kd.at_int (Kd.R_reads' HO_10.out).2.2 x13_2 p190 q190
                                          obtain rfl : ad188 = ad190 := (by injection e190)
                                          replace p190 := eq_true p190
                                          replace q190 := eq_true q190
                                          go_wp2
                                          go_roundg kj15
                                          case measure => have := HK1.out; have := HK2.out; have := HJ15.out; omega
                                          case rel => exact ⟨(x27_2), (wrap64 (x27_2 + 1)), (by first | rfl | (simp; done) | (simp [*]; done)), (by first | rfl | (simp; done) | (simp [*]; done)), H', ⟨by have := HK1.out; have := HK2.out; have := HJ15.out; omega⟩, ⟨by (with_reducible repeat (first | apply Kd.R_alloc | apply Kd.R_drewN | apply Kd.R_drew)); exact HO_9.out⟩, ⟨by (with_reducible repeat (first | apply Kd.R_alloc | apply Kd.R_drewN | apply Kd.R_drew)); exact HO_10.out⟩, ⟨by repeat (first | (with_reducible first | exact HB.out | apply below_alloc | apply pw_below_drewN | apply below_drew1) | exact HB.out)⟩⟩
                                        · rw [if_neg c26] at H
                                          have c26b0 : decide ((rd x10_1 x13_2) < (rd x10_1 x27_2)) = false := decide_eq_false c26
                                          clear c26
                                          by_cases c27 : a3 = 119
                                          · rw [if_pos c27] at H
                                            have c27b0 : (a3 == 119) = true := beq_iff_eq.mpr c27
                                            have c27b1 : (a3 != 119) = false := bne_eq_false_iff_eq.mpr c27
                                            clear c27
                                            by_cases c28 : (rd x10_1 x27_2) < (rd x10_1 x13_2)
                                            · rw [if_pos c28] at H
                                              have c28b0 : decide ((rd x10_1 x27_2) < (rd x10_1 x13_2)) = true := decide_eq_true c28
                                              clear c28
                                              have H' := Aside0.mk H
                                              clear H
                                              have p190 : 0 ≤ (x13_2 : Int) := of_decide_eq_true (by first | (with_reducible assumption) | assumption)
                                              have q190 : x13_2 < (x10_1.length : Int) := of_decide_eq_true (by first | (with_reducible assumption) | assumption)
                                              obtain ⟨ad190, e190, hx190_0⟩ := Kd.at_int (Kd.R_reads' HO_10.out).2.2 x13_2 p190 q190
                                              obtain rfl : ad188 = ad190 := (by injection e190)
                                              replace p190 := eq_true p190
                                              replace q190 := eq_true q190
                                              have p191 : 0 ≤ (x13_2 : Int) := of_decide_eq_true (by first | (with_reducible assumption) | assumption)
                                              have q191 : x13_2 < (x10_1.length : Int) := of_decide_eq_true (by first | (with_reducible assumption) | assumption)
                                              obtain ⟨ad191, e191, hx191_0⟩ := Kd.at_int (Kd.R_reads' HO_10.out).2.2 x13_2 p191 q191
                                              obtain rfl : ad188 = ad191 := (by injection e191)
                                              replace p191 := eq_true p191
                                              replace q191 := eq_true q191
                                              go_wp2
                                              go_roundg kj15
                                              case measure => have := HK1.out; have := HK2.out; have := HJ15.out; omega
                                              case rel => exact ⟨(x27_2), (wrap64 (x27_2 + 1)), (by first | rfl | (simp; done) | (simp [*]; done)), (by first | rfl | (simp; done) | (simp [*]; done)), H', ⟨by have := HK1.out; have := HK2.out; have := HJ15.out; omega⟩, ⟨by (with_reducible repeat (first | apply Kd.R_alloc | apply Kd.R_drewN | apply Kd.R_drew)); exact HO_9.out⟩, ⟨by (with_reducible repeat (first | apply Kd.R_alloc | apply Kd.R_drewN | apply Kd.R_drew)); exact HO_10.out⟩, ⟨by repeat (first | (with_reducible first | exact HB.out | apply below_alloc | apply pw_below_drewN | apply below_drew1) | exact HB.out)⟩⟩
                                            · rw [if_neg c28] at H
                                              have c28b0 : decide ((rd x10_1 x27_2) < (rd x10_1 x13_2)) = false := decide_eq_false c28
                                              clear c28
                                              have H' := Aside0.mk H
                                              clear H
                                              have p190 : 0 ≤ (x13_2 : Int) := of_decide_eq_true (by first | (with_reducible assumption) | assumption)
                                              have q190 : x13_2 < (x10_1.length : Int) := of_decide_eq_true (by first | (with_reducible assumption) | assumption)
                                              obtain ⟨ad190, e190, hx190_0⟩ := Kd.at_int (Kd.R_reads' HO_10.out).2.2 x13_2 p190 q190
                                              obtain rfl : ad188 = ad190 := (by injection e190)
                                              replace p190 := eq_true p190
                                              replace q190 := eq_true q190
                                              have p191 : 0 ≤ (x13_2 : Int) := of_decide_eq_true (by first | (with_reducible assumption) | assumption)
                                              have q191 : x13_2 < (x10_1.length : Int) := of_decide_eq_true (by first | (with_reducible assumption) | assumption)
                                              obtain ⟨ad191, e191, hx191_0⟩ := Kd.at_int (Kd.R_reads' HO_10.out).2.2 x13_2 p191 q191
                                              obtain rfl : ad188 = ad191 := (by injection e191)
                                              replace p191 := eq_true p191
                                              replace q191 := eq_true q191
                                              go_wp2
                                              go_roundg kj15
                                              case measure => have := HK1.out; have := HK2.out; have := HJ15.out; omega
                                              case rel => exact ⟨(x13_2), (wrap64 (x27_2 + 1)), (by first | rfl | (simp; done) | (simp [*]; done)), (by first | rfl | (simp; done) | (simp [*]; done)), H', ⟨by have := HK1.out; have := HK2.out; have := HJ15.out; omega⟩, ⟨by (with_reducible repeat (first | apply Kd.R_alloc | apply Kd.R_drewN | apply Kd.R_drew)); exact HO_9.out⟩, ⟨by (with_reducible repeat (first | apply Kd.R_alloc | apply Kd.R_drewN | apply Kd.R_drew)); exact HO_10.out⟩, ⟨by repeat (first | (with_reducible first | exact HB.out | apply below_alloc | apply pw_below_drewN | apply below_drew1) | exact HB.out)⟩⟩
                                          · rw [if_neg c27] at H
                                            have c27b0 : (a3 == 119) = false := beq_eq_false_iff_ne.mpr c27
                                            have c27b1 : (a3 != 119) = true := bne_iff_ne.mpr c27
                                            have H' := Aside0.mk H
                                            clear H
                                            have p190 : 0 ≤ (x13_2 : Int) := of_decide_eq_true (by first | (with_reducible assumption) | assumption)
                                            have q190 : x13_2 < (x10_1.length : Int) := of_decide_eq_true (by first | (with_reducible assumption) | assumption)
                                            obtain ⟨ad190, e190, hx190_0⟩ := Kd.at_int (Kd.R_reads' HO_10.out).2.2 x13_2 p190 q190
                                            obtain rfl : ad188 = ad190 := (by injection e190)
                                            replace p190 := eq_true p190
                                            replace q190 := eq_true q190
                                            go_wp2
                                            go_roundg kj15
                                            case measure => have := HK1.out; have := HK2.out; have := HJ15.out; omega
                                            case rel => exact ⟨(x13_2), (wrap64 (x27_2 + 1)), (by first | rfl | (simp; done) | (simp [*]; done)), (by first | rfl | (simp; done) | (simp [*]; done)), H', ⟨by have := HK1.out; have := HK2.out; have := HJ15.out; omega⟩, ⟨by (with_reducible repeat (first | apply Kd.R_alloc | apply Kd.R_drewN | apply Kd.R_drew)); exact HO_9.out⟩, ⟨by (with_reducible repeat (first | apply Kd.R_alloc | apply Kd.R_drewN | apply Kd.R_drew)); exact HO_10.out⟩, ⟨by repeat (first | (with_reducible first | exact HB.out | apply below_alloc | apply pw_below_drewN | apply below_drew1) | exact HB.out)⟩⟩
                                      · rw [if_neg c25] at H
                                        exact absurd H (by simp)
                                    · rw [if_neg c24] at H
                                      exact absurd H (by simp)
                                  · rw [if_neg c23] at H
                                    have c23b0 : (a3 == 98) = false := beq_eq_false_iff_ne.mpr c23
                                    have c23b1 : (a3 != 98) = true := bne_iff_ne.mpr c23
                                    by_cases c29 : a3 = 119
                                    · rw [if_pos c29] at H
                                      have c29b0 : (a3 == 119) = true := beq_iff_eq.mpr c29
                                      have c29b1 : (a3 != 119) = false := bne_eq_false_iff_eq.mpr c29
                                      clear c29
                                      by_cases c30 : 0 ≤ x13_2
                                      · rw [if_pos c30] at H
                                        have c30b0 : decide (0 ≤ x13_2) = true := decide_eq_true c30
                                        clear c30
                                        by_cases c31 : x13_2 < (x10_1.length : Int)
                                        · rw [if_pos c31] at H
                                          have c31b0 : decide (x13_2 < (x10_1.length : Int)) = true := decide_eq_true c31
                                          clear c31
                                          by_cases c32 : (rd x10_1 x27_2) < (rd x10_1 x13_2)
                                          · rw [if_pos c32] at H
                                            have c32b0 : decide ((rd x10_1 x27_2) < (rd x10_1 x13_2)) = true := decide_eq_true c32
                                            clear c32
                                            have H' := Aside0.mk H
                                            clear H
                                            have p192 : 0 ≤ (x13_2 : Int) := of_decide_eq_true (by first | (with_reducible assumption) | assumption)
                                            have q192 : x13_2 < (x10_1.length : Int) := of_decide_eq_true (by first | (with_reducible assumption) | assumption)
                                            obtain ⟨ad192, e192, hx192_0⟩ := Kd.at_int (Kd.R_reads' HO_10.out).2.2 x13_2 p192 q192
                                            obtain rfl : ad188 = ad192 := (by injection e192)
                                            replace p192 := eq_true p192
                                            replace q192 := eq_true q192
                                            go_wp2
                                            go_roundg kj15
                                            case measure => have := HK1.out; have := HK2.out; have := HJ15.out; omega
                                            case rel => exact ⟨(x27_2), (wrap64 (x27_2 + 1)), (by first | rfl | (simp; done) | (simp [*]; done)), (by first | rfl | (simp; done) | (simp [*]; done)), H', ⟨by have := HK1.out; have := HK2.out; have := HJ15.out; omega⟩, ⟨by (with_reducible repeat (first | apply Kd.R_alloc | apply Kd.R_drewN | apply Kd.R_drew)); exact HO_9.out⟩, ⟨by (with_reducible repeat (first | apply Kd.R_alloc | apply Kd.R_drewN | apply Kd.R_drew)); exact HO_10.out⟩, ⟨by repeat (first | (with_reducible first | exact HB.out | apply below_alloc | apply pw_below_drewN | apply below_drew1) | exact HB.out)⟩⟩
                                          · rw [if_neg c32] at H
                                            have c32b0 : decide ((rd x10_1 x27_2) < (rd x10_1 x13_2)) = false := decide_eq_false c32
                                            clear c32
                                            have H' := Aside0.mk H
                                            clear H
                                            have p192 : 0 ≤ (x13_2 : Int) := of_decide_eq_true (by first | (with_reducible assumption) | assumption)
                                            have q192 : x13_2 < (x10_1.length : Int) := of_decide_eq_true (by first | (with_reducible assumption) | assumption)
                                            obtain ⟨ad192, e192, hx192_0⟩ := Kd.at_int (Kd.R_reads' HO_10.out).2.2 x13_2 p192 q192
                                            obtain rfl : ad188 = ad192 := (by injection e192)
                                            replace p192 := eq_true p192
                                            replace q192 := eq_true q192
                                            go_wp2
                                            go_roundg kj15
                                            case measure => have := HK1.out; have := HK2.out; have := HJ15.out; omega
                                            case rel => exact ⟨(x13_2), (wrap64 (x27_2 + 1)), (by first | rfl | (simp; done) | (simp [*]; done)), (by first | rfl | (simp; done) | (simp [*]; done)), H', ⟨by have := HK1.out; have := HK2.out; have := HJ15.out; omega⟩, ⟨by (with_reducible repeat (first | apply Kd.R_alloc | apply Kd.R_drewN | apply Kd.R_drew)); exact HO_9.out⟩, ⟨by (with_reducible repeat (first | apply Kd.R_alloc | apply Kd.R_drewN | apply Kd.R_drew)); exact HO_10.out⟩, ⟨by repeat (first | (with_reducible first | exact HB.out | apply below_alloc | apply pw_below_drewN | apply below_drew1) | exact HB.out)⟩⟩
                                        · rw [if_neg c31] at H
                                          exact absurd H (by simp)
                                      · rw [if_neg c30] at H
                                        exact absurd H (by simp)
                                    · rw [if_neg c29] at H
                                      have c29b0 : (a3 == 119) = false := beq_eq_false_iff_ne.mpr c29
                                      have c29b1 : (a3 != 119) = true := bne_iff_ne.mpr c29
                                      have H' := Aside0.mk H
                                      clear H
                                      go_wp2
                                      go_roundg kj15
                                      case measure => have := HK1.out; have := HK2.out; have := HJ15.out; omega
                                      case rel => exact ⟨(x13_2), (wrap64 (x27_2 + 1)), (by first | rfl | (simp; done) | (simp [*]; done)), (by first | rfl | (simp; done) | (simp [*]; done)), H', ⟨by have := HK1.out; have := HK2.out; have := HJ15.out; omega⟩, ⟨by (with_reducible repeat (first | apply Kd.R_alloc | apply Kd.R_drewN | apply Kd.R_drew)); exact HO_9.out⟩, ⟨by (with_reducible repeat (first | apply Kd.R_alloc | apply Kd.R_drewN | apply Kd.R_drew)); exact HO_10.out⟩, ⟨by repeat (first | (with_reducible first | exact HB.out | apply below_alloc | apply pw_below_drewN | apply below_drew1) | exact HB.out)⟩⟩
                        · rw [if_neg c15] at H
                          exact absurd H (by simp)
                      · rw [if_neg c14] at H
                        exact absurd H (by simp)
                    · rw [if_neg c13] at H
                      have c13b0 : decide (x27_2 < (x10_1.length : Int)) = false := decide_eq_false c13
                      clear c13
                      by_cases c33 : x13_2 < 0
                      · rw [if_pos c33] at H
                        have c33b0 : decide (x13_2 < 0) = true := decide_eq_true c33
                        clear c33
                        by_cases c34 : x10_1.length < 17592186044416
                        · rw [if_pos c34] at H
                          have LMc34 := Aside0.mk c34
                          clear c34
                          obtain ⟨y177, hy177⟩ : ∃ y_ : List Int, y_ = (x10_1 ++ [0]) := ⟨_, rfl⟩
                          replace H : (if 0 ≤ (x10_1.length : Int) then (if (x10_1.length : Int) < (y177.length : Int) then (if 0 ≤ (rd l1 x21_1) then (if (rd l1 x21_1) < (l0.length : Int) then (if (rd l1 x21_1) < (x9_1.length : Int) then (spec_bxRule.l0 k2 l0 a2 a3 (x9_1.set ((rd l1 x21_1) : Int).toNat (x10_1.length : Int)) (y177.set ((x10_1.length : Int) : Int).toNat (wrap64 ((rd y177 (x10_1.length : Int)) + (rd l0 (rd l1 x21_1))))) l1 (l1.length : Int) (wrap64 (x21_1 + 1))) else (none)) else (none)) else (none)) else (none)) else (none)) = some r := by first | (rw [hy177]; with_reducible exact H) | (have H2_ := (Option.bind_some _ _).symm.trans H; rw [hy177]; with_reducible exact H2_) | (have H2_ := (Option.bind_some _ _).symm.trans H; with_reducible exact H2_) | with_reducible exact H | (rw [hy177]; exact H) | exact H
                          have Ny177 := Aside0.mk hy177
                          clear hy177
                          by_cases c35 : 0 ≤ (x10_1.length : Int)
                          · rw [if_pos c35] at H
                            have c35b0 : decide (0 ≤ (x10_1.length : Int)) = true := decide_eq_true c35
                            have c35b1 : decide (0 ≤ x10_1.length) = true := decide_eq_true (by omega)
                            clear c35
                            by_cases c36 : (x10_1.length : Int) < (y177.length : Int)
                            · rw [if_pos c36] at H
                              have c36b0 : decide ((x10_1.length : Int) < (y177.length : Int)) = true := decide_eq_true c36
                              have c36b1 : decide (x10_1.length < y177.length) = true := decide_eq_true (Int.ofNat_lt.mp c36)
                              clear c36
                              by_cases c37 : 0 ≤ (rd l1 x21_1)
                              · rw [if_pos c37] at H
                                have c37b0 : decide (0 ≤ (rd l1 x21_1)) = true := decide_eq_true c37
                                clear c37
                                by_cases c38 : (rd l1 x21_1) < (l0.length : Int)
                                · rw [if_pos c38] at H
                                  have c38b0 : decide ((rd l1 x21_1) < (l0.length : Int)) = true := decide_eq_true c38
                                  clear c38
                                  obtain ⟨y182, hy182⟩ : ∃ y_ : List Int, y_ = (y177.set ((x10_1.length : Int) : Int).toNat (wrap64 ((rd y177 (x10_1.length : Int)) + (rd l0 (rd l1 x21_1))))) := ⟨_, rfl⟩
                                  replace H : (if (rd l1 x21_1) < (x9_1.length : Int) then (spec_bxRule.l0 k2 l0 a2 a3 (x9_1.set ((rd l1 x21_1) : Int).toNat (x10_1.length : Int)) y182 l1 (l1.length : Int) (wrap64 (x21_1 + 1))) else (none)) = some r := by first | (rw [hy182]; with_reducible exact H) | (have H2_ := (Option.bind_some _ _).symm.trans H; rw [hy182]; with_reducible exact H2_) | (have H2_ := (Option.bind_some _ _).symm.trans H; with_reducible exact H2_) | with_reducible exact H | (rw [hy182]; exact H) | exact H
                                  have Ny182 := Aside0.mk hy182
                                  clear hy182
                                  by_cases c40 : (rd l1 x21_1) < (x9_1.length : Int)
                                  · rw [if_pos c40] at H
                                    have c40b0 : decide ((rd l1 x21_1) < (x9_1.length : Int)) = true := decide_eq_true c40
                                    clear c40
                                    obtain ⟨y183, hy183⟩ : ∃ y_ : List Int, y_ = (x9_1.set ((rd l1 x21_1) : Int).toNat (x10_1.length : Int)) := ⟨_, rfl⟩
                                    replace H : (spec_bxRule.l0 k2 l0 a2 a3 y183 y182 l1 (l1.length : Int) (wrap64 (x21_1 + 1))) = some r := by first | (rw [hy183]; with_reducible exact H) | (have H2_ := (Option.bind_some _ _).symm.trans H; rw [hy183]; with_reducible exact H2_) | (have H2_ := (Option.bind_some _ _).symm.trans H; with_reducible exact H2_) | with_reducible exact H | (rw [hy183]; exact H) | exact H
                                    have Ny183 := Aside0.mk hy183
                                    clear hy183
                                    have H' := Aside0.mk H
                                    clear H
                                    try go_wp2_with (first | ((with_reducible refine gate_builtin (b := .append) (xs := #[.tmp 83, .tmp 84]) rfl ?_); (try (refine gate_guard (by rfl) ?_; dsimp only)); at_builtin; refine Kd.R_append (Kd.int .i64) (w0 := w) w.heap.size rfl (.tmp 83) (.tmp 84) 22 3 (.int .i64 0) 8 rfl Try.underlying22 info3 rfl (by decide) (by omega) (.slice Ao12 x10_1.length co12) x10_1 0 [.int .i64 0] (fun k_ => some k_ ≠ (v174 : Value).ownBlock) (fun _ => False) rfl rfl ?aP (fun _ hk => hk.elim) ?aF ?aO ?aB ?aS ?aL ?_; (case aP => exact rfl); (case aB => exact (by repeat (first | (with_reducible first | exact HB.out | apply below_alloc | apply pw_below_drewN | apply below_drew1) | exact HB.out))); (case aF => exact (fun k_ hk => Kd.fresh' (Kd.R_lt (by (with_reducible repeat (first | apply Kd.R_alloc | apply Kd.R_drewN | apply Kd.R_drew)); exact HO_9.out)) k_ hk)); (case aO => exact (by (with_reducible repeat (first | apply Kd.R_alloc | apply Kd.R_drewN | apply Kd.R_drew)); exact HO_10.out)); (case aS => exact (below_size (by repeat (first | (with_reducible first | exact HB.out | apply below_alloc | apply pw_below_drewN | apply below_drew1) | exact HB.out)))); (case aL => have := LMc34.out; omega); intro v178 w42 ho hb hg hat; rw [← Ny177.out] at ho; have n0_ := Aside0.mk (Kd.R_after (ok := (fun _ => True)) (by (with_reducible repeat (first | apply Kd.R_alloc | apply Kd.R_drewN | apply Kd.R_drew)); exact Kd.R_mono HO_9.out (fun _ hk => ⟨trivial, hk⟩)) hg hat); have n1_ := Aside0.mk (hb); have n2_ := Aside0.mk (ho); clear HO_9; clear HB; clear HO_10; have HO_9 := n0_; have HB := n1_; have HO179 := n2_; clear n0_ n1_ n2_; clear ho hb hg hat))
                                    have n0_ := Aside0.mk (Kd.R_drew HO_9.out)
                                    have n1_ := Aside0.mk (Kd.R_drew HO179.out)
                                    have n2_ := Aside0.mk (below_drew1 HB.out)
                                    clear HO_9
                                    clear HO179
                                    clear HB
                                    have HO_9 := n0_
                                    have HO179 := n1_
                                    have HB := n2_
                                    clear n0_ n1_ n2_
                                    obtain ⟨Ao44, co44, eo44⟩ := Kd.R_slice HO179.out
                                    (first | subst eo44 | (injection eo44 with f1_ f2_ f3_; have f4_ := f1_.symm; have f5_ := f3_.symm; clear f1_ f2_ f3_; subst f4_; subst f5_))
                                    have p180 : 0 ≤ ((x10_1.length : Int) : Int) := of_decide_eq_true (by first | (with_reducible assumption) | assumption)
                                    have q180 : (x10_1.length : Int) < (y177.length : Int) := of_decide_eq_true (by first | (with_reducible assumption) | assumption)
                                    obtain ⟨ad180, e180, hx180_0⟩ := Kd.at_int (Kd.R_reads' HO179.out).2.2 (x10_1.length : Int) p180 q180
                                    cases e180
                                    (try simp only [Go.IntWalk.toNatUp] at hx180_0)
                                    replace p180 := eq_true p180
                                    replace q180 := eq_true q180
                                    have p181 : 0 ≤ ((rd l1 x21_1) : Int) := of_decide_eq_true (by first | (with_reducible assumption) | assumption)
                                    have q181 : (rd l1 x21_1) < (l0.length : Int) := of_decide_eq_true (by first | (with_reducible assumption) | assumption)
                                    obtain ⟨ad181, e181, hx181_0⟩ := Kd.at_int HR0.out (rd l1 x21_1) p181 q181
                                    have hw181_0 := hx181_0
                                    cases e181
                                    replace hx181_0 := (HB.out.cell (World.block_lt_of_cell? w _ hx181_0)).trans hx181_0
                                    replace p181 := eq_true p181
                                    replace q181 := eq_true q181
                                    have p39 : 0 ≤ ((x10_1.length : Int) : Int) := of_decide_eq_true (by first | (with_reducible assumption) | assumption)
                                    have q39 : ((x10_1.length : Int) : Int) < ((y177.length : Int) : Int) := of_decide_eq_true (by first | (with_reducible assumption) | assumption)
                                    obtain ⟨go39, co39, eo39, gb39, gl39, cl39, HG39⟩ := Kd.R_form HO179.out (by omega)
                                    (first | cases eo39 | (injection eo39 with ea_ en_ ec_; (first | subst ea_ | (injection ea_ with ea_; subst ea_)); subst ec_; clear en_))
                                    have GB39 := Aside0.mk gb39
                                    have GG39 := Aside0.mk HG39
                                    clear gb39 gl39 HG39
                                    (first | simp only [add_plain] at hx180_0 | skip)
                                    obtain ⟨hx39_0, hf39_0⟩ := Kd.R_celln 0 HO179.out ((x10_1.length : Int) : Int) p39 q39
                                    (try simp only [Go.IntWalk.toNatUp] at hx39_0)
                                    (try simp only [Go.IntWalk.toNatUp] at hf39_0)
                                    replace p39 := eq_true p39
                                    replace q39 := eq_true q39
                                    have HP45 := Kd.R_putn HO179.out ((x10_1.length : Int) : Int) (wrap64 ((rd y177 (x10_1.length : Int)) + (rd l0 (rd l1 x21_1))))
                                    rw [← Ny182.out] at HP45
                                    have HQ45 := Aside0.mk HP45
                                    clear HP45
                                    refine start_ (n := 11) (S := fun w' => w'.cell? ⟨go39, ((x10_1.length : Int)).toNat, none⟩ = some (.int .i64 (rd y177 (x10_1.length : Int))) ∧ w'.cell? (ad181.add ((rd l1 x21_1)).toNat) = some (.int .i64 (rd l0 (rd l1 x21_1)))) (ds := [10]) #[false, false, false, false, false, false, false, false, false, false, false] (by kernel_rfl) rfl rfl ⟨hx180_0, ((HB.out.cell (World.block_lt_of_cell? w _ hw181_0)).trans hw181_0)⟩ (fun hHeld => ?_); refine with_tabW spec_bxRule.tab17 spec_bxRule.bits17 (fun HT_ HW_ => ?_)
                                    generalize w42.drew = w43 at HO_9 HO179 HB GG39 HQ45 hf39_0 hx180_0 hx181_0 hx39_0 hHeld ⊢
                                    refine pure_ (i := 0) (N := some 86) (v := ?_) (a' := ?_) #[true, false, false, false, false, false, false, false, false, false, false] rfl rfl (any_of HT_.out (by kernel_rfl)) (fun _ _ _ h => h) (Or.inl ⟨by rfl, ?_⟩) ?_ ?_
                                    rotate_left
                                    · intro w'
                                      go_simp
                                      with_reducible rfl
                                    rotate_left
                                    · simp only [Act.put, List.setIfInBounds_toArray, List.set_cons_zero, List.set_cons_succ, i64_w, i32_w]
                                      rfl
                                    refine pure_ (i := 1) (N := some 87) (v := ?_) (a' := ?_) #[true, true, false, false, false, false, false, false, false, false, false] rfl rfl (any_of HT_.out (by kernel_rfl)) (fun _ _ _ h => h) (Or.inl ⟨by rfl, ?_⟩) ?_ ?_
                                    rotate_left
                                    · intro w'
                                      go_simp
                                      with_reducible rfl
                                    rotate_left
                                    · simp only [Act.put, List.setIfInBounds_toArray, List.set_cons_zero, List.set_cons_succ, i64_w, i32_w]
                                      rfl
                                    refine pure_ (i := 2) (N := some 88) (v := ?_) (a' := ?_) #[true, true, true, false, false, false, false, false, false, false, false] rfl rfl (any_of HT_.out (by kernel_rfl)) (fun _ _ _ h => h) (Or.inl ⟨by rfl, ?_⟩) ?_ ?_
                                    rotate_left
                                    · intro w'
                                      go_simp
                                      with_reducible rfl
                                    rotate_left
                                    · simp only [Act.put, List.setIfInBounds_toArray, List.set_cons_zero, List.set_cons_succ, i64_w, i32_w]
                                      rfl
                                    refine pure_ (i := 4) (N := some 90) (v := ?_) (a' := ?_) #[true, true, true, false, true, false, false, false, false, false, false] rfl rfl (any_of HT_.out (by kernel_rfl)) (fun _ _ _ h => h) (Or.inl ⟨by rfl, ?_⟩) ?_ ?_
                                    rotate_left
                                    · intro w'
                                      go_simp
                                      with_reducible rfl
                                    rotate_left
                                    · simp only [Act.put, List.setIfInBounds_toArray, List.set_cons_zero, List.set_cons_succ, i64_w, i32_w]
                                      rfl
                                    refine pure_ (i := 5) (N := some 91) (v := ?_) (a' := ?_) #[true, true, true, false, true, true, false, false, false, false, false] rfl rfl (any_of HT_.out (by kernel_rfl)) (fun _ _ _ h => h) (Or.inl ⟨by rfl, ?_⟩) ?_ ?_
                                    rotate_left
                                    · intro w'
                                      go_simp
                                      with_reducible rfl
                                    rotate_left
                                    · simp only [Act.put, List.setIfInBounds_toArray, List.set_cons_zero, List.set_cons_succ, i64_w, i32_w]
                                      rfl
                                    refine pure_ (i := 6) (N := some 92) (v := ?_) (a' := ?_) #[true, true, true, false, true, true, true, false, false, false, false] rfl rfl (any_of HT_.out (by kernel_rfl)) (fun _ _ _ h => h) (Or.inl ⟨by rfl, ?_⟩) ?_ ?_
                                    rotate_left
                                    · intro w'
                                      go_simp
                                      with_reducible rfl
                                    rotate_left
                                    · simp only [Act.put, List.setIfInBounds_toArray, List.set_cons_zero, List.set_cons_succ, i64_w, i32_w]
                                      rfl
                                    refine take_ (i := 3) (N := some 89) (v := ?_) (a' := ?_) #[true, true, true, true, true, true, true, false, false, false, false] rfl rfl (take_ofW HT_.out HW_.out (by kernel_rfl)) (fun _ _ _ h => h) (Or.inl ⟨by rfl, ?_⟩) hHeld ?_ ?_
                                    rotate_left
                                    · rintro w' ⟨s0, s1⟩
                                      (try simp only [Go.IntWalk.toNatUp] at s0 s1)
                                      go_simp
                                      with_reducible rfl
                                    rotate_left
                                    · simp only [Act.put, List.setIfInBounds_toArray, List.set_cons_zero, List.set_cons_succ, i64_w, i32_w]
                                      rfl
                                    refine take_ (i := 7) (N := some 93) (v := ?_) (a' := ?_) #[true, true, true, true, true, true, true, true, false, false, false] rfl rfl (take_ofW HT_.out HW_.out (by kernel_rfl)) (fun _ _ _ h => h) (Or.inl ⟨by rfl, ?_⟩) hHeld ?_ ?_
                                    rotate_left
                                    · rintro w' ⟨s0, s1⟩
                                      (try simp only [Go.IntWalk.toNatUp] at s0 s1)
                                      go_simp
                                      with_reducible rfl
                                    rotate_left
                                    · simp only [Act.put, List.setIfInBounds_toArray, List.set_cons_zero, List.set_cons_succ, i64_w, i32_w]
                                      rfl
                                    refine pure_ (i := 8) (N := some 94) (v := ?_) (a' := ?_) #[true, true, true, true, true, true, true, true, true, false, false] rfl rfl (any_of HT_.out (by kernel_rfl)) (fun _ _ _ h => h) (Or.inl ⟨by rfl, ?_⟩) ?_ ?_
                                    rotate_left
                                    · intro w'
                                      go_simp
                                      with_reducible rfl
                                    rotate_left
                                    · simp only [Act.put, List.setIfInBounds_toArray, List.set_cons_zero, List.set_cons_succ, i64_w, i32_w]
                                      rfl
                                    refine pure_ (i := 9) (N := some 95) (v := ?_) (a' := ?_) #[true, true, true, true, true, true, true, true, true, true, false] rfl rfl (any_of HT_.out (by kernel_rfl)) (fun _ _ _ h => h) (Or.inl ⟨by rfl, ?_⟩) ?_ ?_
                                    rotate_left
                                    · intro w'
                                      go_simp
                                      with_reducible rfl
                                    rotate_left
                                    · simp only [Act.put, List.setIfInBounds_toArray, List.set_cons_zero, List.set_cons_succ, i64_w, i32_w]
                                      rfl
                                    refine last_ (i := 10) (N := none) #[true, true, true, true, true, true, true, true, true, true, true] rfl rfl (one_of HT_.out (by kernel_rfl)) (by decide) (fun K hK => ?_)
                                    refine skip_ (w1 := ?_) (by rfl) rfl ?_ ?_
                                    rotate_left
                                    · go_simp
                                      rfl
                                    refine hK.out _ _ ?_
                                    clear hK K
                                    refine done_ (done_of HT_.out (by kernel_rfl)) ?_
                                    have n0_ : Aside0 (Kd.R (Kd.int .i64) 3 (w43.setCell ⟨go39, x10_1.length, none⟩ (.int .i64 (wrap64 ((rd y177 (x10_1.length : Int)) + (rd l0 (rd l1 x21_1)))))) w.heap.size (fun k_ => some k_ ≠ (.slice (some ⟨go39, 0, none⟩) y177.length co44 : Value).ownBlock) v174 x9_1) := ⟨by (with_reducible repeat (first | apply Kd.R_alloc | apply Kd.R_drewN | apply Kd.R_drew)); exact Kd.R_mono (Kd.R_far (p := ⟨go39, x10_1.length, none⟩) (Kd.R_mono HO_9.out (fun k_ hk => (⟨hk, fun e_ => hk.2 (by rw [e_]; rfl)⟩ : _ ∧ k_ ≠ go39))) (fun _ hk => hk.2) (.int .i64 (wrap64 ((rd y177 (x10_1.length : Int)) + (rd l0 (rd l1 x21_1)))))) (fun _ hk => hk.1.2)⟩
                                    have n1_ : Aside0 (Kd.R (Kd.int .i64) 3 (w43.setCell ⟨go39, x10_1.length, none⟩ (.int .i64 (wrap64 ((rd y177 (x10_1.length : Int)) + (rd l0 (rd l1 x21_1)))))) w.heap.size (fun k_ => some k_ ≠ (v174 : Value).ownBlock) (.slice (some ⟨go39, 0, none⟩) y177.length co44) y182) := ⟨by (with_reducible repeat (first | apply Kd.R_alloc | apply Kd.R_drewN | apply Kd.R_drew)); exact HQ45.out⟩
                                    have n2_ : Aside0 (Below w.heap.size w (w43.setCell ⟨go39, x10_1.length, none⟩ (.int .i64 (wrap64 ((rd y177 (x10_1.length : Int)) + (rd l0 (rd l1 x21_1))))))) := ⟨by repeat (first | (with_reducible first | exact HB.out | apply below_alloc | apply pw_below_drewN | apply below_drew1 | refine below_set ?_ GB39.out) | exact HB.out)⟩
                                    (try clear HO_9)
                                    (try clear HO179)
                                    (try clear HB)
                                    generalize (w43.setCell ⟨go39, x10_1.length, none⟩ (.int .i64 (wrap64 ((rd y177 (x10_1.length : Int)) + (rd l0 (rd l1 x21_1)))))) = w46 at n0_ n1_ n2_ ⊢
                                    have HO_9 := n0_
                                    have HO179 := n1_
                                    have HB := n2_
                                    clear n0_ n1_ n2_
                                    have p41 : 0 ≤ ((rd l1 x21_1) : Int) := of_decide_eq_true (by first | (with_reducible assumption) | assumption)
                                    have q41 : ((rd l1 x21_1) : Int) < ((x9_1.length : Int) : Int) := of_decide_eq_true (by first | (with_reducible assumption) | assumption)
                                    obtain ⟨go41, co41, eo41, gb41, gl41, cl41, HG41⟩ := Kd.R_form HO_9.out (by omega)
                                    (first | cases eo41 | (injection eo41 with ea_ en_ ec_; (first | subst ea_ | (injection ea_ with ea_; subst ea_)); subst ec_; clear en_))
                                    have GB41 := Aside0.mk gb41
                                    have GG41 := Aside0.mk HG41
                                    clear gb41 gl41 HG41
                                    obtain ⟨hx41_0, hf41_0⟩ := Kd.R_celln 0 HO_9.out ((rd l1 x21_1) : Int) p41 q41
                                    (try simp only [Go.IntWalk.toNatUp] at hx41_0)
                                    (try simp only [Go.IntWalk.toNatUp] at hf41_0)
                                    replace p41 := eq_true p41
                                    replace q41 := eq_true q41
                                    obtain ⟨hy47_, hz47_⟩ := Kd.R_celln 0 HO_9.out ((rd l1 x21_1) : Int) (of_decide_eq_true (by first | (with_reducible assumption) | assumption)) (of_decide_eq_true (by first | (with_reducible assumption) | assumption))
                                    have HP47 := Kd.R_putg HO_9.out ((rd l1 x21_1) : Int) (x10_1.length : Int)
                                    try go_wp2_with (first | ((with_reducible refine gate_store (t := 3) (p := 99) rfl ?_); refine store_event (t := 3) (p := 99) (v := ?vo_w48) (w1 := (w46.setCell ⟨go41, ((rd l1 x21_1) : Int).toNat, none⟩ (.int .i64 (x10_1.length : Int)))) ?hg ?ho ?hn ?hr ?_; (case ho => rfl); (case hg => rfl); (case hn => rfl); (case hr => first | (go_simp; done) | (go_simp; rfl)); intro w48 hw; have hg : w46.grownBy w48 (some go41) := (by rw [hw]; exact HP47.2); have hp_ : Kd.R (Kd.int .i64) 3 w48 w.heap.size (fun k_ => some k_ ≠ (.slice (some ⟨go39, 0, none⟩) y177.length co44 : Value).ownBlock) (.slice (some ⟨go41, 0, none⟩) x9_1.length co41) y183 := (by rw [hw, Ny183.out]; exact HP47.1); clear HP47; have n0_ := Aside0.mk (hp_); have n1_ := Aside0.mk (Kd.R_after (v := (.slice (some ⟨go41, 0, none⟩) x9_1.length co41)) (v1 := (.slice (some ⟨go41, 0, none⟩) x9_1.length co41)) (ok := (fun _ => True)) (by (with_reducible repeat (first | apply Kd.R_alloc | apply Kd.R_drewN | apply Kd.R_drew)); exact Kd.R_mono HO179.out (fun _ hk => ⟨trivial, hk⟩)) hg (.inl rfl)); have n2_ := Aside0.mk ((by rw [hw]; exact below_set (HB.out) GB41.out : Below w.heap.size w w48)); clear HO_9; clear HO179; clear HB; have HO_9 := n0_; have HO179 := n1_; have HB := n2_; clear n0_ n1_ n2_; clear hg hw hp_))
                                    go_roundg k2
                                    case measure => have := HK1.out; have := HK2.out; omega
                                    case rel => exact ⟨(y183), (y182), (wrap64 (x21_1 + 1)), (by first | rfl | (simp; done) | (simp [*]; done)), H', ⟨by have := HK1.out; have := HK2.out; omega⟩, ⟨by (with_reducible repeat (first | apply Kd.R_alloc | apply Kd.R_drewN | apply Kd.R_drew)); exact HO_9.out⟩, ⟨by (with_reducible repeat (first | apply Kd.R_alloc | apply Kd.R_drewN | apply Kd.R_drew)); exact Kd.R_mono HO179.out (fun _ hk => hk.2)⟩, ⟨by repeat (first | (with_reducible first | exact HB.out | apply below_alloc | apply pw_below_drewN | apply below_drew1) | exact HB.out)⟩⟩
                                  · rw [if_neg c40] at H
                                    exact absurd H (by simp)
                                · rw [if_neg c38] at H
                                  exact absurd H (by simp)
                              · rw [if_neg c37] at H
                                exact absurd H (by simp)
                            · rw [if_neg c36] at H
                              exact absurd H (by simp)
                          · rw [if_neg c35] at H
                            exact absurd H (by simp)
                        · rw [if_neg c34] at H
                          exact absurd H (by simp)
                      · rw [if_neg c33] at H
                        have c33b0 : decide (x13_2 < 0) = false := decide_eq_false c33
                        clear c33
                        by_cases c49 : 0 ≤ x13_2
                        · rw [if_pos c49] at H
                          have c49b0 : decide (0 ≤ x13_2) = true := decide_eq_true c49
                          clear c49
                          by_cases c50 : x13_2 < (x10_1.length : Int)
                          · rw [if_pos c50] at H
                            have c50b0 : decide (x13_2 < (x10_1.length : Int)) = true := decide_eq_true c50
                            clear c50
                            by_cases c51 : 0 ≤ (rd l1 x21_1)
                            · rw [if_pos c51] at H
                              have c51b0 : decide (0 ≤ (rd l1 x21_1)) = true := decide_eq_true c51
                              clear c51
                              by_cases c52 : (rd l1 x21_1) < (l0.length : Int)
                              · rw [if_pos c52] at H
                                have c52b0 : decide ((rd l1 x21_1) < (l0.length : Int)) = true := decide_eq_true c52
                                clear c52
                                obtain ⟨y186, hy186⟩ : ∃ y_ : List Int, y_ = (x10_1.set (x13_2 : Int).toNat (wrap64 ((rd x10_1 x13_2) + (rd l0 (rd l1 x21_1))))) := ⟨_, rfl⟩
                                replace H : (if (rd l1 x21_1) < (x9_1.length : Int) then (spec_bxRule.l0 k2 l0 a2 a3 (x9_1.set ((rd l1 x21_1) : Int).toNat x13_2) y186 l1 (l1.length : Int) (wrap64 (x21_1 + 1))) else (none)) = some r := by first | (rw [hy186]; with_reducible exact H) | (have H2_ := (Option.bind_some _ _).symm.trans H; rw [hy186]; with_reducible exact H2_) | (have H2_ := (Option.bind_some _ _).symm.trans H; with_reducible exact H2_) | with_reducible exact H | (rw [hy186]; exact H) | exact H
                                have Ny186 := Aside0.mk hy186
                                clear hy186
                                by_cases c54 : (rd l1 x21_1) < (x9_1.length : Int)
                                · rw [if_pos c54] at H
                                  have c54b0 : decide ((rd l1 x21_1) < (x9_1.length : Int)) = true := decide_eq_true c54
                                  clear c54
                                  obtain ⟨y187, hy187⟩ : ∃ y_ : List Int, y_ = (x9_1.set ((rd l1 x21_1) : Int).toNat x13_2) := ⟨_, rfl⟩
                                  replace H : (spec_bxRule.l0 k2 l0 a2 a3 y187 y186 l1 (l1.length : Int) (wrap64 (x21_1 + 1))) = some r := by first | (rw [hy187]; with_reducible exact H) | (have H2_ := (Option.bind_some _ _).symm.trans H; rw [hy187]; with_reducible exact H2_) | (have H2_ := (Option.bind_some _ _).symm.trans H; with_reducible exact H2_) | with_reducible exact H | (rw [hy187]; exact H) | exact H
                                  have Ny187 := Aside0.mk hy187
                                  clear hy187
                                  have H' := Aside0.mk H
                                  clear H
                                  try go_wp2
                                  have n0_ := Aside0.mk (Kd.R_drew HO_9.out)
                                  have n1_ := Aside0.mk (Kd.R_drew HO_10.out)
                                  have n2_ := Aside0.mk (below_drew1 HB.out)
                                  clear HO_9
                                  clear HO_10
                                  clear HB
                                  have HO_9 := n0_
                                  have HO_10 := n1_
                                  have HB := n2_
                                  clear n0_ n1_ n2_
                                  have p184 : 0 ≤ (x13_2 : Int) := of_decide_eq_true (by first | (with_reducible assumption) | assumption)
                                  have q184 : x13_2 < (x10_1.length : Int) := of_decide_eq_true (by first | (with_reducible assumption) | assumption)
                                  obtain ⟨ad184, e184, hx184_0⟩ := Kd.at_int (Kd.R_reads' HO_10.out).2.2 x13_2 p184 q184
                                  cases e184
                                  replace p184 := eq_true p184
                                  replace q184 := eq_true q184
                                  have p185 : 0 ≤ ((rd l1 x21_1) : Int) := of_decide_eq_true (by first | (with_reducible assumption) | assumption)
                                  have q185 : (rd l1 x21_1) < (l0.length : Int) := of_decide_eq_true (by first | (with_reducible assumption) | assumption)
                                  obtain ⟨ad185, e185, hx185_0⟩ := Kd.at_int HR0.out (rd l1 x21_1) p185 q185
                                  have hw185_0 := hx185_0
                                  cases e185
                                  replace hx185_0 := (HB.out.cell (World.block_lt_of_cell? w _ hx185_0)).trans hx185_0
                                  replace p185 := eq_true p185
                                  replace q185 := eq_true q185
                                  have p53 : 0 ≤ (x13_2 : Int) := of_decide_eq_true (by first | (with_reducible assumption) | assumption)
                                  have q53 : (x13_2 : Int) < ((x10_1.length : Int) : Int) := of_decide_eq_true (by first | (with_reducible assumption) | assumption)
                                  obtain ⟨go53, co53, eo53, gb53, gl53, cl53, HG53⟩ := Kd.R_form HO_10.out (by omega)
                                  (first | cases eo53 | (injection eo53 with ea_ en_ ec_; (first | subst ea_ | (injection ea_ with ea_; subst ea_)); subst ec_; clear en_))
                                  have GB53 := Aside0.mk gb53
                                  have GG53 := Aside0.mk HG53
                                  clear gb53 gl53 HG53
                                  (first | simp only [add_plain] at hx184_0 | skip)
                                  obtain ⟨hx53_0, hf53_0⟩ := Kd.R_celln 0 HO_10.out (x13_2 : Int) p53 q53
                                  (try simp only [Go.IntWalk.toNatUp] at hx53_0)
                                  (try simp only [Go.IntWalk.toNatUp] at hf53_0)
                                  replace p53 := eq_true p53
                                  replace q53 := eq_true q53
                                  have HP57 := Kd.R_putn HO_10.out (x13_2 : Int) (wrap64 ((rd x10_1 x13_2) + (rd l0 (rd l1 x21_1))))
                                  rw [← Ny186.out] at HP57
                                  have HQ57 := Aside0.mk HP57
                                  clear HP57
                                  refine start_ (n := 11) (S := fun w' => w'.cell? ⟨go53, (x13_2).toNat, none⟩ = some (.int .i64 (rd x10_1 x13_2)) ∧ w'.cell? (ad185.add ((rd l1 x21_1)).toNat) = some (.int .i64 (rd l0 (rd l1 x21_1)))) (ds := [10]) #[false, false, false, false, false, false, false, false, false, false, false] (by kernel_rfl) rfl rfl ⟨hx184_0, ((HB.out.cell (World.block_lt_of_cell? w _ hw185_0)).trans hw185_0)⟩ (fun hHeld => ?_); refine with_tabW spec_bxRule.tab17 spec_bxRule.bits17 (fun HT_ HW_ => ?_)
                                  generalize wr.drew = w56 at HO_9 HO_10 HB GG53 HQ57 hf53_0 hx184_0 hx185_0 hx53_0 hHeld ⊢
                                  refine pure_ (i := 0) (N := some 86) (v := ?_) (a' := ?_) #[true, false, false, false, false, false, false, false, false, false, false] rfl rfl (any_of HT_.out (by kernel_rfl)) (fun _ _ _ h => h) (Or.inl ⟨by rfl, ?_⟩) ?_ ?_
                                  rotate_left
                                  · intro w'
                                    go_simp
                                    with_reducible rfl
                                  rotate_left
                                  · simp only [Act.put, List.setIfInBounds_toArray, List.set_cons_zero, List.set_cons_succ, i64_w, i32_w]
                                    rfl
                                  refine pure_ (i := 1) (N := some 87) (v := ?_) (a' := ?_) #[true, true, false, false, false, false, false, false, false, false, false] rfl rfl (any_of HT_.out (by kernel_rfl)) (fun _ _ _ h => h) (Or.inl ⟨by rfl, ?_⟩) ?_ ?_
                                  rotate_left
                                  · intro w'
                                    go_simp
                                    with_reducible rfl
                                  rotate_left
                                  · simp only [Act.put, List.setIfInBounds_toArray, List.set_cons_zero, List.set_cons_succ, i64_w, i32_w]
                                    rfl
                                  refine pure_ (i := 2) (N := some 88) (v := ?_) (a' := ?_) #[true, true, true, false, false, false, false, false, false, false, false] rfl rfl (any_of HT_.out (by kernel_rfl)) (fun _ _ _ h => h) (Or.inl ⟨by rfl, ?_⟩) ?_ ?_
                                  rotate_left
                                  · intro w'
                                    go_simp
                                    with_reducible rfl
                                  rotate_left
                                  · simp only [Act.put, List.setIfInBounds_toArray, List.set_cons_zero, List.set_cons_succ, i64_w, i32_w]
                                    rfl
                                  refine pure_ (i := 4) (N := some 90) (v := ?_) (a' := ?_) #[true, true, true, false, true, false, false, false, false, false, false] rfl rfl (any_of HT_.out (by kernel_rfl)) (fun _ _ _ h => h) (Or.inl ⟨by rfl, ?_⟩) ?_ ?_
                                  rotate_left
                                  · intro w'
                                    go_simp
                                    with_reducible rfl
                                  rotate_left
                                  · simp only [Act.put, List.setIfInBounds_toArray, List.set_cons_zero, List.set_cons_succ, i64_w, i32_w]
                                    rfl
                                  refine pure_ (i := 5) (N := some 91) (v := ?_) (a' := ?_) #[true, true, true, false, true, true, false, false, false, false, false] rfl rfl (any_of HT_.out (by kernel_rfl)) (fun _ _ _ h => h) (Or.inl ⟨by rfl, ?_⟩) ?_ ?_
                                  rotate_left
                                  · intro w'
                                    go_simp
                                    with_reducible rfl
                                  rotate_left
                                  · simp only [Act.put, List.setIfInBounds_toArray, List.set_cons_zero, List.set_cons_succ, i64_w, i32_w]
                                    rfl
                                  refine pure_ (i := 6) (N := some 92) (v := ?_) (a' := ?_) #[true, true, true, false, true, true, true, false, false, false, false] rfl rfl (any_of HT_.out (by kernel_rfl)) (fun _ _ _ h => h) (Or.inl ⟨by rfl, ?_⟩) ?_ ?_
                                  rotate_left
                                  · intro w'
                                    go_simp
                                    with_reducible rfl
                                  rotate_left
                                  · simp only [Act.put, List.setIfInBounds_toArray, List.set_cons_zero, List.set_cons_succ, i64_w, i32_w]
                                    rfl
                                  refine take_ (i := 3) (N := some 89) (v := ?_) (a' := ?_) #[true, true, true, true, true, true, true, false, false, false, false] rfl rfl (take_ofW HT_.out HW_.out (by kernel_rfl)) (fun _ _ _ h => h) (Or.inl ⟨by rfl, ?_⟩) hHeld ?_ ?_
                                  rotate_left
                                  · rintro w' ⟨s0, s1⟩
                                    (try simp only [Go.IntWalk.toNatUp] at s0 s1)
                                    go_simp
                                    with_reducible rfl
                                  rotate_left
                                  · simp only [Act.put, List.setIfInBounds_toArray, List.set_cons_zero, List.set_cons_succ, i64_w, i32_w]
                                    rfl
                                  refine take_ (i := 7) (N := some 93) (v := ?_) (a' := ?_) #[true, true, true, true, true, true, true, true, false, false, false] rfl rfl (take_ofW HT_.out HW_.out (by kernel_rfl)) (fun _ _ _ h => h) (Or.inl ⟨by rfl, ?_⟩) hHeld ?_ ?_
                                  rotate_left
                                  · rintro w' ⟨s0, s1⟩
                                    (try simp only [Go.IntWalk.toNatUp] at s0 s1)
                                    go_simp
                                    with_reducible rfl
                                  rotate_left
                                  · simp only [Act.put, List.setIfInBounds_toArray, List.set_cons_zero, List.set_cons_succ, i64_w, i32_w]
                                    rfl
                                  refine pure_ (i := 8) (N := some 94) (v := ?_) (a' := ?_) #[true, true, true, true, true, true, true, true, true, false, false] rfl rfl (any_of HT_.out (by kernel_rfl)) (fun _ _ _ h => h) (Or.inl ⟨by rfl, ?_⟩) ?_ ?_
                                  rotate_left
                                  · intro w'
                                    go_simp
                                    with_reducible rfl
                                  rotate_left
                                  · simp only [Act.put, List.setIfInBounds_toArray, List.set_cons_zero, List.set_cons_succ, i64_w, i32_w]
                                    rfl
                                  refine pure_ (i := 9) (N := some 95) (v := ?_) (a' := ?_) #[true, true, true, true, true, true, true, true, true, true, false] rfl rfl (any_of HT_.out (by kernel_rfl)) (fun _ _ _ h => h) (Or.inl ⟨by rfl, ?_⟩) ?_ ?_
                                  rotate_left
                                  · intro w'
                                    go_simp
                                    with_reducible rfl
                                  rotate_left
                                  · simp only [Act.put, List.setIfInBounds_toArray, List.set_cons_zero, List.set_cons_succ, i64_w, i32_w]
                                    rfl
                                  refine last_ (i := 10) (N := none) #[true, true, true, true, true, true, true, true, true, true, true] rfl rfl (one_of HT_.out (by kernel_rfl)) (by decide) (fun K hK => ?_)
                                  refine skip_ (w1 := ?_) (by rfl) rfl ?_ ?_
                                  rotate_left
                                  · go_simp
                                    rfl
                                  refine hK.out _ _ ?_
                                  clear hK K
                                  refine done_ (done_of HT_.out (by kernel_rfl)) ?_
                                  have n0_ : Aside0 (Kd.R (Kd.int .i64) 3 (w56.setCell ⟨go53, (x13_2 : Int).toNat, none⟩ (.int .i64 (wrap64 ((rd x10_1 x13_2) + (rd l0 (rd l1 x21_1)))))) w.heap.size (fun k_ => some k_ ≠ (.slice (some ⟨go53, 0, none⟩) x10_1.length co12 : Value).ownBlock) v174 x9_1) := ⟨by (with_reducible repeat (first | apply Kd.R_alloc | apply Kd.R_drewN | apply Kd.R_drew)); exact Kd.R_mono (Kd.R_far (p := ⟨go53, (x13_2 : Int).toNat, none⟩) (Kd.R_mono HO_9.out (fun k_ hk => (⟨hk, fun e_ => hk (by rw [e_]; rfl)⟩ : _ ∧ k_ ≠ go53))) (fun _ hk => hk.2) (.int .i64 (wrap64 ((rd x10_1 x13_2) + (rd l0 (rd l1 x21_1)))))) (fun _ hk => hk.1)⟩
                                  have n1_ : Aside0 (Kd.R (Kd.int .i64) 3 (w56.setCell ⟨go53, (x13_2 : Int).toNat, none⟩ (.int .i64 (wrap64 ((rd x10_1 x13_2) + (rd l0 (rd l1 x21_1)))))) w.heap.size (fun k_ => some k_ ≠ (v174 : Value).ownBlock) (.slice (some ⟨go53, 0, none⟩) x10_1.length co12) y186) := ⟨by (with_reducible repeat (first | apply Kd.R_alloc | apply Kd.R_drewN | apply Kd.R_drew)); exact HQ57.out⟩
                                  have n2_ : Aside0 (Below w.heap.size w (w56.setCell ⟨go53, (x13_2 : Int).toNat, none⟩ (.int .i64 (wrap64 ((rd x10_1 x13_2) + (rd l0 (rd l1 x21_1))))))) := ⟨by repeat (first | (with_reducible first | exact HB.out | apply below_alloc | apply pw_below_drewN | apply below_drew1 | refine below_set ?_ GB53.out) | exact HB.out)⟩
                                  (try clear HO_9)
                                  (try clear HO_10)
                                  (try clear HB)
                                  generalize (w56.setCell ⟨go53, (x13_2 : Int).toNat, none⟩ (.int .i64 (wrap64 ((rd x10_1 x13_2) + (rd l0 (rd l1 x21_1)))))) = w58 at n0_ n1_ n2_ ⊢
                                  have HO_9 := n0_
                                  have HO_10 := n1_
                                  have HB := n2_
                                  clear n0_ n1_ n2_
                                  have p55 : 0 ≤ ((rd l1 x21_1) : Int) := of_decide_eq_true (by first | (with_reducible assumption) | assumption)
                                  have q55 : ((rd l1 x21_1) : Int) < ((x9_1.length : Int) : Int) := of_decide_eq_true (by first | (with_reducible assumption) | assumption)
                                  obtain ⟨go55, co55, eo55, gb55, gl55, cl55, HG55⟩ := Kd.R_form HO_9.out (by omega)
                                  (first | cases eo55 | (injection eo55 with ea_ en_ ec_; (first | subst ea_ | (injection ea_ with ea_; subst ea_)); subst ec_; clear en_))
                                  have GB55 := Aside0.mk gb55
                                  have GG55 := Aside0.mk HG55
                                  clear gb55 gl55 HG55
                                  obtain ⟨hx55_0, hf55_0⟩ := Kd.R_celln 0 HO_9.out ((rd l1 x21_1) : Int) p55 q55
                                  (try simp only [Go.IntWalk.toNatUp] at hx55_0)
                                  (try simp only [Go.IntWalk.toNatUp] at hf55_0)
                                  replace p55 := eq_true p55
                                  replace q55 := eq_true q55
                                  obtain ⟨hy59_, hz59_⟩ := Kd.R_celln 0 HO_9.out ((rd l1 x21_1) : Int) (of_decide_eq_true (by first | (with_reducible assumption) | assumption)) (of_decide_eq_true (by first | (with_reducible assumption) | assumption))
                                  have HP59 := Kd.R_putg HO_9.out ((rd l1 x21_1) : Int) x13_2
                                  try go_wp2_with (first | ((with_reducible refine gate_store (t := 3) (p := 99) rfl ?_); refine store_event (t := 3) (p := 99) (v := ?vo_w60) (w1 := (w58.setCell ⟨go55, ((rd l1 x21_1) : Int).toNat, none⟩ (.int .i64 x13_2))) ?hg ?ho ?hn ?hr ?_; (case ho => rfl); (case hg => rfl); (case hn => rfl); (case hr => first | (go_simp; done) | (go_simp; rfl)); intro w60 hw; have hg : w58.grownBy w60 (some go55) := (by rw [hw]; exact HP59.2); have hp_ : Kd.R (Kd.int .i64) 3 w60 w.heap.size (fun k_ => some k_ ≠ (.slice (some ⟨go53, 0, none⟩) x10_1.length co12 : Value).ownBlock) (.slice (some ⟨go55, 0, none⟩) x9_1.length co55) y187 := (by rw [hw, Ny187.out]; exact HP59.1); clear HP59; have n0_ := Aside0.mk (hp_); have n1_ := Aside0.mk (Kd.R_after (v := (.slice (some ⟨go55, 0, none⟩) x9_1.length co55)) (v1 := (.slice (some ⟨go55, 0, none⟩) x9_1.length co55)) (ok := (fun _ => True)) (by (with_reducible repeat (first | apply Kd.R_alloc | apply Kd.R_drewN | apply Kd.R_drew)); exact Kd.R_mono HO_10.out (fun _ hk => ⟨trivial, hk⟩)) hg (.inl rfl)); have n2_ := Aside0.mk ((by rw [hw]; exact below_set (HB.out) GB55.out : Below w.heap.size w w60)); clear HO_9; clear HO_10; clear HB; have HO_9 := n0_; have HO_10 := n1_; have HB := n2_; clear n0_ n1_ n2_; clear hg hw hp_))
                                  go_roundg k2
                                  case measure => have := HK1.out; have := HK2.out; omega
                                  case rel => exact ⟨(y187), (y186), (wrap64 (x21_1 + 1)), (by first | rfl | (simp; done) | (simp [*]; done)), H', ⟨by have := HK1.out; have := HK2.out; omega⟩, ⟨by (with_reducible repeat (first | apply Kd.R_alloc | apply Kd.R_drewN | apply Kd.R_drew)); exact HO_9.out⟩, ⟨by (with_reducible repeat (first | apply Kd.R_alloc | apply Kd.R_drewN | apply Kd.R_drew)); exact Kd.R_mono HO_10.out (fun _ hk => hk.2)⟩, ⟨by repeat (first | (with_reducible first | exact HB.out | apply below_alloc | apply pw_below_drewN | apply below_drew1) | exact HB.out)⟩⟩
                                · rw [if_neg c54] at H
                                  exact absurd H (by simp)
                              · rw [if_neg c52] at H
                                exact absurd H (by simp)
                            · rw [if_neg c51] at H
                              exact absurd H (by simp)
                          · rw [if_neg c50] at H
                            exact absurd H (by simp)
                        · rw [if_neg c49] at H
                          exact absurd H (by simp)
              · rw [if_neg c11] at H
                exact absurd H (by simp)
            · rw [if_neg c10] at H
              exact absurd H (by simp)
          · rw [if_neg c9] at H
            have c9b0 : decide (x21_1 < (l1.length : Int)) = false := decide_eq_false c9
            clear c9
            obtain rfl := Option.some.inj H
            go_wp2
            go_ret
            exact ⟨_, by first | rfl | (simp [errW_none, errW_some] <;> rfl) | (simp [*, errW_none, errW_some] <;> rfl), by (with_reducible repeat (first | apply Kd.R_alloc | apply Kd.R_drewN | apply Kd.R_drew)); exact Kd.R_mono HO_9.out (fun _ hk => trivial), by repeat (first | (with_reducible first | exact HB.out | apply below_alloc | apply pw_below_drewN | apply below_drew1) | exact HB.out)⟩
    · rw [if_neg c6] at H
      exact absurd H (by simp)
  · rw [if_neg c5] at H
    exact absurd H (by simp)

end Go.Proofs.Ytclfjjinfbfajaa.P
