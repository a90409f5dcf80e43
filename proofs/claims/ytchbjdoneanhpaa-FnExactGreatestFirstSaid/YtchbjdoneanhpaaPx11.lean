-- Laid by wip/myprint.py of this project (a wrapper over the kit's print.py); Lean checks it.
import Derived.Test.YtchbjdoneanhpaaPx0
import Derived.Test.YtchbjdoneanhpaaPx1
namespace Go.Proofs.Ytchbjdoneanhpaa.P
open Go.RowKit Go.Proofs.YtchbjdoneanhpaaW.PrintWords Go.Proofs.YtchbjdoneanhpaaW.PrintLast Go.Proofs.YtchbjdoneanhpaaW.PrintMore
attribute [local go_sem] max2_int min2_int max_two min_two max_three min_three max_four min_four   -- for this text's walks alone
set_option linter.unusedVariables false
set_option linter.unusedSimpArgs false

/-! ### slices_insertionSortCmpFunc_int: function 46 (by hand) -/
/-- What is asked of a comparison, as long as I holds. -/
def CmpI (gc : Nat) (lbc : Array Value) (cf : Int → Int → Int) (ok : Int → Prop) (I : World → Prop) : Prop :=
  ∀ (W : World) (x y : Int), I W → ok x → ok y → Calls Try.prog gc (#[.int .i64 x, .int .i64 y] ++ lbc) W fun e W' => e = .returned (.int .i64 (cf x y)) ∧ Drawn0 W W'
/-- The elements j and j+1 exchanged. -/
def swpI (xs : List Int) (j : Nat) : List Int := (xs.set (j + 1) (rd xs (j : Int))).set j (rd xs ((j + 1 : Nat) : Int))
/-- The element at j brought down. -/
def insI (cf : Int → Int → Int) : Nat → List Int → List Int
  | 0, xs => xs
  | j + 1, xs => if cf (rd xs ((j + 1 : Nat) : Int)) (rd xs (j : Int)) < 0 then insI cf j (swpI xs j) else xs
/-- The elements from i on brought down, d of them. -/
def sortI (cf : Int → Int → Int) : Nat → Nat → List Int → List Int
  | 0, _, xs => xs
  | d + 1, i, xs => sortI cf d (i + 1) (insI cf i xs)
theorem swpI_len (xs : List Int) (j : Nat) : (swpI xs j).length = xs.length := by simp [swpI]
theorem rd_mem {xs : List Int} {i : Nat} (h : i < xs.length) : rd xs (i : Int) ∈ xs := by
  simp [rd, List.getD_eq_getElem?_getD, List.getElem?_eq_getElem h]
theorem swpI_mem (xs : List Int) (j : Nat) (hj : j + 1 < xs.length) (ok : Int → Prop) (h : ∀ x ∈ xs, ok x) : ∀ x ∈ swpI xs j, ok x := by
  intro x hx
  rcases List.mem_or_eq_of_mem_set hx with hx | rfl
  · rcases List.mem_or_eq_of_mem_set hx with hx | rfl
    · exact h x hx
    · exact h _ (rd_mem (by omega))
  · exact h _ (rd_mem (by omega))
def insSort_T : Bool × List (List Nat × List Nat) := (true, [([], []), ([], []), ([], []), ([], []), ([3], [3]), ([], []), ([], []), ([6], [6]), ([5, 7], [5, 7]), ([8], [8]), ([], []), ([], []), ([10, 11], [10, 11]), ([12], [12]), ([0, 1, 0, 1, 5, 6, 7, 8, 9, 13], [0, 1]), ([14, 9, 0, 1, 5, 6, 7, 8, 9, 13], [9, 14]), ([2, 4, 0, 1, 2, 3, 4, 5, 6, 7, 8, 9, 10, 11, 12, 13, 14, 15], [2, 4]), ([16, 13, 15, 0, 1, 2, 3, 4, 5, 6, 7, 8, 9, 10, 11, 12, 13, 14, 15], [13, 16])])
def insSort_B : List Nat := [0, 0, 0, 0, 8, 0, 0, 64, 224, 480, 0, 0, 3072, 7168, 16355, 32739, 65535, 131071]
theorem insSort_tab : rtab .any (opsOf Try.f46 6) = insSort_T := by kernel_rfl
theorem insSort_bits : waitsOk insSort_T.2 insSort_B = true := by kernel_rfl
set_option maxRecDepth 100000 in
set_option maxHeartbeats 8000000 in
theorem insSort_int (gc : Nat) (lbc : Array Value) (egc : ∀ args w, (callFunc gc args).run Try.prog w = .ok (.enter gc args) w) (cf : Int → Int → Int) (ok : Int → Prop) (I : World → Prop) (N0 g c : Nat) (hI : ∀ W W', I W → Mod (fun k => k = g) W W' → I W') (hc : CmpI gc lbc cf ok I) (w : World) (xs : List Int) (hok : ∀ x ∈ xs, ok x) (h1 : 1 ≤ xs.length) (h2 : xs.length ≤ 1000)
    (hr : Kd.R (Kd.int .i64) 3 w N0 (fun _ => True) (.slice (some ⟨g, 0, none⟩) xs.length c) xs) (hi : I w) :
    Calls Try.prog 46 #[.slice (some ⟨g, 0, none⟩) xs.length c, .int .i64 0, .int .i64 xs.length, .func (.func gc) #[] lbc] w fun e W' => e = .returned (.tuple #[]) ∧ Kd.R (Kd.int .i64) 3 W' N0 (fun _ => True) (.slice (some ⟨g, 0, none⟩) xs.length c) (sortI cf (xs.length - 1) 1 xs) ∧ Mod (fun k => k = g) w W' := by
  have HR := Aside0.mk hr
  have HI := Aside0.mk hi
  have HC := Aside0.mk hc
  have HOK := Aside0.mk hok
  clear hr hi hc hok
  go_enter Try.func46, Try.ntmps46
  go_wp2
  go_loopg [8] (xs.length - 1) (fun gk v8 wr => ∃ (i : Nat) (ys : List Int), v8 = .int .i64 i ∧ 1 ≤ i ∧ i ≤ xs.length ∧ xs.length - i ≤ gk ∧ Aside0 (ys.length = xs.length) ∧ Aside0 (Kd.R (Kd.int .i64) 3 wr N0 (fun _ => True) (.slice (some ⟨g, 0, none⟩) xs.length c) ys) ∧ Aside0 (Mod (fun k => k = g) w wr) ∧ Aside0 (∀ x ∈ ys, ok x) ∧ Aside0 (sortI cf (xs.length - 1) 1 xs = sortI cf (xs.length - i) i ys))
  case atStart => exact ⟨1, xs, by go_num, Nat.le_refl _, h1, Nat.le_refl _, ⟨rfl⟩, HR, ⟨Mod.refl _ _⟩, HOK, ⟨rfl⟩⟩
  case round =>
    obtain ⟨i, ys, rfl, hi1, hi2, hg1, HL1, HR1, HM1, HK1, HV1⟩ := hrel
    by_cases hlt : i < xs.length
    · have hltz : (i : Int) < (xs.length : Int) := by omega
      have hw1 : IntKind.i64.wrap ((i : Int) + 1) = (i : Int) + 1 := IntWalk.i64_in _ (by omega)
      go_wp2
      go_loopg [9] i (fun gk v9 wr => ∃ (jj : Nat) (zs : List Int), v9 = .int .i64 jj ∧ jj ≤ i ∧ jj ≤ gk ∧ Aside0 (zs.length = xs.length) ∧ Aside0 (Kd.R (Kd.int .i64) 3 wr N0 (fun _ => True) (.slice (some ⟨g, 0, none⟩) xs.length c) zs) ∧ Aside0 (Mod (fun k => k = g) w wr) ∧ Aside0 (∀ x ∈ zs, ok x) ∧ Aside0 (insI cf i ys = insI cf jj zs))
      case atStart => exact ⟨i, ys, by go_num, Nat.le_refl _, Nat.le_refl _, HL1, HR1, HM1, HK1, ⟨rfl⟩⟩
      case round =>
        obtain ⟨jj, zs, rfl, hj1, hj2, HL2, HR2, HM2, HK2, HV2⟩ := hrel
        by_cases hz : jj = 0
        · subst hz
          have Hend : Aside0 (sortI cf (xs.length - 1) 1 xs = sortI cf (xs.length - (i + 1)) (i + 1) zs) := ⟨by
            rw [HV1.out, show xs.length - i = (xs.length - (i + 1)) + 1 by omega, sortI, HV2.out]; rfl⟩
          go_wp2_with fail
          go_quiet (fail)
          go_wp2
          go_roundg (xs.length - (i + 1))
          case measure => omega
          case rel => exact ⟨i + 1, zs, by go_num, by omega, by omega, by omega, HL2, ⟨Kd.R_drewN HR2.out _⟩, ⟨HM2.out.trans (Mod.of_below (pw_below_drewN (Below.refl _ _) _))⟩, HK2, Hend⟩
        · obtain ⟨j, hjj⟩ : ∃ j, jj = j + 1 := ⟨jj - 1, by omega⟩
          have hgt : (0 : Int) < (jj : Int) := by omega
          have hgt2 : decide ((0 : Int) < (jj : Int)) = true := decide_eq_true hgt
          have hgt3 : 0 < jj := by omega
          have hgt4 : decide (0 < jj) = true := decide_eq_true hgt3
          have hw3 : IntKind.i64.wrap ((jj : Int) - 1) = (j : Int) := by rw [IntWalk.i64_in _ (by omega)]; omega
          have hw3' : wrap64 ((jj : Int) - 1) = (j : Int) := by rw [← i64_w]; exact hw3
          have hb0 : (0 : Int) ≤ (j : Int) := Int.natCast_nonneg _
          have hb1 : (j : Int) < (xs.length : Int) := by omega
          have hb2 : (0 : Int) ≤ (jj : Int) := Int.natCast_nonneg _
          have hb3 : (jj : Int) < (xs.length : Int) := by omega
          have hb4 : j < xs.length := by omega
          have hb5 : jj < xs.length := by omega
          have Hle0 : Aside0 (j < zs.length ∧ jj < zs.length) := ⟨by have := HL2.out; omega⟩
          obtain ⟨hx0, hf0⟩ := Kd.R_celln 0 HR2.out (j : Int) hb0 hb1
          obtain ⟨hx1, hf1⟩ := Kd.R_celln 0 HR2.out (jj : Int) hb2 hb3
          rw [Int.toNat_natCast] at hx0 hx1 hf0 hf1
          obtain ⟨x0, hx0e⟩ : ∃ x0, x0 = rd zs (j : Int) := ⟨_, rfl⟩
          obtain ⟨x1, hx1e⟩ : ∃ x1, x1 = rd zs (jj : Int) := ⟨_, rfl⟩
          replace hx0 : wr.cell? ⟨g, j, none⟩ = some (.int .i64 x0) := by rw [hx0e]; exact hx0
          replace hx1 : wr.cell? ⟨g, jj, none⟩ = some (.int .i64 x1) := by rw [hx1e]; exact hx1
          have Hcmp : Aside0 (∀ W, Below wr.heap.size wr W → Calls Try.prog gc (#[.int .i64 x1, .int .i64 x0] ++ lbc) W fun e W' => e = .returned (.int .i64 (cf x1 x0)) ∧ Drawn0 W W') := ⟨fun W hW => HC.out W x1 x0 (hI _ _ HI.out (HM2.out.trans (Mod.of_below hW))) (by rw [hx1e]; exact HK2.out _ (rd_mem Hle0.out.2)) (by rw [hx0e]; exact HK2.out _ (rd_mem Hle0.out.1))⟩
          have Hjj := Aside0.mk hjj
          have Hx0e := Aside0.mk hx0e
          have Hx1e := Aside0.mk hx1e
          clear hx0e hx1e hz
          by_cases hlt0 : cf x1 x0 < 0
          · have hcb : decide (cf x1 x0 < 0) = true := decide_eq_true hlt0
            have Hzs : Aside0 (swpI zs j = (zs.set jj x0).set j x1) := ⟨by unfold swpI; rw [← Hjj.out, Hx0e.out, Hx1e.out]⟩
            have HV3 : Aside0 (insI cf i ys = insI cf j (swpI zs j)) := ⟨by rw [HV2.out, Hjj.out, insI, ← Hjj.out, if_pos (by rw [← Hx0e.out, ← Hx1e.out]; exact hlt0)]⟩
            clear hjj hlt0
            go_wp2_with fail
            go_region_held3 (fun w' => w'.cell? ⟨g, j, none⟩ = some (.int .i64 x0) ∧ w'.cell? ⟨g, jj, none⟩ = some (.int .i64 x1))
              (first | go_keep | exact ⟨pw_cell_below HB5.out hx0, pw_cell_below HB5.out hx1⟩)
              (first | ((with_reducible refine (Hcmp.out _ (by first | exact (Below.refl _ wr).drew | exact pw_below_drewN (Below.refl _ wr) _)).mono ?_); rintro e w5 ⟨rfl, hd5⟩; have HB5 : Aside0 (Below wr.heap.size wr w5) := ⟨below_then (by first | exact (Below.refl _ wr).drew | exact pw_below_drewN (Below.refl _ wr) _) (by simp) hd5.below⟩; clear hd5))
            all_goals
              go_wp2_with fail
              have HR5 : Aside0 (Kd.R (Kd.int .i64) 3 w5.drew N0 (fun _ => True) (.slice (some ⟨g, 0, none⟩) xs.length c) zs) := ⟨Kd.R_drew (Kd.R_below HR2.out HB5.out)⟩
              have HM5 : Aside0 (Mod (fun k => k = g) w w5.drew) := ⟨(HM2.out.trans (Mod.of_below HB5.out)).drew⟩
              clear hx0 hx1 hf0 hf1
              obtain ⟨hx0, hf0⟩ := Kd.R_celln 0 HR5.out (j : Int) hb0 hb1
              obtain ⟨hx1, hf1⟩ := Kd.R_celln 0 HR5.out (jj : Int) hb2 hb3
              rw [Int.toNat_natCast] at hx0 hx1 hf0 hf1
              replace hx0 : w5.drew.cell? ⟨g, j, none⟩ = some (.int .i64 x0) := by rw [Hx0e.out]; exact hx0
              replace hx1 : w5.drew.cell? ⟨g, jj, none⟩ = some (.int .i64 x1) := by rw [Hx1e.out]; exact hx1
              have HQ1 : Aside0 (Kd.R (Kd.int .i64) 3 (w5.drew.setCell ⟨g, jj, none⟩ (.int .i64 x0)) N0 (fun _ => True) (.slice (some ⟨g, 0, none⟩) xs.length c) (zs.set jj x0)) := ⟨by have h := Kd.R_putn HR5.out (jj : Int) x0; rw [Int.toNat_natCast] at h; exact h⟩
              obtain ⟨hx3, hf3⟩ := Kd.R_celln 0 HQ1.out (j : Int) hb0 hb1
              rw [Int.toNat_natCast] at hx3 hf3
              have HQ2 : Aside0 (Kd.R (Kd.int .i64) 3 ((w5.drew.setCell ⟨g, jj, none⟩ (.int .i64 x0)).setCell ⟨g, j, none⟩ (.int .i64 x1)) N0 (fun _ => True) (.slice (some ⟨g, 0, none⟩) xs.length c) (swpI zs j)) := ⟨by have h := Kd.R_putn HQ1.out (j : Int) x1; rw [Int.toNat_natCast] at h; rw [Hzs.out]; exact h⟩
              have HM6 : Aside0 (Mod (fun k => k = g) w ((w5.drew.setCell ⟨g, jj, none⟩ (.int .i64 x0)).setCell ⟨g, j, none⟩ (.int .i64 x1))) := ⟨(HM5.out.set (p := ⟨g, jj, none⟩) (.inl rfl) _).set (p := ⟨g, j, none⟩) (.inl rfl) _⟩
              clear HM5 HQ1
              refine start_ (n := 18) (S := fun w' => w'.cell? ⟨g, j, none⟩ = some (.int .i64 x0) ∧ w'.cell? ⟨g, jj, none⟩ = some (.int .i64 x1)) (ds := [15, 17]) #[false, false, false, false, false, false, false, false, false, false, false, false, false, false, false, false, false, false] (by kernel_rfl) rfl rfl ⟨hx0, hx1⟩ (fun hHeld => ?_); refine with_tabW insSort_tab insSort_bits (fun HT_ HW_ => ?_)
              generalize w5.drew = w10 at HR5 HM6 hx0 hx1 hf0 hf1 HQ2 hx3 hf3 hHeld ⊢
              refine pure_ (i := 0) (N := some 37) (v := ?_) (a' := ?_) #[true, false, false, false, false, false, false, false, false, false, false, false, false, false, false, false, false, false] rfl rfl (any_of HT_.out (by kernel_rfl)) (fun _ _ _ h => h) (Or.inl ⟨by rfl, ?_⟩) ?_ ?_
              rotate_left
              · intro w'
                go_simp
                with_reducible rfl
              rotate_left
              · simp only [Act.put, List.setIfInBounds_toArray, List.set_cons_zero, List.set_cons_succ, i64_w, i32_w]
                rfl
              refine pure_ (i := 1) (N := some 38) (v := ?_) (a' := ?_) #[true, true, false, false, false, false, false, false, false, false, false, false, false, false, false, false, false, false] rfl rfl (any_of HT_.out (by kernel_rfl)) (fun _ _ _ h => h) (Or.inl ⟨by rfl, ?_⟩) ?_ ?_
              rotate_left
              · intro w'
                go_simp
                with_reducible rfl
              rotate_left
              · simp only [Act.put, List.setIfInBounds_toArray, List.set_cons_zero, List.set_cons_succ, i64_w, i32_w]
                rfl
              refine pure_ (i := 2) (N := some 39) (v := ?_) (a' := ?_) #[true, true, true, false, false, false, false, false, false, false, false, false, false, false, false, false, false, false] rfl rfl (any_of HT_.out (by kernel_rfl)) (fun _ _ _ h => h) (Or.inl ⟨by rfl, ?_⟩) ?_ ?_
              rotate_left
              · intro w'
                go_simp
                with_reducible rfl
              rotate_left
              · simp only [Act.put, List.setIfInBounds_toArray, List.set_cons_zero, List.set_cons_succ, i64_w, i32_w]
                rfl
              refine pure_ (i := 3) (N := some 40) (v := ?_) (a' := ?_) #[true, true, true, true, false, false, false, false, false, false, false, false, false, false, false, false, false, false] rfl rfl (any_of HT_.out (by kernel_rfl)) (fun _ _ _ h => h) (Or.inl ⟨by rfl, ?_⟩) ?_ ?_
              rotate_left
              · intro w'
                go_simp
                with_reducible rfl
              rotate_left
              · simp only [Act.put, List.setIfInBounds_toArray, List.set_cons_zero, List.set_cons_succ, i64_w, i32_w]
                rfl
              refine pure_ (i := 4) (N := some 41) (v := ?_) (a' := ?_) #[true, true, true, true, true, false, false, false, false, false, false, false, false, false, false, false, false, false] rfl rfl (any_of HT_.out (by kernel_rfl)) (fun _ _ _ h => h) (Or.inl ⟨by rfl, ?_⟩) ?_ ?_
              rotate_left
              · intro w'
                go_simp
                with_reducible rfl
              rotate_left
              · simp only [Act.put, List.setIfInBounds_toArray, List.set_cons_zero, List.set_cons_succ, i64_w, i32_w]
                rfl
              refine pure_ (i := 5) (N := some 42) (v := ?_) (a' := ?_) #[true, true, true, true, true, true, false, false, false, false, false, false, false, false, false, false, false, false] rfl rfl (any_of HT_.out (by kernel_rfl)) (fun _ _ _ h => h) (Or.inl ⟨by rfl, ?_⟩) ?_ ?_
              rotate_left
              · intro w'
                go_simp
                with_reducible rfl
              rotate_left
              · simp only [Act.put, List.setIfInBounds_toArray, List.set_cons_zero, List.set_cons_succ, i64_w, i32_w]
                rfl
              refine pure_ (i := 6) (N := some 43) (v := ?_) (a' := ?_) #[true, true, true, true, true, true, true, false, false, false, false, false, false, false, false, false, false, false] rfl rfl (any_of HT_.out (by kernel_rfl)) (fun _ _ _ h => h) (Or.inl ⟨by rfl, ?_⟩) ?_ ?_
              rotate_left
              · intro w'
                go_simp
                with_reducible rfl
              rotate_left
              · simp only [Act.put, List.setIfInBounds_toArray, List.set_cons_zero, List.set_cons_succ, i64_w, i32_w]
                rfl
              refine pure_ (i := 7) (N := some 44) (v := ?_) (a' := ?_) #[true, true, true, true, true, true, true, true, false, false, false, false, false, false, false, false, false, false] rfl rfl (any_of HT_.out (by kernel_rfl)) (fun _ _ _ h => h) (Or.inl ⟨by rfl, ?_⟩) ?_ ?_
              rotate_left
              · intro w'
                go_simp
                with_reducible rfl
              rotate_left
              · simp only [Act.put, List.setIfInBounds_toArray, List.set_cons_zero, List.set_cons_succ, i64_w, i32_w]
                rfl
              refine pure_ (i := 8) (N := some 45) (v := ?_) (a' := ?_) #[true, true, true, true, true, true, true, true, true, false, false, false, false, false, false, false, false, false] rfl rfl (any_of HT_.out (by kernel_rfl)) (fun _ _ _ h => h) (Or.inl ⟨by rfl, ?_⟩) ?_ ?_
              rotate_left
              · intro w'
                go_simp
                with_reducible rfl
              rotate_left
              · simp only [Act.put, List.setIfInBounds_toArray, List.set_cons_zero, List.set_cons_succ, i64_w, i32_w]
                rfl
              refine pure_ (i := 10) (N := some 47) (v := ?_) (a' := ?_) #[true, true, true, true, true, true, true, true, true, false, true, false, false, false, false, false, false, false] rfl rfl (any_of HT_.out (by kernel_rfl)) (fun _ _ _ h => h) (Or.inl ⟨by rfl, ?_⟩) ?_ ?_
              rotate_left
              · intro w'
                go_simp
                with_reducible rfl
              rotate_left
              · simp only [Act.put, List.setIfInBounds_toArray, List.set_cons_zero, List.set_cons_succ, i64_w, i32_w]
                rfl
              refine pure_ (i := 11) (N := some 48) (v := ?_) (a' := ?_) #[true, true, true, true, true, true, true, true, true, false, true, true, false, false, false, false, false, false] rfl rfl (any_of HT_.out (by kernel_rfl)) (fun _ _ _ h => h) (Or.inl ⟨by rfl, ?_⟩) ?_ ?_
              rotate_left
              · intro w'
                go_simp
                with_reducible rfl
              rotate_left
              · simp only [Act.put, List.setIfInBounds_toArray, List.set_cons_zero, List.set_cons_succ, i64_w, i32_w]
                rfl
              refine pure_ (i := 12) (N := some 49) (v := ?_) (a' := ?_) #[true, true, true, true, true, true, true, true, true, false, true, true, true, false, false, false, false, false] rfl rfl (any_of HT_.out (by kernel_rfl)) (fun _ _ _ h => h) (Or.inl ⟨by rfl, ?_⟩) ?_ ?_
              rotate_left
              · intro w'
                go_simp
                with_reducible rfl
              rotate_left
              · simp only [Act.put, List.setIfInBounds_toArray, List.set_cons_zero, List.set_cons_succ, i64_w, i32_w]
                rfl
              refine take_ (i := 9) (N := some 46) (v := ?_) (a' := ?_) #[true, true, true, true, true, true, true, true, true, true, true, true, true, false, false, false, false, false] rfl rfl (take_ofW HT_.out HW_.out (by kernel_rfl)) (fun _ _ _ h => h) (Or.inl ⟨by rfl, ?_⟩) hHeld ?_ ?_
              rotate_left
              · rintro w' ⟨s0, s1⟩
                (try simp only [Go.IntWalk.toNatUp] at s0 s1)
                (try simp only [Go.IntWalk.toNatUp] at s0 s1)
                go_simp
                with_reducible rfl
              rotate_left
              · simp only [Act.put, List.setIfInBounds_toArray, List.set_cons_zero, List.set_cons_succ, i64_w, i32_w]
                rfl
              refine take_ (i := 13) (N := some 50) (v := ?_) (a' := ?_) #[true, true, true, true, true, true, true, true, true, true, true, true, true, true, false, false, false, false] rfl rfl (take_ofW HT_.out HW_.out (by kernel_rfl)) (fun _ _ _ h => h) (Or.inl ⟨by rfl, ?_⟩) hHeld ?_ ?_
              rotate_left
              · rintro w' ⟨s0, s1⟩
                (try simp only [Go.IntWalk.toNatUp] at s0 s1)
                (try simp only [Go.IntWalk.toNatUp] at s0 s1)
                go_simp
                with_reducible rfl
              rotate_left
              · simp only [Act.put, List.setIfInBounds_toArray, List.set_cons_zero, List.set_cons_succ, i64_w, i32_w]
                rfl
              refine pure_ (i := 14) (N := some 51) (v := ?_) (a' := ?_) #[true, true, true, true, true, true, true, true, true, true, true, true, true, true, true, false, false, false] rfl rfl (any_of HT_.out (by kernel_rfl)) (fun _ _ _ h => h) (Or.inl ⟨by rfl, ?_⟩) ?_ ?_
              rotate_left
              · intro w'
                go_simp
                with_reducible rfl
              rotate_left
              · simp only [Act.put, List.setIfInBounds_toArray, List.set_cons_zero, List.set_cons_succ, i64_w, i32_w]
                rfl
              refine last_ (i := 15) (N := none) #[true, true, true, true, true, true, true, true, true, true, true, true, true, true, true, true, false, false] rfl rfl (one_of HT_.out (by kernel_rfl)) (by decide) (fun K hK => ?_)
              refine skip_ (w1 := ?_) (by rfl) rfl ?_ ?_
              rotate_left
              · go_simp
                rfl
              refine hK.out _ _ ?_
              clear hK K
              refine pure_ (i := 16) (N := some 52) (v := ?_) (a' := ?_) #[true, true, true, true, true, true, true, true, true, true, true, true, true, true, true, true, true, false] rfl rfl (any_of HT_.out (by kernel_rfl)) (fun _ _ _ h => h) (Or.inl ⟨by rfl, ?_⟩) ?_ ?_
              rotate_left
              · intro w'
                go_simp
                with_reducible rfl
              rotate_left
              · simp only [Act.put, List.setIfInBounds_toArray, List.set_cons_zero, List.set_cons_succ, i64_w, i32_w]
                rfl
              refine last_ (i := 17) (N := none) #[true, true, true, true, true, true, true, true, true, true, true, true, true, true, true, true, true, true] rfl rfl (one_of HT_.out (by kernel_rfl)) (by decide) (fun K hK => ?_)
              refine skip_ (w1 := ?_) (by rfl) rfl ?_ ?_
              rotate_left
              · go_simp
                rfl
              refine hK.out _ _ ?_
              clear hK K
              refine done_ (done_of HT_.out (by kernel_rfl)) ?_
              clear hx0 hx1 hf0 hf1 hx3 hf3 hHeld HR5
              go_wp2_with fail
              go_roundg j
              case measure => have := Hjj.out; omega
              case rel => exact ⟨j, swpI zs j, by go_num, by have := Hjj.out; omega, Nat.le_refl _, ⟨by rw [swpI_len]; exact HL2.out⟩, HQ2, HM6, ⟨swpI_mem zs j (by rw [← Hjj.out]; exact Hle0.out.2) ok HK2.out⟩, HV3⟩
          · have hcb : decide (cf x1 x0 < 0) = false := decide_eq_false hlt0
            have Hend : Aside0 (sortI cf (xs.length - 1) 1 xs = sortI cf (xs.length - (i + 1)) (i + 1) zs) := ⟨by
              rw [HV1.out, show xs.length - i = (xs.length - (i + 1)) + 1 by omega, sortI, HV2.out, Hjj.out, insI, ← Hjj.out, if_neg (by rw [← Hx0e.out, ← Hx1e.out]; exact hlt0)]⟩
            clear hjj hlt0
            go_wp2_with fail
            go_region_held3 (fun w' => w'.cell? ⟨g, j, none⟩ = some (.int .i64 x0) ∧ w'.cell? ⟨g, jj, none⟩ = some (.int .i64 x1))
              (first | go_keep | exact ⟨pw_cell_below HB5.out hx0, pw_cell_below HB5.out hx1⟩)
              (first | ((with_reducible refine (Hcmp.out _ (by first | exact (Below.refl _ wr).drew | exact pw_below_drewN (Below.refl _ wr) _)).mono ?_); rintro e w5 ⟨rfl, hd5⟩; have HB5 : Aside0 (Below wr.heap.size wr w5) := ⟨below_then (by first | exact (Below.refl _ wr).drew | exact pw_below_drewN (Below.refl _ wr) _) (by simp) hd5.below⟩; clear hd5))
            all_goals
              go_wp2_with fail
              go_roundg (xs.length - (i + 1))
              case measure => omega
              case rel => exact ⟨i + 1, zs, by go_num, by omega, by omega, by omega, HL2, ⟨Kd.R_below HR2.out HB5.out⟩, ⟨HM2.out.trans (Mod.of_below HB5.out)⟩, HK2, Hend⟩
    · obtain rfl : i = xs.length := by omega
      have hltz : ¬ (xs.length : Int) < (xs.length : Int) := by omega
      go_wp2
      go_end0
      refine ⟨rfl, ?_, HM1.out⟩
      rw [HV1.out, Nat.sub_self]
      exact HR1.out


end Go.Proofs.Ytchbjdoneanhpaa.P
