-- Laid by wip/myprint.py of this project (a wrapper over the kit's print.py); Lean checks it.
import Derived.Test.YthpabbepglokeaaPx0
import Derived.Test.YthpabbepglokeaaPx1
namespace Go.Proofs.Ythpabbepglokeaa.P
open Go.RowKit Go.Proofs.YthpabbepglokeaaW.PrintWords Go.Proofs.YthpabbepglokeaaW.PrintLast Go.Proofs.YthpabbepglokeaaW.PrintMore
attribute [local go_sem] max2_int min2_int max_two min_two max_three min_three max_four min_four   -- for this text's walks alone
set_option linter.unusedVariables false
set_option linter.unusedSimpArgs false

/-! ### slices_insertionSortCmpFunc_Book: function 32 (by hand) -/
--! full slices.insertionSortCmpFunc[loop.example/g01334/impl.Book]
/-- What is asked of a comparison of books, as long as I holds. -/
def CmpB (gc : Nat) (lbc : Array Value) (cf : S36 → S36 → Int) (ok : S36 → Prop) (I : World → Prop) : Prop :=
  ∀ (W : World) (x y : S36), I W → ok x → ok y → Calls Try.prog gc (#[.agg #[.int .i64 x.f0, .int .i64 x.f1], .agg #[.int .i64 y.f0, .int .i64 y.f1]] ++ lbc) W fun e W' => e = .returned (.int .i64 (cf x y)) ∧ Below W.heap.size W W'
/-- The elements j and j+1 exchanged. -/
def swpB (xs : List S36) (j : Nat) : List S36 := (xs.set (j + 1) (rd_T36 xs (j : Int))).set j (rd_T36 xs ((j + 1 : Nat) : Int))
/-- The element at j brought down. -/
def insB (cf : S36 → S36 → Int) : Nat → List S36 → List S36
  | 0, xs => xs
  | j + 1, xs => if cf (rd_T36 xs ((j + 1 : Nat) : Int)) (rd_T36 xs (j : Int)) < 0 then insB cf j (swpB xs j) else xs
/-- The elements from i on brought down, d of them. -/
def sortB (cf : S36 → S36 → Int) : Nat → Nat → List S36 → List S36
  | 0, _, xs => xs
  | d + 1, i, xs => sortB cf d (i + 1) (insB cf i xs)
theorem swpB_len (xs : List S36) (j : Nat) : (swpB xs j).length = xs.length := by simp [swpB]
theorem rdB_mem {xs : List S36} {i : Nat} (h : i < xs.length) : rd_T36 xs (i : Int) ∈ xs := by
  simp [rd_T36, List.getD_eq_getElem?_getD, List.getElem?_eq_getElem h]
theorem swpB_mem (xs : List S36) (j : Nat) (hj : j + 1 < xs.length) (ok : S36 → Prop) (h : ∀ x ∈ xs, ok x) : ∀ x ∈ swpB xs j, ok x := by
  intro x hx
  rcases List.mem_or_eq_of_mem_set hx with hx | rfl
  · rcases List.mem_or_eq_of_mem_set hx with hx | rfl
    · exact h x hx
    · exact h _ (rdB_mem (by omega))
  · exact h _ (rdB_mem (by omega))
/-- A book read out of a row of one's own: its two cells. -/
theorem bookAt {W : World} {N0 g c n : Nat} {xs : List S36} (h : Kd.R k36 36 W N0 (fun _ => True) (.slice (some ⟨g, 0, none⟩) n c) xs) (i : Int) (h0 : 0 ≤ i) (h1 : i < (n : Int)) :
    (W.cell? ⟨g, i.toNat * 2, none⟩ = some (.int .i64 (rd_T36 xs i).f0) ∧ W.cell? ⟨g, i.toNat * 2 + 1, none⟩ = some (.int .i64 (rd_T36 xs i).f1)) ∧ W.frozen? ⟨g, i.toNat * 2, none⟩ = false ∧ W.frozen? ⟨g, i.toNat * 2 + 1, none⟩ = false := by
  obtain ⟨ce, hcl, hM, hcc, hfr⟩ := Kd.R_elem h z36 i h0 h1
  obtain rfl := k36_openM hM
  exact ⟨⟨hcc 0 _ rfl, hcc 1 _ rfl⟩, hfr 0, hfr 1⟩
/-- A book laid into a row of one's own. -/
theorem bookPut {W : World} {N0 g c n : Nat} {xs : List S36} (h : Kd.R k36 36 W N0 (fun _ => True) (.slice (some ⟨g, 0, none⟩) n c) xs) (i : Int) (h0 : 0 ≤ i) (h1 : i < (n : Int)) (b : S36) :
    Kd.R k36 36 ((W.setCell ⟨g, i.toNat * 2, none⟩ (.int .i64 b.f0)).setCell ⟨g, i.toNat * 2 + 1, none⟩ (.int .i64 b.f1)) N0 (fun _ => True) (.slice (some ⟨g, 0, none⟩) n c) (xs.set i.toNat b) := by
  obtain ⟨ce, hcl, hM, hcc, hfr⟩ := Kd.R_elem h z36 i h0 h1
  obtain rfl := k36_openM hM
  exact (Kd.R_seg (okp := fun _ => False) h i h0 h1 (seg := [.int .i64 b.f0, .int .i64 b.f1]) (j := 0) hcl hcc (show 2 ≤ 2 from by decide) (x' := b) (k36_mkM _ _ _ b) (fun _ hk => hk.elim)).1
def insSortB_T : Bool × List (List Nat × List Nat) := (true, [([], []), ([], []), ([], []), ([], []), ([3], [3]), ([], []), ([], []), ([6], [6]), ([5, 7], [5, 7]), ([8], [8]), ([], []), ([], []), ([10, 11], [10, 11]), ([12], [12]), ([0, 1, 0, 1, 5, 6, 7, 8, 9, 13], [0, 1]), ([14, 9, 0, 1, 5, 6, 7, 8, 9, 13], [9, 14]), ([2, 4, 0, 1, 2, 3, 4, 5, 6, 7, 8, 9, 10, 11, 12, 13, 14, 15], [2, 4]), ([16, 13, 15, 0, 1, 2, 3, 4, 5, 6, 7, 8, 9, 10, 11, 12, 13, 14, 15], [13, 16])])
def insSortB_B : List Nat := [0, 0, 0, 0, 8, 0, 0, 64, 224, 480, 0, 0, 3072, 7168, 16355, 32739, 65535, 131071]
theorem insSortB_tab : rtab .any (opsOf Try.f32 6) = insSortB_T := by kernel_rfl
theorem insSortB_bits : waitsOk insSortB_T.2 insSortB_B = true := by kernel_rfl
set_option maxRecDepth 100000 in
set_option maxHeartbeats 8000000 in
theorem insSort_book (gc : Nat) (lbc : Array Value) (egc : ∀ args w, (callFunc gc args).run Try.prog w = .ok (.enter gc args) w) (cf : S36 → S36 → Int) (ok : S36 → Prop) (I : World → Prop) (N0 g c : Nat) (hI : ∀ W W', I W → Mod (fun k => k = g) W W' → I W') (hc : CmpB gc lbc cf ok I) (w : World) (xs : List S36) (hok : ∀ x ∈ xs, ok x) (h1 : 1 ≤ xs.length) (h2 : xs.length ≤ 1000)
    (hr : Kd.R k36 36 w N0 (fun _ => True) (.slice (some ⟨g, 0, none⟩) xs.length c) xs) (hi : I w) :
    Calls Try.prog 32 #[(.slice (some ⟨g, 0, none⟩) xs.length c), .int .i64 0, .int .i64 xs.length, .func (.func gc) #[] lbc] w fun e W' => e = .returned (.tuple #[]) ∧ Kd.R k36 36 W' N0 (fun _ => True) (.slice (some ⟨g, 0, none⟩) xs.length c) (sortB cf (xs.length - 1) 1 xs) ∧ Mod (fun k => k = g) w W' := by
  have HR := Aside0.mk hr
  have HI := Aside0.mk hi
  have HC := Aside0.mk hc
  have HOK := Aside0.mk hok
  clear hr hi hc hok
  go_enter Try.func32, Try.ntmps32
  go_wp2
  go_loopg [8] (xs.length - 1) (fun gk v8 wr => ∃ (i : Nat) (ys : List S36), v8 = .int .i64 i ∧ 1 ≤ i ∧ i ≤ xs.length ∧ xs.length - i ≤ gk ∧ Aside0 (ys.length = xs.length) ∧ Aside0 (Kd.R k36 36 wr N0 (fun _ => True) (.slice (some ⟨g, 0, none⟩) xs.length c) ys) ∧ Aside0 (Mod (fun k => k = g) w wr) ∧ Aside0 (∀ x ∈ ys, ok x) ∧ Aside0 (sortB cf (xs.length - 1) 1 xs = sortB cf (xs.length - i) i ys))
  case atStart => exact ⟨1, xs, by go_num, Nat.le_refl _, h1, Nat.le_refl _, ⟨rfl⟩, HR, ⟨Mod.refl _ _⟩, HOK, ⟨rfl⟩⟩
  case round =>
    obtain ⟨i, ys, rfl, hi1, hi2, hg1, HL1, HR1, HM1, HK1, HV1⟩ := hrel
    by_cases hlt : i < xs.length
    · have hltz : (i : Int) < (xs.length : Int) := by omega
      have hw1 : IntKind.i64.wrap ((i : Int) + 1) = (i : Int) + 1 := IntWalk.i64_in _ (by omega)
      go_wp2
      go_loopg [9] i (fun gk v9 wr => ∃ (J : Int) (jj : Nat) (zs : List S36), v9 = .int .i64 J ∧ Aside0 (J = (jj : Int)) ∧ jj ≤ i ∧ jj ≤ gk ∧ Aside0 (zs.length = xs.length) ∧ Aside0 (Kd.R k36 36 wr N0 (fun _ => True) (.slice (some ⟨g, 0, none⟩) xs.length c) zs) ∧ Aside0 (Mod (fun k => k = g) w wr) ∧ Aside0 (∀ x ∈ zs, ok x) ∧ Aside0 (insB cf i ys = insB cf jj zs))
      case atStart => exact ⟨_, i, ys, by go_num, ⟨rfl⟩, Nat.le_refl _, Nat.le_refl _, HL1, HR1, HM1, HK1, ⟨rfl⟩⟩
      case round =>
        obtain ⟨J, jj, zs, rfl, HJ, hj1, hj2, HL2, HR2, HM2, HK2, HV2⟩ := hrel
        by_cases hz : jj = 0
        · subst hz
          have hJ0 : J = 0 := HJ.out
          subst hJ0
          have Hend : Aside0 (sortB cf (xs.length - 1) 1 xs = sortB cf (xs.length - (i + 1)) (i + 1) zs) := ⟨by
            rw [HV1.out, show xs.length - i = (xs.length - (i + 1)) + 1 by omega, sortB, HV2.out]; rfl⟩
          go_wp2_with fail
          go_quiet (fail)
          go_wp2
          go_roundg (xs.length - (i + 1))
          case measure => omega
          case rel => exact ⟨i + 1, zs, by go_num, by omega, by omega, by omega, HL2, ⟨Kd.R_drewN HR2.out _⟩, ⟨HM2.out.trans (Mod.of_below (pw_below_drewN (Below.refl _ _) _))⟩, HK2, Hend⟩
        · obtain ⟨j, hjj⟩ : ∃ j, jj = j + 1 := ⟨jj - 1, by omega⟩
          have hJ := HJ.out
          obtain ⟨M, hM⟩ : ∃ M : Int, M = (j : Int) := ⟨_, rfl⟩
          have hgt : (0 : Int) < J := by omega
          have hgt2 : decide ((0 : Int) < J) = true := decide_eq_true hgt
          have hw3 : IntKind.i64.wrap (J - 1) = M := by rw [IntWalk.i64_in _ (by omega)]; omega
          have hw3' : wrap64 (J - 1) = M := by rw [← i64_w]; exact hw3
          have hb0 : (0 : Int) ≤ M := by omega
          have hb1 : M < (xs.length : Int) := by omega
          have hb2 : (0 : Int) ≤ J := by omega
          have hb3 : J < (xs.length : Int) := by omega
          have Hle0 : Aside0 (j < zs.length ∧ jj < zs.length) := ⟨by have := HL2.out; omega⟩
          have HMj := Aside0.mk hM
          have Hjj := Aside0.mk hjj
          clear hJ hM
          obtain ⟨⟨hx00, hx01⟩, hfr0, hfr1⟩ := bookAt HR2.out M hb0 hb1
          obtain ⟨⟨hx10, hx11⟩, hf10, hf11⟩ := bookAt HR2.out J hb2 hb3
          obtain ⟨x0, hx0e⟩ : ∃ x0, x0 = rd_T36 zs M := ⟨_, rfl⟩
          obtain ⟨x1, hx1e⟩ : ∃ x1, x1 = rd_T36 zs J := ⟨_, rfl⟩
          rw [← hx0e] at hx00 hx01
          rw [← hx1e] at hx10 hx11
          have Hx0e := Aside0.mk hx0e
          have Hx1e := Aside0.mk hx1e
          clear hx0e hx1e hz
          have Hcmp : Aside0 (∀ W, Below wr.heap.size wr W → Calls Try.prog gc (#[.agg #[.int .i64 x1.f0, .int .i64 x1.f1], .agg #[.int .i64 x0.f0, .int .i64 x0.f1]] ++ lbc) W fun e W' => e = .returned (.int .i64 (cf x1 x0)) ∧ Below W.heap.size W W') := ⟨fun W hW => HC.out W x1 x0 (hI _ _ HI.out (HM2.out.trans (Mod.of_below hW))) (by rw [Hx1e.out, HJ.out]; exact HK2.out _ (rdB_mem Hle0.out.2)) (by rw [Hx0e.out, HMj.out]; exact HK2.out _ (rdB_mem Hle0.out.1))⟩
          have Hx0n : Aside0 (rd_T36 zs (j : Int) = x0) := ⟨by rw [Hx0e.out, HMj.out]⟩
          have Hx1n : Aside0 (rd_T36 zs ((j + 1 : Nat) : Int) = x1) := ⟨by rw [Hx1e.out, HJ.out, Hjj.out]⟩
          by_cases hlt0 : cf x1 x0 < 0
          · have hcb : decide (cf x1 x0 < 0) = true := decide_eq_true hlt0
            have Hzs : Aside0 (swpB zs j = (zs.set J.toNat x0).set M.toNat x1) := ⟨by unfold swpB; rw [Hx0n.out, Hx1n.out, HJ.out, HMj.out, Hjj.out, Int.toNat_natCast, Int.toNat_natCast]⟩
            have HV3 : Aside0 (insB cf i ys = insB cf j (swpB zs j)) := ⟨by rw [HV2.out, Hjj.out, insB, if_pos (by rw [Hx0n.out, Hx1n.out]; exact hlt0)]⟩
            clear hjj hlt0
            go_wp2_with fail
            go_region_held3 (fun w' => w'.cell? ⟨g, M.toNat * 2, none⟩ = some (.int .i64 x0.f0) ∧ w'.cell? ⟨g, M.toNat * 2 + 1, none⟩ = some (.int .i64 x0.f1) ∧ w'.cell? ⟨g, J.toNat * 2, none⟩ = some (.int .i64 x1.f0) ∧ w'.cell? ⟨g, J.toNat * 2 + 1, none⟩ = some (.int .i64 x1.f1))
              (first | go_keep | exact ⟨pw_cell_below HB5.out hx00, pw_cell_below HB5.out hx01, pw_cell_below HB5.out hx10, pw_cell_below HB5.out hx11⟩)
              (first | ((with_reducible refine (Hcmp.out _ (by first | exact (Below.refl _ wr).drew | exact pw_below_drewN (Below.refl _ wr) _)).mono ?_); rintro e w5 ⟨rfl, hd5⟩; have HB5 : Aside0 (Below wr.heap.size wr w5) := ⟨below_then (by first | exact (Below.refl _ wr).drew | exact pw_below_drewN (Below.refl _ wr) _) (by simp) hd5⟩; clear hd5))
            all_goals
              go_wp2_with fail
              have HR5 : Aside0 (Kd.R k36 36 w5.drew N0 (fun _ => True) (.slice (some ⟨g, 0, none⟩) xs.length c) zs) := ⟨Kd.R_drew (Kd.R_below HR2.out HB5.out)⟩
              have HM5 : Aside0 (Mod (fun k => k = g) w w5.drew) := ⟨(HM2.out.trans (Mod.of_below HB5.out)).drew⟩
              clear hx00 hx01 hx10 hx11 hfr0 hfr1 hf10 hf11
              obtain ⟨⟨hx00, hx01⟩, hfr0, hfr1⟩ := bookAt HR5.out M hb0 hb1
              obtain ⟨⟨hx10, hx11⟩, hf10, hf11⟩ := bookAt HR5.out J hb2 hb3
              rw [← Hx0e.out] at hx00 hx01
              rw [← Hx1e.out] at hx10 hx11
              have HQ1 := Aside0.mk (bookPut HR5.out J hb2 hb3 x0)
              obtain ⟨⟨hx30, hx31⟩, hf30, hf31⟩ := bookAt HQ1.out M hb0 hb1
              have HQ2 : Aside0 (Kd.R k36 36 ((((w5.drew.setCell ⟨g, J.toNat * 2, none⟩ (.int .i64 x0.f0)).setCell ⟨g, J.toNat * 2 + 1, none⟩ (.int .i64 x0.f1)).setCell ⟨g, M.toNat * 2, none⟩ (.int .i64 x1.f0)).setCell ⟨g, M.toNat * 2 + 1, none⟩ (.int .i64 x1.f1)) N0 (fun _ => True) (.slice (some ⟨g, 0, none⟩) xs.length c) (swpB zs j)) := ⟨by rw [Hzs.out]; exact bookPut HQ1.out M hb0 hb1 x1⟩
              have HM6 : Aside0 (Mod (fun k => k = g) w ((((w5.drew.setCell ⟨g, J.toNat * 2, none⟩ (.int .i64 x0.f0)).setCell ⟨g, J.toNat * 2 + 1, none⟩ (.int .i64 x0.f1)).setCell ⟨g, M.toNat * 2, none⟩ (.int .i64 x1.f0)).setCell ⟨g, M.toNat * 2 + 1, none⟩ (.int .i64 x1.f1))) := ⟨(((HM5.out.set (p := ⟨g, J.toNat * 2, none⟩) (.inl rfl) _).set (p := ⟨g, J.toNat * 2 + 1, none⟩) (.inl rfl) _).set (p := ⟨g, M.toNat * 2, none⟩) (.inl rfl) _).set (p := ⟨g, M.toNat * 2 + 1, none⟩) (.inl rfl) _⟩
              clear HM5 HQ1
              refine start_ (n := 18) (S := fun w' => w'.cell? ⟨g, M.toNat * 2, none⟩ = some (.int .i64 x0.f0) ∧ w'.cell? ⟨g, M.toNat * 2 + 1, none⟩ = some (.int .i64 x0.f1) ∧ w'.cell? ⟨g, J.toNat * 2, none⟩ = some (.int .i64 x1.f0) ∧ w'.cell? ⟨g, J.toNat * 2 + 1, none⟩ = some (.int .i64 x1.f1)) (ds := [15, 17]) #[false, false, false, false, false, false, false, false, false, false, false, false, false, false, false, false, false, false] (by kernel_rfl) rfl rfl ⟨hx00, hx01, hx10, hx11⟩ (fun hHeld => ?_); refine with_tabW insSortB_tab insSortB_bits (fun HT_ HW_ => ?_)
              generalize w5.drew = w10 at HR5 HM6 hx00 hx01 hx10 hx11 hfr0 hfr1 hf10 hf11 HQ2 hx30 hx31 hf30 hf31 hHeld ⊢
              refine pure_ (i := 0) (N := some 37) (v := ?_) (a' := ?_) #[true, false, false, false, false, false, false, false, false, false, false, false, false, false, false, false, false, false] rfl rfl (any_of HT_.out (by kernel_rfl)) (fun _ _ _ h => h) (Or.inl ⟨by rfl, ?_⟩) ?_ ?_
              rotate_left
              · intro w'
                go_simp
                with_reducible rfl
              rotate_left
              · simp only [Act.put, List.setIfInBounds_toArray, List.set_cons_zero, List.set_cons_succ, i64_w, i32_w]
                rfl
              refine pure_ (i := 1) (N := some 38) (v := ?_) (a' := ?_) #[true, true, false, false, false, false, false, false, false, false, false, false, false, false, false, false, false, false] rfl rfl (any_of HT_.out (by kernel_rfl)) (fun _ _ _ h => h) (Or.inl ⟨by rfl, ?_⟩) ?_ ?_
              rotate_left
              · intro w'
                go_simp
                with_reducible rfl
              rotate_left
              · simp only [Act.put, List.setIfInBounds_toArray, List.set_cons_zero, List.set_cons_succ, i64_w, i32_w]
                rfl
              refine pure_ (i := 2) (N := some 39) (v := ?_) (a' := ?_) #[true, true, true, false, false, false, false, false, false, false, false, false, false, false, false, false, false, false] rfl rfl (any_of HT_.out (by kernel_rfl)) (fun _ _ _ h => h) (Or.inl ⟨by rfl, ?_⟩) ?_ ?_
              rotate_left
              · intro w'
                go_simp
                with_reducible rfl
              rotate_left
              · simp only [Act.put, List.setIfInBounds_toArray, List.set_cons_zero, List.set_cons_succ, i64_w, i32_w]
                rfl
              refine pure_ (i := 3) (N := some 40) (v := ?_) (a' := ?_) #[true, true, true, true, false, false, false, false, false, false, false, false, false, false, false, false, false, false] rfl rfl (any_of HT_.out (by kernel_rfl)) (fun _ _ _ h => h) (Or.inl ⟨by rfl, ?_⟩) ?_ ?_
              rotate_left
              · intro w'
                go_simp
                with_reducible rfl
              rotate_left
              · simp only [Act.put, List.setIfInBounds_toArray, List.set_cons_zero, List.set_cons_succ, i64_w, i32_w]
                rfl
              refine pure_ (i := 4) (N := some 41) (v := ?_) (a' := ?_) #[true, true, true, true, true, false, false, false, false, false, false, false, false, false, false, false, false, false] rfl rfl (any_of HT_.out (by kernel_rfl)) (fun _ _ _ h => h) (Or.inl ⟨by rfl, ?_⟩) ?_ ?_
              rotate_left
              · intro w'
                go_simp
                with_reducible rfl
              rotate_left
              · simp only [Act.put, List.setIfInBounds_toArray, List.set_cons_zero, List.set_cons_succ, i64_w, i32_w]
                rfl
              refine pure_ (i := 5) (N := some 42) (v := ?_) (a' := ?_) #[true, true, true, true, true, true, false, false, false, false, false, false, false, false, false, false, false, false] rfl rfl (any_of HT_.out (by kernel_rfl)) (fun _ _ _ h => h) (Or.inl ⟨by rfl, ?_⟩) ?_ ?_
              rotate_left
              · intro w'
                go_simp
                with_reducible rfl
              rotate_left
              · simp only [Act.put, List.setIfInBounds_toArray, List.set_cons_zero, List.set_cons_succ, i64_w, i32_w]
                rfl
              refine pure_ (i := 6) (N := some 43) (v := ?_) (a' := ?_) #[true, true, true, true, true, true, true, false, false, false, false, false, false, false, false, false, false, false] rfl rfl (any_of HT_.out (by kernel_rfl)) (fun _ _ _ h => h) (Or.inl ⟨by rfl, ?_⟩) ?_ ?_
              rotate_left
              · intro w'
                go_simp
                with_reducible rfl
              rotate_left
              · simp only [Act.put, List.setIfInBounds_toArray, List.set_cons_zero, List.set_cons_succ, i64_w, i32_w]
                rfl
              refine pure_ (i := 7) (N := some 44) (v := ?_) (a' := ?_) #[true, true, true, true, true, true, true, true, false, false, false, false, false, false, false, false, false, false] rfl rfl (any_of HT_.out (by kernel_rfl)) (fun _ _ _ h => h) (Or.inl ⟨by rfl, ?_⟩) ?_ ?_
              rotate_left
              · intro w'
                go_simp
                with_reducible rfl
              rotate_left
              · simp only [Act.put, List.setIfInBounds_toArray, List.set_cons_zero, List.set_cons_succ, i64_w, i32_w]
                rfl
              refine pure_ (i := 8) (N := some 45) (v := ?_) (a' := ?_) #[true, true, true, true, true, true, true, true, true, false, false, false, false, false, false, false, false, false] rfl rfl (any_of HT_.out (by kernel_rfl)) (fun _ _ _ h => h) (Or.inl ⟨by rfl, ?_⟩) ?_ ?_
              rotate_left
              · intro w'
                go_simp
                with_reducible rfl
              rotate_left
              · simp only [Act.put, List.setIfInBounds_toArray, List.set_cons_zero, List.set_cons_succ, i64_w, i32_w]
                rfl
              refine pure_ (i := 10) (N := some 47) (v := ?_) (a' := ?_) #[true, true, true, true, true, true, true, true, true, false, true, false, false, false, false, false, false, false] rfl rfl (any_of HT_.out (by kernel_rfl)) (fun _ _ _ h => h) (Or.inl ⟨by rfl, ?_⟩) ?_ ?_
              rotate_left
              · intro w'
                go_simp
                with_reducible rfl
              rotate_left
              · simp only [Act.put, List.setIfInBounds_toArray, List.set_cons_zero, List.set_cons_succ, i64_w, i32_w]
                rfl
              refine pure_ (i := 11) (N := some 48) (v := ?_) (a' := ?_) #[true, true, true, true, true, true, true, true, true, false, true, true, false, false, false, false, false, false] rfl rfl (any_of HT_.out (by kernel_rfl)) (fun _ _ _ h => h) (Or.inl ⟨by rfl, ?_⟩) ?_ ?_
              rotate_left
              · intro w'
                go_simp
                with_reducible rfl
              rotate_left
              · simp only [Act.put, List.setIfInBounds_toArray, List.set_cons_zero, List.set_cons_succ, i64_w, i32_w]
                rfl
              refine pure_ (i := 12) (N := some 49) (v := ?_) (a' := ?_) #[true, true, true, true, true, true, true, true, true, false, true, true, true, false, false, false, false, false] rfl rfl (any_of HT_.out (by kernel_rfl)) (fun _ _ _ h => h) (Or.inl ⟨by rfl, ?_⟩) ?_ ?_
              rotate_left
              · intro w'
                go_simp
                with_reducible rfl
              rotate_left
              · simp only [Act.put, List.setIfInBounds_toArray, List.set_cons_zero, List.set_cons_succ, i64_w, i32_w]
                rfl
              refine take_ (i := 9) (N := some 46) (v := ?_) (a' := ?_) #[true, true, true, true, true, true, true, true, true, true, true, true, true, false, false, false, false, false] rfl rfl (take_ofW HT_.out HW_.out (by kernel_rfl)) (fun _ _ _ h => h) (Or.inl ⟨by rfl, ?_⟩) hHeld ?_ ?_
              rotate_left
              · rintro w' ⟨s0, s1, s2, s3⟩
                (try simp only [Go.IntWalk.toNatUp] at s0 s1 s2 s3)
                (try simp only [Go.IntWalk.toNatUp] at s0 s1 s2 s3)
                go_simp
                with_reducible rfl
              rotate_left
              · simp only [Act.put, List.setIfInBounds_toArray, List.set_cons_zero, List.set_cons_succ, i64_w, i32_w]
                rfl
              refine take_ (i := 13) (N := some 50) (v := ?_) (a' := ?_) #[true, true, true, true, true, true, true, true, true, true, true, true, true, true, false, false, false, false] rfl rfl (take_ofW HT_.out HW_.out (by kernel_rfl)) (fun _ _ _ h => h) (Or.inl ⟨by rfl, ?_⟩) hHeld ?_ ?_
              rotate_left
              · rintro w' ⟨s0, s1, s2, s3⟩
                (try simp only [Go.IntWalk.toNatUp] at s0 s1 s2 s3)
                (try simp only [Go.IntWalk.toNatUp] at s0 s1 s2 s3)
                go_simp
                with_reducible rfl
              rotate_left
              · simp only [Act.put, List.setIfInBounds_toArray, List.set_cons_zero, List.set_cons_succ, i64_w, i32_w]
                rfl
              refine pure_ (i := 14) (N := some 51) (v := ?_) (a' := ?_) #[true, true, true, true, true, true, true, true, true, true, true, true, true, true, true, false, false, false] rfl rfl (any_of HT_.out (by kernel_rfl)) (fun _ _ _ h => h) (Or.inl ⟨by rfl, ?_⟩) ?_ ?_
              rotate_left
              · intro w'
                go_simp
                with_reducible rfl
              rotate_left
              · simp only [Act.put, List.setIfInBounds_toArray, List.set_cons_zero, List.set_cons_succ, i64_w, i32_w]
                rfl
              refine last_ (i := 15) (N := none) #[true, true, true, true, true, true, true, true, true, true, true, true, true, true, true, true, false, false] rfl rfl (one_of HT_.out (by kernel_rfl)) (by decide) (fun K hK => ?_)
              refine skip_ (w1 := ?_) (by rfl) rfl ?_ ?_
              rotate_left
              · go_simp
                rfl
              refine hK.out _ _ ?_
              clear hK K
              refine pure_ (i := 16) (N := some 52) (v := ?_) (a' := ?_) #[true, true, true, true, true, true, true, true, true, true, true, true, true, true, true, true, true, false] rfl rfl (any_of HT_.out (by kernel_rfl)) (fun _ _ _ h => h) (Or.inl ⟨by rfl, ?_⟩) ?_ ?_
              rotate_left
              · intro w'
                go_simp
                with_reducible rfl
              rotate_left
              · simp only [Act.put, List.setIfInBounds_toArray, List.set_cons_zero, List.set_cons_succ, i64_w, i32_w]
                rfl
              refine last_ (i := 17) (N := none) #[true, true, true, true, true, true, true, true, true, true, true, true, true, true, true, true, true, true] rfl rfl (one_of HT_.out (by kernel_rfl)) (by decide) (fun K hK => ?_)
              refine skip_ (w1 := ?_) (by rfl) rfl ?_ ?_
              rotate_left
              · go_simp
                rfl
              refine hK.out _ _ ?_
              clear hK K
              refine done_ (done_of HT_.out (by kernel_rfl)) ?_
              clear hx00 hx01 hx10 hx11 hfr0 hfr1 hf10 hf11 hx30 hx31 hf30 hf31 hHeld HR5
              go_wp2_with fail
              go_roundg j
              case measure => have := Hjj.out; omega
              case rel => exact ⟨M, j, swpB zs j, by first | rfl | go_num, HMj, by have := Hjj.out; omega, Nat.le_refl _, ⟨by rw [swpB_len]; exact HL2.out⟩, HQ2, HM6, ⟨swpB_mem zs j (by rw [← Hjj.out]; exact Hle0.out.2) ok HK2.out⟩, HV3⟩
          · have hcb : decide (cf x1 x0 < 0) = false := decide_eq_false hlt0
            have Hend : Aside0 (sortB cf (xs.length - 1) 1 xs = sortB cf (xs.length - (i + 1)) (i + 1) zs) := ⟨by
              rw [HV1.out, show xs.length - i = (xs.length - (i + 1)) + 1 by omega, sortB, HV2.out, Hjj.out, insB, if_neg (by rw [Hx0n.out, Hx1n.out]; exact hlt0)]⟩
            clear hjj hlt0
            go_wp2_with fail
            go_region_held3 (fun w' => w'.cell? ⟨g, M.toNat * 2, none⟩ = some (.int .i64 x0.f0) ∧ w'.cell? ⟨g, M.toNat * 2 + 1, none⟩ = some (.int .i64 x0.f1) ∧ w'.cell? ⟨g, J.toNat * 2, none⟩ = some (.int .i64 x1.f0) ∧ w'.cell? ⟨g, J.toNat * 2 + 1, none⟩ = some (.int .i64 x1.f1))
              (first | go_keep | exact ⟨pw_cell_below HB5.out hx00, pw_cell_below HB5.out hx01, pw_cell_below HB5.out hx10, pw_cell_below HB5.out hx11⟩)
              (first | ((with_reducible refine (Hcmp.out _ (by first | exact (Below.refl _ wr).drew | exact pw_below_drewN (Below.refl _ wr) _)).mono ?_); rintro e w5 ⟨rfl, hd5⟩; have HB5 : Aside0 (Below wr.heap.size wr w5) := ⟨below_then (by first | exact (Below.refl _ wr).drew | exact pw_below_drewN (Below.refl _ wr) _) (by simp) hd5⟩; clear hd5))
            all_goals
              go_wp2_with fail
              go_roundg (xs.length - (i + 1))
              case measure => omega
              case rel => exact ⟨i + 1, zs, by go_num, by omega, by omega, by omega, HL2, ⟨Kd.R_below HR2.out HB5.out⟩, ⟨HM2.out.trans (Mod.of_below HB5.out)⟩, HK2, Hend⟩
    · obtain rfl : i = xs.length := by omega
      have hltz : ¬ (xs.length : Int) < (xs.length : Int) := by omega
      go_wp2
      go_end0
      refine ⟨rfl, ?_, HM1.out⟩
      rw [HV1.out, Nat.sub_self]
      exact HR1.out


end Go.Proofs.Ythpabbepglokeaa.P
