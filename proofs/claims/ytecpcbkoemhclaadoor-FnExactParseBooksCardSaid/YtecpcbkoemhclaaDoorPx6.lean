-- Laid by wip/myprint.py of this project (a wrapper over the kit's print.py); Lean checks it.
import Derived.Test.YtecpcbkoemhclaaDoorPx0
import Derived.Test.YtecpcbkoemhclaaDoorPx1
namespace Go.Proofs.YtecpcbkoemhclaaDoor.P
open Go.RowKit Go.Proofs.YtecpcbkoemhclaaDoorW.PrintWords Go.Proofs.YtecpcbkoemhclaaDoorW.PrintLast Go.Proofs.YtecpcbkoemhclaaDoorW.PrintMore
attribute [local go_sem] max2_int min2_int max_two min_two max_three min_three max_four min_four   -- for this text's walks alone
set_option linter.unusedVariables false
set_option linter.unusedSimpArgs false

/-! ### strings_IndexRune: function 53 (by hand) -/
set_option maxRecDepth 100000 in
set_option maxHeartbeats 8000000 in
theorem indexRune_err (s : ByteArray) (hs : ∀ (pos : Nat) (h : pos < s.size), (s[pos]'h).toNat < 128) (w : World) :
    Calls Tryd.prog 53 #[.string s, .int .i32 65533] w fun e w' => e = .returned (.int .i64 (-1)) ∧ Below w.heap.size w w' := by
  have HS := Aside0.mk hs
  clear hs
  go_enter Tryd.func53, Tryd.ntmps53
  go_wp2
  go_loopw [] (fun wr => ∃ (pos : Nat), wr.heap[w.heap.size]? = some (.stringIter s pos) ∧ Below w.heap.size w wr) (fun wr => s.size - wr.iterPos w.heap.size)
  case atStart =>
    refine ⟨0, ?_, (Below.refl _ w).alloc (Nat.le_refl _) _⟩
    have := World.iter_heap w s 0
    simpa using this
  case round =>
    obtain ⟨pos, hit, hbw⟩ := hrel
    have hsz : w.heap.size < wr.heap.size := (Array.getElem?_eq_some_iff.1 hit).1
    by_cases hp : pos < s.size
    · have hnx : ∀ ty, (Instr.next (.pointer (some ⟨w.heap.size, 0, none⟩)) true ty).run Tryd.prog wr = _ := fun ty => Lib.run_next_ascii_at wr w.heap.size s pos ty hit hp (HS.out pos hp)
      have hit2 := Lib.iterAt_heap wr w.heap.size s pos (pos + 1) hit
      have hbw2 := Lib.below_iterAt hbw (k := w.heap.size) (Nat.le_refl _) s (pos + 1)
      have hne : ¬ (((s[pos]'hp).toNat : Int) = 65533) := by have := HS.out pos hp; omega
      go_wp2
      go_roundw
      case rel => exact ⟨pos + 1, hit2, hbw2⟩
      case measure =>
        simp only [World.iterPos, hit2, hit]
        omega
    · have hnx : ∀ ty, (Instr.next (.pointer (some ⟨w.heap.size, 0, none⟩)) true ty).run Tryd.prog wr = _ := fun ty => Lib.run_next_end_at wr w.heap.size s pos ty hit hp
      go_wp2
      go_ret
      exact ⟨rfl, hbw⟩
set_option maxRecDepth 100000 in
set_option maxHeartbeats 8000000 in
theorem indexRune_bad (s : ByteArray) (r : Int) (h0 : 128 ≤ r) (h1 : r ≠ 65533) (hv : Lib.validRune r = false) (w : World) :
    Calls Tryd.prog 53 #[.string s, .int .i32 r] w fun e w' => e = .returned (.int .i64 (-1)) ∧ Below w.heap.size w w' := by
  have a0 : decide (0 ≤ r) = true := decide_eq_true (by omega)
  have a1 : decide (r < 128) = false := decide_eq_false (by omega)
  have a2 : decide (r = 65533) = false := decide_eq_false h1
  have b0 : (0 ≤ r) = True := eq_true (by omega)
  have b1 : (r < 128) = False := eq_false (by omega)
  have b2 : (r = 65533) = False := eq_false h1
  have b3 : (r == 65533) = false := beq_eq_false_iff_ne.2 h1
  clear h0 h1
  go_enter Tryd.func53, Tryd.ntmps53
  go_wp2_with (go_at_call 63; refine (Tryd.utf8_ValidRune r w).mono ?_; rintro e w' ⟨rfl, rfl⟩; rw [hv])
  go_ret
  exact ⟨rfl, Below.refl _ _⟩
theorem encode_size (r : Int) (h0 : 128 ≤ r) : 2 ≤ (Utf8.encode r).size ∧ (Utf8.encode r).size ≤ 4 := by
  unfold Utf8.encode
  have hc : 128 ≤ (if Utf8.valid r then r.toNat else Utf8.runeError) := by
    split
    · omega
    · decide
  generalize (if Utf8.valid r then r.toNat else Utf8.runeError) = c at hc
  simp only
  rw [if_neg (by omega)]
  split
  · show 2 ≤ 2 ∧ 2 ≤ 4; omega
  · split
    · show 2 ≤ 3 ∧ 3 ≤ 4; omega
    · show 2 ≤ 4 ∧ 4 ≤ 4; omega
set_option maxRecDepth 100000 in
set_option maxHeartbeats 8000000 in
theorem indexRune_dash (r : Int) (h0 : 128 ≤ r) (h1 : r ≠ 65533) (hv : Lib.validRune r = true) (w : World) :
    Calls Tryd.prog 53 #[.string ⟨#[45]⟩, .int .i32 r] w fun e w' => e = .returned (.int .i64 (-1)) ∧ Below w.heap.size w w' := by
  have a0 : decide (0 ≤ r) = true := decide_eq_true (by omega)
  have a1 : decide (r < 128) = false := decide_eq_false (by omega)
  have a2 : decide (r = 65533) = false := decide_eq_false h1
  have b0 : (0 ≤ r) = True := eq_true (by omega)
  have b1 : (r < 128) = False := eq_false (by omega)
  have b2 : (r = 65533) = False := eq_false h1
  have b3 : (r == 65533) = false := beq_eq_false_iff_ne.2 h1
  have hz := encode_size r h0
  have hi : wrap64 (((Utf8.encode r).size : Int) - 1) = ((Utf8.encode r).size : Int) - 1 := by unfold wrap64; omega
  have Hi : Aside0 (∃ i : Int, wrap64 (((Utf8.encode r).size : Int) - 1) = i ∧ 1 ≤ i ∧ i ≤ 3) := ⟨⟨_, hi, by omega, by omega⟩⟩
  clear h0 h1 hz hi
  go_enter Tryd.func53, Tryd.ntmps53
  go_wp2_with (go_at_call 63; refine (Tryd.utf8_ValidRune r w).mono ?_; rintro e w' ⟨rfl, rfl⟩; rw [hv])
  go_step3
  go_wp2
  obtain ⟨i, hi, i0, i1⟩ := Hi.out
  rw [hi]
  have c0 : decide (i < 1) = false := decide_eq_false (by omega)
  have c1 : (i < 1) = False := eq_false (by omega)
  go_loopg [9] 1 (fun gk v9 wr => v9 = .int .i64 i ∧ wr = w')
  case atStart => exact ⟨rfl, rfl⟩
  case round =>
    obtain ⟨rfl, rfl⟩ := hrel
    go_wp2
    rw [Exit.noGoto_ret]
    go_ret
    exact ⟨rfl, Below.refl _ _⟩
theorem indexRune_dash_all (r : Nat) (h0 : 128 ≤ r) (w : World) :
    Calls Tryd.prog 53 #[.string ⟨#[45]⟩, .int .i32 r] w fun e w' => e = .returned (.int .i64 (-1)) ∧ Below w.heap.size w w' := by
  by_cases h1 : r = 65533
  · subst h1
    exact indexRune_err ⟨#[45]⟩ (fun pos h => by have h' : pos < 1 := h; obtain rfl : pos = 0 := (by omega); exact (by decide : (45 : UInt8).toNat < 128)) w
  · cases hv : Lib.validRune (r : Int) with
    | true => exact indexRune_dash r (by omega) (by omega) hv w
    | false => exact indexRune_bad _ r (by omega) (by omega) hv w
set_option maxRecDepth 100000 in
set_option maxHeartbeats 8000000 in
theorem containsRune_dash (x : Nat) (w : World) :
    Calls Tryd.prog 41 #[.string ⟨#[45]⟩, .int .i32 x] w fun e w' => e = .returned (.bool (decide (x = 45))) ∧ Below w.heap.size w w' := by
  by_cases hx : x < 128
  · refine (Tryd.strings_ContainsRune_ascii ⟨#[45]⟩ x w (by omega) (by omega)).mono ?_
    rintro e w' ⟨rfl, rfl⟩
    refine ⟨?_, Below.refl _ _⟩
    congr 2
    have : ∀ y : Fin 128, decide (0 ≤ Lib.indexByte [45] ((y.val : Int)).toNat.toUInt8) = decide (y.val = 45) := by decide
    exact this ⟨x, hx⟩
  · have T := Aside0.mk (indexRune_dash_all x (by omega) w)
    have hd : decide (x = 45) = false := decide_eq_false (by omega)
    rw [hd]
    clear hx hd
    go_enter Tryd.func41, Tryd.ntmps41
    go_wp2_with (go_at_call 53; refine T.out.mono ?_; rintro e w1 ⟨rfl, hb⟩; have HB := Aside0.mk hb; clear hb)
    go_ret
    exact ⟨rfl, HB.out⟩
theorem predDash (bx : Nat) (w : World) (hc : w.cell? ⟨bx, 0, none⟩ = some (.string ⟨#[45]⟩)) : PredGrows Tryd.prog 40 #[.pointer (some ⟨bx, 0, none⟩)] (fun x => decide (x = 45)) w := by
  intro W x hx hb
  have hcW := pw_cell_below hb hc
  have T := Aside0.mk (containsRune_dash x W)
  clear hc hx hb
  go_enter Tryd.func40, Tryd.ntmps40
  go_wp2_with (go_at_call 41; refine T.out.mono ?_; rintro e w1 ⟨rfl, hb⟩; have HB := Aside0.mk hb; clear hb)
  go_ret
  exact ⟨rfl, HB.out⟩
theorem encode_two (r : Int) (h0 : 128 ≤ r) (h : (Utf8.encode r).size = 2) : ∃ a b : UInt8, Utf8.encode r = ⟨#[a, b]⟩ ∧ 128 ≤ b.toNat := by
  unfold Utf8.encode at h ⊢
  have hc : 128 ≤ (if Utf8.valid r then r.toNat else Utf8.runeError) := by
    split
    · omega
    · decide
  generalize (if Utf8.valid r then r.toNat else Utf8.runeError) = c at hc h
  simp only at h ⊢
  rw [if_neg (by omega)] at h ⊢
  split at h
  next h2 =>
    rw [if_pos h2]
    exact ⟨_, _, rfl, by rw [UInt8.toNat_ofNat']; omega⟩
  next =>
    split at h
    · exact absurd (show 3 = 2 from h) (by omega)
    · exact absurd (show 4 = 2 from h) (by omega)
set_option maxRecDepth 100000 in
set_option maxHeartbeats 8000000 in
theorem indexRune_bar3 (r : Int) (h0 : 128 ≤ r) (h1 : r ≠ 65533) (hv : Lib.validRune r = true) (h3 : 3 ≤ (Utf8.encode r).size) (w : World) :
    Calls Tryd.prog 53 #[.string ⟨#[124, 44]⟩, .int .i32 r] w fun e w' => e = .returned (.int .i64 (-1)) ∧ Below w.heap.size w w' := by
  have a0 : decide (0 ≤ r) = true := decide_eq_true (by omega)
  have a1 : decide (r < 128) = false := decide_eq_false (by omega)
  have a2 : decide (r = 65533) = false := decide_eq_false h1
  have b0 : (0 ≤ r) = True := eq_true (by omega)
  have b1 : (r < 128) = False := eq_false (by omega)
  have b2 : (r = 65533) = False := eq_false h1
  have b3 : (r == 65533) = false := beq_eq_false_iff_ne.2 h1
  have hz := encode_size r h0
  have hi : wrap64 (((Utf8.encode r).size : Int) - 1) = ((Utf8.encode r).size : Int) - 1 := by unfold wrap64; omega
  have Hi : Aside0 (∃ i : Int, wrap64 (((Utf8.encode r).size : Int) - 1) = i ∧ 2 ≤ i ∧ i ≤ 3) := ⟨⟨_, hi, by omega, by omega⟩⟩
  clear h0 h1 hz hi h3
  go_enter Tryd.func53, Tryd.ntmps53
  go_wp2_with (go_at_call 63; refine (Tryd.utf8_ValidRune r w).mono ?_; rintro e w' ⟨rfl, rfl⟩; rw [hv])
  go_step3
  go_wp2
  obtain ⟨i, hi, i0, i1⟩ := Hi.out
  rw [hi]
  have c0 : decide (i < 2) = false := decide_eq_false (by omega)
  have c1 : (i < 2) = False := eq_false (by omega)
  go_loopg [9] 1 (fun gk v9 wr => v9 = .int .i64 i ∧ wr = w')
  case atStart => exact ⟨rfl, rfl⟩
  case round =>
    obtain ⟨rfl, rfl⟩ := hrel
    go_wp2
    rw [Exit.noGoto_ret]
    go_ret
    exact ⟨rfl, Below.refl _ _⟩
set_option maxRecDepth 100000 in
set_option maxHeartbeats 8000000 in
theorem indexRune_bar2 (r : Int) (h0 : 128 ≤ r) (h1 : r ≠ 65533) (hv : Lib.validRune r = true) (a b : UInt8) (hE : Utf8.encode r = ⟨#[a, b]⟩) (hb : 128 ≤ b.toNat) (w : World) :
    Calls Tryd.prog 53 #[.string ⟨#[124, 44]⟩, .int .i32 r] w fun e w' => e = .returned (.int .i64 (-1)) ∧ Below w.heap.size w w' := by
  have a0 : decide (0 ≤ r) = true := decide_eq_true (by omega)
  have a1 : decide (r < 128) = false := decide_eq_false (by omega)
  have a2 : decide (r = 65533) = false := decide_eq_false h1
  have b0 : (0 ≤ r) = True := eq_true (by omega)
  have b1 : (r < 128) = False := eq_false (by omega)
  have b2 : (r = 65533) = False := eq_false h1
  have b3 : (r == 65533) = false := beq_eq_false_iff_ne.2 h1
  have d0 : ((44 : Int) = (b.toNat : Int)) = False := eq_false (by omega)
  have d1 : ((44 : Int) == (b.toNat : Int)) = false := beq_eq_false_iff_ne.2 (by omega)
  have d2 : decide ((44 : Int) = (b.toNat : Int)) = false := decide_eq_false (by omega)
  have d3 : ((((⟨#[124, 44]⟩ : ByteArray)[1]'(show 1 < 2 by omega)).toNat : Int) != (((⟨#[a, b]⟩ : ByteArray)[1]'(show 1 < 2 by omega)).toNat : Int)) = true := by
    show ((44 : Int) != (b.toNat : Int)) = true
    exact bne_iff_ne.2 (by omega)
  clear h0 h1
  go_enter Tryd.func53, Tryd.ntmps53
  go_wp2_with (go_at_call 63; refine (Tryd.utf8_ValidRune r w).mono ?_; rintro e w' ⟨rfl, rfl⟩; rw [hv])
  go_step3
  go_wp2
  go_loopg [9] 1 (fun gk v9 wr => v9 = .int .i64 1 ∧ wr = w')
  case atStart => exact ⟨by rfl, rfl⟩
  case round =>
    obtain ⟨rfl, rfl⟩ := hrel
    go_wp2

    go_step3
    go_wp2
    go_quiet (fail)
    go_wp2
    go_region_held (fun _ => True) (first | go_keep | exact trivial) (first | (go_at_call 62; refine (Tryd.strings_IndexByte _ _ _).mono ?_; rintro e w1 ⟨rfl, rfl⟩))
    have d4 : Lib.indexByte [] ((⟨#[a, b]⟩ : ByteArray)[1]'(show 1 < 2 by omega)) = -1 := rfl
    go_wp2
    all_goals rw [Exit.noGoto_ret]
    all_goals (simp only [Exit.inBlock, Exit.then, Exit.noGoto])
    all_goals go_ret
    all_goals exact ⟨rfl, by repeat (first | exact Below.refl _ _ | apply pw_below_drewN | apply below_drew1)⟩
theorem indexRune_bar_all (r : Nat) (h0 : 128 ≤ r) (w : World) :
    Calls Tryd.prog 53 #[.string ⟨#[124, 44]⟩, .int .i32 r] w fun e w' => e = .returned (.int .i64 (-1)) ∧ Below w.heap.size w w' := by
  by_cases h1 : r = 65533
  · subst h1
    exact indexRune_err ⟨#[124, 44]⟩ (fun pos h => by
      have h' : pos < 2 := h
      match pos, h' with
      | 0, _ => exact (by decide : (124 : UInt8).toNat < 128)
      | 1, _ => exact (by decide : (44 : UInt8).toNat < 128)) w
  · cases hv : Lib.validRune (r : Int) with
    | true =>
      have hz := encode_size (r : Int) (by omega)
      by_cases h2 : (Utf8.encode (r : Int)).size = 2
      · obtain ⟨a, b, hE, hb⟩ := encode_two r (by omega) h2
        exact indexRune_bar2 r (by omega) (by omega) hv a b hE hb w
      · exact indexRune_bar3 r (by omega) (by omega) hv (by omega) w
    | false => exact indexRune_bad _ r (by omega) (by omega) hv w
set_option maxRecDepth 100000 in
set_option maxHeartbeats 8000000 in
theorem containsRune_bar (x : Nat) (w : World) :
    Calls Tryd.prog 41 #[.string ⟨#[124, 44]⟩, .int .i32 x] w fun e w' => e = .returned (.bool (decide (x = 124) || decide (x = 44))) ∧ Below w.heap.size w w' := by
  by_cases hx : x < 128
  · refine (Tryd.strings_ContainsRune_ascii ⟨#[124, 44]⟩ x w (by omega) (by omega)).mono ?_
    rintro e w' ⟨rfl, rfl⟩
    refine ⟨?_, Below.refl _ _⟩
    congr 2
    have : ∀ y : Fin 128, decide (0 ≤ Lib.indexByte [124, 44] ((y.val : Int)).toNat.toUInt8) = (decide (y.val = 124) || decide (y.val = 44)) := by decide
    exact this ⟨x, hx⟩
  · have T := Aside0.mk (indexRune_bar_all x (by omega) w)
    have hd : (decide (x = 124) || decide (x = 44)) = false := by rw [decide_eq_false (by omega), decide_eq_false (by omega)]; rfl
    rw [hd]
    clear hx hd
    go_enter Tryd.func41, Tryd.ntmps41
    go_wp2_with (go_at_call 53; refine T.out.mono ?_; rintro e w1 ⟨rfl, hb⟩; have HB := Aside0.mk hb; clear hb)
    go_ret
    exact ⟨rfl, HB.out⟩
theorem predBar (bx : Nat) (w : World) (hc : w.cell? ⟨bx, 0, none⟩ = some (.string ⟨#[124, 44]⟩)) : PredGrows Tryd.prog 40 #[.pointer (some ⟨bx, 0, none⟩)] (fun x => decide (x = 124) || decide (x = 44)) w := by
  intro W x hx hb
  have hcW := pw_cell_below hb hc
  have T := Aside0.mk (containsRune_bar x W)
  clear hc hx hb
  go_enter Tryd.func40, Tryd.ntmps40
  go_wp2_with (go_at_call 41; refine T.out.mono ?_; rintro e w1 ⟨rfl, hb⟩; have HB := Aside0.mk hb; clear hb)
  go_ret
  exact ⟨rfl, HB.out⟩


end Go.Proofs.YtecpcbkoemhclaaDoor.P
