-- Laid by wip/myprint.py of this project (a wrapper over the kit's print.py); Lean checks it.
import Derived.Test.YtcbiglcgdkimhaaPx0
import Derived.Test.YtcbiglcgdkimhaaPx1
import Derived.Test.YtcbiglcgdkimhaaPx11
namespace Go.Proofs.Ytcbiglcgdkimhaa.P
open Go.RowKit Go.Proofs.YtcbiglcgdkimhaaW.PrintWords Go.Proofs.YtcbiglcgdkimhaaW.PrintLast Go.Proofs.YtcbiglcgdkimhaaW.PrintMore
attribute [local go_sem] max2_int min2_int max_two min_two max_three min_three max_four min_four   -- for this text's walks alone
set_option linter.unusedVariables false
set_option linter.unusedSimpArgs false

/-! ### impl_fewest: function 78 (by hand) -/
/-- The plan that 'each' was called with last stands in block m. -/
def LastP (m N0 : Nat) (s : List (List Int)) (W : World) : Prop := ∃ v : Value, W.heap[m]? = some (.cells #[v] 22 (0, 0)) ∧ Kd.R (Kd.int .i64) 3 W N0 (fun _ => True) v (s.getLastD [])
theorem last_stays (m N0 : Nat) : StaysP (LastP m N0) := fun s W W' ⟨v, h, k⟩ hb => ⟨v, (hb.block m (blk_lt h)).trans h, Kd.R_below k hb⟩
set_option maxHeartbeats 2000000 in
theorem last_each (m N0 : Nat) (hm : m < N0) : EachP 96 #[.pointer (some ⟨m, 0, none⟩)] (fun k => k = m) N0 false (LastP m N0) := by
  intro pre W A c p hj hr
  obtain ⟨v, hv, hrv⟩ := hj
  have hcell := cell_at_blk hv
  have hfr := blk_frozen hv 0
  have HV := Aside0.mk hv
  have HR := Aside0.mk hr
  clear hv hrv hr
  go_enter Try.func96, Try.ntmps96
  go_wp2
  go_ret
  have hM := (Mod.refl (fun k => k = m) W).set (p := ⟨m, 0, none⟩) (.inl rfl) (.slice A p.length c)
  refine ⟨rfl, ⟨.slice A p.length c, ?_, ?_⟩, hM⟩
  · rw [blk_set HV.out]; simp
  · have := R_mod HR.out hM (fun k hk => by omega)
    simpa using this
/-- The first plan with the fewest boxes, from so many on. -/
def fewL : Nat → List Int → Int → Int → Option (List Int)
  | 0, _, _, _ => none
  | k + 1, l, room, most => if (plansL room most l [] []).isEmpty = true then fewL k l room (wrap64 (most + 1)) else some ((plansL room most l [] []).headD [])
theorem fewL_mono (k : Nat) : ∀ l room most, LeO (fewL k l room most) (fewL (k + 1) l room most) := by
  induction k with
  | zero => intro l room most r h; simp [fewL] at h
  | succ k ih =>
    intro l room most
    unfold fewL
    exact LeO.ite (ih _ _ _) (LeO.refl _)
def impl_fewest.f (k : Nat) (l0 : List Int) (a1 : Int) : Option (List Int) := if l0.length ≤ 9 then fewL k l0 a1 1 else none
theorem impl_fewest.mono : ∀ a0 a1 k, LeO (impl_fewest.f k a0 a1) (impl_fewest.f (k + 1) a0 a1) := by
  intro a0 a1 k
  unfold impl_fewest.f
  exact LeO.ite (fewL_mono _ _ _ _) (LeO.refl _)
theorem last_start (w : World) (N0 : Nat) : LastP w.heap.size N0 [] (w.alloc (.cells #[.slice none 0 0] 22)) := by
  refine ⟨.slice none 0 0, ?_, R_nil_ _ _ _ _⟩
  rw [heap_alloc_new]
set_option maxRecDepth 100000 in
set_option maxHeartbeats 4000000 in
theorem impl_fewest.calls (k : Nat) (A0 : Option Addr) (c0 : Nat) (l0 : List Int) (a1 : Int) (r : List Int) (w : World) (hr0 : Kd.C (Kd.int .i64) w A0 l0.length l0) (hc0 : l0.length ≤ c0) (h : impl_fewest.f k l0 a1 = some r) :
    Calls Try.prog 78 #[.slice A0 l0.length c0, .int .i64 a1] w fun e w' => ∃ v0_ : Value, e = .returned (v0_) ∧ Kd.R (Kd.int .i64) 3 w' w.heap.size (fun _ => True) v0_ r ∧ Below w.heap.size w w' := by
  unfold impl_fewest.f at h
  by_cases hl : l0.length ≤ 9
  · rw [if_pos hl] at h
    have HR := Aside0.mk hr0
    have HH := Aside0.mk h
    clear hr0 h
    go_enter Try.func78, Try.ntmps78
    go_wp2_with fail
    go_loopg [5] k (fun gk v5 wr => ∃ (j : Nat) (most : Int), j ≤ gk ∧ v5 = .int .i64 most ∧ Aside0 (fewL j l0 a1 most = some r) ∧ Aside0 (Below w.heap.size w wr))
    case atStart => exact ⟨k, 1, Nat.le_refl _, rfl, HH, ⟨Below.refl _ _⟩⟩
    case round =>
      obtain ⟨j, most, hj, rfl, HF, HB⟩ := hrel
      obtain ⟨j', rfl⟩ : ∃ j', j = j' + 1 := by
        cases j with
        | zero => exact absurd HF.out (by simp [fewL])
        | succ j => exact ⟨j, rfl⟩
      have HE := Aside0.mk (last_each wr.heap.size (wr.heap.size + 1) (by omega))
      have HP := Aside0.mk (fun (W : World) (hW : W.heap.size = wr.heap.size + 1) => plans_calls (fun k => k = wr.heap.size) 96 #[.pointer (some ⟨wr.heap.size, 0, none⟩)] (entersOf Try.func96 (by kernel_rfl) rfl) false (LastP wr.heap.size (wr.heap.size + 1)) (last_stays _ _) A0 c0 l0 most a1 W (by rw [hW]; exact HE.out) hl (by intro k hk; omega))
      obtain ⟨b, hb⟩ : ∃ b, b = outB false (plansL a1 most l0 [] []) := ⟨_, rfl⟩
      have Hb := Aside0.mk hb
      clear hb
      have HFu : Aside0 ((if (plansL a1 most l0 [] []).isEmpty = true then fewL j' l0 a1 (wrap64 (most + 1)) else some ((plansL a1 most l0 [] []).headD [])) = some r) := ⟨HF.out⟩
      cases b with
      | true =>
        have HF2 : Aside0 (fewL j' l0 a1 (wrap64 (most + 1)) = some r) := ⟨by have h := HFu.out; rw [if_pos (by have h2 := Hb.out; unfold outB at h2; simpa using h2.symm)] at h; exact h⟩
        go_wp2_with (go_at_call 76; refine (HP.out _ (by simp) (last_start wr _) (C_below (Kd.heap_int _) HR.out (below_alloc' HB.out _)) (by rintro ad rfl hp; have := C_block_lt HR.out hp; have := HB.out.size; omega)).mono ?_; rw [← Hb.out]; rintro e w2 ⟨rfl, ⟨v2, hv2, ho2⟩, hm2⟩; have HO2 := Aside0.mk ho2; have HM2 := Aside0.mk hm2; have hcell := cell_at_blk hv2; clear hv2 hm2 ho2)
        go_roundg j'
        case measure => omega
        case rel => exact ⟨j', _, Nat.le_refl _, rfl, HF2, ⟨below_then HB.out HB.out.size (((Mod.refl _ wr).alloc _).trans HM2.out |>.below (fun k hk => by omega))⟩⟩
      | false =>
        have HF2 : Aside0 ((outL false (plansL a1 most l0 [] [])).getLastD [] = r) := ⟨by
          have h := HFu.out
          have h2 := Hb.out
          unfold outB at h2
          unfold outL
          cases hE2 : plansL a1 most l0 [] [] with
          | nil => rw [hE2] at h2; cases h2
          | cons p E => rw [hE2] at h; simpa using h⟩
        go_wp2_with (go_at_call 76; refine (HP.out _ (by simp) (last_start wr _) (C_below (Kd.heap_int _) HR.out (below_alloc' HB.out _)) (by rintro ad rfl hp; have := C_block_lt HR.out hp; have := HB.out.size; omega)).mono ?_; rw [← Hb.out]; rintro e w2 ⟨rfl, ⟨v2, hv2, ho2⟩, hm2⟩; have HO2 := Aside0.mk ho2; have HM2 := Aside0.mk hm2; have hcell := cell_at_blk hv2; clear hv2 hm2 ho2)
        go_ret
        exact ⟨_, rfl, Kd.R_lower (by rw [← HF2.out]; exact HO2.out) (by have := HB.out.size; omega), below_then HB.out HB.out.size (((Mod.refl _ wr).alloc _).trans HM2.out |>.below (fun k hk => by omega))⟩
  · rw [if_neg hl] at h; cases h


end Go.Proofs.Ytcbiglcgdkimhaa.P
