-- Laid by wip/myprint.py of this project (a wrapper over the kit's print.py); Lean checks it.
import Derived.Test.YtcbiglcgdkimhaaPx0
import Derived.Test.YtcbiglcgdkimhaaPx1
import Derived.Test.YtcbiglcgdkimhaaPx2
import Derived.Test.YtcbiglcgdkimhaaPx6
import Derived.Test.YtcbiglcgdkimhaaPx9
import Derived.Test.YtcbiglcgdkimhaaPx10
namespace Go.Proofs.Ytcbiglcgdkimhaa.P
open Go.RowKit Go.Proofs.YtcbiglcgdkimhaaW.PrintWords Go.Proofs.YtcbiglcgdkimhaaW.PrintLast Go.Proofs.YtcbiglcgdkimhaaW.PrintMore
attribute [local go_sem] max2_int min2_int max_two min_two max_three min_three max_four min_four   -- for this text's walks alone
set_option linter.unusedVariables false
set_option linter.unusedSimpArgs false

/-! ### impl_ExactFill: function 32 (by hand) -/
/-- The first list of places, rising, whose things together make up what is left; the list goes on from a given one. -/
def fillT : List Int → List Int → Nat → Int → Option (List Int)
  | _, [], _, _ => none
  | list, x :: xs, i, left => (if x > left then none else if left - x = 0 then some (list ++ [(i : Int)]) else fillT (list ++ [(i : Int)]) xs (i + 1) (left - x)).or (fillT list xs (i + 1) left)
def fillV (list xs : List Int) (i : Nat) (left : Int) : Option (List Int) := if left = 0 then some list else fillT list xs i left
theorem fillT_cons (list : List Int) (x : Int) (xs : List Int) (i : Nat) (left : Int) : fillT list (x :: xs) i left = (if x > left then none else fillV (list ++ [(i : Int)]) xs (i + 1) (left - x)).or (fillT list xs (i + 1) left) := rfl
set_option maxRecDepth 100000 in
set_option maxHeartbeats 8000000 in
theorem fill_calls (bt bf : Nat) (AT : Option Addr) (cT : Nat) (t : List Int) (ht : t.length ≤ 9) (hg : ∀ x ∈ t, 1 ≤ x ∧ x ≤ 100) (n : Nat) :
    ∀ (list : List Int) (i0 : Nat) (left : Int) (Ap : Option Addr) (cp N0 : Nat) (W : World), t.length - i0 = n → i0 ≤ t.length → list.length ≤ i0 → 0 ≤ left → left ≤ 1000 → N0 ≤ W.heap.size → W.cell? ⟨bt, 0, none⟩ = some (.slice AT t.length cT) → W.cell? ⟨bf, 0, none⟩ = some (.func (.func 69) #[] #[.pointer (some ⟨bt, 0, none⟩), .pointer (some ⟨bf, 0, none⟩)]) → Kd.C (Kd.int .i64) W AT t.length t → Kd.R (Kd.int .i64) 3 W N0 (fun _ => True) (.slice Ap list.length cp) list →
    Calls Try.prog 69 #[.slice Ap list.length cp, .int .i64 i0, .int .i64 left, .pointer (some ⟨bt, 0, none⟩), .pointer (some ⟨bf, 0, none⟩)] W fun e W' => ∃ v : Value, e = .returned (.tuple #[v, .bool (fillV list (t.drop i0) i0 left).isSome]) ∧ Kd.R (Kd.int .i64) 3 W' N0 (fun _ => True) v ((fillV list (t.drop i0) i0 left).getD []) ∧ Below W.heap.size W W' := by
  induction n using Nat.strongRecOn with
  | ind n ih =>
    intro list i0 left Ap cp N0 W hn hi hlist h0 h1 hN ct cf hT hR
    by_cases hl0 : left = 0
    · have hq : (left == 0) = true := by rw [beq_iff_eq]; exact hl0
      have Hv : Aside0 (fillV list (t.drop i0) i0 left = some list) := ⟨by unfold fillV; rw [if_pos hl0]⟩
      have HR := Aside0.mk hR
      clear ih ct cf hT hR hl0
      go_enter Try.func69, Try.ntmps69
      go_wp2_with fail
      go_ret2
      refine ⟨_, by rw [Hv.out]; rfl, by rw [Hv.out]; exact HR.out, Below.refl _ _⟩
    · have hq : (left == 0) = false := by rw [beq_eq_false_iff_ne]; exact hl0
      have Hv : Aside0 (fillV list (t.drop i0) i0 left = fillT list (t.drop i0) i0 left) := ⟨by unfold fillV; rw [if_neg hl0]⟩
      have HR := Aside0.mk hR
      obtain ⟨hcR, hrR⟩ := show list.length ≤ cp ∧ Kd.C (Kd.int .i64) W Ap list.length list by
        obtain ⟨A, c, e, h, k⟩ := Kd.R_reads hR; cases e; exact ⟨h, k⟩
      have HC := Aside0.mk hrR
      have HT := Aside0.mk hT
      have Hn := Aside0.mk hn
      have HN := Aside0.mk hN
      have Hg := Aside0.mk hg
      have hl9 : list.length ≤ 9 := by omega
      have IH := Aside0.mk ih
      clear ih hT hR hl0 hrR hn hN hg
      go_enter Try.func69, Try.ntmps69
      go_wp2_with fail
      go_loopg [10] (t.length - i0) (fun gk v10 wr => ∃ i : Nat, i0 ≤ i ∧ i ≤ t.length ∧ t.length - i ≤ gk ∧ v10 = .int .i64 i ∧ Aside0 (Below W.heap.size W wr) ∧ Aside0 (fillT list (t.drop i0) i0 left = fillT list (t.drop i) i left))
      case atStart => exact ⟨i0, Nat.le_refl _, hi, Nat.le_refl _, rfl, ⟨Below.refl _ _⟩, ⟨rfl⟩⟩
      case round =>
        obtain ⟨i, hi0, hit, hgk, rfl, HB, HV⟩ := hrel
        have hct := pw_cell_below HB.out ct
        have hcf := pw_cell_below HB.out cf
        have hz0 : (0 : Int) ≤ i := Int.natCast_nonneg _
        by_cases hlt : i < t.length
        · have hltz : (i : Int) < (t.length : Int) := by omega
          obtain ⟨aT, eT, hxT⟩ := Kd.at_int HT.out (i : Int) (by omega) (by omega)
          obtain ⟨x, hx⟩ : ∃ x, x = rd t i := ⟨_, rfl⟩
          rw [Int.toNat_natCast, ← hx] at hxT
          subst eT
          have hxm : 1 ≤ x ∧ x ≤ 100 := by
            rw [hx]; unfold rd; rw [List.getD_eq_getElem?_getD, List.getElem?_eq_getElem (by simpa using hlt)]
            exact Hg.out _ (List.getElem_mem _)
          have hcx := pw_cell_below HB.out hxT
          have Hstep : Aside0 (fillT list (t.drop i0) i0 left = (if x > left then none else fillV (list ++ [(i : Int)]) (t.drop (i + 1)) (i + 1) (left - x)).or (fillT list (t.drop (i + 1)) (i + 1) left)) := ⟨by rw [HV.out, drop_rd' hlt, ← hx]; rfl⟩
          clear hx hxT
          by_cases hgt : x > left
          · have hgb : decide (x > left) = true := decide_eq_true hgt
            have Hst : Aside0 (fillT list (t.drop i0) i0 left = fillT list (t.drop (i + 1)) (i + 1) left) := ⟨by rw [Hstep.out, if_pos hgt]; rfl⟩
            clear hgt
            go_wp2_with fail
            go_roundg (t.length - (i + 1))
            case measure => omega
            case rel => exact ⟨i + 1, by omega, by omega, by omega, by go_num, HB, Hst⟩
          · have hgb : decide (x > left) = false := decide_eq_false hgt
            obtain ⟨p', hp'⟩ : ∃ p', p' = list ++ [(i : Int)] := ⟨_, rfl⟩
            obtain ⟨o, ho⟩ : ∃ o, o = fillV p' (t.drop (i + 1)) (i + 1) (left - x) := ⟨_, rfl⟩
            have Hst : Aside0 (fillT list (t.drop i0) i0 left = o.or (fillT list (t.drop (i + 1)) (i + 1) left)) := ⟨by rw [Hstep.out, if_neg hgt, ← hp', ← ho]⟩
            have Hp' := Aside0.mk hp'
            have Hlen' : Aside0 (p'.length = list.length + 1) := ⟨by rw [hp']; simp⟩
            have Ho := Aside0.mk ho
            have hw2 : IntKind.i64.wrap (left - x) = left - x := IntWalk.i64_in _ (by omega)
            have hw1 : IntKind.i64.wrap ((i : Int) + 1) = (i : Int) + 1 := IntWalk.i64_in _ (by omega)
            have HRp := Aside0.mk (C_below (Kd.heap_int _) HC.out HB.out)
            have Hm : Aside0 (0 ≤ left - x ∧ left - x ≤ 1000) := ⟨by omega⟩
            obtain ⟨b, hb⟩ : ∃ b, b = o.isSome := ⟨_, rfl⟩
            have Hb := Aside0.mk hb
            clear hp' ho Hstep hb
            go_wp2_with fail
            go_region_held3 (fun w' => w'.cell? ⟨bf, 0, none⟩ = some (.func (.func 69) #[] #[.pointer (some ⟨bt, 0, none⟩), .pointer (some ⟨bf, 0, none⟩)]) ∧ w'.cell? ⟨bt, 0, none⟩ = some (.slice (some aT) t.length cT) ∧ w'.cell? (aT.add i) = some (.int .i64 x))
              (first | go_keep | exact ⟨pw_cell_below HB1.out hcf, pw_cell_below HB1.out hct, pw_cell_below HB1.out hcx⟩ | exact ⟨pw_cell_below HB2.out hcf, pw_cell_below HB2.out hct, pw_cell_below HB2.out hcx⟩ | exact ⟨pw_cell_below HB3.out hcf, pw_cell_below HB3.out hct, pw_cell_below HB3.out hcx⟩)
              (first
                | (go_at_call 70
                   refine (slices_Clone_int_int.calls Ap cp list list _ ?_ hcR (clone_small (by omega))).mono ?_
                   · (repeat (first | exact HRp.out | (with_reducible refine Kd.C_alloc ?_ _) | (with_reducible refine Kd.C_drew ?_)))
                   rintro e w1 ⟨v32, rfl, ho1, hb1⟩
                   have HO1 : Aside0 (Kd.R (Kd.int .i64) 3 w1 wr.heap.size (fun _ => True) v32 list) := ⟨Kd.R_lower ho1 (by simp)⟩
                   have HB1 : Aside0 (Below wr.heap.size wr w1) := ⟨below_then (by first | exact below_alloc (Below.refl _ wr).drew _ | exact (below_alloc (Below.refl _ wr) _).drew | exact (Below.refl _ wr).drew) (by simp) hb1⟩
                   have HX1 := Aside0.mk hb1
                   clear ho1 hb1)
                | (refine Kd.R_append_rows_step (Kd.int .i64) (w0 := wr) wr.heap.size (by rfl) (.tmp 32) (.tmp 34) 22 3 (.int .i64 0) 8 rfl Try.underlying22 info3 rfl (by decide) (by omega) v32 list [(i : Int)] _ 1 1 (fun _ => True) (fun _ => False) (by rfl) (by rfl) ?_ ?_ (fun _ _ h => h) (fun _ h => h.elim) (fun _ _ => trivial) ?_ ?_ ?_ ?_
                   · first | exact HO1.out | exact Kd.R_alloc HO1.out _
                   · first | exact C_one (cell_box _ _ _) | exact C_one (pw_cell_below HX1.out (cell_box wr _ _))
                   · first | exact HB1.out | exact below_alloc' HB1.out _
                   · first | exact HB1.out.size | exact (below_alloc' HB1.out _).size
                   · omega
                   intro v35 w2 ho2 hb2 hg2 hat2
                   rw [← Hp'.out] at ho2
                   obtain ⟨A2, c2, rfl, hc2, hr2⟩ := Kd.R_reads ho2
                   have HB2 := Aside0.mk hb2
                   have HO2 := Aside0.mk ho2
                   clear ho2 hb2 hg2 hat2 hr2 hc2)
                | (go_at_call 69
                   refine (IH.out (t.length - (i + 1)) (by have := Hn.out; omega) p' (i + 1) (left - x) A2 c2 wr.heap.size _ rfl (by omega) (by have := Hlen'.out; omega) Hm.out.1 Hm.out.2 HB2.out.size (pw_cell_below HB2.out hct) (pw_cell_below HB2.out hcf) (C_below (Kd.heap_int _) HT.out (below_then HB.out HB.out.size HB2.out)) HO2.out).mono ?_
                   rw [← Ho.out, ← Hb.out]
                   rintro e w3 ⟨v44, rfl, ho3, hb3⟩
                   have HO3 := Aside0.mk ho3
                   have HB3 : Aside0 (Below wr.heap.size wr w3) := ⟨below_then HB2.out HB2.out.size hb3⟩
                   clear ho3 hb3))
            all_goals
              cases b with
              | false =>
                have Hst2 : Aside0 (fillT list (t.drop i0) i0 left = fillT list (t.drop (i + 1)) (i + 1) left) := ⟨by
                  rw [Hst.out]
                  have hb := Hb.out
                  cases o with
                  | none => rfl
                  | some r => cases hb⟩
                go_wp2_with fail
                go_roundg (t.length - (i + 1))
                case measure => omega
                case rel => exact ⟨i + 1, by omega, by omega, by omega, by go_num, ⟨below_then HB.out HB.out.size HB3.out⟩, Hst2⟩
              | true =>
                have Hst2 : Aside0 (fillV list (t.drop i0) i0 left = some (o.getD [])) := ⟨by
                  rw [Hv.out, Hst.out]
                  have hb := Hb.out
                  cases o with
                  | none => cases hb
                  | some r => rfl⟩
                go_wp2_with fail
                go_ret2
                refine ⟨_, by rw [Hst2.out]; rfl, by rw [Hst2.out]; exact Kd.R_lower HO3.out (by have := HN.out; have := HB.out.size; omega), below_then HB.out HB.out.size HB3.out⟩
        · have Hst2 : Aside0 (fillV list (t.drop i0) i0 left = none) := ⟨by rw [Hv.out, HV.out, List.drop_of_length_le (by omega)]; rfl⟩
          go_wp2_with fail
          go_ret2
          refine ⟨_, by rw [Hst2.out]; rfl, by rw [Hst2.out]; exact R_nil_ _ _ _ _, HB.out⟩
def impl_ExactFill.f (l0 : List Int) (a1 : Int) : Option (List Int × Bool) := (impl_AreThings.f l0).bind fun t => if t = true then (if inB 1 1000 a1 = true then some ((fillV [] l0 0 a1).getD [], (fillV [] l0 0 a1).isSome) else some ([], false)) else some ([], false)
theorem things_inv {l : List Int} (h : impl_AreThings.f l = some true) : l.length ≤ 9 ∧ ∀ x ∈ l, 1 ≤ x ∧ x ≤ 100 := by
  unfold impl_AreThings.f impl_areWithin.f at h
  rw [within_inB] at h
  simp only [Option.bind_some] at h
  by_cases h1 : inB 1 9 (l.length : Int) = true
  · rw [if_pos h1] at h
    have h2 : allIn l 1 100 = true := by simpa using h
    have : 1 ≤ (l.length : Int) ∧ (l.length : Int) ≤ 9 := by simpa [inB] using h1
    refine ⟨by omega, fun x hx => ?_⟩
    unfold allIn inB at h2
    simp only [Bool.not_eq_true', List.any_eq_false, Bool.not_eq_true, Bool.not_eq_false', Bool.and_eq_true, decide_eq_true_eq] at h2
    simpa using h2 x hx
  · rw [if_neg h1] at h; simp at h
set_option maxRecDepth 100000 in
set_option maxHeartbeats 8000000 in
theorem impl_ExactFill.calls (A0 : Option Addr) (c0 : Nat) (l0 : List Int) (a1 : Int) (r1 : List Int) (r2 : Bool) (w : World) (hr0 : Kd.C (Kd.int .i64) w A0 l0.length l0) (hc0 : l0.length ≤ c0) (h : impl_ExactFill.f l0 a1 = some (r1, r2)) :
    Calls Try.prog 32 #[.slice A0 l0.length c0, .int .i64 a1] w fun e w' => ∃ v0_ : Value, e = .returned (.tuple #[v0_, .bool r2]) ∧ Kd.R (Kd.int .i64) 3 w' w.heap.size (fun _ => True) v0_ r1 ∧ Below w.heap.size w w' := by
  unfold impl_ExactFill.f at h
  obtain ⟨t, ht, h⟩ := Option.bind_eq_some_iff.mp h
  have hB0 : Below w.heap.size w (w.alloc (.cells #[.slice A0 l0.length c0] 22)) := below_alloc (Below.refl _ _) _
  have c1 := cell_box w (.slice A0 l0.length c0) 22
  have HA := Aside0.mk (impl_AreThings.calls A0 c0 l0 t _ (C_below (Kd.heap_int _) hr0 hB0) hc0 ht)
  have HW := Aside0.mk (fun W => impl_within.calls a1 1 1000 (inB 1 1000 a1) W (within_inB 1 1000 a1))
  have HB := Aside0.mk hB0
  have HR := Aside0.mk hr0
  have HT := Aside0.mk ht
  clear hB0 hr0 ht
  cases t with
  | false =>
    simp only [Bool.false_eq_true, if_false, Option.some.injEq, Prod.mk.injEq] at h
    obtain ⟨rfl, rfl⟩ := h
    go_enter Try.func32, Try.ntmps32
    go_wp2_with (go_at_call 67; refine HA.out.mono ?_; rintro e w1 ⟨rfl, hb1⟩)
    go_ret2
    exact ⟨_, rfl, R_nil_ _ _ _ _, below_then HB.out HB.out.size hb1⟩
  | true =>
    simp only [if_true] at h
    obtain ⟨hl, hg⟩ := things_inv HT.out
    obtain ⟨b, hb⟩ : ∃ b, b = inB 1 1000 a1 := ⟨_, rfl⟩
    rw [← hb] at h HW
    have Hb := Aside0.mk hb
    have Hg := Aside0.mk hg
    clear hb hg
    cases b with
    | false =>
      simp only [Bool.false_eq_true, if_false, Option.some.injEq, Prod.mk.injEq] at h
      obtain ⟨rfl, rfl⟩ := h
      go_enter Try.func32, Try.ntmps32
      go_wp2_with (first | (go_at_call 67; refine HA.out.mono ?_; rintro e w1 ⟨rfl, hb1⟩; have HB1 : Aside0 (Below w.heap.size w w1) := ⟨below_then HB.out HB.out.size hb1⟩; clear hb1) | (go_at_call 68; refine (HW.out _).mono ?_; rintro e w2 ⟨rfl, hd2⟩))
      go_ret2
      exact ⟨_, rfl, R_nil_ _ _ _ _, below_then HB1.out HB1.out.size hd2.below⟩
    | true =>
      simp only [if_true, Option.some.injEq, Prod.mk.injEq] at h
      obtain ⟨rfl, rfl⟩ := h
      have Hm : Aside0 (0 ≤ a1 ∧ a1 ≤ 1000) := ⟨by have h := Hb.out.symm; unfold inB at h; rw [Bool.and_eq_true, decide_eq_true_eq, decide_eq_true_eq] at h; omega⟩
      go_enter Try.func32, Try.ntmps32
      go_wp2_with (first
        | (go_at_call 67; refine HA.out.mono ?_; rintro e w1 ⟨rfl, hb1⟩; have HB1 : Aside0 (Below w.heap.size w w1) := ⟨below_then HB.out HB.out.size hb1⟩; replace c1 := pw_cell_below hb1 c1; clear hb1)
        | (go_at_call 68; refine (HW.out _).mono ?_; rintro e w2 ⟨rfl, hd2⟩; have HB2 : Aside0 (Below w.heap.size w w2) := ⟨below_then HB1.out HB1.out.size hd2.below⟩; replace c1 := pw_cell_below hd2.below c1; clear hd2)
        | (go_at_call 69
           refine (fill_calls w.heap.size w2.heap.size A0 c0 l0 hl Hg.out l0.length [] 0 a1 none 0 w2.heap.size _ rfl (Nat.zero_le _) (Nat.le_refl _) Hm.out.1 Hm.out.2 (by simp) (cell_past c1 _) (cell_box _ _ _) (C_below (Kd.heap_int _) HR.out (below_alloc HB2.out _)) (R_nil_ _ _ _ _)).mono ?_
           rintro e w3 ⟨v, rfl, ho3, hb3⟩
           have HO3 := Aside0.mk ho3
           have HB3 := Aside0.mk hb3
           clear ho3 hb3))
      go_ret2
      exact ⟨_, rfl, Kd.R_lower HO3.out HB2.out.size, below_then (below_alloc HB2.out _) (below_alloc HB2.out _).size HB3.out⟩


end Go.Proofs.Ytcbiglcgdkimhaa.P
