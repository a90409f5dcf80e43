-- Laid by wip/myprint.py of this project (a wrapper over the kit's print.py); Lean checks it.
import Derived.Test.YtclfjjinfbfajaaPx0
import Derived.Test.YtclfjjinfbfajaaPx1
namespace Go.Proofs.Ytclfjjinfbfajaa.P
open Go.RowKit Go.Proofs.YtclfjjinfbfajaaW.PrintWords Go.Proofs.YtclfjjinfbfajaaW.PrintLast Go.Proofs.YtclfjjinfbfajaaW.PrintMore
attribute [local go_sem] max2_int min2_int max_two min_two max_three min_three max_four min_four   -- for this text's walks alone
set_option linter.unusedVariables false
set_option linter.unusedSimpArgs false

/-! ### impl_packed: function 47 (by hand) -/
/-- One thing more, into the box that the rule tells. -/
def packStep (F : List Int → Int → Int) (s : List Int × List Int) (x : Int) : List Int × List Int :=
  if F s.2 x < 0 then (s.1 ++ [(s.2.length : Int)], s.2 ++ [wrap64 (0 + x)]) else (s.1 ++ [F s.2 x], s.2.set (F s.2 x).toNat (wrap64 (rd s.2 (F s.2 x) + x)))
/-- The plan and the loads by a rule. -/
def packL (F : List Int → Int → Int) (s : List Int × List Int) (l : List Int) : List Int × List Int := l.foldl (packStep F) s
/-- What is asked of a rule: it answers F. -/
def Rules (g : Nat) (lb : Array Value) (F : List Int → Int → Int) (w : World) : Prop :=
  ∀ (W : World) (A : Option Addr) (c : Nat) (l : List Int) (x : Int), Below w.heap.size w W → Kd.C (Kd.int .i64) W A l.length l → l.length ≤ c →
    Calls Try.prog g (#[.slice A l.length c, .int .i64 x] ++ lb) W fun e W' => e = .returned (.int .i64 (F l x)) ∧ Below W.heap.size W W'
theorem packStep_len (F : List Int → Int → Int) (s : List Int × List Int) (x : Int) : (packStep F s x).1.length = s.1.length + 1 ∧ (packStep F s x).2.length ≤ s.2.length + 1 := by
  unfold packStep
  split <;> simp
set_option maxHeartbeats 8000000 in
theorem packed_calls (g : Nat) (lb : Array Value) (F : List Int → Int → Int) (eg : ∀ args w, (callFunc g args).run Try.prog w = .ok (.enter g args) w) (hF : ∀ l x, F l x < l.length) (A : Option Addr) (c : Nat) (l : List Int) (room : Int) (w : World) (hl : l.length ≤ 1000) (hr : Kd.C (Kd.int .i64) w A l.length l) (hs : Rules g lb F w) :
    Calls Try.prog 47 #[.slice A l.length c, .int .i64 room, .func (.func g) #[] lb] w fun e w' => ∃ v : Value, e = .returned v ∧ Kd.R (Kd.int .i64) 3 w' w.heap.size (fun _ => True) v (packL F ([], []) l).1 ∧ Below w.heap.size w w' := by
  have HR := Aside0.mk hr
  have HS := Aside0.mk hs
  have HF := Aside0.mk hF
  clear hr hs hF
  go_enter Try.func47, Try.ntmps47
  go_wp2_with (first | ((with_reducible refine gate_dst (N := 12) rfl ?_); refine Kd.R_lit (Kd.int .i64) _ 3 ?hg (N := 12) ?hd (xs := ([] : List Int)) (inner := []) (ok := fun _ => True) (okp := fun _ => True) ?hr ?hp (fun _ hk => hk) trivial (Below.refl _ _) (Nat.le_refl _) (by simp) ?_; (case hd => rfl); (case hg => rfl); (case hr => first | (go_simp; done) | (go_simp; rfl)); (case hp => exact (Reps.none _ _)); intro v12 w1 ho1 hb1 hg1 hn1; have HO1 := Aside0.mk ho1; have HB1 := Aside0.mk hb1; have HN1 := Aside0.mk hn1; clear ho1 hb1 hg1 hn1) | ((with_reducible refine gate_dst (N := 13) rfl ?_); refine Kd.R_lit (Kd.int .i64) _ 3 ?hg2 (N := 13) ?hd2 (xs := ([] : List Int)) (inner := []) (ok := fun _ => True) (okp := fun _ => True) ?hr2 ?hp2 (fun _ hk => hk) trivial (Below.refl _ _) (Nat.le_refl _) (by simp) ?_; (case hd2 => rfl); (case hg2 => rfl); (case hr2 => first | (go_simp; done) | (go_simp; rfl)); (case hp2 => exact (Reps.none _ _)); intro v13 w2 ho2 hb2 hg2 hn2; have HO2 := Aside0.mk ho2; have HB2 := Aside0.mk hb2; have HN2 := Aside0.mk hn2; clear ho2 hb2 hg2 hn2))
  have HB0 : Aside0 (Below w.heap.size w w2) := ⟨below_then HB1.out HB1.out.size HB2.out⟩
  have HP0 : Aside0 (Kd.R (Kd.int .i64) 3 w2 w.heap.size (fun k_ => some k_ ≠ (v13 : Value).ownBlock) v12 []) := ⟨Kd.R_mono (Kd.R_elder HO1.out HO2.out HB2.out) (fun _ hk => hk.2)⟩
  have HL0 : Aside0 (Kd.R (Kd.int .i64) 3 w2 w.heap.size (fun k_ => some k_ ≠ (v12 : Value).ownBlock) v13 []) := ⟨Kd.R_lower (Kd.R_mono (Kd.R_newR HO2.out HO1.out) (fun _ hk => hk.2)) HB1.out.size⟩
  clear HO1 HO2 HN1 HN2 HB2 HB1
  have hl0 := Aside0.mk hl
  clear hl
  have hmaxl : l.length ≤ 9223372036854775807 := HR.out.2.1
  go_loopg [7, 8, 16] l.length (fun gk v7 v8 v16 wr => ∃ (kk : Nat) (plan loads : List Int), kk ≤ l.length ∧ l.length - kk ≤ gk ∧ v16 = .int .i64 kk ∧ Aside0 (Kd.R (Kd.int .i64) 3 wr w.heap.size (fun k_ => some k_ ≠ (v8 : Value).ownBlock) v7 plan) ∧ Aside0 (Kd.R (Kd.int .i64) 3 wr w.heap.size (fun k_ => some k_ ≠ (v7 : Value).ownBlock) v8 loads) ∧ Aside0 (Below w.heap.size w wr) ∧ Aside0 (packL F ([], []) l = packL F (plan, loads) (l.drop kk)) ∧ Aside0 (plan.length ≤ kk ∧ loads.length ≤ kk))
  case atStart => exact ⟨0, [], [], Nat.zero_le _, by omega, rfl, HP0, HL0, HB0, ⟨rfl⟩, ⟨by simp⟩⟩
  case round =>
    obtain ⟨kk, plan, loads, hkk, hg, rfl, HP, HL, HB, HV, Hle⟩ := hrel
    by_cases hlt : kk < l.length
    · have hltz : (kk : Int) < (l.length : Int) := by omega
      have hk0 : (0 : Int) ≤ kk := by omega
      obtain ⟨ad, e1, hx⟩ := Kd.at_int HR.out (kk : Int) (by omega) (by omega)
      subst e1
      rw [Int.toNat_natCast] at hx
      replace hx := (HB.out.cell (World.block_lt_of_cell? w _ hx)).trans hx
      have Hdrop := Aside0.mk (drop_rd' hlt)
      obtain ⟨x, hxe⟩ : ∃ x, x = rd l kk := ⟨_, rfl⟩
      rw [← hxe] at hx
      have Hxe := Aside0.mk hxe
      clear hxe
      have Hstep : Aside0 (packL F ([], []) l = packL F (packStep F (plan, loads) x) (l.drop (kk + 1))) := ⟨by rw [HV.out, Hdrop.out, ← Hxe.out]; rfl⟩
      have Hlen : Aside0 (plan.length ≤ 1000 ∧ loads.length ≤ 1000) := ⟨by have := Hle.out; have := hl0.out; omega⟩
      obtain ⟨A8, c8, e8, hc8, hr8⟩ := Kd.R_reads HL.out
      subst e8
      have Hc := Aside0.mk (HS.out _ A8 c8 loads x HB.out hr8 hc8)
      clear hr8
      by_cases hneg : F loads x < 0
      · -- a new box
        have cb : decide (F loads x < 0) = true := decide_eq_true hneg
        obtain ⟨y8, hy8⟩ : ∃ y8, y8 = loads ++ [(0 : Int)] := ⟨_, rfl⟩
        have hlen8 : (loads.length : Int) < (y8.length : Int) := by rw [hy8]; simp only [List.length_append, List.length_cons, List.length_nil]; omega
        have hlen8' : loads.length < y8.length := by omega
        have Ny8 := Aside0.mk hy8
        clear hy8
        have hrd : Aside0 (rd y8 loads.length = 0) := ⟨by rw [Ny8.out]; simp [rd, List.getD_eq_getElem?_getD]⟩
        obtain ⟨y9, hy9⟩ : ∃ y9, y9 = y8.set loads.length (wrap64 (0 + x)) := ⟨_, rfl⟩
        have Ny9 := Aside0.mk hy9
        clear hy9
        obtain ⟨y7, hy7⟩ : ∃ y7, y7 = plan ++ [(loads.length : Int)] := ⟨_, rfl⟩
        have Ny7 := Aside0.mk hy7
        clear hy7
        have Hst : Aside0 (packStep F (plan, loads) x = (y7, y9)) := ⟨by unfold packStep; rw [if_pos hneg, Ny7.out, Ny9.out, Ny8.out]; simp⟩
        clear hneg
        go_wp2_with (first
          | ((with_reducible refine Hc.out.mono ?_); rintro e w3 ⟨rfl, hb3⟩; have HP3 := Aside0.mk (Kd.R_below HP.out hb3); have HL3 := Aside0.mk (Kd.R_below HL.out hb3); have HB3 := Aside0.mk (below_then HB.out HB.out.size hb3); clear hb3)
          | ((with_reducible refine gate_builtin (b := .append) (xs := #[.tmp 28, .tmp 29]) rfl ?_); at_builtin; refine Kd.R_append (Kd.int .i64) (w0 := w) w.heap.size rfl (.tmp 28) (.tmp 29) 22 3 (.int .i64 0) 8 rfl Try.underlying22 info3 rfl (by decide) (by omega) (.slice A8 loads.length c8) loads 0 [.int .i64 0] (fun k_ => some k_ ≠ (u7 : Value).ownBlock) (fun _ => False) rfl rfl ?aP (fun _ hk => hk.elim) ?aF ?aO ?aB ?aS ?aL ?_; (case aP => exact rfl); (case aB => exact HB3.out); (case aF => exact Kd.fresh' (Kd.R_lt HP3.out)); (case aO => exact HL3.out); (case aS => exact HB3.out.size); (case aL => have := Hlen.out; omega); intro v30 w4 ho hb hg hat; rw [← Ny8.out] at ho; have HP4 := Aside0.mk (Kd.R_after (ok := (fun _ => True)) (Kd.R_mono HP3.out (fun _ hk => ⟨trivial, hk⟩)) hg hat); have HB4 := Aside0.mk hb; have HL4 := Aside0.mk ho; obtain ⟨g8, d8, e8, gb8, _, _, _⟩ := Kd.R_form ho (by omega); subst e8; have GB8 := Aside0.mk gb8; obtain ⟨hx8, hf8⟩ := Kd.R_celln 0 HL4.out (loads.length : Int) (by omega) (by omega); rw [Int.toNat_natCast] at hx8 hf8; (have hx8' : w4.cell? ⟨g8, loads.length, none⟩ = some (.int .i64 0) := hx8.trans (by show some (Value.int .i64 (rd y8 loads.length)) = _; rw [hrd.out])); have HQ8 := Kd.R_putg HL4.out (loads.length : Int) (wrap64 (0 + x)); rw [Int.toNat_natCast, ← Ny9.out] at HQ8; have HQ8' := Aside0.mk HQ8; clear ho hb hg hat gb8 hx8 HQ8)
          | ((with_reducible refine gate_store (t := 3) (p := 37) rfl ?_); refine store_event (t := 3) (p := 37) (v := ?vo_1) (w1 := (w4.setCell ⟨g8, loads.length, none⟩ (.int .i64 (wrap64 (0 + x))))) ?hg ?ho ?hn ?hr ?_; (case ho => rfl); (case hg => rfl); (case hn => rfl); (case hr => first | (go_simp; done) | (go_simp; rfl)); intro w5 hw; have HL5 : Aside0 (Kd.R (Kd.int .i64) 3 w5 w.heap.size (fun k_ => some k_ ≠ (u7 : Value).ownBlock) (.slice (some ⟨g8, 0, none⟩) y8.length d8) y9) := ⟨by rw [hw]; exact HQ8'.out.1⟩; have HP5 : Aside0 (Kd.R (Kd.int .i64) 3 w5 w.heap.size (fun k_ => some k_ ≠ (.slice (some ⟨g8, 0, none⟩) y8.length d8 : Value).ownBlock) u7 plan) := ⟨by rw [hw]; exact Kd.R_mono (Kd.R_after (v := (.slice (some ⟨g8, 0, none⟩) y8.length d8)) (v1 := (.slice (some ⟨g8, 0, none⟩) y8.length d8)) (ok := (fun _ => True)) (Kd.R_mono HP4.out (fun _ hk => ⟨trivial, hk.2⟩)) HQ8'.out.2 (.inl rfl)) (fun _ hk => hk.2)⟩; have HB5 : Aside0 (Below w.heap.size w w5) := ⟨by rw [hw]; exact below_set HB4.out GB8.out⟩; clear hw)
          | ((with_reducible refine gate_builtin (b := .append) (xs := #[.tmp 38, .tmp 40]) rfl ?_); at_builtin; refine Kd.R_append (Kd.int .i64) (w0 := w) w.heap.size rfl (.tmp 38) (.tmp 40) 22 3 (.int .i64 0) 8 rfl Try.underlying22 info3 rfl (by decide) (by omega) u7 plan (loads.length : Int) [.int .i64 (loads.length : Int)] (fun k_ => some k_ ≠ (.slice (some ⟨g8, 0, none⟩) y8.length d8 : Value).ownBlock) (fun _ => False) rfl rfl ?bP (fun _ hk => hk.elim) ?bF ?bO ?bB ?bS ?bL ?_; (case bP => exact rfl); (case bB => exact HB5.out); (case bF => exact Kd.fresh' (Kd.R_lt HL5.out)); (case bO => exact HP5.out); (case bS => exact HB5.out.size); (case bL => have := Hlen.out; omega); intro v41 w6 ho hb hg hat; rw [← Ny7.out] at ho; have HL6 := Aside0.mk (Kd.R_mono (Kd.R_after (ok := (fun _ => True)) (Kd.R_mono HL5.out (fun _ hk => ⟨trivial, hk⟩)) hg hat) (fun _ hk => hk.2)); have HB6 := Aside0.mk hb; have HP6 := Aside0.mk ho; clear ho hb hg hat))
        go_roundg (l.length - (kk + 1))
        case measure => omega
        case rel => exact ⟨kk + 1, y7, y9, by omega, by omega, by go_num, HP6, HL6, HB6, ⟨by rw [Hstep.out, Hst.out]⟩, ⟨by rw [Ny7.out, Ny9.out, Ny8.out]; have := Hle.out; simp; omega⟩⟩
      · -- a box that is there
        have cb : decide (F loads x < 0) = false := decide_eq_false hneg
        have hF1 := HF.out loads x
        obtain ⟨y, hy⟩ : ∃ y, y = F loads x := ⟨_, rfl⟩
        have hy0 : 0 ≤ y := by omega
        have hy1 : y < (loads.length : Int) := by omega
        obtain ⟨y9, hy9⟩ : ∃ y9, y9 = loads.set y.toNat (wrap64 (rd loads y + x)) := ⟨_, rfl⟩
        obtain ⟨y7, hy7⟩ : ∃ y7, y7 = plan ++ [y] := ⟨_, rfl⟩
        have Hst : Aside0 (packStep F (plan, loads) x = (y7, y9)) := ⟨by unfold packStep; rw [if_neg hneg, hy7, hy9, hy]⟩
        have Ny9 := Aside0.mk hy9
        have Ny7 := Aside0.mk hy7
        rw [← hy] at cb Hc
        have Hc' := Hc
        clear hneg hF1 hy hy9 hy7 Hc
        go_wp2_with (first
          | ((with_reducible refine Hc'.out.mono ?_); rintro e w3 ⟨rfl, hb3⟩; have HP4 := Aside0.mk (Kd.R_below HP.out hb3); have HL4 := Aside0.mk (Kd.R_below HL.out hb3); have HB4 := Aside0.mk (below_then HB.out HB.out.size hb3); clear hb3; obtain ⟨g8, d8, e8, gb8, _, _, _⟩ := Kd.R_form HL4.out (by omega); injection e8 with ea8 en8 ec8; subst ea8; subst ec8; clear en8; have GB8 := Aside0.mk gb8; obtain ⟨hx8, hf8⟩ := Kd.R_celln 0 HL4.out y (by omega) (by omega); have HQ8 := Kd.R_putg HL4.out y (wrap64 (rd loads y + x)); rw [← Ny9.out] at HQ8; have HQ8' := Aside0.mk HQ8; clear gb8 HQ8)
          | ((with_reducible refine gate_store (t := 3) (p := 37) rfl ?_); refine store_event (t := 3) (p := 37) (v := ?vo_2) (w1 := (w3.setCell ⟨g8, y.toNat, none⟩ (.int .i64 (wrap64 (rd loads y + x))))) ?hg ?ho ?hn ?hr ?_; (case ho => rfl); (case hg => rfl); (case hn => rfl); (case hr => first | (go_simp; done) | (go_simp; rfl)); intro w5 hw; have HL5 : Aside0 (Kd.R (Kd.int .i64) 3 w5 w.heap.size (fun k_ => some k_ ≠ (u7 : Value).ownBlock) (.slice (some ⟨g8, 0, none⟩) loads.length c8) y9) := ⟨by rw [hw]; exact HQ8'.out.1⟩; have HP5 : Aside0 (Kd.R (Kd.int .i64) 3 w5 w.heap.size (fun k_ => some k_ ≠ (.slice (some ⟨g8, 0, none⟩) loads.length c8 : Value).ownBlock) u7 plan) := ⟨by rw [hw]; exact Kd.R_mono (Kd.R_after (v := (.slice (some ⟨g8, 0, none⟩) loads.length c8)) (v1 := (.slice (some ⟨g8, 0, none⟩) loads.length c8)) (ok := (fun _ => True)) (Kd.R_mono HP4.out (fun _ hk => ⟨trivial, hk⟩)) HQ8'.out.2 (.inl rfl)) (fun _ hk => hk.2)⟩; have HB5 : Aside0 (Below w.heap.size w w5) := ⟨by rw [hw]; exact below_set HB4.out GB8.out⟩; clear hw)
          | ((with_reducible refine gate_builtin (b := .append) (xs := #[.tmp 38, .tmp 40]) rfl ?_); at_builtin; refine Kd.R_append (Kd.int .i64) (w0 := w) w.heap.size rfl (.tmp 38) (.tmp 40) 22 3 (.int .i64 0) 8 rfl Try.underlying22 info3 rfl (by decide) (by omega) u7 plan y [.int .i64 y] (fun k_ => some k_ ≠ (.slice (some ⟨g8, 0, none⟩) loads.length c8 : Value).ownBlock) (fun _ => False) rfl rfl ?bP (fun _ hk => hk.elim) ?bF ?bO ?bB ?bS ?bL ?_; (case bP => exact rfl); (case bB => exact HB5.out); (case bF => exact Kd.fresh' (Kd.R_lt HL5.out)); (case bO => exact HP5.out); (case bS => exact HB5.out.size); (case bL => have := Hlen.out; omega); intro v41 w6 ho hb hg hat; rw [← Ny7.out] at ho; have HL6 := Aside0.mk (Kd.R_mono (Kd.R_after (ok := (fun _ => True)) (Kd.R_mono HL5.out (fun _ hk => ⟨trivial, hk⟩)) hg hat) (fun _ hk => hk.2)); have HB6 := Aside0.mk hb; have HP6 := Aside0.mk ho; clear ho hb hg hat))
        go_roundg (l.length - (kk + 1))
        case measure => omega
        case rel => exact ⟨kk + 1, y7, y9, by omega, by omega, by go_num, HP6, HL6, HB6, ⟨by rw [Hstep.out, Hst.out]⟩, ⟨by rw [Ny7.out, Ny9.out]; have := Hle.out; simp; omega⟩⟩
    · have hltz : ¬ (kk : Int) < (l.length : Int) := by omega
      obtain rfl : kk = l.length := by omega
      go_wp2
      go_ret
      refine ⟨_, rfl, ?_, HB.out⟩
      rw [HV.out, List.drop_of_length_le (Nat.le_refl _)]
      exact Kd.R_mono HP.out (fun _ _ => trivial)


end Go.Proofs.Ytclfjjinfbfajaa.P
