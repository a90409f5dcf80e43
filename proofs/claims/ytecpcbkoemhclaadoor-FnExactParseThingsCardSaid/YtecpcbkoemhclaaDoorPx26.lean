-- Laid by wip/myprint.py of this project (a wrapper over the kit's print.py); Lean checks it.
import Derived.Test.YtecpcbkoemhclaaDoorPx0
import Derived.Test.YtecpcbkoemhclaaDoorPx1
import Derived.Test.YtecpcbkoemhclaaDoorPx15
import Derived.Test.YtecpcbkoemhclaaDoorPx25
namespace Go.Proofs.YtecpcbkoemhclaaDoor.P
open Go.RowKit Go.Proofs.YtecpcbkoemhclaaDoorW.PrintWords Go.Proofs.YtecpcbkoemhclaaDoorW.PrintLast Go.Proofs.YtecpcbkoemhclaaDoorW.PrintMore
attribute [local go_sem] max2_int min2_int max_two min_two max_three min_three max_four min_four   -- for this text's walks alone
set_option linter.unusedVariables false
set_option linter.unusedSimpArgs false

/-! ### impl_joined: function 27 (by hand) -/
/-- The numbers' texts with a sign between them. -/
def joinB (l : List Int) (sep : ByteArray) : ByteArray := ⟨(Lib.join ((l.map itoaB).map (·.data.toList)) sep.data.toList).toArray⟩
set_option maxRecDepth 100000 in
set_option maxHeartbeats 8000000 in
theorem joined_calls (A0 : Option Addr) (c0 : Nat) (l0 : List Int) (sep : ByteArray) (w : World) (hr0 : Kd.C (Kd.int .i64) w A0 l0.length l0) (hl : l0.length ≤ 1048576) (hb : ∀ x ∈ l0, 0 ≤ x ∧ x ≤ 1048576) (hs : sep.size ≤ 1) (ht : Pow10 w) :
    Calls Tryd.prog 27 #[.slice A0 l0.length c0, .string sep] w fun e w' => e = .returned (.string (joinB l0 sep)) ∧ Below w.heap.size w w' := by
  have HR := Aside0.mk hr0
  have HL := Aside0.mk hl
  have HBD := Aside0.mk hb
  have HS := Aside0.mk hs
  have HT := Aside0.mk ht
  clear hr0 hl hb hs ht
  go_enter Tryd.func27, Tryd.ntmps27
  go_wp2_with (first
    | ((with_reducible refine gate_dst (N := 8) rfl ?_); refine Kd.R_lit Kd.string _ 9 ?hg (N := 8) ?hd (xs := ([] : List ByteArray)) (inner := []) (ok := fun _ => True) (okp := fun _ => True) ?hr ?hp (fun _ hk => hk) trivial (Below.refl _ _) (Nat.le_refl _) (by simp) ?_; (case hd => rfl); (case hg => rfl); (case hr => first | (go_simp; done) | (go_simp; rfl)); (case hp => exact (Reps.none _ _)); intro v8 w4 ho4 hb4 hg4 hn4; have HO4 := Aside0.mk ho4; have HB4 := Aside0.mk hb4; clear ho4 hb4 hg4 hn4))
  go_loopg [5, 11] l0.length (fun gk v5 v11 wr => ∃ (kk : Nat) (xs : List ByteArray), kk ≤ l0.length ∧ l0.length - kk ≤ gk ∧ v11 = .int .i64 kk ∧ Aside0 (xs = (l0.map itoaB).take kk) ∧ Aside0 (Kd.R Kd.string 9 wr w.heap.size (fun _ => True) v5 xs) ∧ Aside0 (Below w.heap.size w wr))
  case atStart => exact ⟨0, [], Nat.zero_le _, by omega, by go_num, ⟨rfl⟩, HO4, HB4⟩
  case round =>
    clear HO4 HB4
    obtain ⟨kk, xs, hkk, hgk, rfl, HV, HO, HB⟩ := hrel
    by_cases hlt : kk < l0.length
    · have hltz : (kk : Int) < (l0.length : Int) := by omega
      have hk0 : (0 : Int) ≤ kk := Int.natCast_nonneg _
      obtain ⟨ad, e1, hx⟩ := Kd.at_int HR.out (kk : Int) hk0 hltz
      subst e1
      rw [Int.toNat_natCast] at hx
      replace hx := (HB.out.cell (World.block_lt_of_cell? _ _ hx)).trans hx
      obtain ⟨y, hye⟩ : ∃ y, y = rd l0 (kk : Int) := ⟨_, rfl⟩
      rw [← hye] at hx
      have hbd := HBD.out y (by rw [hye]; simp [rd, List.getD_eq_getElem?_getD, List.getElem?_eq_getElem hlt])
      obtain ⟨y0, y1⟩ := hbd
      have T := Aside0.mk (itoa_calls y y0 y1 wr (pow10_below HT.out HB.out (Nat.le_refl _)))
      have Hxl : Aside0 (xs.length = kk) := ⟨by rw [HV.out, List.length_take, List.length_map]; omega⟩
      obtain ⟨xs2, hxs2⟩ : ∃ s, s = xs ++ [itoaB y] := ⟨_, rfl⟩
      have HV2 : Aside0 (xs2 = (l0.map itoaB).take (kk + 1)) := ⟨by
        rw [hxs2, HV.out, List.take_succ_eq_append_getElem (by rw [List.length_map]; exact hlt), List.getElem_map, hye]
        simp [rd, List.getD_eq_getElem?_getD, List.getElem?_eq_getElem hlt]⟩
      have Hxs2 := Aside0.mk hxs2
      clear hye hxs2 y0 y1
      go_wp2_with (first
        | (go_at_call 45; refine T.out.mono ?_; rintro e w1 ⟨rfl, hb1⟩; have HO1 := Aside0.mk (Kd.R_below HO.out hb1); have HB1 := Aside0.mk (below_then HB.out HB.out.size hb1); clear hb1)
        | ((with_reducible refine gate_builtin (b := .append) (xs := #[.tmp 15, .tmp 18]) rfl ?_); at_builtin; refine Kd.R_append Kd.string (w0 := w) w.heap.size rfl (.tmp 15) (.tmp 18) 44 9 (.string ⟨#[]⟩) 16 rfl Tryd.underlying44 infoStr rfl (by decide) (by omega) u5 xs (itoaB y) [.string (itoaB y)] (fun _ => True) (fun _ => False) rfl rfl ?aP (fun _ hk => hk.elim) ?aF ?aO ?aB ?aS ?aL ?_; (case aP => exact rfl); (case aB => exact HB1.out); (case aF => exact (fun _ _ => trivial)); (case aO => exact HO1.out); (case aS => exact HB1.out.size); (case aL => (have := Hxl.out; have := HL.out; omega)); intro v19 w11 ho hb hg hat; rw [← Hxs2.out] at ho; have HO2 := Aside0.mk ho; have HB2 := Aside0.mk hb; clear ho hb hg hat))
      go_roundg (l0.length - kk - 1)
      case measure => omega
      case rel => exact ⟨kk + 1, xs2, by omega, by omega, by have h := HL.out; have e : wrap64 ((kk : Int) + 1) = ((kk + 1 : Nat) : Int) := (by unfold wrap64; omega); rw [e], HV2, HO2, HB2⟩
    · have hkl : kk = l0.length := by omega
      have hltz : ¬ (kk : Int) < (l0.length : Int) := by omega
      have Hxs : Aside0 (xs = l0.map itoaB) := ⟨by rw [HV.out, hkl]; exact List.take_of_length_le (by simp)⟩
      have Hlen : Aside0 ((Lib.join (xs.map (·.data.toList)) sep.data.toList).length ≤ 140737488355328) := ⟨by
        have h1 := joinL_len sep.data.toList (xs.map (·.data.toList)) 20 (fun x hx => by
          rw [Hxs.out] at hx
          simp only [List.mem_map] at hx
          obtain ⟨b, ⟨n, hn, rfl⟩, rfl⟩ := hx
          have := HBD.out n hn
          exact itoa_len n this.1 this.2)
        have h2 : sep.data.toList.length ≤ 1 := by have q := HS.out; rw [Array.length_toList]; exact q
        have h3 : (xs.map (·.data.toList)).length ≤ 1048576 := by rw [Hxs.out, List.length_map, List.length_map]; exact HL.out
        calc _ ≤ _ := h1
          _ ≤ 1048576 * 21 := Nat.mul_le_mul h3 (by omega)
          _ ≤ _ := by omega⟩
      have hdec : decide ((kk : Int) < (l0.length : Int)) = false := decide_eq_false hltz
      have hdec2 : decide (kk < l0.length) = false := decide_eq_false hlt
      have T := Aside0.mk (join_calls u5 w.heap.size xs sep wr HO.out (by rw [Hxs.out, List.length_map]; exact HL.out) Hlen.out)
      clear hkl
      go_wp2_with (first
        | (go_at_call 46; refine T.out.mono ?_; rintro e w1 ⟨rfl, hb1⟩; have HB1 := Aside0.mk (below_then HB.out HB.out.size hb1); clear hb1))
      go_ret
      exact ⟨by rw [Hxs.out]; rfl, HB1.out⟩


end Go.Proofs.YtecpcbkoemhclaaDoor.P
