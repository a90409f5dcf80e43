-- Laid by wip/myprint.py of this project (a wrapper over the kit's print.py); Lean checks it.
import Derived.Test.YtecpcbkoemhclaaDoorPx0
import Derived.Test.YtecpcbkoemhclaaDoorPx1
import Derived.Test.YtecpcbkoemhclaaDoorPx10
import Derived.Test.YtecpcbkoemhclaaDoorPx12
namespace Go.Proofs.YtecpcbkoemhclaaDoor.P
open Go.RowKit Go.Proofs.YtecpcbkoemhclaaDoorW.PrintWords Go.Proofs.YtecpcbkoemhclaaDoorW.PrintLast Go.Proofs.YtecpcbkoemhclaaDoorW.PrintMore
attribute [local go_sem] max2_int min2_int max_two min_two max_three min_three max_four min_four   -- for this text's walks alone
set_option linter.unusedVariables false
set_option linter.unusedSimpArgs false

/-! ### impl_numbers: function 25 (by hand) -/
theorem spans_len (p : Nat → Bool) (s : ByteArray) : ∀ (f pos : Nat) (st : Option Nat) (acc : List (Nat × Nat)), (Lib.spansFromP p s f pos st acc).1.length ≤ acc.length + f
  | 0, pos, st, acc => by simp [Lib.spansFromP]
  | f + 1, pos, st, acc => by
    unfold Lib.spansFromP
    split
    · split
      · cases st with
        | none => have := spans_len p s f (pos + (Utf8.decode s pos).2) none acc; simp only; omega
        | some a => have := spans_len p s f (pos + (Utf8.decode s pos).2) none (acc ++ [(a, pos)]); rw [List.length_append] at this; simp only [List.length_cons, List.length_nil] at this ⊢; omega
      · cases st with
        | none => have := spans_len p s f (pos + (Utf8.decode s pos).2) (some pos) acc; simp only; omega
        | some a => have := spans_len p s f (pos + (Utf8.decode s pos).2) (some a) acc; simp only; omega
    · simp only; omega
theorem words_len (p : Nat → Bool) (s : ByteArray) : (Lib.goFieldsP p s).length ≤ s.size + 1 := by
  have := spans_len p s s.size 0 none []
  unfold Lib.goFieldsP Lib.spansOfP Lib.closeSpans
  rw [List.length_map]
  simp only [List.length_nil] at this
  split <;> (try rw [List.length_append]) <;> simp <;> omega
theorem words_size (p : Nat → Bool) (s : ByteArray) : ∀ x ∈ Lib.goFieldsP p s, x.size ≤ s.size := by
  intro x hx
  obtain ⟨y, _, rfl⟩ := List.mem_map.1 hx
  rw [ByteArray.size_extract]; omega
/-- The numbers of some words; none if a word is none. -/
def numsF (most : Int) : List ByteArray → Option (List Int)
  | [] => some []
  | x :: xs => (numW most x).bind fun v => (numsF most xs).bind fun l => some (v :: l)
theorem nums_cell {W W2 : World} {row : Option Nat} {A j : Nat} {v : Value} (hg : W.grownBy W2 row) (hne : ¬ some A = row) (hc : W.cell? ⟨A, j, none⟩ = some v) : W2.cell? ⟨A, j, none⟩ = some v := by
  have := hg.block A (World.block_lt_of_cell? W _ hc) hne
  simpa [World.cell?, this] using hc
theorem nums_info : (Tryd.prog.info? 3).map (fun i => (i.zero, i.size, i.bytes)) = some (some (.int .i64 0), 1, 8) := by kernel_rfl
set_option maxRecDepth 100000 in
set_option maxHeartbeats 16000000 in
theorem numbers_calls (s signs : ByteArray) (most : Int) (p : Nat → Bool) (hs : s.size ≤ 1048576) (w : World) (hp : ∀ (bx : Nat) (W : World), W.cell? ⟨bx, 0, none⟩ = some (.string signs) → PredGrows Tryd.prog 40 #[.pointer (some ⟨bx, 0, none⟩)] p W) (ht : Pow10 w) (he : ErrsIn w) :
    Calls Tryd.prog 25 #[.string s, .string signs, .int .i64 most] w fun e w' => ∃ v0_ : Value, e = .returned (.tuple #[v0_, .bool (numsF most (Lib.goFieldsP p s)).isSome]) ∧ Kd.R (Kd.int .i64) 3 w' w.heap.size (fun _ => True) v0_ ((numsF most (Lib.goFieldsP p s)).getD []) ∧ Below w.heap.size w w' := by
  obtain ⟨ws, hws⟩ : ∃ ws, ws = Lib.goFieldsP p s := ⟨_, rfl⟩
  have HWL : Aside0 (ws.length ≤ 1048577) := ⟨by rw [hws]; have := words_len p s; omega⟩
  obtain ⟨o, Ho⟩ : ∃ o, Aside0 (numsF most ws = o) := ⟨_, ⟨rfl⟩⟩
  have HWS : Aside0 (∀ x ∈ ws, x.size ≤ 1048576) := ⟨fun x hx => by rw [hws] at hx; have := words_size p s x hx; omega⟩
  obtain ⟨W0, hW0⟩ : ∃ W0, W0 = w.alloc (.cells #[.string signs] 9) := ⟨_, rfl⟩
  have hB0 : Below w.heap.size w W0 := by rw [hW0]; exact below_alloc (Below.refl _ _) _
  have hcb : W0.cell? ⟨w.heap.size, 0, none⟩ = some (.string signs) := by rw [hW0]; exact cell_box w _ _
  have HT := Aside0.mk ht
  have HE := Aside0.mk he
  have HB0 := Aside0.mk hB0
  have HF : Aside0 (∀ W, Below W0.heap.size W0 W → Calls Tryd.prog 39 #[.string s, .func (.func 40) #[] #[.pointer (some ⟨w.heap.size, 0, none⟩)]] W fun e w' => ∃ A, e = .returned (.slice (some ⟨A, 0, none⟩) ws.length ws.length) ∧ W.heap.size ≤ A ∧ Kd.R Kd.string 9 w' W.heap.size (fun _ => True) (.slice (some ⟨A, 0, none⟩) ws.length ws.length) ws ∧ Below W.heap.size W w') := ⟨fun W hb => by
    rw [hws]
    refine (Tryd.strings_FieldsFunc_grows 40 #[.pointer (some ⟨w.heap.size, 0, none⟩)] (entersOf Tryd.func40 (by kernel_rfl) rfl) p s W (by omega) (hp _ _ (pw_cell_below hb hcb))).mono ?_
    rintro e w' ⟨A, rfl, hA, ho, hb2⟩
    exact ⟨A, rfl, hA, Kd.R_of_own ho (fun _ _ => trivial), hb2⟩⟩
  rw [← hws, Ho.out]
  clear hp ht he hB0 hcb hws hs
  subst hW0
  go_enter Tryd.func25, Tryd.ntmps25
  go_wp2_with (first
    | ((with_reducible refine gate_dst (N := 13) rfl ?_); refine Kd.R_lit (Kd.int .i64) _ 3 ?hg (N := 13) ?hd (xs := ([] : List Int)) (inner := []) (ok := fun _ => True) (okp := fun _ => True) ?hr ?hp (fun _ hk => hk) trivial (Below.refl _ _) (Nat.le_refl _) (by simp) ?_; (case hd => rfl); (case hg => rfl); (case hr => first | (go_simp; done) | (go_simp; rfl)); (case hp => exact (Reps.none _ _)); intro v13 w4 ho4 hb4 hg4 hn4; have HO4 := Aside0.mk ho4; have HB4 := Aside0.mk hb4; clear ho4 hb4 hg4 hn4)
    | (go_at_call 39; refine (HF.out w4 HB4.out).mono ?_; rintro e w5 ⟨A, rfl, hA5, hr5, hb5⟩; have HA5 := Aside0.mk hA5; have HR5 := Aside0.mk hr5; have HB5 := Aside0.mk hb5; clear hA5 hr5 hb5))
  have HWd : Aside0 (∀ (j : Nat) x, ws[j]? = some x → w5.cell? ⟨A, j, none⟩ = some (.string x)) := ⟨fun j x hj => by
    obtain ⟨hjl, hje⟩ := List.getElem?_eq_some_iff.1 hj
    obtain ⟨ad2, e2, h2⟩ := Kd.at_string (Kd.R_reads' HR5.out).2.2 (j : Int) (by omega) (by omega)
    obtain rfl := Option.some.inj e2
    rw [Int.toNat_natCast, add_plain] at h2
    rw [h2]
    simp [rdOf, List.getD_eq_getElem?_getD, hj]⟩
  have HB05 : Aside0 (Below w.heap.size w w5) := ⟨below_then HB0.out HB0.out.size (below_then HB4.out HB4.out.size HB5.out)⟩
  have HO5 : Aside0 (Kd.R (Kd.int .i64) 3 w5 w.heap.size (fun k => k ≠ A) v13 []) := ⟨Kd.R_lower (Kd.R_below (Kd.R_mono (Kd.R_bound HO4.out) (fun k hk => by have := hk.2.2.1; have := HA5.out; omega)) HB5.out) HB0.out.size⟩
  clear HF HR5 HB4 HB5 HO4 HB0
  go_loopg [8, 18] ws.length (fun gk v8 v18 wr => ∃ (kk : Nat) (ol : List Int), kk ≤ ws.length ∧ ws.length - kk ≤ gk ∧ v18 = .int .i64 kk ∧ Aside0 (ol.length = kk) ∧ Aside0 (numsF most ws = (numsF most (ws.drop kk)).map (fun l => ol ++ l)) ∧ Aside0 (Kd.R (Kd.int .i64) 3 wr w.heap.size (fun k => k ≠ A) v8 ol) ∧ Aside0 (∀ (j : Nat) x, ws[j]? = some x → wr.cell? ⟨A, j, none⟩ = some (.string x)) ∧ Aside0 (Below w.heap.size w wr))
  case atStart => exact ⟨0, [], Nat.zero_le _, by omega, by go_num, ⟨rfl⟩, ⟨by rw [List.drop_zero]; cases numsF most ws <;> rfl⟩, HO5, HWd, HB05⟩
  case round =>
    clear HO5 HWd HB05
    obtain ⟨kk, ol, hkk, hgk, rfl, HL, HV, HO, HWd, HB⟩ := hrel
    by_cases hlt : kk < ws.length
    · have hltz : (kk : Int) < (ws.length : Int) := by omega
      have hk0 : (0 : Int) ≤ kk := Int.natCast_nonneg _
      obtain ⟨x, hxg⟩ : ∃ x, ws[kk] = x := ⟨_, rfl⟩
      have hx : wr.cell? ⟨A, kk, none⟩ = some (.string x) := HWd.out kk x (by rw [List.getElem?_eq_getElem hlt, hxg])
      have hAl : A < wr.heap.size := World.block_lt_of_cell? _ _ hx
      have HAl := Aside0.mk hAl
      have Hxs : Aside0 (x.size ≤ 1048576) := ⟨HWS.out x (by rw [← hxg]; exact List.getElem_mem hlt)⟩
      have hBw : Below w.heap.size w wr := HB.out
      have Hdrop : Aside0 (ws.drop kk = x :: ws.drop (kk + 1)) := ⟨by rw [List.drop_eq_getElem_cons hlt, hxg]⟩
      have T := Aside0.mk (number_calls x most Hxs.out wr (pow10_below HT.out hBw (Nat.le_refl _)) (errsIn_below HE.out hBw))
      have HBw := Aside0.mk hBw
      clear hxg hBw hAl
      cases hn : numW most x with
      | none =>
        have Hnone : Aside0 (numsF most ws = none) := ⟨by rw [HV.out, Hdrop.out, numsF, hn]; rfl⟩
        rw [hn] at T
        have ho : Aside0 (o = none) := ⟨Ho.out.symm.trans Hnone.out⟩
        clear hn
        go_wp2_with (go_at_call 42; refine T.out.mono ?_; rintro e w6 ⟨rfl, hb6⟩; have HB6 := Aside0.mk (below_then HBw.out HBw.out.size hb6); clear hb6)
        go_ret2
        exact ⟨_, by rw [ho.out]; rfl, by rw [ho.out]; exact R_nil_ _ _ _ _, HB6.out⟩
      | some v =>
        obtain ⟨ol2, hol2⟩ : ∃ l, l = ol ++ [v] := ⟨_, rfl⟩
        have HV2 : Aside0 (numsF most ws = (numsF most (ws.drop (kk + 1))).map (fun l => ol2 ++ l)) := ⟨by
          rw [HV.out, Hdrop.out, numsF, hn, hol2]
          cases numsF most (ws.drop (kk + 1)) with
          | none => rfl
          | some l => simp⟩
        have HL2 : Aside0 (ol2.length = kk + 1) := ⟨by rw [hol2, List.length_append, HL.out]; rfl⟩
        have Hol2 := Aside0.mk hol2
        rw [hn] at T
        clear hn hol2
        go_wp2_with (first
          | (go_at_call 42; refine T.out.mono ?_; rintro e w6 ⟨rfl, hb6⟩; have HO6 := Aside0.mk (Kd.R_below HO.out hb6); have HW6 := Aside0.mk (fun (j : Nat) (x : ByteArray) (hj : ws[j]? = some x) => pw_cell_below hb6 (HWd.out j x hj)); have HA6 := Aside0.mk (Nat.lt_of_lt_of_le HAl.out hb6.size); have HB7 := Aside0.mk (below_then HBw.out HBw.out.size hb6); clear hb6)
          | ((with_reducible refine gate_builtin (b := .append) (xs := #[.tmp 30, .tmp 32]) rfl ?_); at_builtin; refine Kd.R_append (Kd.int .i64) (w0 := w) w.heap.size rfl (.tmp 30) (.tmp 32) 22 3 (.int .i64 0) 8 rfl Tryd.underlying22 nums_info rfl (by decide) (by omega) u8 ol v [.int .i64 v] (fun k => k ≠ A) (fun _ => False) rfl rfl ?aP (fun _ hk => hk.elim) ?aF ?aO ?aB ?aS ?aL ?_; (case aP => exact rfl); (case aB => exact HB7.out); (case aF => (intro k hk; have := HA6.out; omega)); (case aO => exact HO6.out); (case aS => exact HB7.out.size); (case aL => (have := HL.out; have := HWL.out; omega)); intro v33 w11 ho hb hg hat; rw [← Hol2.out] at ho; have HO8 := Aside0.mk ho; have HB8 := Aside0.mk hb; have HW8 := Aside0.mk (fun (j : Nat) (x : ByteArray) (hj : ws[j]? = some x) => nums_cell hg (fun he => HO6.out.1 A he.symm rfl) (HW6.out j x hj)); clear ho hb hg hat))
        go_roundg (ws.length - kk - 1)
        case measure => omega
        case rel => exact ⟨kk + 1, ol2, by omega, by omega, by have h := HWL.out; have e : wrap64 ((kk : Int) + 1) = ((kk + 1 : Nat) : Int) := (by unfold wrap64; omega); rw [e], HL2, HV2, HO8, HW8, HB8⟩
    · have hkl : kk = ws.length := by omega
      have hdec : decide ((kk : Int) < (ws.length : Int)) = false := decide_eq_false (by omega)
      have hdec2 : decide (kk < ws.length) = false := decide_eq_false hlt
      have Hv : Aside0 (numsF most ws = some ol) := ⟨by rw [HV.out, List.drop_of_length_le (by omega)]; simp [numsF]⟩
      have ho : Aside0 (o = some ol) := ⟨Ho.out.symm.trans Hv.out⟩
      clear hkl
      go_wp2
      go_ret2
      exact ⟨_, by rw [ho.out]; rfl, by rw [ho.out]; exact Kd.R_mono HO.out (fun _ _ => trivial), HB.out⟩


end Go.Proofs.YtecpcbkoemhclaaDoor.P
