-- Laid by wip/myprint.py of this project (a wrapper over the kit's print.py); Lean checks it.
import Derived.Test.YtchbjdoneanhpaaPx0
import Derived.Test.YtchbjdoneanhpaaPx1
import Derived.Test.YtchbjdoneanhpaaPx10
import Derived.Test.YtchbjdoneanhpaaPx11
import Derived.Test.YtchbjdoneanhpaaPx13
import Derived.Test.YtchbjdoneanhpaaPx16
import Derived.Test.YtchbjdoneanhpaaPx17
namespace Go.Proofs.Ytchbjdoneanhpaa.P
open Go.RowKit Go.Proofs.YtchbjdoneanhpaaW.PrintWords Go.Proofs.YtchbjdoneanhpaaW.PrintLast Go.Proofs.YtchbjdoneanhpaaW.PrintMore
attribute [local go_sem] max2_int min2_int max_two min_two max_three min_three max_four min_four   -- for this text's walks alone
set_option linter.unusedVariables false
set_option linter.unusedSimpArgs false

/-! ### impl_GreatestFirst: function 14 (by hand) -/
/-- The comparison of 'GreatestFirst'. -/
def gfC (l : List Int) (a b : Int) : Int := wrap64 (rd l b - rd l a)
/-- The things and their box stand. -/
def ThI (bt : Nat) (AT : Option Addr) (cT : Nat) (l : List Int) (W : World) : Prop := W.cell? ⟨bt, 0, none⟩ = some (.slice AT l.length cT) ∧ Kd.C (Kd.int .i64) W AT l.length l
set_option maxHeartbeats 4000000 in
theorem gf_cmp (bt : Nat) (AT : Option Addr) (cT : Nat) (l : List Int) : CmpI 25 #[.pointer (some ⟨bt, 0, none⟩)] (gfC l) (fun x => 0 ≤ x ∧ x < (l.length : Int)) (ThI bt AT cT l) := by
  rintro W x y ⟨hc, hr⟩ ⟨hx0, hx1⟩ ⟨hy0, hy1⟩
  obtain ⟨ad, e1, hxx⟩ := Kd.at_int hr x hx0 hx1
  subst e1
  obtain ⟨ad', e2, hyy⟩ := Kd.at_int hr y hy0 hy1
  obtain rfl : ad = ad' := by injection e2
  have Hc : Aside0 (gfC l x y = wrap64 (rd l y - rd l x)) := ⟨rfl⟩
  clear hr e2
  go_enter Try.func25, Try.ntmps25
  go_wp2
  go_quiet (fail)
  go_wp2
  go_ret
  exact ⟨by rw [Hc.out]; rfl, by first | exact Drawn0.refl _ | exact ⟨⟨_, rfl⟩⟩⟩
/-- The plan told in the things' own order. -/
def placeF : List Int → List Int → List Int → List Int
  | i :: is, p :: ps, out => placeF is ps (out.set i.toNat p)
  | _, _, out => out
theorem placeF_len : ∀ (is ps out : List Int), (placeF is ps out).length = out.length
  | [], ps, out => by cases ps <;> rfl
  | i :: is, [], out => rfl
  | i :: is, p :: ps, out => by rw [placeF, placeF_len is ps, List.length_set]
theorem insI_len (cf : Int → Int → Int) : ∀ (j : Nat) (xs : List Int), (insI cf j xs).length = xs.length
  | 0, xs => rfl
  | j + 1, xs => by
    rw [insI]
    split
    · rw [insI_len cf j, swpI_len]
    · rfl
theorem insI_mem (cf : Int → Int → Int) (ok : Int → Prop) : ∀ (j : Nat) (xs : List Int), j < xs.length → (∀ x ∈ xs, ok x) → ∀ x ∈ insI cf j xs, ok x
  | 0, xs, _, h => h
  | j + 1, xs, hj, h => by
    rw [insI]
    split
    · exact insI_mem cf ok j _ (by rw [swpI_len]; omega) (swpI_mem xs j hj ok h)
    · exact h
theorem sortI_len (cf : Int → Int → Int) : ∀ (d i : Nat) (xs : List Int), (sortI cf d i xs).length = xs.length
  | 0, i, xs => rfl
  | d + 1, i, xs => by rw [sortI, sortI_len cf d, insI_len]
theorem sortI_mem (cf : Int → Int → Int) (ok : Int → Prop) : ∀ (d i : Nat) (xs : List Int), i + d ≤ xs.length → (∀ x ∈ xs, ok x) → ∀ x ∈ sortI cf d i xs, ok x
  | 0, i, xs, _, h => h
  | d + 1, i, xs, hd, h => by
    rw [sortI]
    exact sortI_mem cf ok d (i + 1) _ (by rw [insI_len]; omega) (insI_mem cf ok i xs (by omega) h)
def impl_GreatestFirst.f (k : Nat) (l0 : List Int) (a1 : Int) : Option (List Int × Bool) := (impl_areRoomy.f k l0 a1).bind fun b => if b = true then ((impl_upTo.f k (l0.length : Int)).bind fun o => if 1 ≤ l0.length ∧ l0.length ≤ 9 ∧ o.length = l0.length ∧ (o.all fun x => decide (0 ≤ x ∧ x < (l0.length : Int))) = true then ((impl_FirstFit.f k ((sortI (gfC l0) (o.length - 1) 1 o).map (rd l0)) a1).bind fun pl => if pl.1.length = l0.length then ((impl_named.f k (placeF (sortI (gfC l0) (o.length - 1) 1 o) pl.1 (List.replicate l0.length 0))).bind fun r => some (r, true)) else none) else none) else some ([], false)
theorem impl_GreatestFirst.mono : ∀ a0 a1 k, LeO (impl_GreatestFirst.f k a0 a1) (impl_GreatestFirst.f (k + 1) a0 a1) := fun a0 a1 k =>
  LeO.bind (impl_areRoomy.mono a0 a1 k) (fun b => LeO.ite (LeO.bind (impl_upTo.mono _ k) (fun o => LeO.ite (LeO.bind (impl_FirstFit.mono _ a1 k) (fun pl => LeO.ite (LeO.bind (impl_named.mono _ k) (fun _ => LeO.refl _)) (LeO.refl _))) (LeO.refl _))) (LeO.refl _))
theorem rd_map (l ys : List Int) {i : Nat} (h : i < ys.length) : rd (ys.map (rd l)) (i : Int) = rd l (rd ys (i : Int)) := by
  simp [rd, List.getD_eq_getElem?_getD, List.getElem?_eq_getElem h]
set_option maxRecDepth 100000 in
set_option maxHeartbeats 8000000 in
theorem impl_GreatestFirst.calls (k : Nat) (A0 : Option Addr) (c0 : Nat) (l0 : List Int) (a1 : Int) (r1 : List Int) (r2 : Bool) (w : World) (hr0 : Kd.C (Kd.int .i64) w A0 l0.length l0) (hc0 : l0.length ≤ c0) (h : impl_GreatestFirst.f k l0 a1 = some (r1, r2)) :
    Calls Try.prog 14 #[.slice A0 l0.length c0, .int .i64 a1] w fun e w' => ∃ v0_ : Value, e = .returned (.tuple #[v0_, .bool r2]) ∧ Kd.R (Kd.int .i64) 3 w' w.heap.size (fun _ => True) v0_ r1 ∧ Below w.heap.size w w' := by
  unfold impl_GreatestFirst.f at h
  obtain ⟨b, hb, h⟩ := Option.bind_eq_some_iff.mp h
  obtain ⟨W0, hW0⟩ : ∃ W0, W0 = w.alloc (.cells #[.slice A0 l0.length c0] 22) := ⟨_, rfl⟩
  have hB0 : Below w.heap.size w W0 := by rw [hW0]; exact below_alloc (Below.refl _ _) _
  have hcb : W0.cell? ⟨w.heap.size, 0, none⟩ = some (.slice A0 l0.length c0) := by rw [hW0]; exact cell_box w _ _
  have hs0 : W0.heap.size = w.heap.size + 1 := by rw [hW0]; simp
  have hr1 : Kd.C (Kd.int .i64) W0 A0 l0.length l0 := C_below (Kd.heap_int _) hr0 hB0
  have HA := Aside0.mk (impl_areRoomy.calls k A0 c0 l0 a1 b W0 hr1 hc0 hb)
  have HB0 := Aside0.mk hB0
  have HR1 := Aside0.mk hr1
  have Hcb := Aside0.mk hcb
  have HS0 := Aside0.mk hs0
  clear hr0 hr1 hb hB0 hs0
  cases b with
  | false =>
    simp only [Bool.false_eq_true, if_false, Option.some.injEq, Prod.mk.injEq] at h
    obtain ⟨rfl, rfl⟩ := h
    clear Hcb HR1 HS0
    subst hW0
    go_enter Try.func14, Try.ntmps14
    go_wp2_with (go_at_call 22; refine HA.out.mono ?_; rintro e w1 ⟨rfl, hb1⟩; have HB1 := Aside0.mk hb1; clear hb1)
    go_ret2
    exact ⟨_, rfl, R_nil_ _ _ _ _, below_then HB0.out HB0.out.size HB1.out⟩
  | true =>
    rw [if_pos rfl] at h
    obtain ⟨o, ho, h⟩ := Option.bind_eq_some_iff.mp h
    by_cases hg : 1 ≤ l0.length ∧ l0.length ≤ 9 ∧ o.length = l0.length ∧ (o.all fun x => decide (0 ≤ x ∧ x < (l0.length : Int))) = true
    case neg => rw [if_neg hg] at h; cases h
    rw [if_pos hg] at h
    obtain ⟨pl, hpl, h⟩ := Option.bind_eq_some_iff.mp h
    by_cases hg2 : pl.1.length = l0.length
    case neg => rw [if_neg hg2] at h; cases h
    rw [if_pos hg2] at h
    obtain ⟨r, hr, h⟩ := Option.bind_eq_some_iff.mp h
    simp only [Option.some.injEq, Prod.mk.injEq] at h
    obtain ⟨rfl, rfl⟩ := h
    obtain ⟨g1, g9, go, gall⟩ := hg
    have hmo : ∀ x ∈ o, 0 ≤ x ∧ x < (l0.length : Int) := fun x hx => by have := List.all_eq_true.1 gall x hx; simpa using this
    obtain ⟨ys, hys⟩ : ∃ ys, ys = sortI (gfC l0) (o.length - 1) 1 o := ⟨_, rfl⟩
    have hyl : ys.length = l0.length := by rw [hys, sortI_len, go]
    have hym : ∀ x ∈ ys, 0 ≤ x ∧ x < (l0.length : Int) := by rw [hys]; exact sortI_mem (gfC l0) _ (o.length - 1) 1 o (by omega) hmo
    rw [← hys] at hpl hr
    obtain ⟨pl1, pl2⟩ := pl
    replace hg2 : pl1.length = l0.length := hg2
    have HU := Aside0.mk (fun (W : World) => impl_upTo.calls k (l0.length : Int) o W ho)
    have Hmo := Aside0.mk hmo
    have Hys := Aside0.mk hys
    have Hym := Aside0.mk hym
    have Hyl := Aside0.mk hyl
    have Hpl := Aside0.mk hpl
    have Hr := Aside0.mk hr
    have Hg2 := Aside0.mk hg2
    have Hgo := Aside0.mk go
    have hz0 : (0 : Int) ≤ (l0.length : Int) := Int.natCast_nonneg _
    clear hmo hys hym hyl hpl hr hg2 ho gall go
    subst hW0
    go_enter Try.func14, Try.ntmps14
    go_wp2_with (first
      | (go_at_call 22; (with_reducible refine HA.out.mono ?_); rintro e w1 ⟨rfl, hb1⟩; replace hcb := pw_cell_below hb1 hcb; have HB1 := Aside0.mk hb1; clear hb1)
      | (go_at_call 23; (with_reducible refine (HU.out w1).mono ?_); rintro e w2 ⟨v6, rfl, ho2, hb2⟩; replace hcb := pw_cell_below hb2 hcb; obtain ⟨g, c6, e6, gb6, gl6, _⟩ := Kd.R_form ho2 (by have := Hgo.out; omega); subst e6; have HO2 := Aside0.mk ho2; have HB2 := Aside0.mk hb2; have GB6 := Aside0.mk gb6; clear ho2 hb2 gb6 gl6)
      | (go_at_call 24; refine (sortStable_int 25 #[.pointer (some ⟨w.heap.size, 0, none⟩)] (entersOf Try.func25 (by kernel_rfl) rfl) (gfC l0) (fun x => 0 ≤ x ∧ x < (l0.length : Int)) (ThI w.heap.size A0 c0 l0) w1.heap.size g c6 ?sI (gf_cmp w.heap.size A0 c0 l0) w2 o Hmo.out ?s1 ?s2 HO2.out ?sC).mono ?_; (case sI => (rintro W W' ⟨i1, i2⟩ hm; exact ⟨hm.cell i1 (fun hs => by have h1 : w.heap.size = g := hs; have := GB6.out; have := HB1.out.size; have := HS0.out; omega), C_mod i2 hm (fun ad ha hn hs => by subst ha; have h1 : ad.block = g := hs; have h2 := C_block_lt HR1.out (by omega); have := GB6.out; have := HB1.out.size; omega)⟩)); (case s1 => (have := Hgo.out; omega)); (case s2 => (have := Hgo.out; omega)); (case sC => exact ⟨hcb, C_below (Kd.heap_int _) (C_below (Kd.heap_int _) HR1.out HB1.out) HB2.out⟩); rintro e w3 ⟨rfl, ho3, hm3⟩; have HO3 := Aside0.mk ho3; have HM3 := Aside0.mk hm3; clear ho3 hm3)
      | ((with_reducible refine gate_dst (N := 25) rfl ?_); refine Kd.R_lit (Kd.int .i64) _ 3 ?hg (N := 25) ?hd (xs := ([] : List Int)) (inner := []) (ok := fun _ => True) (okp := fun _ => True) ?hr ?hp (fun _ hk => hk) trivial (Below.refl _ _) (Nat.le_refl _) (by simp) ?_; (case hd => rfl); (case hg => rfl); (case hr => first | (go_simp; done) | (go_simp; rfl)); (case hp => exact (Reps.none _ _)); intro v25 w4 ho4 hb4 hg4 hn4; have HO4 := Aside0.mk ho4; have HB4 := Aside0.mk hb4; clear ho4 hb4 hg4 hn4))
    have HrO : Aside0 (Kd.C (Kd.int .i64) w3 (some ⟨g, 0, none⟩) ys.length ys) := ⟨by have h := (Kd.R_reads' HO3.out).2.2; rw [← Hys.out] at h; exact h⟩
    have HT3 : Aside0 (ThI w.heap.size A0 c0 l0 w3) := ⟨by
      have i1 : w2.cell? ⟨w.heap.size, 0, none⟩ = some (.slice A0 l0.length c0) := hcb
      have i2 : Kd.C (Kd.int .i64) w2 A0 l0.length l0 := C_below (Kd.heap_int _) (C_below (Kd.heap_int _) HR1.out HB1.out) HB2.out
      exact ⟨HM3.out.cell i1 (fun hs => by have h1 : w.heap.size = g := hs; have := GB6.out; have := HB1.out.size; have := HS0.out; omega), C_mod i2 HM3.out (fun ad ha hn hs => by subst ha; have h1 : ad.block = g := hs; have h2 := C_block_lt HR1.out (by omega); have := GB6.out; have := HB1.out.size; omega)⟩⟩
    have HB3 : Aside0 (Below w.heap.size w w3) := ⟨below_then HB0.out HB0.out.size (below_then HB1.out HB1.out.size (HB2.out.trans (HM3.out.belowB (B := w1.heap.size) HB2.out.size (fun k hk => by have h1 : k = g := hk; have := GB6.out; omega))))⟩
    clear hcb HO2 HO3 HB2 HM3 HU HA
    go_loopg [7, 28] l0.length (fun gk v7 v28 wr => ∃ (kk : Nat) (sz : List Int), kk ≤ l0.length ∧ l0.length - kk ≤ gk ∧ v28 = .int .i64 kk ∧ Aside0 (Kd.R (Kd.int .i64) 3 wr w3.heap.size (fun _ => True) v7 sz) ∧ Aside0 (Below w3.heap.size w3 wr) ∧ Aside0 (sz = (ys.map (rd l0)).take kk))
    case atStart => exact ⟨0, [], Nat.zero_le _, by omega, by go_num, HO4, HB4, ⟨rfl⟩⟩
    case round =>
      obtain ⟨kk, sz, hkk, hgk, rfl, HZ, HB, HV⟩ := hrel
      by_cases hlt : kk < l0.length
      · have hltz : (kk : Int) < (l0.length : Int) := by omega
        have hlto : (kk : Int) < (o.length : Int) := by have := Hgo.out; omega
        have hk0 : (0 : Int) ≤ kk := Int.natCast_nonneg _
        have hlyn : kk < ys.length := by have := Hyl.out; omega
        obtain ⟨ad, e1, hx⟩ := Kd.at_int HrO.out (kk : Int) hk0 (by omega)
        injection e1 with e1
        subst e1
        rw [Int.toNat_natCast] at hx
        simp only [add_plain] at hx
        replace hx := (HB.out.cell (World.block_lt_of_cell? _ _ hx)).trans hx
        obtain ⟨x, hxe⟩ : ∃ x, x = rd ys (kk : Int) := ⟨_, rfl⟩
        have hxb := Hym.out _ (rd_mem hlyn)
        rw [← hxe] at hx hxb
        obtain ⟨hx0, hx1⟩ := hxb
        obtain ⟨ad2, e2, ht⟩ := Kd.at_int HT3.out.2 x hx0 hx1
        replace ht := (HB.out.cell (World.block_lt_of_cell? _ _ ht)).trans ht
        have hbx := pw_cell_below HB.out HT3.out.1
        rw [e2] at hbx
        obtain ⟨y, hye⟩ : ∃ y, y = rd l0 x := ⟨_, rfl⟩
        rw [← hye] at ht
        obtain ⟨sz2, hsz2⟩ : ∃ s, s = sz ++ [y] := ⟨_, rfl⟩
        have HV2 : Aside0 (sz2 = (ys.map (rd l0)).take (kk + 1)) := ⟨by
          rw [hsz2, HV.out, List.take_succ_eq_append_getElem (by rw [List.length_map]; exact hlyn), List.getElem_map, hye, hxe]
          simp [rd, List.getD_eq_getElem?_getD, List.getElem?_eq_getElem hlyn]⟩
        have Hsz2 := Aside0.mk hsz2
        have HLs : Aside0 (sz.length ≤ 9) := ⟨by rw [HV.out]; simp; omega⟩
        clear hxe hye hsz2 e2
        go_wp2_with ((with_reducible refine gate_builtin (b := .append) (xs := #[.tmp 32, .tmp 37]) rfl ?_); at_builtin; refine Kd.R_append (Kd.int .i64) (w0 := w3) w3.heap.size rfl (.tmp 32) (.tmp 37) 22 3 (.int .i64 0) 8 rfl Try.underlying22 info3 rfl (by decide) (by omega) u7 sz y [.int .i64 y] (fun _ => True) (fun _ => False) rfl rfl ?bP (fun _ hk => hk.elim) ?bF ?bO ?bB ?bS ?bL ?_; (case bP => exact rfl); (case bB => first | exact HB.out | exact below_alloc' HB.out _ HB.out.size); (case bF => exact fun _ _ => trivial); (case bO => first | exact HZ.out | exact Kd.R_alloc HZ.out _); (case bS => first | exact HB.out.size | exact (below_alloc' HB.out _ HB.out.size).size); (case bL => have := HLs.out; omega); intro v38 w5 ho hb hg hat; rw [← Hsz2.out] at ho; have HZ5 := Aside0.mk ho; have HB5 := Aside0.mk hb; clear ho hb hg hat)
        go_roundg (l0.length - (kk + 1))
        case measure => omega
        case rel => exact ⟨kk + 1, sz2, by omega, by omega, by go_num, HZ5, HB5, HV2⟩
      · obtain rfl : kk = l0.length := by omega
        have hlto : ¬ (l0.length : Int) < (o.length : Int) := by have := Hgo.out; omega
        have hltz : ¬ (l0.length : Int) < (l0.length : Int) := by omega
        have Hsz : Aside0 (sz = ys.map (rd l0)) := ⟨by rw [HV.out, List.take_of_length_le (by rw [List.length_map]; have := Hyl.out; omega)]⟩
        obtain ⟨A7, c7, e7, hc7, hr7⟩ := Kd.R_reads HZ.out
        subst e7
        have HF := Aside0.mk (impl_FirstFit.calls k A7 c7 sz a1 pl1 pl2 wr hr7 hc7 (by rw [Hsz.out]; exact Hpl.out))
        have hbx := pw_cell_below HB.out HT3.out.1
        clear hr7
        go_wp2_with (first
          | (go_at_call 26; (with_reducible refine HF.out.mono ?_); rintro e w5 ⟨v43, rfl, ho5, hb5⟩; obtain ⟨A9, c9, e9, hc9, hr9⟩ := Kd.R_reads ho5; subst e9; have HP5 := Aside0.mk hr9; have HB5 : Aside0 (Below w3.heap.size w3 w5) := ⟨HB.out.trans (hb5.mono HB.out.size)⟩; replace hbx := pw_cell_below hb5 hbx; clear ho5 hb5 hr9)
          | ((with_reducible refine gate_dst (N := 48) rfl ?_); refine Kd.R_make (Kd.int .i64) _ 3 rfl (N := 48) rfl 22 _ _ rfl (l0.length : Int) rfl rfl Try.underlying22 (.int .i64 0) 8 info3 rfl (by decide) (by omega) 0 (ok := fun _ => True) (okp := fun _ => True) rfl (fun _ hk => hk) trivial hz0 (by rw [Int.toNat_natCast]; omega) (Below.refl _ _) (Nat.le_refl _) ?_; intro v48 w6 ho6 hb6 hg6 hn6; rw [Int.toNat_natCast] at ho6; obtain ⟨g2, c12, e12, gb12, gl12, _⟩ := Kd.R_form ho6 (by rw [List.length_replicate]; exact g1); rw [List.length_replicate] at e12; subst e12; have HO6 := Aside0.mk ho6; have HB6 := Aside0.mk hb6; have GB12 := Aside0.mk gb12; clear ho6 hb6 hg6 hn6 gb12 gl12))
        obtain ⟨ad9, e9, _⟩ := Kd.at_int HP5.out 0 (Int.le_refl _) (by have := Hg2.out; omega)
        subst e9
        clear HF hbx hc9
        go_loopg [51] l0.length (fun gk v51 wr2 => ∃ (kk : Nat) (out : List Int), kk ≤ l0.length ∧ l0.length - kk ≤ gk ∧ v51 = .int .i64 kk ∧ Aside0 (out.length = l0.length) ∧ Aside0 (Kd.R (Kd.int .i64) 3 wr2 w5.heap.size (fun _ => True) (.slice (some ⟨g2, 0, none⟩) l0.length c12) out) ∧ Aside0 (Below w5.heap.size w5 wr2) ∧ Aside0 (placeF ys pl1 (List.replicate l0.length 0) = placeF (ys.drop kk) (pl1.drop kk) out))
        case atStart => exact ⟨0, List.replicate l0.length 0, Nat.zero_le _, by omega, by go_num, ⟨by simp⟩, HO6, HB6, ⟨rfl⟩⟩
        case round =>
          obtain ⟨kk, out, hkk, hgk2, rfl, HLo, HOu, HBr, HVp⟩ := hrel
          by_cases hlt2 : kk < l0.length
          · have hltz2 : (kk : Int) < (l0.length : Int) := by omega
            have hlto2 : (kk : Int) < (o.length : Int) := by have := Hgo.out; omega
            have hltp : (kk : Int) < (pl1.length : Int) := by have := Hg2.out; omega
            have hk0 : (0 : Int) ≤ kk := Int.natCast_nonneg _
            have hlyn : kk < ys.length := by have := Hyl.out; omega
            have hlpn : kk < pl1.length := by omega
            obtain ⟨ad, e1, hx⟩ := Kd.at_int HrO.out (kk : Int) hk0 (by omega)
            injection e1 with e1
            subst e1
            rw [Int.toNat_natCast] at hx
            simp only [add_plain] at hx
            replace hx := (HB5.out.cell (World.block_lt_of_cell? _ _ hx)).trans hx
            replace hx := (HBr.out.cell (World.block_lt_of_cell? _ _ hx)).trans hx
            obtain ⟨x, hxe⟩ : ∃ x, x = rd ys (kk : Int) := ⟨_, rfl⟩
            have hxb := Hym.out _ (rd_mem hlyn)
            rw [← hxe] at hx hxb
            obtain ⟨hx0, hx1⟩ := hxb
            obtain ⟨ad', e2, hp⟩ := Kd.at_int HP5.out (kk : Int) hk0 hltp
            obtain rfl : ad9 = ad' := by injection e2
            rw [Int.toNat_natCast] at hp
            replace hp := (HBr.out.cell (World.block_lt_of_cell? _ _ hp)).trans hp
            obtain ⟨pp, hpe⟩ : ∃ pp, pp = rd pl1 (kk : Int) := ⟨_, rfl⟩
            rw [← hpe] at hp
            obtain ⟨hx8, hf8⟩ := Kd.R_celln 0 HOu.out x hx0 hx1
            obtain ⟨out2, hout2⟩ : ∃ out2, out2 = out.set x.toNat pp := ⟨_, rfl⟩
            have HQ8 : Aside0 (Kd.R (Kd.int .i64) 3 (wr.setCell ⟨g2, x.toNat, none⟩ (.int .i64 pp)) w5.heap.size (fun _ => True) (.slice (some ⟨g2, 0, none⟩) l0.length c12) out2) := ⟨by rw [hout2]; exact Kd.R_putn HOu.out x pp⟩
            have HVp2 : Aside0 (placeF ys pl1 (List.replicate l0.length 0) = placeF (ys.drop (kk + 1)) (pl1.drop (kk + 1)) out2) := ⟨by rw [HVp.out, drop_rd' hlyn, drop_rd' hlpn, placeF, hout2, hxe, hpe]⟩
            have HLo2 : Aside0 (out2.length = l0.length) := ⟨by rw [hout2, List.length_set]; exact HLo.out⟩
            clear hxe hpe hout2 e2
            go_wp2_with ((with_reducible refine gate_store (t := 3) (p := 62) rfl ?_); refine store_event (t := 3) (p := 62) (v := ?vo_1) (w1 := (wr.setCell ⟨g2, x.toNat, none⟩ (.int .i64 pp))) ?hg ?ho ?hn ?hr ?_; (case ho => rfl); (case hg => rfl); (case hn => rfl); (case hr => first | (go_simp; done) | (go_simp; rfl)); intro w7 hw; have HOu7 : Aside0 (Kd.R (Kd.int .i64) 3 w7 w5.heap.size (fun _ => True) (.slice (some ⟨g2, 0, none⟩) l0.length c12) out2) := ⟨by rw [hw]; exact HQ8.out⟩; have HB7 : Aside0 (Below w5.heap.size w5 w7) := ⟨by rw [hw]; exact below_set HBr.out GB12.out⟩; clear hw)
            go_roundg (l0.length - (kk + 1))
            case measure => omega
            case rel => exact ⟨kk + 1, out2, by omega, by omega, by go_num, HLo2, HOu7, HB7, HVp2⟩
          · obtain rfl : kk = l0.length := by omega
            have hlto2 : ¬ (l0.length : Int) < (o.length : Int) := by have := Hgo.out; omega
            have hltz2 : ¬ (l0.length : Int) < (l0.length : Int) := by omega
            have HN := Aside0.mk (fun (hc : out.length ≤ c12) => impl_named.calls k (some ⟨g2, 0, none⟩) c12 out r wr (Kd.R_reads' HOu.out).2.2 hc (by have h1 := Hr.out; rw [HVp.out, List.drop_of_length_le (by have := Hyl.out; omega)] at h1; exact h1))
            have hcap : out.length ≤ c12 := by have h1 := (Kd.R_reads' HOu.out).2.1; have := HLo.out; omega
            have HN2 := Aside0.mk (HN.out hcap)
            rw [HLo.out] at HN2
            clear HN hcap
            go_wp2_with (go_at_call 27; (with_reducible refine HN2.out.mono ?_); rintro e w8 ⟨v65, rfl, ho8, hb8⟩; have HO8 := Aside0.mk ho8; have HB8 := Aside0.mk hb8; clear ho8 hb8)
            go_ret2
            have hs3 : w.heap.size ≤ w3.heap.size := HB3.out.size
            have hs5 : w3.heap.size ≤ w5.heap.size := HB5.out.size
            have hsr : w5.heap.size ≤ wr.heap.size := HBr.out.size
            exact ⟨_, rfl, Kd.R_lower HO8.out (by omega), HB3.out.trans ((HB5.out.mono hs3).trans ((HBr.out.mono (by omega)).trans (HB8.out.mono (by omega))))⟩


end Go.Proofs.Ytchbjdoneanhpaa.P
