/- The walk of ParseBooks. Conditions: the table of Itoa and the errors of Atoi lie as the program lays them. -/
import Derived.Test.YtecpcbkoemhclaaDoorPx0
import Derived.Test.YtecpcbkoemhclaaDoorPx1
import Derived.Test.YtecpcbkoemhclaaDoorPx6
import Derived.Test.YtecpcbkoemhclaaDoorPx10
import Derived.Test.YtecpcbkoemhclaaDoorPx12
import Derived.Test.YtecpcbkoemhclaaDoorPx13
import Derived.Test.YtecpcbkoemhclaaDoorPx17
import Derived.Test.YtecpcbkoemhclaaDoorPx20
import Derived.Test.YtecpcbkoemhclaaDoorPBb
namespace Go.Proofs.YtecpcbkoemhclaaDoor.P
open Go.RowKit Go.Proofs.YtecpcbkoemhclaaDoorW.PrintWords Go.Proofs.YtecpcbkoemhclaaDoorW.PrintLast Go.Proofs.YtecpcbkoemhclaaDoorW.PrintMore
attribute [local go_sem] max2_int min2_int max_two min_two max_three min_three max_four min_four
set_option linter.unusedVariables false
set_option linter.unusedSimpArgs false
/-- The pairs of a list. -/
def pairB : List Int → List S48
  | a :: b :: r => ⟨a, b⟩ :: pairB r
  | _ => []
def barP (x : Nat) : Bool := decide (x = 124) || decide (x = 44)
/-- What ParseBooks answers, AreBooks being g, the text of books tx. -/
def pbV (g : List S48 → Bool) (tx : List S48 → ByteArray) (s : ByteArray) : List S48 × Bool :=
  match numsF 100 (Lib.goFieldsP barP s) with
  | none => ([], false)
  | some l => if l.length % 2 = 0 then (if g (pairB l) = true then (if tx (pairB l) = s then (pairB l, true) else ([], false)) else ([], false)) else ([], false)
theorem bksOf_all (ll : List Int) : ∀ (m : Nat) (ys : List ({ k : Nat // k < m })), ys.map (·.1) = List.range m → bksOf ll ys = (List.range m).map (bkAt ll) := by
  intro m ys h
  rw [← h, List.map_map]
  rfl
theorem pairB_eq : ∀ (m : Nat) (l : List Int), l.length = 2 * m → (List.range m).map (bkAt l) = pairB l := by
  intro m
  induction m with
  | zero =>
    intro l h
    obtain rfl := List.eq_nil_of_length_eq_zero (show l.length = 0 by omega)
    rfl
  | succ m ih =>
    intro l h
    match l, h with
    | a :: b :: r, h =>
      rw [List.range_succ_eq_map, List.map_cons, List.map_map]
      show bkAt (a :: b :: r) 0 :: _ = ⟨a, b⟩ :: pairB r
      rw [← ih r (by simp only [List.length_cons] at h; omega)]
      refine congrArg (List.cons _) (List.map_congr_left (fun k _ => ?_))
      simp only [Function.comp, bkAt, rd]
      have e1 : (2 * ((k + 1 : Nat) : Int)).toNat = (2 * (k : Int)).toNat + 1 + 1 := by omega
      have e2 : (2 * ((k + 1 : Nat) : Int) + 1).toNat = (2 * (k : Int) + 1).toNat + 1 + 1 := by omega
      rw [show k.succ = k + 1 from rfl, e1, e2, List.getD_cons_succ, List.getD_cons_succ, List.getD_cons_succ, List.getD_cons_succ]
/-- Cells that are books, as a row of one's own. -/
theorem R_of_flat {w : World} {base : Nat} {v : Value} {xs : List S48} (h : w.ownsRow base 48 2 v xs.length (flatB xs)) : Kd.R k48 48 w base (fun _ => True) v xs :=
  ⟨fun _ _ => trivial, flatB xs, h, (flatB_reps xs).imp_ (fun _ _ hp => by rw [hp]; exact k48_mkM _ _ _ _)⟩
theorem pbV_none {g : List S48 → Bool} {tx : List S48 → ByteArray} {s : ByteArray} (h : numsF 100 (Lib.goFieldsP barP s) = none) : pbV g tx s = ([], false) := by unfold pbV; rw [h]
theorem pbV_odd {g : List S48 → Bool} {tx : List S48 → ByteArray} {s : ByteArray} {l : List Int} (h : numsF 100 (Lib.goFieldsP barP s) = some l) (ho : ¬ l.length % 2 = 0) : pbV g tx s = ([], false) := by unfold pbV; rw [h]; exact if_neg ho
theorem pbV_even {g : List S48 → Bool} {tx : List S48 → ByteArray} {s : ByteArray} {l : List Int} (h : numsF 100 (Lib.goFieldsP barP s) = some l) (ho : l.length % 2 = 0) : pbV g tx s = if g (pairB l) = true then (if tx (pairB l) = s then (pairB l, true) else ([], false)) else ([], false) := by unfold pbV; rw [h]; exact if_pos ho
set_option maxRecDepth 100000 in
set_option maxHeartbeats 16000000 in
theorem pb_early (g : List S48 → Bool) (tx : List S48 → ByteArray) (s : ByteArray) (hs : s.size ≤ 1048576) (w : World) (ht : Pow10 w) (he : ErrsIn w) (hno : ∀ l, numsF 100 (Lib.goFieldsP barP s) = some l → ¬ l.length % 2 = 0) :
    Calls Tryd.prog 13 #[.string s] w fun e w' => ∃ v0_ : Value, e = .returned (.tuple #[v0_, .bool (pbV g tx s).2]) ∧ Kd.R k48 48 w' w.heap.size (fun _ => True) v0_ (pbV g tx s).1 ∧ Below w.heap.size w w' := by
  have T := Aside0.mk (numbers_calls s ⟨#[124, 44]⟩ 100 barP hs w (fun bx W hc => predBar bx W hc) ht he)
  cases hn : numsF 100 (Lib.goFieldsP barP s) with
  | none =>
    rw [pbV_none hn]
    rw [hn] at T
    clear hn hs ht he hno
    go_enter Tryd.func13, Tryd.ntmps13
    go_wp2_with (go_at_call 25; refine T.out.mono ?_; rintro e w1 ⟨v1, rfl, hr, hb⟩; have HB := Aside0.mk hb; clear hb hr)
    go_ret2
    exact ⟨_, rfl, Kd.R_nil _ _ _ _ _, HB.out⟩
  | some l =>
    have ho := hno l hn
    rw [pbV_odd hn ho]
    rw [hn] at T
    have hrem : Int.tmod (l.length : Int) 2 = 1 := by rw [Int.tmod_eq_emod_of_nonneg (by omega)]; omega
    clear hn hs ht he hno ho
    go_enter Tryd.func13, Tryd.ntmps13
    go_wp2_with (go_at_call 25; refine T.out.mono ?_; rintro e w1 ⟨v1, rfl, hr, hb⟩; obtain ⟨A1, c1, rfl, hc1, hC1⟩ := Kd.R_reads hr; have HB := Aside0.mk hb; clear hb hr hC1 hc1)
    go_ret2
    exact ⟨_, rfl, Kd.R_nil _ _ _ _ _, HB.out⟩
attribute [local go_sem] Oper.semAt_some
theorem Kd_own_below {w w' : World} {base : Nat} {e : TypeId} {size n : Nat} {v : Value} {xs : List Value} (h : w.ownsRow base e size v n xs) (hb : Below w.heap.size w w') : w'.ownsRow base e size v n xs := own_move h (fun k hk => by
  obtain ⟨cells, hc⟩ := own_typed h k hk
  exact hb.block k (blk_lt hc))
set_option maxRecDepth 100000 in
set_option maxHeartbeats 16000000 in
theorem pb_even (g : List S48 → Bool) (tx : List S48 → ByteArray) (kk : Nat) (hg : ∀ l, impl_AreBooks.f l = some (g l)) (s : ByteArray) (hs : s.size ≤ 1048576) (w : World) (ht : Pow10 w) (he : ErrsIn w) (l : List Int) (hn : numsF 100 (Lib.goFieldsP barP s) = some l) (m : Nat) (hl : l.length = 2 * m) (hm : m ≤ 1000000) (hgb : g (pairB l) = true → impl_booksText.f kk (pairB l) = some (tx (pairB l))) :
    Calls Tryd.prog 13 #[.string s] w fun e w' => ∃ v0_ : Value, e = .returned (.tuple #[v0_, .bool (pbV g tx s).2]) ∧ Kd.R k48 48 w' w.heap.size (fun _ => True) v0_ (pbV g tx s).1 ∧ Below w.heap.size w w' := by
  have T : Aside0 (Calls Tryd.prog 25 #[.string s, .string ⟨#[124, 44]⟩, .int .i64 100] w fun e w' => ∃ v0_ : Value, e = .returned (.tuple #[v0_, .bool true]) ∧ Kd.R (Kd.int .i64) 3 w' w.heap.size (fun _ => True) v0_ l ∧ Below w.heap.size w w') := ⟨by
    have h := numbers_calls s ⟨#[124, 44]⟩ 100 barP hs w (fun bx W hc => predBar bx W hc) ht he
    rw [hn] at h
    exact h⟩
  have hV := pbV_even (g := g) (tx := tx) hn (by omega)
  have hrem : Int.tmod (2 * (m : Int)) 2 = 0 := by rw [Int.tmod_eq_emod_of_nonneg (by omega)]; omega
  have HL := Aside0.mk hl
  have Hm := Aside0.mk hm
  have HT := Aside0.mk ht
  have HV := Aside0.mk hV
  have Hg := Aside0.mk hg
  have Hgb := Aside0.mk hgb
  have hf1 : Fence.wide.fn 25 := trivial
  have hf2 : Fence.wide.fn 32 := trivial
  have hf3 : Fence.wide.fn 33 := trivial
  have hf4 : Fence.wide.fn 34 := trivial
  clear hn hs ht he hl hm hV hg hgb
  refine (callsIn_wide (n := 9)).1 ?_
  refine callsIn_of_wp_marks Tryd.func13 rfl trivial ?_ rfl
  simp only [Tryd.ntmps13, List.size_toArray, List.length_cons, List.length_nil, Nat.reduceAdd, Nat.reduceSub, Array.replicate_succ, Array.replicate_zero, List.push_toArray, List.append_toArray, List.nil_append, List.cons_append]
  gi_wp2_with (first
    | (gi_at_call 25; refine (callsIn_wide.2 T.out).mono ?_; rintro e w1 ⟨v1, rfl, hr, hb⟩; obtain ⟨A1, c1, hv1, hc1, hC1⟩ := Kd.R_reads hr; rw [HL.out] at hv1 hc1; subst hv1; have HR1 := Aside0.mk hr; have HB1 := Aside0.mk hb; have HC1 := Aside0.mk hC1; have Hc1 := Aside0.mk hc1; clear hr hb hC1 hc1)
    | (gi_at_call 32; refine (chunk_in Fence.wide 8 trivial rfl A1 (2 * m) c1 _).mono ?_; rintro e w2 ⟨rfl, rfl⟩))
  obtain ⟨g1, hA, hgl, hcell⟩ : ∃ g1, (0 < m → A1 = some ⟨g1, 0, none⟩) ∧ (0 < m → g1 < w1.heap.size) ∧ ∀ j : Nat, j < 2 * m → w1.cell? ⟨g1, j, none⟩ = some (.int .i64 (rd l j)) := by
    rcases Nat.eq_zero_or_pos m with h0 | h0
    · exact ⟨0, fun h => by omega, fun h => by omega, fun j hj => by omega⟩
    · have hlp : 0 < l.length := by rw [HL.out]; omega
      obtain ⟨g1, cap, e1, _, hlt, _⟩ := Kd.R_form HR1.out hlp
      have e2 : A1 = some ⟨g1, 0, none⟩ := by
        have h5 := e1
        injection h5
      refine ⟨g1, fun _ => e2, fun _ => hlt, fun j hj => ?_⟩
      obtain ⟨ad, e3, hx⟩ := Kd.at_int HC1.out (j : Int) (by omega) (by rw [HL.out]; omega)
      rw [e2] at e3
      obtain rfl := Option.some.inj e3
      rw [Int.toNat_natCast, add_plain] at hx
      exact hx
  obtain ⟨n₀, hn₀⟩ : ∃ n₀, n₀ = w1.heap.size := ⟨_, rfl⟩
  rw [← hn₀]
  have b1 := Boxed.new (w1.alloc (.cells #[] 48)) 28 (.slice (some ⟨w1.heap.size, 0, none⟩) 0 0)
  have b2 := Boxed.new ((w1.alloc (.cells #[] 48)).alloc (.cells #[.slice (some ⟨w1.heap.size, 0, none⟩) 0 0] 28)) 22 (.slice A1 (2 * m) c1)
  have b3 := Boxed.new (((w1.alloc (.cells #[] 48)).alloc (.cells #[.slice (some ⟨w1.heap.size, 0, none⟩) 0 0] 28)).alloc (.cells #[.slice A1 (2 * m) c1] 22)) 3 (.int .i64 2)
  have o0 : (w1.alloc (.cells #[] 48)).ownsRow w1.heap.size 48 2 (.slice (some ⟨w1.heap.size, 0, none⟩) 0 0) 0 [] := ⟨rfl, .inr ⟨w1.heap.size, 0, #[], rfl, Nat.le_refl _, heap_alloc_new _ _, Nat.le_refl _, by decide, rfl, rfl⟩⟩
  have o3 := ((o0.alloc (.cells #[.slice (some ⟨w1.heap.size, 0, none⟩) 0 0] 28)).alloc (.cells #[.slice A1 (2 * m) c1] 22)).alloc (.cells #[.int .i64 2] 3)
  simp only [World.size_alloc] at b1 b2 b3
  have b1' := (b1.alloc (.cells #[.slice A1 (2 * m) c1] 22)).alloc (.cells #[.int .i64 2] 3)
  have b2' := b2.alloc (.cells #[.int .i64 2] 3)
  have hB3 : Below w1.heap.size w1 ((((w1.alloc (.cells #[] 48)).alloc (.cells #[.slice (some ⟨w1.heap.size, 0, none⟩) 0 0] 28)).alloc (.cells #[.slice A1 (2 * m) c1] 22)).alloc (.cells #[.int .i64 2] 3)) := below_alloc (below_alloc (below_alloc (below_alloc (Below.refl _ w1) _) _) _) _
  obtain ⟨W3, hW3⟩ : ∃ W3, W3 = (((w1.alloc (.cells #[] 48)).alloc (.cells #[.slice (some ⟨w1.heap.size, 0, none⟩) 0 0] 28)).alloc (.cells #[.slice A1 (2 * m) c1] 22)).alloc (.cells #[.int .i64 2] 3) := ⟨_, rfl⟩
  have hs3 : W3.heap.size = w1.heap.size + 4 := by rw [hW3]; simp
  rw [← hW3] at b1' b2' b3 o3 hB3
  rw [← hn₀] at b1' b2' b3 o3 hB3 hs3 hgl hW3
  rw [← hW3]
  have hmm := Hm.out
  refine wpIn_rangeFunc_ownG rfl (by omega) (gf := 49) (lb := #[.pointer (some ⟨n₀ + 1 + 1, 0, none⟩), .pointer (some ⟨n₀ + 1 + 1 + 1, 0, none⟩)]) rfl trivial (enters_of Tryd.func49 (by kernel_rfl) rfl)
    (chunk_stops Fence.wide 8 trivial rfl (by omega) (n₀ + 1 + 1) (n₀ + 1 + 1 + 1) n₀ g1 m c1 A1 hA Hc1.out hmm W3 b2' b3) (fun h k => chKp_trans h k) (fun W q o o' hq ho hc hw => chKp_put W q o o' (by omega) ho hc hw) (Below.refl _ _) (fun _ => rfl)
    (pbI l n₀ (n₀ + 1) (n₀ + 1 + 1) (n₀ + 1 + 1 + 1) (.slice A1 (2 * m) c1) w1) (fun _ _ _ => False) (pbI_own (by omega) (by omega)) (fun _ _ _ _ _ hs _ _ => hs)
    ⟨⟨⟨_, b1', o3, trivial⟩, b2', b3⟩, hB3⟩
    (fun x => { tmps := #[.string s, undef, .slice none 0 0, .bool false, .slice A1 (2 * m) c1, .bool true, .pointer (some ⟨n₀ + 1, 0, none⟩), .slice (some ⟨g1, 2 * x.1, none⟩) 2 2, .tuple #[.slice A1 (2 * m) c1, .bool true], .string s, .tuple #[.slice A1 (2 * m) c1, .bool true], .slice A1 (2 * m) c1, .bool true, .bool true, .bool false, .bool false, .slice A1 (2 * m) c1, .int .i64 (2 * m), .int .i64 0, .bool false, .bool false, .slice (some ⟨n₀, 0, none⟩) 0 0, .slice A1 (2 * m) c1, .func (.func 49) #[] #[.pointer (some ⟨n₀ + 1 + 1, 0, none⟩), .pointer (some ⟨n₀ + 1 + 1 + 1, 0, none⟩)], .slice (some ⟨g1, 2 * x.1, none⟩) 2 2, undef, undef, undef, undef, undef, undef, undef, undef, undef, undef, undef, undef, undef, undef, undef, undef, undef, undef, undef, undef], defers := [] }) ?assign ?body ?done ?stop
  case assign =>
    intro q x W K hK
    clear hn₀ hW3 hs3
    dsimp only [chEnc]
    gi_wp2
    exact hK
  case body =>
    intro q pre x W hI hlt
    refine wpIn_block ?_
    refine wpIn_mono (pb_body (9 - 1 - 1) q l m g1 n₀ (n₀ + 1) (n₀ + 1 + 1) (n₀ + 1 + 1 + 1) W3.heap.size (.slice A1 (2 * m) c1) w1 pre x W (fun i => (#[.string s, undef, .slice none 0 0, .bool false, .slice A1 (2 * m) c1, .bool true, undef, undef, .tuple #[.slice A1 (2 * m) c1, .bool true], .string s, .tuple #[.slice A1 (2 * m) c1, .bool true], .slice A1 (2 * m) c1, .bool true, .bool true, .bool false, .bool false, .slice A1 (2 * m) c1, .int .i64 (2 * m), .int .i64 0, .bool false, .bool false, .slice (some ⟨n₀, 0, none⟩) 0 0, .slice A1 (2 * m) c1, .func (.func 49) #[] #[.pointer (some ⟨n₀ + 1 + 1, 0, none⟩), .pointer (some ⟨n₀ + 1 + 1 + 1, 0, none⟩)], .slice (some ⟨g1, 2 * x.1, none⟩) 2 2] : Array Value).getD i.1 undef) hmm hn₀ (hgl (by have := x.2; omega)) hcell (by omega) (by omega) (by omega) hI hlt _ rfl) ?_
    intro e a W' h
    cases e with
    | normal => exact h
    | ret => exact h
    | exit id => exact h.2.elim
    | goto t => exact h
    | panic c => exact h
    | outgrown => exact h
  case done =>
    intro D ys W hD hys hI hK
    obtain ⟨⟨⟨v, hv, hrow, _⟩, _, _⟩, hBW⟩ := hI
    have hbk : bksOf l ys = pairB l := (bksOf_all l m ys hys).trans (pairB_eq m l HL.out)
    have hyl : ys.length = (pairB l).length := by rw [← hbk]; simp [bksOf]
    rw [hbk, hyl] at hrow
    have hRb := R_of_flat hrow
    obtain ⟨A5, c5, e5, hc5, hC5⟩ := Kd.R_reads hRb
    subst e5
    have hc := hv.cell
    have HRow := Aside0.mk hrow
    have HBW : Aside0 (Below w.heap.size w W) := ⟨HB1.out.trans (hBW.mono (by rw [hn₀]; exact HB1.out.size))⟩
    have HK := Aside0.mk hK
    have HDl : Aside0 (n₀ ≤ D) := ⟨by omega⟩
    have Hn₀ := Aside0.mk hn₀
    have HA := Aside0.mk (impl_AreBooks.calls A5 c5 (pairB l) (g (pairB l)) W hC5 hc5 (Hg.out _))
    have HC5 := Aside0.mk hC5
    have Hc5 := Aside0.mk hc5
    have hVV := HV.out
    clear hv hrow hbk hyl hRb hC5 hc5 hBW hK hD hn₀ hW3 hs3 hB3 o3 b1' b2' b3 b1 b2 o0 hcell hgl hA hys
    by_cases q1 : g (pairB l) = true
    · rw [if_pos q1] at hVV
      rw [q1] at HA
      have TB := Aside0.mk (fun (W' : World) (hb : Below W.heap.size W W') => impl_booksText.calls kk A5 c5 (pairB l) (tx (pairB l)) W' (pow10_below HT.out (below_then HBW.out HBW.out.size hb) (Nat.le_refl _)) (Kd.C_below HC5.out hb) Hc5.out (Hgb.out q1))
      clear q1
      by_cases q2 : tx (pairB l) = s
      · rw [if_pos q2] at hVV
        have HVV := Aside0.mk hVV
        clear hVV
        subst q2
        gi_wp2_with (first
          | (gi_at_call 33; refine (callsIn_wide.2 HA.out).mono ?_; rintro e w4 ⟨rfl, hb4⟩; replace hc := pw_cell_below hb4 hc; have HB4 := Aside0.mk hb4; clear hb4)
          | (gi_at_call 34; refine (callsIn_wide.2 (TB.out w4 HB4.out)).mono ?_; rintro e w5 ⟨rfl, hb5⟩; replace hc := pw_cell_below hb5 hc; have HB5 := Aside0.mk (below_then HB4.out HB4.out.size hb5); clear hb5))
        have hD5 : w5.heap[D]? = some (.deferred (some [])) := (HB5.out.block D (blk_lt HK.out)).trans HK.out
        refine ⟨by simp, .inl ⟨_, _, rfl, run_takeDeferred hD5, ?_⟩⟩
        refine ⟨_, results_tmp2 rfl _ _ _, .slice A5 (pairB l).length c5, ?_, ?_, (below_then HBW.out HBW.out.size HB5.out).trans (belowK_b (w := w) (Nat.le_refl _) w5 D _ _ (by have := HDl.out; have := Hn₀.out; have := HB1.out.size; omega) hD5 rfl rfl)⟩
        · rw [HVV.out]; rfl
        · rw [HVV.out]
          have h5 := ownsRow_putObj (Kd_own_below HRow.out HB5.out) (.deferred none) hD5 rfl
          exact Kd.R_lower (R_of_flat h5) (by have := Hn₀.out; have := HB1.out.size; omega)
      · rw [if_neg q2] at hVV
        have HVV := Aside0.mk hVV
        have hne : ¬ (tx (pairB l)).toList = s.toList := fun h => q2 (ba_inj h)
        have e1 : decide ((tx (pairB l)).toList = s.toList) = false := decide_eq_false hne
        have e2 : ((tx (pairB l)).toList == s.toList) = false := beq_eq_false_iff_ne.2 hne
        have e3 : ((tx (pairB l)).toList = s.toList) = False := eq_false hne
        clear hVV q2 hne
        gi_wp2_with (first
          | (gi_at_call 33; refine (callsIn_wide.2 HA.out).mono ?_; rintro e w4 ⟨rfl, hb4⟩; replace hc := pw_cell_below hb4 hc; have HB4 := Aside0.mk hb4; clear hb4)
          | (gi_at_call 34; refine (callsIn_wide.2 (TB.out w4 HB4.out)).mono ?_; rintro e w5 ⟨rfl, hb5⟩; replace hc := pw_cell_below hb5 hc; have HB5 := Aside0.mk (below_then HB4.out HB4.out.size hb5); clear hb5))
        have hD5 : w5.heap[D]? = some (.deferred (some [])) := (HB5.out.block D (blk_lt HK.out)).trans HK.out
        refine ⟨by simp, .inl ⟨_, _, rfl, run_takeDeferred hD5, ?_⟩⟩
        refine ⟨_, results_tmp2 rfl _ _ _, .slice none 0 0, ?_, ?_, (below_then HBW.out HBW.out.size HB5.out).trans (belowK_b (w := w) (Nat.le_refl _) w5 D _ _ (by have := HDl.out; have := Hn₀.out; have := HB1.out.size; omega) hD5 rfl rfl)⟩
        · rw [HVV.out]; rfl
        · rw [HVV.out]; exact Kd.R_nil _ _ _ _ _
    · rw [if_neg q1] at hVV
      have HVV := Aside0.mk hVV
      rw [Bool.eq_false_iff.mpr q1] at HA
      clear hVV q1
      gi_wp2_with (gi_at_call 33; refine (callsIn_wide.2 HA.out).mono ?_; rintro e w4 ⟨rfl, hb4⟩; replace hc := pw_cell_below hb4 hc; have HB4 := Aside0.mk hb4; clear hb4)
      have hD5 : w4.heap[D]? = some (.deferred (some [])) := (HB4.out.block D (blk_lt HK.out)).trans HK.out
      refine ⟨by simp, .inl ⟨_, _, rfl, run_takeDeferred hD5, ?_⟩⟩
      refine ⟨_, results_tmp2 rfl _ _ _, .slice none 0 0, ?_, ?_, (below_then HBW.out HBW.out.size HB4.out).trans (belowK_b (w := w) (Nat.le_refl _) w4 D _ _ (by have := HDl.out; have := Hn₀.out; have := HB1.out.size; omega) hD5 rfl rfl)⟩
      · rw [HVV.out]; rfl
      · rw [HVV.out]; exact Kd.R_nil _ _ _ _ _
  case stop =>
    rintro D c pre W _ _ h _
    exact h.elim
end Go.Proofs.YtecpcbkoemhclaaDoor.P
