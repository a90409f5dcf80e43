-- Laid by wip/myprint.py of this project (a wrapper over the kit's print.py); Lean checks it.
import Derived.Test.YthdfkgehgkfffaaPx0
import Derived.Test.YthdfkgehgkfffaaPx1
import Derived.Test.YthdfkgehgkfffaaPx7
import Derived.Test.YthdfkgehgkfffaaPx17
namespace Go.Proofs.Ythdfkgehgkfffaa.P
open Go.RowKit Go.Proofs.YthdfkgehgkfffaaW.PrintWords Go.Proofs.YthdfkgehgkfffaaW.PrintLast Go.Proofs.YthdfkgehgkfffaaW.PrintMore
attribute [local go_sem] max2_int min2_int max_two min_two max_three min_three max_four min_four   -- for this text's walks alone
set_option linter.unusedVariables false
set_option linter.unusedSimpArgs false

/-! ### impl_bestShelving: function 28 (by hand) -/
/-- One shelving more: the first best one, its score, how many have it. -/
def bestStep (sc : List (List S40) → Int) (s : List Int × Int × Int) (e : List Int × List (List S40)) : List Int × Int × Int :=
  if s.2.2 = 0 ∨ sc e.2 < s.2.1 then (e.1, sc e.2, 1) else if sc e.2 = s.2.1 then (s.1, s.2.1, wrap64 (s.2.2 + 1)) else s
def bestF (sc : List (List S40) → Int) (l : List (List Int × List (List S40))) : List Int × Int × Int := l.foldl (bestStep sc) ([], 0, 0)
/-- What is asked of a score, as long as I holds. -/
def ScoreS (D : List (List S40) → Prop) (gs : Nat) (lbs : Array Value) (sc : List (List S40) → Int) (I : World → Prop) : Prop :=
  ∀ (W : World) (v : Value) (b : Nat) (ok : Nat → Prop) (list : List (List S40)), I W → D list → Kd.N (Kd.slice 40 k40) 26 W b ok v list →
    Calls Try.prog gs (#[v] ++ lbs) W fun e W' => e = .returned (.int .i64 (sc list)) ∧ Below W.heap.size W W'
def BestJ (gs : Nat) (lbs : Array Value) (sc : List (List S40) → Int) (I : World → Prop) (bs bm bl bb N0 : Nat) (l : List (List Int × List (List S40))) (W : World) : Prop :=
  I W ∧ W.cell? ⟨bs, 0, none⟩ = some (.func (.func gs) #[] lbs) ∧ (∃ v : Value, W.heap[bb]? = some (.cells #[v] 30 (0, 0)) ∧ Kd.R (Kd.int .i64) 3 W N0 (fun _ => True) v (bestF sc l).1) ∧ W.heap[bl]? = some (.cells #[.int .i64 (bestF sc l).2.1] 3 (0, 0)) ∧ W.heap[bm]? = some (.cells #[.int .i64 (bestF sc l).2.2] 3 (0, 0))
theorem bestJ_stays {gs : Nat} {lbs : Array Value} {sc : List (List S40) → Int} {I : World → Prop} (hI : ∀ W W', I W → Below W.heap.size W W' → I W') {bs bm bl bb N0 : Nat} : StaysS (BestJ gs lbs sc I bs bm bl bb N0) := by
  rintro s W W' ⟨h1, h2, ⟨v, h3, h4⟩, h5, h6⟩ hb
  exact ⟨hI _ _ h1 hb, pw_cell_below hb h2, ⟨v, (hb.block bb (blk_lt h3)).trans h3, Kd.R_below h4 hb⟩, (hb.block bl (blk_lt h5)).trans h5, (hb.block bm (blk_lt h6)).trans h6⟩
set_option maxRecDepth 100000 in
set_option maxHeartbeats 4000000 in
theorem best_each (D : List (List S40) → Prop) (gs : Nat) (lbs : Array Value) (egs : ∀ args w, (callFunc gs args).run Try.prog w = .ok (.enter gs args) w) (sc : List (List S40) → Int) (I : World → Prop) (hI : ∀ W W', I W → Below W.heap.size W W' → I W') (bs bm bl bb N0 : Nat) (hIS : ∀ W W', I W → Mod (fun k => k = bb ∨ k = bl ∨ k = bm) W W' → I W') (hsc : ScoreS D gs lbs sc I) (h1 : bb ≠ bl) (h2 : bb ≠ bm) (h3 : bl ≠ bm) (h4 : bs ≠ bb ∧ bs ≠ bl ∧ bs ≠ bm) (hb : bb < N0 ∧ bl < N0 ∧ bm < N0) :
    EachS D 44 #[.pointer (some ⟨bs, 0, none⟩), .pointer (some ⟨bm, 0, none⟩), .pointer (some ⟨bl, 0, none⟩), .pointer (some ⟨bb, 0, none⟩)] (fun k => k = bb ∨ k = bl ∨ k = bm) N0 (BestJ gs lbs sc I bs bm bl bb N0) := by
  intro pre W A c p v b ok list hj hr hD hN
  obtain ⟨j1, j2, ⟨vb, j3, j4⟩, j5, j6⟩ := hj
  have HS := Aside0.mk (hsc W v b ok list j1 hD hN)
  obtain ⟨n, hn⟩ : ∃ n, n = sc list := ⟨_, rfl⟩
  obtain ⟨least, hle⟩ : ∃ x, x = (bestF sc pre).2.1 := ⟨_, rfl⟩
  obtain ⟨many, hma⟩ : ∃ x, x = (bestF sc pre).2.2 := ⟨_, rfl⟩
  rw [← hn] at HS
  rw [← hle] at j5
  rw [← hma] at j6
  have Hst : Aside0 (bestF sc (pre ++ [(p, list)]) = if many = 0 ∨ n < least then (p, n, 1) else if n = least then ((bestF sc pre).1, least, wrap64 (many + 1)) else bestF sc pre) := ⟨by unfold bestF; rw [List.foldl_append]; simp only [List.foldl_cons, List.foldl_nil, bestStep]; rw [hn, hle, hma]; rfl⟩
  have HR := Aside0.mk hr
  have J4 := Aside0.mk j4
  have Hle := Aside0.mk hle
  have Hma := Aside0.mk hma
  clear hr j4 hN hD hn hle hma
  have hbs : ¬ (bs = bb ∨ bs = bl ∨ bs = bm) := fun h => h.elim h4.1 (fun h => h.elim h4.2.1 h4.2.2)
  have hSN : ∀ k, (k = bb ∨ k = bl ∨ k = bm) → k < N0 := fun k h => by rcases h with h | h | h <;> omega
  by_cases q1 : many = 0
  · have hq1 : (many == 0) = true := by rw [beq_iff_eq]; exact q1
    have Hs : Aside0 (bestF sc (pre ++ [(p, list)]) = (p, n, 1)) := ⟨by rw [Hst.out, if_pos (.inl q1)]⟩
    clear q1
    go_enter Try.func44, Try.ntmps44
    go_wp2_with ((with_reducible refine HS.out.mono ?_); rintro e w1 ⟨rfl, hb1⟩; replace j1 := hI _ _ j1 hb1; replace j2 := pw_cell_below hb1 j2; replace j3 := (hb1.block bb (blk_lt j3)).trans j3; replace j5 := (hb1.block bl (blk_lt j5)).trans j5; replace j6 := (hb1.block bm (blk_lt j6)).trans j6; have c3 := cell_at_blk j3; have c5 := cell_at_blk j5; have c6 := cell_at_blk j6; have f3 := blk_frozen j3 0; have f5 := blk_frozen j5 0; have f6 := blk_frozen j6 0; have J1 := Aside0.mk j1; have J2 := Aside0.mk j2; have J3 := Aside0.mk j3; have J5 := Aside0.mk j5; have J6 := Aside0.mk j6; have HB1 := Aside0.mk hb1; clear j1 j2 j3 j5 j6 hb1)
    go_end0
    have hM : Mod (fun k => k = bb ∨ k = bl ∨ k = bm) w1 (((w1.setCell ⟨bb, 0, none⟩ (.slice A p.length c)).setCell ⟨bl, 0, none⟩ (.int .i64 n)).setCell ⟨bm, 0, none⟩ (.int .i64 1)) := (((Mod.refl _ w1).set (p := ⟨bb, 0, none⟩) (.inl (.inl rfl)) _).set (p := ⟨bl, 0, none⟩) (.inl (.inr (.inl rfl))) _).set (p := ⟨bm, 0, none⟩) (.inl (.inr (.inr rfl))) _
    refine ⟨rfl, ⟨hIS _ _ J1.out hM, hM.cell J2.out hbs, ⟨.slice A p.length c, ?_, ?_⟩, ?_, ?_⟩, (Mod.of_below HB1.out).trans hM⟩
    · rw [Below.heap_setCell _ _ _ _ h2, Below.heap_setCell _ _ _ _ h1, blk_set J3.out]; simp
    · rw [Hs.out]; exact R_modS (Kd.R_below HR.out HB1.out) hM hSN
    · rw [Hs.out, Below.heap_setCell _ _ _ _ h3, blk_set (h := (Below.heap_setCell w1 ⟨bb, 0, none⟩ _ bl (Ne.symm h1)).trans J5.out)]; simp
    · rw [Hs.out, blk_set (h := (Below.heap_setCell (w1.setCell ⟨bb, 0, none⟩ _) ⟨bl, 0, none⟩ _ bm (Ne.symm h3)).trans ((Below.heap_setCell w1 ⟨bb, 0, none⟩ _ bm (Ne.symm h2)).trans J6.out))]; simp
  · have hq1 : (many == 0) = false := by rw [beq_eq_false_iff_ne]; exact q1
    by_cases q2 : n < least
    · have hq2 : decide (n < least) = true := decide_eq_true q2
      have Hs : Aside0 (bestF sc (pre ++ [(p, list)]) = (p, n, 1)) := ⟨by rw [Hst.out, if_pos (.inr q2)]⟩
      clear q1
      go_enter Try.func44, Try.ntmps44
      go_wp2_with ((with_reducible refine HS.out.mono ?_); rintro e w1 ⟨rfl, hb1⟩; replace j1 := hI _ _ j1 hb1; replace j2 := pw_cell_below hb1 j2; replace j3 := (hb1.block bb (blk_lt j3)).trans j3; replace j5 := (hb1.block bl (blk_lt j5)).trans j5; replace j6 := (hb1.block bm (blk_lt j6)).trans j6; have c3 := cell_at_blk j3; have c5 := cell_at_blk j5; have c6 := cell_at_blk j6; have f3 := blk_frozen j3 0; have f5 := blk_frozen j5 0; have f6 := blk_frozen j6 0; have J1 := Aside0.mk j1; have J2 := Aside0.mk j2; have J3 := Aside0.mk j3; have J5 := Aside0.mk j5; have J6 := Aside0.mk j6; have HB1 := Aside0.mk hb1; clear j1 j2 j3 j5 j6 hb1)
      go_end0
      have hM : Mod (fun k => k = bb ∨ k = bl ∨ k = bm) w1 (((w1.setCell ⟨bb, 0, none⟩ (.slice A p.length c)).setCell ⟨bl, 0, none⟩ (.int .i64 n)).setCell ⟨bm, 0, none⟩ (.int .i64 1)) := (((Mod.refl _ w1).set (p := ⟨bb, 0, none⟩) (.inl (.inl rfl)) _).set (p := ⟨bl, 0, none⟩) (.inl (.inr (.inl rfl))) _).set (p := ⟨bm, 0, none⟩) (.inl (.inr (.inr rfl))) _
      refine ⟨rfl, ⟨hIS _ _ J1.out hM, hM.cell J2.out hbs, ⟨.slice A p.length c, ?_, ?_⟩, ?_, ?_⟩, (Mod.of_below HB1.out).trans hM⟩
      · rw [Below.heap_setCell _ _ _ _ h2, Below.heap_setCell _ _ _ _ h1, blk_set J3.out]; simp
      · rw [Hs.out]; exact R_modS (Kd.R_below HR.out HB1.out) hM hSN
      · rw [Hs.out, Below.heap_setCell _ _ _ _ h3, blk_set (h := (Below.heap_setCell w1 ⟨bb, 0, none⟩ _ bl (Ne.symm h1)).trans J5.out)]; simp
      · rw [Hs.out, blk_set (h := (Below.heap_setCell (w1.setCell ⟨bb, 0, none⟩ _) ⟨bl, 0, none⟩ _ bm (Ne.symm h3)).trans ((Below.heap_setCell w1 ⟨bb, 0, none⟩ _ bm (Ne.symm h2)).trans J6.out))]; simp
    · have hq2 : decide (n < least) = false := decide_eq_false q2
      by_cases q3 : n = least
      · have hq3 : (n == least) = true := by rw [beq_iff_eq]; exact q3
        have Hs : Aside0 (bestF sc (pre ++ [(p, list)]) = ((bestF sc pre).1, least, wrap64 (many + 1))) := ⟨by rw [Hst.out, if_neg (fun h => h.elim q1 q2), if_pos q3]⟩
        clear q1 q3
        go_enter Try.func44, Try.ntmps44
        go_wp2_with ((with_reducible refine HS.out.mono ?_); rintro e w1 ⟨rfl, hb1⟩; replace j1 := hI _ _ j1 hb1; replace j2 := pw_cell_below hb1 j2; replace j3 := (hb1.block bb (blk_lt j3)).trans j3; replace j5 := (hb1.block bl (blk_lt j5)).trans j5; replace j6 := (hb1.block bm (blk_lt j6)).trans j6; have c3 := cell_at_blk j3; have c5 := cell_at_blk j5; have c6 := cell_at_blk j6; have f3 := blk_frozen j3 0; have f5 := blk_frozen j5 0; have f6 := blk_frozen j6 0; have J1 := Aside0.mk j1; have J2 := Aside0.mk j2; have J3 := Aside0.mk j3; have J5 := Aside0.mk j5; have J6 := Aside0.mk j6; have HB1 := Aside0.mk hb1; clear j1 j2 j3 j5 j6 hb1)
        go_end0
        have hM : Mod (fun k => k = bb ∨ k = bl ∨ k = bm) w1 (w1.setCell ⟨bm, 0, none⟩ (.int .i64 (wrap64 (many + 1)))) := (Mod.refl _ w1).set (p := ⟨bm, 0, none⟩) (.inl (.inr (.inr rfl))) _
        refine ⟨rfl, ⟨hIS _ _ J1.out hM, hM.cell J2.out hbs, ⟨vb, ?_, ?_⟩, ?_, ?_⟩, (Mod.of_below HB1.out).trans hM⟩
        · rw [Below.heap_setCell _ _ _ _ h2]; exact J3.out
        · rw [Hs.out]; exact R_modS (Kd.R_below J4.out HB1.out) hM hSN
        · rw [Hs.out, Below.heap_setCell _ _ _ _ h3]; exact J5.out
        · rw [Hs.out, blk_set J6.out]; simp
      · have hq3 : (n == least) = false := by rw [beq_eq_false_iff_ne]; exact q3
        have Hs : Aside0 (bestF sc (pre ++ [(p, list)]) = bestF sc pre) := ⟨by rw [Hst.out, if_neg (fun h => h.elim q1 q2), if_neg q3]⟩
        clear q1 q3
        go_enter Try.func44, Try.ntmps44
        go_wp2_with ((with_reducible refine HS.out.mono ?_); rintro e w1 ⟨rfl, hb1⟩; replace j1 := hI _ _ j1 hb1; replace j2 := pw_cell_below hb1 j2; replace j3 := (hb1.block bb (blk_lt j3)).trans j3; replace j5 := (hb1.block bl (blk_lt j5)).trans j5; replace j6 := (hb1.block bm (blk_lt j6)).trans j6; have c3 := cell_at_blk j3; have c5 := cell_at_blk j5; have c6 := cell_at_blk j6; have f3 := blk_frozen j3 0; have f5 := blk_frozen j5 0; have f6 := blk_frozen j6 0; have J1 := Aside0.mk j1; have J2 := Aside0.mk j2; have J3 := Aside0.mk j3; have J5 := Aside0.mk j5; have J6 := Aside0.mk j6; have HB1 := Aside0.mk hb1; clear j1 j2 j3 j5 j6 hb1)
        go_end0
        refine ⟨rfl, ⟨J1.out, J2.out, ⟨vb, J3.out, ?_⟩, ?_, ?_⟩, Mod.of_below HB1.out⟩
        · rw [Hs.out]; exact Kd.R_below J4.out HB1.out
        · rw [Hs.out, ← Hle.out]; exact J5.out
        · rw [Hs.out, ← Hma.out]; exact J6.out
set_option maxRecDepth 100000 in
set_option maxHeartbeats 4000000 in
theorem bestShelving_calls (D : List (List S40) → Prop) (gs : Nat) (lbs : Array Value) (egs : ∀ args w, (callFunc gs args).run Try.prog w = .ok (.enter gs args) w) (sc : List (List S40) → Int) (I : World → Prop) (w : World) (hI : ∀ W W', I W → Below W.heap.size W W' → I W') (hIS : ∀ (S : Nat → Prop) W W', I W → (∀ k, S k → w.heap.size ≤ k) → Mod S W W' → I W') (hsc : ScoreS D gs lbs sc I) (P0 : Nat → Prop) (AT : Option Addr) (cT : Nat) (t : List S40) (width : Int) (kk : Nat) (shV : List Int → List (List S40) × Bool) (b : Nat) (ht : t.length ≤ 12) (ht0 : 1 ≤ t.length) (hi : I w)
    (hv : Kd.V k40 40 w b P0 (.slice AT t.length cT) t) (hP0 : ∀ k, P0 k → k < w.heap.size) (hsh : ∀ q ∈ [(0 : Int)] :: subE (t.length - 1) 1 [(0 : Int)], impl_shelving.f kk t width q = some (shV q) ∧ ((shV q).2 = true → D (shV q).1)) :
    Calls Try.prog 28 #[.slice AT t.length cT, .int .i64 width, .func (.func gs) #[] lbs] w fun e W' => ∃ v : Value, e = .returned (.tuple #[v, .int .i64 (bestF sc (([(0 : Int)] :: subE (t.length - 1) 1 [(0 : Int)]).flatMap (evS shV))).2.1, .int .i64 (bestF sc (([(0 : Int)] :: subE (t.length - 1) 1 [(0 : Int)]).flatMap (evS shV))).2.2]) ∧ Kd.R (Kd.int .i64) 3 W' w.heap.size (fun _ => True) v (bestF sc (([(0 : Int)] :: subE (t.length - 1) 1 [(0 : Int)]).flatMap (evS shV))).1 ∧ Below w.heap.size w W' := by
  obtain ⟨W4, hW4⟩ : ∃ W4, W4 = ((((w.alloc (.cells #[.func (.func gs) #[] lbs] 46)).alloc (.cells #[.slice none 0 0] 30)).alloc (.cells #[.int .i64 0] 3)).alloc (.cells #[.int .i64 0] 3)) := ⟨_, rfl⟩
  have h4s : W4.heap.size = w.heap.size + 4 := by rw [hW4]; simp
  have hB4 : Below w.heap.size w W4 := by rw [hW4]; exact below_alloc (below_alloc (below_alloc (below_alloc (Below.refl _ w) _) _) _) _
  have hcs : W4.cell? ⟨w.heap.size, 0, none⟩ = some (.func (.func gs) #[] lbs) := by rw [hW4]; exact cell_past (cell_past (cell_past (cell_box w _ _) _) _) _
  have hbb : W4.heap[w.heap.size + 1]? = some (.cells #[.slice none 0 0] 30 (0, 0)) := by rw [hW4]; exact blk_alloc (blk_alloc (by rw [← World.size_alloc w (.cells #[.func (.func gs) #[] lbs] 46)]; exact heap_alloc_new _ _) _) _
  have hbl : W4.heap[w.heap.size + 2]? = some (.cells #[.int .i64 0] 3 (0, 0)) := by rw [hW4]; exact blk_alloc (by have h := heap_alloc_new ((w.alloc (.cells #[.func (.func gs) #[] lbs] 46)).alloc (.cells #[.slice none 0 0] 30)) (.cells #[.int .i64 0] 3); simpa only [World.size_alloc] using h) _
  have hbm : W4.heap[w.heap.size + 3]? = some (.cells #[.int .i64 0] 3 (0, 0)) := by rw [hW4]; have h := heap_alloc_new (((w.alloc (.cells #[.func (.func gs) #[] lbs] 46)).alloc (.cells #[.slice none 0 0] 30)).alloc (.cells #[.int .i64 0] 3)) (.cells #[.int .i64 0] 3); simpa only [World.size_alloc] using h
  have hJ0 : BestJ gs lbs sc I w.heap.size (w.heap.size + 3) (w.heap.size + 2) (w.heap.size + 1) W4.heap.size [] W4 := ⟨hI _ _ hi hB4, hcs, ⟨.slice none 0 0, hbb, R_nil_ _ _ _ _⟩, hbl, hbm⟩
  have HC := Aside0.mk (shelvings_calls D (fun k => k = w.heap.size + 1 ∨ k = w.heap.size + 2 ∨ k = w.heap.size + 3) 44 _ (entersOf Try.func44 (by kernel_rfl) rfl) _ (bestJ_stays hI) P0 AT cT t width kk shV W4 b (best_each D gs lbs egs sc I hI w.heap.size (w.heap.size + 3) (w.heap.size + 2) (w.heap.size + 1) W4.heap.size (fun W W' h hm => hIS _ W W' h (fun k hk => by omega) hm) hsc (by omega) (by omega) (by omega) ⟨by omega, by omega, by omega⟩ ⟨by omega, by omega, by omega⟩) ht ht0 (fun k hk => by omega) hJ0 (Kd.V_below hv hB4) (fun k hk hs => by have := hP0 k hk; omega) hsh)
  have HB4 := Aside0.mk hB4
  have H4s := Aside0.mk h4s
  clear hI hIS hsc hi hv hP0 hsh h4s hB4 hcs hbb hbl hbm hJ0 egs
  generalize ([(0 : Int)] :: subE (t.length - 1) 1 [(0 : Int)]).flatMap (evS shV) = evs at HC ⊢
  subst hW4
  have hx := HC.out
  clear HC
  rw [show w.heap.size + 3 = w.heap.size + 1 + 1 + 1 from rfl, show w.heap.size + 2 = w.heap.size + 1 + 1 from rfl] at hx
  have HX := Aside0.mk hx
  clear hx
  go_enter Try.func28, Try.ntmps28
  go_wp2_with (go_at_call 43; (with_reducible refine HX.out.mono ?_); rintro e w6 ⟨rfl, ⟨_, _, ⟨v, j3, j4⟩, j5, j6⟩, hm6⟩; have J4 := Aside0.mk j4; have HM6 := Aside0.mk hm6; have c3 := cell_at_blk j3; have c5 := cell_at_blk j5; have c6 := cell_at_blk j6; clear j3 j4 j5 j6 hm6)
  go_quiet (fail)
  go_wp2
  go_ret3
  exact ⟨_, rfl, Kd.R_lower (Kd.R_drewN J4.out _) HB4.out.size, pw_below_drewN (HB4.out.trans (HM6.out.belowB HB4.out.size (fun k hk => by omega))) _⟩
/-! ### told by what the score answers -/
/-- One candidate: its score, if it is a shelving. -/
def evO (kk : Nat) (sf : List (List S40) → Option Int) (t : List S40) (width : Int) (q : List Int) : Option (List (List Int × Int)) := (impl_shelving.f kk t width q).bind fun r => if r.2 = true then (sf r.1).bind fun n => some [(q, n)] else some []
def evsO (kk : Nat) (sf : List (List S40) → Option Int) (t : List S40) (width : Int) : List (List Int) → Option (List (List Int × Int))
  | [] => some []
  | q :: qs => (evO kk sf t width q).bind fun a => (evsO kk sf t width qs).bind fun b => some (a ++ b)
def bsI (s : List Int × Int × Int) (e : List Int × Int) : List Int × Int × Int := if s.2.2 = 0 ∨ e.2 < s.2.1 then (e.1, e.2, 1) else if e.2 = s.2.1 then (s.1, s.2.1, wrap64 (s.2.2 + 1)) else s
def candS (n : Nat) : List (List Int) := [(0 : Int)] :: subE (n - 1) 1 [(0 : Int)]
def bestO (kk : Nat) (sf : List (List S40) → Option Int) (t : List S40) (width : Int) : Option (List Int × Int × Int) := if 1 ≤ t.length ∧ t.length ≤ 12 then (evsO kk sf t width (candS t.length)).bind fun l => some (l.foldl bsI ([], 0, 0)) else none
theorem evO_mono (sf : Nat → List (List S40) → Option Int) (hsf : ∀ l k, LeO (sf k l) (sf (k + 1) l)) (t : List S40) (width : Int) (q : List Int) (k : Nat) : LeO (evO k (sf k) t width q) (evO (k + 1) (sf (k + 1)) t width q) :=
  LeO.bind (impl_shelving.mono t width q k) (fun r => LeO.ite (LeO.bind (hsf r.1 k) (fun _ => LeO.refl _)) (LeO.refl _))
theorem evsO_mono (sf : Nat → List (List S40) → Option Int) (hsf : ∀ l k, LeO (sf k l) (sf (k + 1) l)) (t : List S40) (width : Int) (k : Nat) : ∀ qs, LeO (evsO k (sf k) t width qs) (evsO (k + 1) (sf (k + 1)) t width qs)
  | [] => LeO.refl _
  | q :: qs => LeO.bind (evO_mono sf hsf t width q k) (fun _ => LeO.bind (evsO_mono sf hsf t width k qs) (fun _ => LeO.refl _))
theorem bestO_mono (sf : Nat → List (List S40) → Option Int) (hsf : ∀ l k, LeO (sf k l) (sf (k + 1) l)) (t : List S40) (width : Int) (k : Nat) : LeO (bestO k (sf k) t width) (bestO (k + 1) (sf (k + 1)) t width) := by
  unfold bestO
  exact LeO.ite (LeO.bind (evsO_mono sf hsf t width k _) (fun _ => LeO.refl _)) (LeO.refl _)
theorem evsO_some (kk : Nat) (sf : List (List S40) → Option Int) (t : List S40) (width : Int) : ∀ (qs : List (List Int)) (l : List (List Int × Int)), evsO kk sf t width qs = some l →
    (∀ q ∈ qs, impl_shelving.f kk t width q = some ((impl_shelving.f kk t width q).getD ([], false)) ∧ (((impl_shelving.f kk t width q).getD ([], false)).2 = true → ∃ n, sf ((impl_shelving.f kk t width q).getD ([], false)).1 = some n)) ∧
    ∀ s, (qs.flatMap (evS (fun q => (impl_shelving.f kk t width q).getD ([], false)))).foldl (bestStep (fun l => (sf l).getD 0)) s = l.foldl bsI s
  | [], l, h => by
    obtain rfl := Option.some.inj h
    exact ⟨by simp, fun s => rfl⟩
  | q :: qs, l, h => by
    obtain ⟨a, ha, h⟩ := Option.bind_eq_some_iff.mp h
    obtain ⟨b, hb, h⟩ := Option.bind_eq_some_iff.mp h
    obtain rfl := Option.some.inj h
    obtain ⟨i1, i2⟩ := evsO_some kk sf t width qs b hb
    obtain ⟨r, hr, ha⟩ := Option.bind_eq_some_iff.mp ha
    obtain ⟨parts, ok⟩ := r
    cases ok with
    | false =>
      simp only [Bool.false_eq_true, if_false, Option.some.injEq] at ha
      subst ha
      refine ⟨fun q' hq' => ?_, fun s => ?_⟩
      · rcases List.mem_cons.1 hq' with rfl | hq'
        · rw [hr]; simp
        · exact i1 q' hq'
      · rw [List.flatMap_cons]
        have e : evS (fun q => (impl_shelving.f kk t width q).getD ([], false)) q = [] := by simp [evS, hr]
        rw [e]
        exact i2 s
    | true =>
      simp only [if_true] at ha
      obtain ⟨n, hn, ha⟩ := Option.bind_eq_some_iff.mp ha
      obtain rfl := Option.some.inj ha
      refine ⟨fun q' hq' => ?_, fun s => ?_⟩
      · rcases List.mem_cons.1 hq' with rfl | hq'
        · rw [hr]; exact ⟨rfl, fun _ => ⟨n, hn⟩⟩
        · exact i1 q' hq'
      · rw [List.flatMap_cons]
        have e : evS (fun q => (impl_shelving.f kk t width q).getD ([], false)) q = [(q, parts)] := by simp [evS, hr]
        rw [e]
        have e2 : bestStep (fun l => (sf l).getD 0) s (q, parts) = bsI s (q, n) := by unfold bestStep bsI; simp only [hn, Option.getD_some]
        simp only [List.cons_append, List.nil_append, List.foldl_cons]
        rw [e2]
        exact i2 _
theorem best_told (gs : Nat) (lbs : Array Value) (egs : ∀ args w, (callFunc gs args).run Try.prog w = .ok (.enter gs args) w) (sf : List (List S40) → Option Int) (I : World → Prop) (w : World) (hI : ∀ W W', I W → Below W.heap.size W W' → I W') (hIS : ∀ (S : Nat → Prop) W W', I W → (∀ k, S k → w.heap.size ≤ k) → Mod S W W' → I W')
    (hsc : ∀ (W : World) (v : Value) (b : Nat) (ok : Nat → Prop) (list : List (List S40)) (n : Int), I W → sf list = some n → Kd.N (Kd.slice 40 k40) 26 W b ok v list → Calls Try.prog gs (#[v] ++ lbs) W fun e W' => e = .returned (.int .i64 n) ∧ Below W.heap.size W W')
    (AT : Option Addr) (cT : Nat) (t : List S40) (width : Int) (kk : Nat) (hi : I w) (hr : Kd.C k40 w AT t.length t) (hc : t.length ≤ cT) (r : List Int × Int × Int) (h : bestO kk sf t width = some r) :
    Calls Try.prog 28 #[.slice AT t.length cT, .int .i64 width, .func (.func gs) #[] lbs] w fun e W' => ∃ v : Value, e = .returned (.tuple #[v, .int .i64 r.2.1, .int .i64 r.2.2]) ∧ Kd.R (Kd.int .i64) 3 W' w.heap.size (fun _ => True) v r.1 ∧ Below w.heap.size w W' := by
  unfold bestO at h
  by_cases ht : 1 ≤ t.length ∧ t.length ≤ 12
  · rw [if_pos ht] at h
    obtain ⟨l, hl, h⟩ := Option.bind_eq_some_iff.mp h
    obtain rfl := Option.some.inj h
    obtain ⟨h1, h2⟩ := evsO_some kk sf t width _ l hl
    have h3 := h2 ([], 0, 0)
    have h4 := bestShelving_calls (fun list => ∃ n, sf list = some n) gs lbs egs (fun l => (sf l).getD 0) I w hI hIS (fun W v b ok list j d hN => by
        obtain ⟨n, hn⟩ := d
        have := hsc W v b ok list n j hn hN
        simpa [hn] using this) (fun k => k < w.heap.size) AT cT t width kk (fun q => (impl_shelving.f kk t width q).getD ([], false)) 0 ht.2 ht.1 hi
      (Kd.V_mk hc (fun W' hk => k40_heap.C (fun k hlt => hk k hlt hlt) hr)) (fun k hk => hk) h1
    unfold bestF at h4
    rw [show ([(0 : Int)] :: subE (t.length - 1) 1 [(0 : Int)]) = candS t.length from rfl, h3] at h4
    exact h4
  · rw [if_neg ht] at h; cases h


end Go.Proofs.Ythdfkgehgkfffaa.P
