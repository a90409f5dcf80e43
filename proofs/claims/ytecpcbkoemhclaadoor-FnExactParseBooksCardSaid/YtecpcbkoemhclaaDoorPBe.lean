/- The walk of the law on ParseBooks. Conditions: the table of Itoa and the errors of Atoi lie as the program lays them. -/
import Derived.Test.YtecpcbkoemhclaaDoorPx0
import Derived.Test.YtecpcbkoemhclaaDoorPx1
import Derived.Test.YtecpcbkoemhclaaDoorPx9
import Derived.Test.YtecpcbkoemhclaaDoorPx10
import Derived.Test.YtecpcbkoemhclaaDoorPx12
import Derived.Test.YtecpcbkoemhclaaDoorPx13
import Derived.Test.YtecpcbkoemhclaaDoorPx17
import Derived.Test.YtecpcbkoemhclaaDoorPx20
import Derived.Test.YtecpcbkoemhclaaDoorPx21
import Derived.Test.YtecpcbkoemhclaaDoorPBc
namespace Go.Proofs.YtecpcbkoemhclaaDoor.P
open Go.RowKit Go.Proofs.YtecpcbkoemhclaaDoorW.PrintWords Go.Proofs.YtecpcbkoemhclaaDoorW.PrintLast Go.Proofs.YtecpcbkoemhclaaDoorW.PrintMore
attribute [local go_sem] max2_int min2_int max_two min_two max_three min_three max_four min_four
set_option linter.unusedVariables false
set_option linter.unusedSimpArgs false
theorem nums_len (most : Int) : ∀ (ws : List ByteArray) (l : List Int), numsF most ws = some l → l.length ≤ ws.length
  | [], l, h => by
    obtain rfl := Option.some.inj h
    simp
  | x :: xs, l, h => by
    obtain ⟨v, _, h⟩ := Option.bind_eq_some_iff.mp h
    obtain ⟨l2, h2, h⟩ := Option.bind_eq_some_iff.mp h
    obtain rfl := Option.some.inj h
    have := nums_len most xs l2 h2
    simp only [List.length_cons]; omega
theorem parseBooks_calls (g : List S48 → Bool) (tx : List S48 → ByteArray) (kk : Nat) (hg : ∀ l, impl_AreBooks.f l = some (g l)) (s : ByteArray) (hgb : ∀ l, numsF 100 (Lib.goFieldsP barP s) = some l → g (pairB l) = true → impl_booksText.f kk (pairB l) = some (tx (pairB l))) (hs : s.size ≤ 1048576) (w : World) (ht : Pow10 w) (he : ErrsIn w) :
    Calls Tryd.prog 13 #[.string s] w fun e w' => ∃ v0_ : Value, e = .returned (.tuple #[v0_, .bool (pbV g tx s).2]) ∧ Kd.R k48 48 w' w.heap.size (fun _ => True) v0_ (pbV g tx s).1 ∧ Below w.heap.size w w' := by
  by_cases h : ∃ l, numsF 100 (Lib.goFieldsP barP s) = some l ∧ l.length % 2 = 0
  · obtain ⟨l, hn, h2⟩ := h
    have hlen : l.length ≤ s.size + 1 := Nat.le_trans (nums_len _ _ _ hn) (words_len barP s)
    exact pb_even g tx kk hg s hs w ht he l hn (l.length / 2) (by omega) (by omega) (hgb l hn)
  · exact pb_early g tx s hs w ht he (fun l hn h2 => h ⟨l, hn, h2⟩)
/-- What the law's walk wants of the plain functions. -/
def laws_FnExactParseBooks.Pure : Prop := ∀ (s : ByteArray), s.size ≤ 1048576 →
  ∃ (k : Nat) (g : List S48 → Bool) (tx : List S48 → ByteArray) (v : List S48) (b : Bool) (m : List S48) (q : Int), (∀ l, impl_AreBooks.f l = some (g l)) ∧ (∀ l, numsF 100 (Lib.goFieldsP barP s) = some l → g (pairB l) = true → impl_booksText.f k (pairB l) = some (tx (pairB l))) ∧
    pbV g tx s = (v, b) ∧ spec_ParseBooks.f k s = some (v, b) ∧ laws_eqBookS.f k v v = some true ∧ laws_markBookS.f k v 1 = some (q, m) ∧ laws_heldBookS.f k m 1 = some q ∧ 0 ≤ q
/-- A row of books that lies in the blocks lo .. hi. -/
def BoRow (w W : World) (lo hi : Nat) (A : Option Addr) (n c : Nat) (xs : List S48) : Prop := Kd.R k48 48 W w.heap.size (fun k => lo ≤ k ∧ k < hi) (.slice A n c) xs
theorem bo_drawn {W W' : World} (h : Drawn0 W W') : Below W.heap.size W W' := by
  obtain ⟨m, rfl⟩ := h
  exact pw_below_drewN (Below.refl _ _) m
theorem bo_then {w W W' : World} (h : Below w.heap.size w W) (h2 : Below W.heap.size W W') : Below w.heap.size w W' := below_then h h.size h2
theorem BoRow.new {w W W' : World} {V : Value} {xs : List S48} (h : Kd.R k48 48 W' W.heap.size (fun _ => True) V xs) (hb : Below w.heap.size w W) : ∃ A c, V = .slice A xs.length c ∧ xs.length ≤ c ∧ BoRow w W' W.heap.size W'.heap.size A xs.length c xs := by
  obtain ⟨A, c, rfl, hc, _⟩ := Kd.R_reads h
  exact ⟨A, c, rfl, hc, Kd.R_lower (Kd.R_mono (Kd.R_bound h) (fun k hk => ⟨hk.2.1, hk.2.2.1⟩)) hb.size⟩
theorem BoRow.below {w W W' : World} {lo hi : Nat} {A : Option Addr} {n c : Nat} {xs : List S48} (h : BoRow w W lo hi A n c xs) (hb : Below W.heap.size W W') : BoRow w W' lo hi A n c xs := Kd.R_below h hb
theorem BoRow.kept {w W W' : World} {lo hi lo' hi' : Nat} {A : Option Addr} {n c : Nat} {xs : List S48} (h : BoRow w W lo hi A n c xs) (hk : Kept W W' (fun k => lo' ≤ k ∧ k < hi')) (hd : hi ≤ lo' ∨ hi' ≤ lo) : BoRow w W' lo hi A n c xs := Kd.R_kept h hk (fun k h1 h2 => by omega)
theorem BoRow.C {w W : World} {lo hi : Nat} {A : Option Addr} {n c : Nat} {xs : List S48} (h : BoRow w W lo hi A n c xs) : Kd.C k48 W A xs.length xs := (Kd.R_reads' h).2.2
theorem bo_mark (k : Nat) {w W : World} {lo hi : Nat} {A : Option Addr} {n c : Nat} {xs xs' : List S48} (h : BoRow w W lo hi A n c xs) (hb : Below w.heap.size w W) (a r : Int) (hf : laws_markBookS.f k xs a = some (r, xs')) : Calls Tryd.prog 15 #[.slice A n c, .int .i64 a] W fun e w' => e = .returned (.int .i64 r) ∧ Below w.heap.size w w' ∧ Kept W w' (fun k => lo ≤ k ∧ k < hi) :=
  (laws_markBookS.calls k _ _ xs a r xs' w W hb h hf).mono fun e w' ⟨h1, _, h3, h4⟩ => ⟨h1, h3, h4⟩
theorem bo_neq (b : Bool) : (b != b) = false := by cases b <;> rfl
theorem bo_heldI (k : Nat) {w W : World} {lo hi : Nat} {A : Option Addr} {n c : Nat} {xs : List S48} (h : BoRow w W lo hi A n c xs) (a r : Int) (hf : laws_heldBookS.f k xs a = some r) : Calls Tryd.prog 16 #[.slice A n c, .int .i64 a] W fun e w' => e = .returned (.int .i64 r) ∧ Drawn0 W w' := by
  obtain ⟨rfl, hc, hC⟩ := Kd.R_reads' h
  exact laws_heldBookS.calls k A c xs a r W hC hc hf
theorem bo_markR (k : Nat) {w W : World} {lo hi : Nat} {A : Option Addr} {n c : Nat} {xs xs' : List S48} (h : BoRow w W lo hi A n c xs) (hb : Below w.heap.size w W) (a r : Int) (hf : laws_markBookS.f k xs a = some (r, xs')) : Calls Tryd.prog 15 #[.slice A n c, .int .i64 a] W fun e w' => e = .returned (.int .i64 r) ∧ BoRow w w' lo hi A n c xs' ∧ Below w.heap.size w w' ∧ Kept W w' (fun k => lo ≤ k ∧ k < hi) :=
  (laws_markBookS.calls k _ _ xs a r xs' w W hb h hf).mono fun e w' ⟨h1, h2, h3, h4⟩ => ⟨h1, Kd.R_reok rfl h2 h.1, h3, h4⟩
set_option maxRecDepth 100000 in
set_option maxHeartbeats 16000000 in
theorem laws_FnExactParseBooks.calls (P : laws_FnExactParseBooks.Pure) (s : ByteArray) (w : World) (ht : Pow10 w) (he : ErrsIn w) :
    Calls Tryd.prog 4 #[.string s] w fun e w' => e = .returned (.bool true) ∧ Below w.heap.size w w' := by
  by_cases h0 : s.size ≤ 1048576
  · obtain ⟨k, g, tx, v, b, m, q, p1, p2, p3, p4, p5, p6, p7, hq⟩ := P s h0
    have TI := Aside0.mk (fun (W : World) (hb : Below w.heap.size w W) => parseBooks_calls g tx k p1 s p2 h0 W (pow10_below ht hb (Nat.le_refl _)) (errsIn_below he hb))
    rw [p3] at TI
    have P4 := Aside0.mk p4
    have P5 := Aside0.mk p5
    have P6 := Aside0.mk p6
    have P7 := Aside0.mk p7
    have c4b0 : decide (1048576 < (s.size : Int)) = false := decide_eq_false (by omega)
    have c4b1 : decide (1048576 < s.size) = false := decide_eq_false (by omega)
    have qb : decide (q < 0) = false := decide_eq_false (by omega)
    have hbb := bo_neq b
    have HB : Aside0 (Below w.heap.size w w) := ⟨Below.refl _ _⟩
    clear ht he p1 p2 p3 p4 p5 p6 p7 hq P h0
    go_enter Tryd.func4, Tryd.ntmps4
    go_wp2_with (first
      | (go_at_call 12; (refine (spec_ParseBooks.calls k s v b w P4.out).mono ?_); rintro e w1 ⟨_, rfl, r1, b1⟩; obtain ⟨X3, c3, rfl, hd1, rb1⟩ := BoRow.new r1 HB.out; have V3 := Aside0.mk rb1; have D3 := Aside0.mk hd1; replace HB := Aside0.mk (bo_then HB.out b1); clear r1 b1 hd1 rb1)
      | (go_at_call 13; (with_reducible refine (TI.out w1 HB.out).mono ?_); rintro e w2 ⟨_, rfl, r1, b1⟩; obtain ⟨X5, c5, rfl, hd1, rb1⟩ := BoRow.new r1 HB.out; have G0 := Aside0.mk rb1; have D5 := Aside0.mk hd1; replace V3 := Aside0.mk (V3.out.below b1); replace HB := Aside0.mk (bo_then HB.out b1); clear r1 b1 hd1 rb1)
      | (go_at_call 14; (with_reducible refine (laws_eqBookS.calls k X5 c5 v X3 c3 v true w2 G0.out.C D5.out V3.out.C D3.out P5.out).mono ?_); rintro e w3 ⟨rfl, b1⟩; replace V3 := Aside0.mk (V3.out.below b1); replace G0 := Aside0.mk (G0.out.below b1); replace HB := Aside0.mk (bo_then HB.out b1); clear b1)
      | (go_at_call 15; (with_reducible refine (bo_markR k (W := w3) G0.out HB.out 1 q P6.out).mono ?_); rintro e w4 ⟨rfl, g1, b1, k1⟩; replace V3 := Aside0.mk (V3.out.kept k1 (.inl (Nat.le_refl _))); replace G0 := Aside0.mk g1; replace HB := Aside0.mk b1; clear b1 k1 g1)
      | (go_at_call 16; (with_reducible refine (bo_heldI k (W := w4) G0.out 1 q P7.out).mono ?_); rintro e w5 ⟨rfl, hd1⟩; have b1 := bo_drawn hd1; replace V3 := Aside0.mk (V3.out.below b1); replace G0 := Aside0.mk (G0.out.below b1); replace HB := Aside0.mk (bo_then HB.out b1); clear hd1 b1)
      | (go_at_call 13; (with_reducible refine (TI.out w5 HB.out).mono ?_); rintro e w6 ⟨_, rfl, r1, b1⟩; obtain ⟨X9, c9, rfl, hd1, rb1⟩ := BoRow.new r1 HB.out; have H0 := Aside0.mk rb1; have D9 := Aside0.mk hd1; replace V3 := Aside0.mk (V3.out.below b1); replace G0 := Aside0.mk (G0.out.below b1); replace HB := Aside0.mk (bo_then HB.out b1); clear r1 b1 hd1 rb1)
      | (go_at_call 14; (with_reducible refine (laws_eqBookS.calls k X9 c9 v X3 c3 v true w6 H0.out.C D9.out V3.out.C D3.out P5.out).mono ?_); rintro e w7 ⟨rfl, b1⟩; replace G0 := Aside0.mk (G0.out.below b1); replace HB := Aside0.mk (bo_then HB.out b1); clear b1)
      | (go_at_call 16; (with_reducible refine (bo_heldI k (W := w7) G0.out 1 q P7.out).mono ?_); rintro e w8 ⟨rfl, hd1⟩; have b1 := bo_drawn hd1; replace HB := Aside0.mk (bo_then HB.out b1); clear hd1 b1))
    go_ret
    exact ⟨rfl, HB.out⟩
  · have c4b0 : decide (1048576 < (s.size : Int)) = true := decide_eq_true (by omega)
    have c4b1 : decide (1048576 < s.size) = true := decide_eq_true (by omega)
    clear h0 P ht he
    go_enter Tryd.func4, Tryd.ntmps4
    go_wp2
    go_ret
    exact ⟨rfl, Below.refl _ _⟩
theorem laws_FnExactParseBooks.walk (P : laws_FnExactParseBooks.Pure) (s : ByteArray) (w : World) (ht : Pow10 w) (he : ErrsIn w) :
    Calls Tryd.prog 4 #[.string s] w fun e w' => e = .returned (.bool true) ∧ Below w.heap.size w w' := laws_FnExactParseBooks.calls P s w ht he
end Go.Proofs.YtecpcbkoemhclaaDoor.P
