-- Laid by wip/myprint.py of this project (a wrapper over the kit's print.py); Lean checks it.
import Derived.Test.YtchbjdoneanhpaaPx0
import Derived.Test.YtchbjdoneanhpaaPx1
import Derived.Test.YtchbjdoneanhpaaPx5
import Derived.Test.YtchbjdoneanhpaaPx10
import Derived.Test.YtchbjdoneanhpaaPx11
import Derived.Test.YtchbjdoneanhpaaPx12
import Derived.Test.YtchbjdoneanhpaaPx13
namespace Go.Proofs.Ytchbjdoneanhpaa.P
open Go.RowKit Go.Proofs.YtchbjdoneanhpaaW.PrintWords Go.Proofs.YtchbjdoneanhpaaW.PrintLast Go.Proofs.YtchbjdoneanhpaaW.PrintMore
attribute [local go_sem] max2_int min2_int max_two min_two max_three min_three max_four min_four   -- for this text's walks alone
set_option linter.unusedVariables false
set_option linter.unusedSimpArgs false

/-! ### laws_FnExactBoxesOf: function 3 (by hand) -/
/-- What the law's walk wants of the plain functions. -/
def laws_FnExactBoxesOf.Pure : Prop := ∀ (l0 : List Int) (a1 : Int) (l2 : List Int), l0.length ≤ 1048576 → l2.length ≤ 1048576 →
  ∃ (k : Nat) (v : List (List Int)) (b : Bool) (n1 : Int) (m1 : List Int) (n2 : Int) (m2 : List Int) (q : Int) (mv : List (List Int)),
    laws_toIntS.f k l0 = some l0 ∧ laws_toIntS.f k l2 = some l2 ∧ spec_BoxesOf.f k l0 a1 l2 = some (v, b) ∧ impl_BoxesOf.f k l0 a1 l2 = some (v, b) ∧
    laws_eqIntSS.f k v v = some true ∧ laws_eqIntS.f k l0 l0 = some true ∧ laws_eqIntS.f k l2 l2 = some true ∧
    laws_markIntS.f k l0 1 = some (n1, m1) ∧ laws_markIntS.f k l2 n1 = some (n2, m2) ∧ 0 ≤ n2 ∧
    laws_markIntSS.f k v 1 = some (q, mv) ∧ laws_heldIntSS.f k mv 1 = some q ∧ 0 ≤ q
/-- A row of whole numbers that lies in the blocks lo .. hi. -/
def BoRow (w W : World) (lo hi : Nat) (A : Option Addr) (n c : Nat) (xs : List Int) : Prop := Kd.R (Kd.int .i64) 3 W w.heap.size (fun k => lo ≤ k ∧ k < hi) (.slice A n c) xs
/-- A row of rows that lies in the blocks lo .. hi. -/
def BoRows (w W : World) (lo hi : Nat) (A : Option Addr) (n c : Nat) (xs : List (List Int)) : Prop := Kd.S (Kd.slice 3 (Kd.int .i64)) 22 W w.heap.size (fun k => lo ≤ k ∧ k < hi) (.slice A n c) xs
theorem bo_drawn {W W' : World} (h : Drawn0 W W') : Below W.heap.size W W' := by
  obtain ⟨m, rfl⟩ := h
  exact pw_below_drewN (Below.refl _ _) m
theorem bo_then {w W W' : World} (h : Below w.heap.size w W) (h2 : Below W.heap.size W W') : Below w.heap.size w W' := below_then h h.size h2
theorem BoRow.new {w W W' : World} {V : Value} {xs : List Int} (h : Kd.R (Kd.int .i64) 3 W' W.heap.size (fun _ => True) V xs) (hb : Below w.heap.size w W) : ∃ A c, V = .slice A xs.length c ∧ xs.length ≤ c ∧ BoRow w W' W.heap.size W'.heap.size A xs.length c xs := by
  obtain ⟨A, c, rfl, hc, _⟩ := Kd.R_reads h
  exact ⟨A, c, rfl, hc, Kd.R_lower (Kd.R_mono (Kd.R_bound h) (fun k hk => ⟨hk.2.1, hk.2.2.1⟩)) hb.size⟩
theorem BoRows.new {w W W' : World} {V : Value} {xs : List (List Int)} (h : Kd.S (Kd.slice 3 (Kd.int .i64)) 22 W' W.heap.size (fun _ => True) V xs) (hb : Below w.heap.size w W) : ∃ A c, V = .slice A xs.length c ∧ xs.length ≤ c ∧ BoRows w W' W.heap.size W'.heap.size A xs.length c xs := by
  obtain ⟨A, c, rfl, hc, _⟩ := Kd.S_reads h
  exact ⟨A, c, rfl, hc, Kd.S_lower (Kd.S_mono (Kd.S_bound h) (fun k hk => ⟨hk.2.1, hk.2.2.1⟩)) hb.size⟩
theorem BoRow.below {w W W' : World} {lo hi : Nat} {A : Option Addr} {n c : Nat} {xs : List Int} (h : BoRow w W lo hi A n c xs) (hb : Below W.heap.size W W') : BoRow w W' lo hi A n c xs := Kd.R_below h hb
theorem BoRows.below {w W W' : World} {lo hi : Nat} {A : Option Addr} {n c : Nat} {xs : List (List Int)} (h : BoRows w W lo hi A n c xs) (hb : Below W.heap.size W W') : BoRows w W' lo hi A n c xs := Kd.S_below h hb
theorem BoRow.kept {w W W' : World} {lo hi lo' hi' : Nat} {A : Option Addr} {n c : Nat} {xs : List Int} (h : BoRow w W lo hi A n c xs) (hk : Kept W W' (fun k => lo' ≤ k ∧ k < hi')) (hd : hi ≤ lo' ∨ hi' ≤ lo) : BoRow w W' lo hi A n c xs := Kd.R_kept h hk (fun k h1 h2 => by omega)
theorem BoRows.kept {w W W' : World} {lo hi lo' hi' : Nat} {A : Option Addr} {n c : Nat} {xs : List (List Int)} (h : BoRows w W lo hi A n c xs) (hk : Kept W W' (fun k => lo' ≤ k ∧ k < hi')) (hd : hi ≤ lo' ∨ hi' ≤ lo) : BoRows w W' lo hi A n c xs := Kd.S_kept h hk (fun k h1 h2 => by omega)
theorem BoRow.C {w W : World} {lo hi : Nat} {A : Option Addr} {n c : Nat} {xs : List Int} (h : BoRow w W lo hi A n c xs) : Kd.C (Kd.int .i64) W A xs.length xs := (Kd.R_reads' h).2.2
theorem BoRows.C {w W : World} {lo hi : Nat} {A : Option Addr} {n c : Nat} {xs : List (List Int)} (h : BoRows w W lo hi A n c xs) : Kd.C (Kd.slice 3 (Kd.int .i64)) W A xs.length xs := (Kd.S_reads' h).2.2
theorem bo_held (k : Nat) {w W : World} {lo hi : Nat} {A : Option Addr} {n c : Nat} {xs : List (List Int)} (h : BoRows w W lo hi A n c xs) (a r : Int) (hf : laws_heldIntSS.f k xs a = some r) : Calls Try.prog 12 #[.slice A n c, .int .i64 a] W fun e w' => e = .returned (.int .i64 r) ∧ Drawn0 W w' := by
  obtain ⟨rfl, hc, hC⟩ := Kd.S_reads' h
  exact laws_heldIntSS.calls k A c xs a r W hC hc hf
theorem bo_mark (k : Nat) {w W : World} {lo hi : Nat} {A : Option Addr} {n c : Nat} {xs xs' : List Int} (h : BoRow w W lo hi A n c xs) (hb : Below w.heap.size w W) (a r : Int) (hf : laws_markIntS.f k xs a = some (r, xs')) : Calls Try.prog 10 #[.slice A n c, .int .i64 a] W fun e w' => e = .returned (.int .i64 r) ∧ Below w.heap.size w w' ∧ Kept W w' (fun k => lo ≤ k ∧ k < hi) :=
  (laws_markIntS.calls k _ _ xs a r xs' w W hb h hf).mono fun e w' ⟨h1, _, h3, h4⟩ => ⟨h1, h3, h4⟩
theorem bo_marks (k : Nat) {w W : World} {lo hi : Nat} {A : Option Addr} {n c : Nat} {xs xs' : List (List Int)} (h : BoRows w W lo hi A n c xs) (hb : Below w.heap.size w W) (a r : Int) (hf : laws_markIntSS.f k xs a = some (r, xs')) : Calls Try.prog 11 #[.slice A n c, .int .i64 a] W fun e w' => e = .returned (.int .i64 r) ∧ BoRows w w' lo hi A n c xs' ∧ Below w.heap.size w w' ∧ Kept W w' (fun k => lo ≤ k ∧ k < hi) :=
  laws_markIntSS.calls k _ _ xs a r xs' w W hb h hf
theorem bo_neq (b : Bool) : (b != b) = false := by cases b <;> rfl
set_option maxRecDepth 100000 in
set_option maxHeartbeats 16000000 in
theorem laws_FnExactBoxesOf.short (P : laws_FnExactBoxesOf.Pure) (A0 : Option Addr) (c0 : Nat) (l0 : List Int) (a1 : Int) (A2 : Option Addr) (c2 : Nat) (l2 : List Int) (w : World) (hr0 : Kd.C (Kd.int .i64) w A0 l0.length l0) (hc0 : l0.length ≤ c0) (hr2 : Kd.C (Kd.int .i64) w A2 l2.length l2) (hc2 : l2.length ≤ c2) (hl0 : l0.length ≤ 1048576) (hl2 : l2.length ≤ 1048576) :
    Calls Try.prog 3 #[.slice A0 l0.length c0, .int .i64 a1, .slice A2 l2.length c2] w fun e w' => e = .returned (.bool true) ∧ Below w.heap.size w w' := by
  obtain ⟨k, v, b, n1, m1, n2, m2, q, mv, p1, p2, p3, p4, p5, p6, p7, p8, p9, hn2, p10, p11, hq⟩ := P l0 a1 l2 hl0 hl2
  have HT0 : Aside0 (∀ W, Below w.heap.size w W → Calls Try.prog 6 #[.slice A0 l0.length c0] W fun e w' => ∃ v0_ : Value, e = .returned (v0_) ∧ Kd.R (Kd.int .i64) 3 w' W.heap.size (fun _ => True) v0_ l0 ∧ Below W.heap.size W w') := ⟨fun W hB => laws_toIntS.calls k A0 c0 l0 l0 W (C_below (Kd.heap_int _) hr0 hB) hc0 p1⟩
  have HT2 : Aside0 (∀ W, Below w.heap.size w W → Calls Try.prog 6 #[.slice A2 l2.length c2] W fun e w' => ∃ v0_ : Value, e = .returned (v0_) ∧ Kd.R (Kd.int .i64) 3 w' W.heap.size (fun _ => True) v0_ l2 ∧ Below W.heap.size W w') := ⟨fun W hB => laws_toIntS.calls k A2 c2 l2 l2 W (C_below (Kd.heap_int _) hr2 hB) hc2 p2⟩
  have P3 := Aside0.mk p3
  have P4 := Aside0.mk p4
  have P5 := Aside0.mk p5
  have P6 := Aside0.mk p6
  have P7 := Aside0.mk p7
  have P8 := Aside0.mk p8
  have P9 := Aside0.mk p9
  have P10 := Aside0.mk p10
  have P11 := Aside0.mk p11
  have c4b0 : decide (1048576 < (l0.length : Int)) = false := decide_eq_false (by omega)
  have c4b1 : decide (1048576 < l0.length) = false := decide_eq_false (by omega)
  have c5b0 : decide (1048576 < (l2.length : Int)) = false := decide_eq_false (by omega)
  have c5b1 : decide (1048576 < l2.length) = false := decide_eq_false (by omega)
  have n2b : decide (n2 < 0) = false := decide_eq_false (by omega)
  have qb : decide (q < 0) = false := decide_eq_false (by omega)
  have hbb := bo_neq b
  have HB : Aside0 (Below w.heap.size w w) := ⟨Below.refl _ _⟩
  clear hr0 hc0 hr2 hc2 hl0 hl2 p1 p2 p3 p4 p5 p6 p7 p8 p9 p10 p11 hn2 hq P
  go_enter Try.func3, Try.ntmps3
  go_wp2_with (first
    | (go_at_call 6; (with_reducible refine (HT0.out w HB.out).mono ?_); rintro e w1 ⟨_, rfl, r1, b1⟩; obtain ⟨U1, d1, rfl, hd1, rb1⟩ := BoRow.new r1 HB.out; have R1 := Aside0.mk rb1; have D1 := Aside0.mk hd1; replace HB := Aside0.mk (bo_then HB.out b1); clear r1 b1 hd1 rb1)
    | (go_at_call 6; (with_reducible refine (HT2.out w1 HB.out).mono ?_); rintro e w2 ⟨_, rfl, r1, b1⟩; obtain ⟨U2, d2, rfl, hd1, rb1⟩ := BoRow.new r1 HB.out; have R2 := Aside0.mk rb1; have D2 := Aside0.mk hd1; replace R1 := Aside0.mk (R1.out.below b1); replace HB := Aside0.mk (bo_then HB.out b1); clear r1 b1 hd1 rb1)
    | (go_at_call 5; (with_reducible refine (spec_BoxesOf.calls k U1 d1 l0 a1 U2 d2 l2 v b w2 R1.out.C D1.out R2.out.C D2.out P3.out).mono ?_); rintro e w3 ⟨_, rfl, s1, b1⟩; obtain ⟨X7, c7, rfl, hd1, rb1⟩ := BoRows.new s1 HB.out; have V7 := Aside0.mk rb1; have D7 := Aside0.mk hd1; have L7 := Aside0.mk b1.size; replace HB := Aside0.mk (bo_then HB.out b1); clear s1 b1 hd1 rb1 R1 R2 D1 D2)
    | (go_at_call 6; (with_reducible refine (HT0.out w3 HB.out).mono ?_); rintro e w4 ⟨_, rfl, r1, b1⟩; obtain ⟨X9, c9, rfl, hd1, rb1⟩ := BoRow.new r1 HB.out; have X0 := Aside0.mk rb1; have D9 := Aside0.mk hd1; have L9 := Aside0.mk b1.size; replace V7 := Aside0.mk (V7.out.below b1); replace HB := Aside0.mk (bo_then HB.out b1); clear r1 b1 hd1 rb1)
    | (go_at_call 6; (with_reducible refine (HT2.out w4 HB.out).mono ?_); rintro e w5 ⟨_, rfl, r1, b1⟩; obtain ⟨X10, c10, rfl, hd1, rb1⟩ := BoRow.new r1 HB.out; have X2 := Aside0.mk rb1; have D10 := Aside0.mk hd1; have L10 := Aside0.mk b1.size; replace V7 := Aside0.mk (V7.out.below b1); replace X0 := Aside0.mk (X0.out.below b1); replace HB := Aside0.mk (bo_then HB.out b1); clear r1 b1 hd1 rb1)
    | (go_at_call 7; (with_reducible refine (impl_BoxesOf.calls k X9 c9 l0 a1 X10 c10 l2 v b w5 X0.out.C D9.out X2.out.C D10.out P4.out).mono ?_); rintro e w6 ⟨_, rfl, s1, b1⟩; obtain ⟨X11, c11, rfl, hd1, rb1⟩ := BoRows.new s1 HB.out; have G0 := Aside0.mk rb1; have D11 := Aside0.mk hd1; replace V7 := Aside0.mk (V7.out.below b1); replace X0 := Aside0.mk (X0.out.below b1); replace X2 := Aside0.mk (X2.out.below b1); replace HB := Aside0.mk (bo_then HB.out b1); clear s1 b1 hd1 rb1)
    | (go_at_call 8; (with_reducible refine (laws_eqIntSS.calls k X11 c11 v X7 c7 v true w6 G0.out.C D11.out V7.out.C D7.out P5.out).mono ?_); rintro e w7 ⟨rfl, hd1⟩; have b1 := bo_drawn hd1; replace V7 := Aside0.mk (V7.out.below b1); replace X0 := Aside0.mk (X0.out.below b1); replace X2 := Aside0.mk (X2.out.below b1); replace G0 := Aside0.mk (G0.out.below b1); replace HB := Aside0.mk (bo_then HB.out b1); clear hd1 b1)
    | (go_at_call 6; (with_reducible refine (HT0.out w7 HB.out).mono ?_); rintro e w8 ⟨_, rfl, r1, b1⟩; obtain ⟨U8, d8, rfl, hd1, rb1⟩ := BoRow.new r1 HB.out; have R8 := Aside0.mk rb1; have D8 := Aside0.mk hd1; replace V7 := Aside0.mk (V7.out.below b1); replace X0 := Aside0.mk (X0.out.below b1); replace X2 := Aside0.mk (X2.out.below b1); replace G0 := Aside0.mk (G0.out.below b1); replace HB := Aside0.mk (bo_then HB.out b1); clear r1 b1 hd1 rb1)
    | (go_at_call 9; (with_reducible refine (laws_eqIntS.calls k X9 c9 l0 U8 d8 l0 true w8 X0.out.C D9.out R8.out.C D8.out P6.out).mono ?_); rintro e w9 ⟨rfl, hd1⟩; have b1 := bo_drawn hd1; replace V7 := Aside0.mk (V7.out.below b1); replace X0 := Aside0.mk (X0.out.below b1); replace X2 := Aside0.mk (X2.out.below b1); replace G0 := Aside0.mk (G0.out.below b1); replace HB := Aside0.mk (bo_then HB.out b1); clear hd1 b1 R8 D8)
    | (go_at_call 6; (with_reducible refine (HT2.out w9 HB.out).mono ?_); rintro e w10 ⟨_, rfl, r1, b1⟩; obtain ⟨U9, d9, rfl, hd1, rb1⟩ := BoRow.new r1 HB.out; have R8 := Aside0.mk rb1; have D8 := Aside0.mk hd1; replace V7 := Aside0.mk (V7.out.below b1); replace X0 := Aside0.mk (X0.out.below b1); replace X2 := Aside0.mk (X2.out.below b1); replace G0 := Aside0.mk (G0.out.below b1); replace HB := Aside0.mk (bo_then HB.out b1); clear r1 b1 hd1 rb1)
    | (go_at_call 9; (with_reducible refine (laws_eqIntS.calls k X10 c10 l2 U9 d9 l2 true w10 X2.out.C D10.out R8.out.C D8.out P7.out).mono ?_); rintro e w11 ⟨rfl, hd1⟩; have b1 := bo_drawn hd1; replace V7 := Aside0.mk (V7.out.below b1); replace X0 := Aside0.mk (X0.out.below b1); replace X2 := Aside0.mk (X2.out.below b1); replace G0 := Aside0.mk (G0.out.below b1); replace HB := Aside0.mk (bo_then HB.out b1); clear hd1 b1 R8 D8)
    | (go_at_call 10; (with_reducible refine (bo_mark k (W := w11) X0.out HB.out 1 n1 P8.out).mono ?_); rintro e w12 ⟨rfl, b1, k1⟩; replace V7 := Aside0.mk (V7.out.kept k1 (.inl (Nat.le_refl _))); replace X2 := Aside0.mk (X2.out.kept k1 (.inr (Nat.le_refl _))); replace G0 := Aside0.mk (G0.out.kept k1 (.inr L10.out)); replace HB := Aside0.mk b1; clear b1 k1 X0)
    | (go_at_call 10; (with_reducible refine (bo_mark k (W := w12) X2.out HB.out n1 n2 P9.out).mono ?_); rintro e w13 ⟨rfl, b1, k1⟩; replace V7 := Aside0.mk (V7.out.kept k1 (.inl L9.out)); replace G0 := Aside0.mk (G0.out.kept k1 (.inr (Nat.le_refl _))); replace HB := Aside0.mk b1; clear b1 k1 X2)
    | (go_at_call 8; (with_reducible refine (laws_eqIntSS.calls k X11 c11 v X7 c7 v true w13 G0.out.C D11.out V7.out.C D7.out P5.out).mono ?_); rintro e w14 ⟨rfl, hd1⟩; have b1 := bo_drawn hd1; replace V7 := Aside0.mk (V7.out.below b1); replace G0 := Aside0.mk (G0.out.below b1); replace HB := Aside0.mk (bo_then HB.out b1); clear hd1 b1)
    | (go_at_call 11; (with_reducible refine (bo_marks k (W := w14) G0.out HB.out 1 q P10.out).mono ?_); rintro e w15 ⟨rfl, g1, b1, k1⟩; replace V7 := Aside0.mk (V7.out.kept k1 (.inl (Nat.le_trans L9.out L10.out))); replace G0 := Aside0.mk g1; replace HB := Aside0.mk b1; clear b1 k1 g1)
    | (go_at_call 12; (with_reducible refine (bo_held k (W := w15) G0.out 1 q P11.out).mono ?_); rintro e w16 ⟨rfl, hd1⟩; have b1 := bo_drawn hd1; replace V7 := Aside0.mk (V7.out.below b1); replace G0 := Aside0.mk (G0.out.below b1); replace HB := Aside0.mk (bo_then HB.out b1); clear hd1 b1)
    | (go_at_call 6; (with_reducible refine (HT0.out w16 HB.out).mono ?_); rintro e w17 ⟨_, rfl, r1, b1⟩; obtain ⟨U17, d17, rfl, hd1, rb1⟩ := BoRow.new r1 HB.out; have R1 := Aside0.mk rb1; have D1 := Aside0.mk hd1; replace V7 := Aside0.mk (V7.out.below b1); replace G0 := Aside0.mk (G0.out.below b1); replace HB := Aside0.mk (bo_then HB.out b1); clear r1 b1 hd1 rb1)
    | (go_at_call 6; (with_reducible refine (HT2.out w17 HB.out).mono ?_); rintro e w18 ⟨_, rfl, r1, b1⟩; obtain ⟨U18, d18, rfl, hd1, rb1⟩ := BoRow.new r1 HB.out; have R2 := Aside0.mk rb1; have D2 := Aside0.mk hd1; replace R1 := Aside0.mk (R1.out.below b1); replace V7 := Aside0.mk (V7.out.below b1); replace G0 := Aside0.mk (G0.out.below b1); replace HB := Aside0.mk (bo_then HB.out b1); clear r1 b1 hd1 rb1)
    | (go_at_call 7; (with_reducible refine (impl_BoxesOf.calls k U17 d17 l0 a1 U18 d18 l2 v b w18 R1.out.C D1.out R2.out.C D2.out P4.out).mono ?_); rintro e w19 ⟨_, rfl, s1, b1⟩; obtain ⟨X19, c19, rfl, hd1, rb1⟩ := BoRows.new s1 HB.out; have H0 := Aside0.mk rb1; have D19 := Aside0.mk hd1; replace V7 := Aside0.mk (V7.out.below b1); replace G0 := Aside0.mk (G0.out.below b1); replace HB := Aside0.mk (bo_then HB.out b1); clear s1 b1 hd1 rb1 R1 R2 D1 D2)
    | (go_at_call 8; (with_reducible refine (laws_eqIntSS.calls k X19 c19 v X7 c7 v true w19 H0.out.C D19.out V7.out.C D7.out P5.out).mono ?_); rintro e w20 ⟨rfl, hd1⟩; have b1 := bo_drawn hd1; replace G0 := Aside0.mk (G0.out.below b1); replace HB := Aside0.mk (bo_then HB.out b1); clear hd1 b1)
    | (go_at_call 12; (with_reducible refine (bo_held k (W := w20) G0.out 1 q P11.out).mono ?_); rintro e w21 ⟨rfl, hd1⟩; have b1 := bo_drawn hd1; replace HB := Aside0.mk (bo_then HB.out b1); clear hd1 b1))
  go_ret
  exact ⟨rfl, HB.out⟩
set_option maxRecDepth 100000 in
set_option maxHeartbeats 16000000 in
theorem laws_FnExactBoxesOf.calls (P : laws_FnExactBoxesOf.Pure) (A0 : Option Addr) (c0 : Nat) (l0 : List Int) (a1 : Int) (A2 : Option Addr) (c2 : Nat) (l2 : List Int) (w : World) (hr0 : Kd.C (Kd.int .i64) w A0 l0.length l0) (hc0 : l0.length ≤ c0) (hr2 : Kd.C (Kd.int .i64) w A2 l2.length l2) (hc2 : l2.length ≤ c2) :
    Calls Try.prog 3 #[.slice A0 l0.length c0, .int .i64 a1, .slice A2 l2.length c2] w fun e w' => e = .returned (.bool true) ∧ Below w.heap.size w w' := by
  by_cases h0 : l0.length ≤ 1048576
  · by_cases h2 : l2.length ≤ 1048576
    · exact laws_FnExactBoxesOf.short P A0 c0 l0 a1 A2 c2 l2 w hr0 hc0 hr2 hc2 h0 h2
    · have c4b0 : decide (1048576 < (l0.length : Int)) = false := decide_eq_false (by omega)
      have c4b1 : decide (1048576 < l0.length) = false := decide_eq_false (by omega)
      have c5b0 : decide (1048576 < (l2.length : Int)) = true := decide_eq_true (by omega)
      have c5b1 : decide (1048576 < l2.length) = true := decide_eq_true (by omega)
      clear h0 h2 hr0 hc0 hr2 hc2 P
      go_enter Try.func3, Try.ntmps3
      go_wp2
      go_ret
      exact ⟨rfl, Below.refl _ _⟩
  · have c4b0 : decide (1048576 < (l0.length : Int)) = true := decide_eq_true (by omega)
    have c4b1 : decide (1048576 < l0.length) = true := decide_eq_true (by omega)
    clear h0 hr0 hc0 hr2 hc2 P
    go_enter Try.func3, Try.ntmps3
    go_wp2
    go_ret
    exact ⟨rfl, Below.refl _ _⟩
theorem laws_FnExactBoxesOf.walk (P : laws_FnExactBoxesOf.Pure) (a0 : Option Addr) (len0 cap0 : Nat) (z0 : List Int) (a1 : Int) (a2 : Option Addr) (len2 cap2 : Nat) (z2 : List Int) (w : World) (w0 : (a0 = none ∧ len0 = 0 ∧ cap0 = 0 ∧ z0 = []) ∨ ∃ x, a0 = some x ∧ len0 ≤ cap0 ∧ cap0 ≤ maxLen ∧ z0.length = cap0 ∧ (∀ i, i < z0.length → w.cell? (x.add i) = some (.int .i64 (z0.getD i 0))) ∧ ∀ n ∈ z0, (Lit.int .i64 n).wf = true) (y0 : len0 * 8 ≤ 140737488351232) (w1 : (Lit.int .i64 a1).wf = true) (w2 : (a2 = none ∧ len2 = 0 ∧ cap2 = 0 ∧ z2 = []) ∨ ∃ x, a2 = some x ∧ len2 ≤ cap2 ∧ cap2 ≤ maxLen ∧ z2.length = cap2 ∧ (∀ i, i < z2.length → w.cell? (x.add i) = some (.int .i64 (z2.getD i 0))) ∧ ∀ n ∈ z2, (Lit.int .i64 n).wf = true) (y2 : len2 * 8 ≤ 140737488351232) :
    Calls Try.prog 3 #[.slice a0 len0 cap0, .int .i64 a1, .slice a2 len2 cap2] w fun e w' => e = .returned (.bool true) ∧ Below w.heap.size w w' := by
  obtain ⟨l0, rfl, hr0, hm0, hw0, hc0⟩ := ReadsInt.ofRowC w0
  obtain ⟨l2, rfl, hr2, hm2, hw2, hc2⟩ := ReadsInt.ofRowC w2
  exact laws_FnExactBoxesOf.calls P _ _ l0 a1 _ _ l2 w (Kd.C_of_reads (d := (0 : Int)) (h1 := fun _ => rfl) hr0) hc0 (Kd.C_of_reads (d := (0 : Int)) (h1 := fun _ => rfl) hr2) hc2


end Go.Proofs.Ytchbjdoneanhpaa.P
