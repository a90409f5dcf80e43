-- Laid by wip/myprint.py of this project (a wrapper over the kit's print.py); Lean checks it.
import Derived.Test.YtchbjdoneanhpaaPx0
import Derived.Test.YtchbjdoneanhpaaPx11
namespace Go.Proofs.Ytchbjdoneanhpaa.P
open Go.RowKit Go.Proofs.YtchbjdoneanhpaaW.PrintWords Go.Proofs.YtchbjdoneanhpaaW.PrintLast Go.Proofs.YtchbjdoneanhpaaW.PrintMore
attribute [local go_sem] max2_int min2_int max_two min_two max_three min_three max_four min_four   -- for this text's walks alone
set_option linter.unusedVariables false
set_option linter.unusedSimpArgs false

/-! ### laws_markIntSS: function 11 (by hand) -/
def laws_markIntSS.l0 : Nat → List (List Int) → Int → Int → Option (Int × List (List Int))
  | 0, _, _, _ => none
  | k + 1, x, m, i => if i < (x.length : Int) then (if 0 ≤ i then ((laws_markIntS.f k (x.getD i.toNat []) m).bind fun bt => laws_markIntSS.l0 k (x.set i.toNat bt.2) bt.1 (wrap64 (i + 1))) else none) else some (m, x)
def laws_markIntSS.f (k : Nat) (l0 : List (List Int)) (a1 : Int) : Option (Int × List (List Int)) := laws_markIntSS.l0 k l0 a1 0
set_option maxRecDepth 100000 in
set_option maxHeartbeats 8000000 in
theorem laws_markIntSS.calls (k : Nat) (ok : Nat → Prop) (v : Value) (l0 : List (List Int)) (a1 r1 : Int) (r2 : List (List Int)) (w0 w : World) (hB : Below w0.heap.size w0 w) (ho0 : Kd.S (Kd.slice 3 (Kd.int .i64)) 22 w w0.heap.size ok v l0) (h : laws_markIntSS.f k l0 a1 = some (r1, r2)) :
    Calls Try.prog 11 #[v, .int .i64 a1] w fun e w' => e = .returned (.int .i64 r1) ∧ Kd.S (Kd.slice 3 (Kd.int .i64)) 22 w' w0.heap.size ok v r2 ∧ Below w0.heap.size w0 w' ∧ Kept w w' ok := by
  have HO0 := Aside0.mk ho0
  have HB := Aside0.mk hB
  have H' : Aside0 (laws_markIntSS.l0 k l0 a1 0 = some (r1, r2)) := ⟨h⟩
  obtain ⟨A, n, c, rfl⟩ : ∃ A n c, v = .slice A n c := by
    obtain ⟨f, hR⟩ := ho0
    obtain ⟨A, c, e⟩ := Kd.R_slice hR
    exact ⟨A, _, c, e⟩
  clear hB ho0 h
  go_enter Try.func11, Try.ntmps11
  go_wp2
  go_loopg [1, 5] k (fun kq v1 v5 w' => ∃ (xs : List (List Int)) (m i : Int), v1 = .int .i64 m ∧ v5 = .int .i64 i ∧ Aside0 (laws_markIntSS.l0 kq xs m i = some (r1, r2)) ∧ Aside0 (kq ≤ k) ∧ Aside0 (Kd.S (Kd.slice 3 (Kd.int .i64)) 22 w' w0.heap.size ok (.slice A n c) xs) ∧ Aside0 (Kept w w' ok) ∧ Aside0 (Below w0.heap.size w0 w'))
  case atStart => exact ⟨l0, a1, 0, rfl, rfl, H', ⟨Nat.le_refl _⟩, HO0, ⟨Kept.refl _ _⟩, HB⟩
  case round =>
    clear H' HO0 HB
    obtain ⟨xs, m, i, rfl, rfl, HA, HK1, HS, HK, HB⟩ := hrel
    obtain ⟨f, hR⟩ := HS.out
    obtain ⟨A', c', e'⟩ := Kd.R_slice hR
    rw [List.length_zipIdx] at e'
    injection e' with e1 e2 e3
    subst e2
    clear hR f A' c' e1 e3
    cases gk with
    | zero => exact absurd HA.out (by simp [laws_markIntSS.l0])
    | succ k1 =>
      have H := HA.out
      clear HA
      simp only [laws_markIntSS.l0] at H
      by_cases c3 : i < (xs.length : Int)
      · rw [if_pos c3] at H
        by_cases c4 : 0 ≤ i
        · rw [if_pos c4] at H
          obtain ⟨⟨b1, b2⟩, hb, H⟩ := Option.bind_eq_some_iff.mp H
          have H' : Aside0 (laws_markIntSS.l0 k1 (xs.set i.toNat b2) b1 (wrap64 (i + 1)) = some (r1, r2)) := ⟨H⟩
          clear H
          obtain ⟨g, cap, ev, _, _, _⟩ := Kd.S_form HS.out (by omega)
          injection ev with ev1 _ ev3
          subst ev1 ev3
          obtain ⟨oki, cs, hcl, hM, hcc, hoki, hH⟩ := Kd.S_lend HS.out [] i c4 c3
          obtain ⟨vi, rfl, hRi⟩ := hM
          have hcc' : ∀ j u, [vi][j]? = some u → wr.cell? ⟨g, i.toNat * 1 + j, none⟩ = some u := hcc
          have hx : wr.cell? ⟨g, i.toNat, none⟩ = some vi := by simpa using hcc' 0 vi rfl
          clear hcc'
          have T := Aside0.mk (laws_markIntS.calls k1 oki vi _ m b1 b2 w0 wr HB.out hRi hb)
          have hok : ∀ k, vi.ownBlock = some k → oki k := hRi.1
          have X := Aside0.mk (And.intro hok (And.intro hH (And.intro hoki hcl)))
          clear hcc hRi hb hok hH hoki hcl
          have c3b0 : decide (i < (xs.length : Int)) = true := decide_eq_true c3
          have c4b0 : decide (0 ≤ i) = true := decide_eq_true c4
          replace c3 := eq_true c3
          replace c4 := eq_true c4
          go_wp2_with (go_at_call 10; refine T.out.mono ?_; rintro e w1 ⟨rfl, hr1, hb1, hk1⟩; have R1 := Aside0.mk (And.intro hr1 (And.intro hb1 hk1)); clear hr1 hb1 hk1)
          go_roundg k1
          case measure => have := HK1.out; omega
          case rel =>
            obtain ⟨hok, hH, hoki, hcl⟩ := X.out
            obtain ⟨hr1, hb1, hk1⟩ := R1.out
            exact ⟨xs.set i.toNat b2, b1, wrap64 (i + 1), rfl, rfl, H', ⟨by have := HK1.out; omega⟩, ⟨Kd.H_back (okp := oki) (Kd.H_kept hH hk1 (fun _ _ hn => hn)) ⟨vi, rfl, Kd.R_reok rfl hr1 hok⟩ (fun _ hk => hk)⟩, ⟨HK.out.then_ hk1 (fun k hk => .inl (hoki k hk).1)⟩, ⟨hb1⟩⟩
        · rw [if_neg c4] at H
          exact absurd H (by simp)
      · rw [if_neg c3] at H
        have c3b0 : decide (i < (xs.length : Int)) = false := decide_eq_false c3
        clear c3
        simp only [Option.some.injEq, Prod.mk.injEq] at H
        obtain ⟨rfl, rfl⟩ := H
        go_wp2
        go_ret
        exact ⟨rfl, HS.out, HB.out, HK.out⟩


end Go.Proofs.Ytchbjdoneanhpaa.P
