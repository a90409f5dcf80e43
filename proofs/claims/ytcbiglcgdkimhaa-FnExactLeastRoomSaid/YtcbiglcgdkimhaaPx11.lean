-- Laid by wip/myprint.py of this project (a wrapper over the kit's print.py); Lean checks it.
import Derived.Test.YtcbiglcgdkimhaaPx0
import Derived.Test.YtcbiglcgdkimhaaPx1
import Derived.Test.YtcbiglcgdkimhaaPx2
namespace Go.Proofs.Ytcbiglcgdkimhaa.P
open Go.RowKit Go.Proofs.YtcbiglcgdkimhaaW.PrintWords Go.Proofs.YtcbiglcgdkimhaaW.PrintLast Go.Proofs.YtcbiglcgdkimhaaW.PrintMore
attribute [local go_sem] max2_int min2_int max_two min_two max_three min_three max_four min_four   -- for this text's walks alone
set_option linter.unusedVariables false
set_option linter.unusedSimpArgs false

/-! ### impl_plans: function 76 (by hand) -/
/-- One box for the next thing: the loads then. -/
def nextLoads (l : List Int) (k : Nat) (x : Int) : List Int := (if k = l.length then l ++ [0] else l).set k (wrap64 (rd (if k = l.length then l ++ [0] else l) k + x))
/-- All plans that go on from p, whose loads are l, with at most so many boxes, in order. -/
def plansL (room most : Int) : List Int → List Int → List Int → List (List Int)
  | [], p, _ => [p]
  | x :: xs, p, l => (List.range (min ((l.length : Int) + 1) most).toNat).flatMap fun k : Nat => if rd (nextLoads l k x) k ≤ room then plansL room most xs (p ++ [(k : Int)]) (nextLoads l k x) else []
/-- What comes of a run over the plans E, where 'each' answers dd. -/
def outB (dd : Bool) (E : List (List Int)) : Bool := dd || E.isEmpty
/-- The plans that 'each' is called with. -/
def outL (dd : Bool) (E : List (List Int)) : List (List Int) := if dd then E else E.take 1
/-- What is asked of 'each': it answers d. -/
def EachP (ge : Nat) (lbe : Array Value) (S : Nat → Prop) (N0 : Nat) (d : Bool) (J : List (List Int) → World → Prop) : Prop :=
  ∀ (pre : List (List Int)) (W : World) (A : Option Addr) (c : Nat) (p : List Int), J pre W → Kd.R (Kd.int .i64) 3 W N0 (fun _ => True) (.slice A p.length c) p →
    Calls Try.prog ge (#[.slice A p.length c] ++ lbe) W fun e W' => e = .returned (.bool d) ∧ J (pre ++ [p]) W' ∧ Mod S W W'
def StaysP (J : List (List Int) → World → Prop) : Prop := ∀ s W W', J s W → Below W.heap.size W W' → J s W'
structure PlanW (S : Nat → Prop) (ge : Nat) (lbe : Array Value) (bt be bm br bc : Nat) (AT : Option Addr) (cT : Nat) (t : List Int) (most room : Int) (W : World) : Prop where
  ct : W.cell? ⟨bt, 0, none⟩ = some (.slice AT t.length cT)
  ce : W.cell? ⟨be, 0, none⟩ = some (.func (.func ge) #[] lbe)
  cm : W.cell? ⟨bm, 0, none⟩ = some (.int .i64 most)
  cr : W.cell? ⟨br, 0, none⟩ = some (.int .i64 room)
  cc : W.cell? ⟨bc, 0, none⟩ = some (.func (.func 95) #[] #[.pointer (some ⟨bt, 0, none⟩), .pointer (some ⟨be, 0, none⟩), .pointer (some ⟨bm, 0, none⟩), .pointer (some ⟨br, 0, none⟩), .pointer (some ⟨bc, 0, none⟩)])
  nt : ¬ S bt
  ne : ¬ S be
  nm : ¬ S bm
  nr : ¬ S br
  nc : ¬ S bc
  rt : Kd.C (Kd.int .i64) W AT t.length t
  ft : ∀ ad, AT = some ad → 0 < t.length → ¬ S ad.block
theorem PlanW.mod {S : Nat → Prop} {ge : Nat} {lbe : Array Value} {bt be bm br bc : Nat} {AT : Option Addr} {cT : Nat} {t : List Int} {most room : Int} {W W' : World} (h : PlanW S ge lbe bt be bm br bc AT cT t most room W) (hm : Mod S W W') : PlanW S ge lbe bt be bm br bc AT cT t most room W' :=
  ⟨hm.cell h.ct h.nt, hm.cell h.ce h.ne, hm.cell h.cm h.nm, hm.cell h.cr h.nr, hm.cell h.cc h.nc, h.nt, h.ne, h.nm, h.nr, h.nc, C_mod h.rt hm h.ft, h.ft⟩
/-- A row of one's own that lies outside S stays. -/
theorem R_mod {k : IntKind} {S : Nat → Prop} {e N0 : Nat} {w w' : World} {v : Value} {xs : List Int} (h : Kd.R (Kd.int k) e w N0 (fun _ => True) v xs) (hm : Mod S w w') (hS : ∀ k, S k → k < N0) : Kd.R (Kd.int k) e w' N0 (fun _ => True) v xs :=
  Kd.R_mono (Kd.R_kept (Kd.R_bound h) hm.kept (fun k hk hs => by have := hS k hs; have := hk.2.1; omega)) (fun _ _ => trivial)
theorem out_hit (dd : Bool) (Ek E rest : List (List Int)) (h : dd = true ∨ Ek = []) (hb : outB dd E = false) : outB dd (Ek ++ E ++ rest) = false ∧ outL dd (Ek ++ E ++ rest) = Ek ++ outL dd E := by
  unfold outB at hb ⊢
  unfold outL
  cases dd with
  | true => cases hb
  | false =>
    rcases h with h | h
    · cases h
    · subst h
      cases E with
      | nil => cases hb
      | cons e E => exact ⟨rfl, rfl⟩
theorem out_miss (dd : Bool) (Ek E : List (List Int)) (h : dd = true ∨ Ek = []) (hb : outB dd E = true) : (dd = true ∨ Ek ++ E = []) ∧ outL dd E = E := by
  unfold outB at hb
  unfold outL
  cases dd with
  | true => exact ⟨.inl rfl, rfl⟩
  | false =>
    rcases h with h | h
    · cases h
    · subst h
      cases E with
      | nil => exact ⟨.inr rfl, rfl⟩
      | cons e E => cases hb
theorem out_all (dd : Bool) (E : List (List Int)) (h : dd = true ∨ E = []) : outB dd E = true ∧ outL dd E = E := by
  unfold outB outL
  rcases h with rfl | rfl
  · exact ⟨rfl, rfl⟩
  · cases dd <;> exact ⟨rfl, rfl⟩
theorem range_cut {α : Type} (F : Nat → List α) {k : Nat} : ∀ m : Nat, k < m → ∃ rest, (List.range m).flatMap F = (List.range k).flatMap F ++ F k ++ rest
  | m + 1, h => by
    rw [List.range_succ, List.flatMap_append]
    rcases Nat.lt_or_ge k m with h' | h'
    · obtain ⟨rest, hr⟩ := range_cut F m h'
      exact ⟨rest ++ [m].flatMap F, by rw [hr, List.append_assoc]⟩
    · obtain rfl : k = m := by omega
      exact ⟨[], by simp⟩
theorem R_C_len {e : TypeId} {w : World} {N n c : Nat} {g : Nat} {ok : Nat → Prop} {xs : List Int} (h : Kd.R (Kd.int .i64) e w N ok (.slice (some ⟨g, 0, none⟩) n c) xs) : Kd.C (Kd.int .i64) w (some ⟨g, 0, none⟩) xs.length xs := by
  obtain ⟨A, c', e', h1, h2⟩ := Kd.R_reads h
  cases e'; exact h2
theorem R_cap_len {e : TypeId} {w : World} {N n c : Nat} {g : Nat} {ok : Nat → Prop} {xs : List Int} (h : Kd.R (Kd.int .i64) e w N ok (.slice (some ⟨g, 0, none⟩) n c) xs) : xs.length ≤ c := by
  obtain ⟨A, c', e', h1, h2⟩ := Kd.R_reads h
  cases e'; exact h1
theorem C_reads_mod {S : Nat → Prop} {e : TypeId} {w w' : World} {N n c : Nat} {A : Option Addr} {xs : List Int} (h : Kd.R (Kd.int .i64) e w N (fun _ => True) (.slice A n c) xs) (hm : Mod S w w') (hS : ∀ k, S k → k < N) : Kd.C (Kd.int .i64) w' A xs.length xs := by
  obtain ⟨A', c', e', h1, h2⟩ := Kd.R_reads (R_mod h hm hS)
  cases e'; exact h2
def planT10 : Bool × List (List Nat × List Nat) := (true, [([], []), ([], []), ([0, 1], [0, 1]), ([2], [2]), ([], []), ([], []), ([4, 5], [4, 5]), ([6], [6]), ([3, 7], [3, 7]), ([0, 1, 0, 1, 2, 3, 4, 5, 6, 7, 8], [0, 1]), ([9, 8, 0, 1, 2, 3, 4, 5, 6, 7, 8], [8, 9])])
def planB10 : List Nat := [0, 0, 3, 7, 0, 0, 48, 112, 255, 511, 1023]
theorem planTab10 : rtab .any (opsOf Try.f95 10) = planT10 := by kernel_rfl
theorem planBits10 : waitsOk planT10.2 planB10 = true := by kernel_rfl
set_option maxRecDepth 100000 in
set_option maxHeartbeats 8000000 in
theorem plans_choose (S : Nat → Prop) (N0 : Nat) (hS : ∀ k, S k → k < N0) (ge : Nat) (lbe : Array Value) (ege : ∀ args w, (callFunc ge args).run Try.prog w = .ok (.enter ge args) w) (dd : Bool) (J : List (List Int) → World → Prop) (hJ : StaysP J) (hE : EachP ge lbe S N0 dd J) (bt be bm br bc : Nat) (AT : Option Addr) (cT : Nat) (t : List Int) (most room : Int) (ht : t.length ≤ 9) (d : Nat) :
    ∀ (p l : List Int) (pre : List (List Int)) (Ap : Option Addr) (cp : Nat) (Al : Option Addr) (cl : Nat) (W : World), p.length + d = t.length → l.length ≤ p.length → N0 ≤ W.heap.size → J pre W → PlanW S ge lbe bt be bm br bc AT cT t most room W → Kd.R (Kd.int .i64) 3 W N0 (fun _ => True) (.slice Ap p.length cp) p → Kd.C (Kd.int .i64) W Al l.length l → l.length ≤ cl → (∀ ad, Al = some ad → 0 < l.length → ¬ S ad.block) →
    Calls Try.prog 95 #[.slice Ap p.length cp, .slice Al l.length cl, .pointer (some ⟨bt, 0, none⟩), .pointer (some ⟨be, 0, none⟩), .pointer (some ⟨bm, 0, none⟩), .pointer (some ⟨br, 0, none⟩), .pointer (some ⟨bc, 0, none⟩)] W fun e W' => e = .returned (.bool (outB dd (plansL room most (t.drop p.length) p l))) ∧ J (pre ++ outL dd (plansL room most (t.drop p.length) p l)) W' ∧ Mod S W W' := by
  induction d with
  | zero =>
    intro p l pre Ap cp Al cl W hd hlp hN hj hP hr hrl hcl hf
    have hcall := Aside0.mk (hE pre W Ap cp p hj hr)
    have hpl : Aside0 (plansL room most (t.drop p.length) p l = [p]) := ⟨by rw [List.drop_of_length_le (by omega)]; rfl⟩
    have ct := hP.ct
    have ce := hP.ce
    have hq : ((p.length : Int) == (t.length : Int)) = true := by rw [beq_iff_eq]; omega
    have hq2 : (p.length == t.length) = true := by rw [beq_iff_eq]; omega
    clear hd hj hP hr hrl hf hE hJ hS
    go_enter Try.func95, Try.ntmps95
    go_wp2_with ((with_reducible refine hcall.out.mono ?_); rintro e w' ⟨rfl, hj', hm'⟩)
    go_ret
    refine ⟨?_, ?_, hm'⟩
    · rw [hpl.out]; simp [outB]
    · rw [hpl.out]; cases dd <;> simpa [outL] using hj'
  | succ d ih =>
    intro p l pre Ap cp Al cl W hd hlp hN hj hP hr hrl hcl hf
    have hlt : p.length < t.length := by omega
    obtain ⟨x, hx⟩ : ∃ x, x = rd t p.length := ⟨_, rfl⟩
    obtain ⟨aT, eT, hxT⟩ := Kd.at_int hP.rt (p.length : Int) (by omega) (by omega)
    rw [Int.toNat_natCast, ← hx] at hxT
    subst eT
    have hadS : ¬ S (aT.add p.length).block := by rw [add_block]; exact hP.ft aT rfl (by omega)
    have ct := hP.ct
    have cm := hP.cm
    have cr := hP.cr
    have cc := hP.cc
    obtain ⟨m, hm⟩ : ∃ m, m = (min ((l.length : Int) + 1) most).toNat := ⟨_, rfl⟩
    have hm10 : m ≤ 10 := by omega
    obtain ⟨F, hF_⟩ : ∃ F : Nat → List (List Int), F = fun k : Nat => if rd (nextLoads l k x) k ≤ room then plansL room most (t.drop (p.length + 1)) (p ++ [(k : Int)]) (nextLoads l k x) else [] := ⟨_, rfl⟩
    have HF_ : Aside0 (∀ k : Nat, F k = if rd (nextLoads l k x) k ≤ room then plansL room most (t.drop (p.length + 1)) (p ++ [(k : Int)]) (nextLoads l k x) else []) := ⟨fun k => by rw [hF_]⟩
    have Hpl : Aside0 (plansL room most (t.drop p.length) p l = (List.range m).flatMap F) := ⟨by rw [drop_rd' hlt, ← hx, hm, hF_]; rfl⟩
    clear hF_
    have Hd := Aside0.mk hd
    have Hlp : Aside0 (l.length ≤ p.length ∧ p.length < 9) := ⟨by omega⟩
    have HP := Aside0.mk hP
    have HR := Aside0.mk hr
    have HRl := Aside0.mk hrl
    have HF := Aside0.mk hf
    have HJ := Aside0.mk hj
    have HX := Aside0.mk hx
    have HM := Aside0.mk hm
    have hq : ((p.length : Int) == (t.length : Int)) = false := by rw [beq_eq_false_iff_ne]; omega
    have hq2 : (p.length == t.length) = false := by rw [beq_eq_false_iff_ne]; omega
    clear hd hP hr hrl hf hj hx hm hlp
    have hl10 : l.length ≤ 9 := by have := Hlp.out; omega
    have Hm1 : Aside0 (∀ k : Nat, k < m → (k : Int) < l.length + 1 ∧ (k : Int) < most) := ⟨fun k hk => by have := HM.out; omega⟩
    have Hm2 : Aside0 (∀ k : Nat, ¬ k < m → (l.length + 1 ≤ most → ¬ (k : Int) < l.length + 1) ∧ (¬ (l.length : Int) + 1 ≤ most → ¬ (k : Int) < most)) := ⟨fun k hk => by have := HM.out; omega⟩
    by_cases hcm : (l.length : Int) + 1 ≤ most
    all_goals
      go_enter Try.func95, Try.ntmps95
      go_wp2_with fail
      go_loopg [27] m (fun gk v27 wr => ∃ k : Nat, k ≤ m ∧ m - k ≤ gk ∧ v27 = .int .i64 k ∧ Aside0 (J (pre ++ ((List.range k).flatMap F)) wr) ∧ Aside0 (Mod S W wr) ∧ Aside0 (dd = true ∨ ((List.range k).flatMap F) = []))
      case atStart => exact ⟨0, Nat.zero_le _, by omega, rfl, ⟨by simpa using HJ.out⟩, ⟨Mod.refl _ _⟩, ⟨.inr (by simp)⟩⟩
      case round =>
        obtain ⟨k, hk, hgk, rfl, HJk, HMd, HDk⟩ := hrel
        have hk0 : (0 : Int) ≤ k := Int.natCast_nonneg _
        have hct := HMd.out.cell ct HP.out.nt
        have hcr := HMd.out.cell cr HP.out.nr
        have hcc := HMd.out.cell cc HP.out.nc
        have hcx := HMd.out.cell hxT hadS
        have HaS := Aside0.mk hadS
        have HRl' := Aside0.mk (C_mod HRl.out HMd.out HF.out)
        clear ct cr cc cm hxT hadS
        by_cases hlt' : k < m
        · obtain ⟨hk1, hk2⟩ := Hm1.out k hlt'
          have hkl : k ≤ l.length := by omega
          obtain ⟨y, hy⟩ : ∃ y, y = if k = l.length then l ++ [0] else l := ⟨_, rfl⟩
          have hky : k < y.length := by rw [hy]; split <;> (try rw [List.length_append]) <;> (try rw [List.length_singleton]) <;> omega
          have hkyi : (k : Int) < (y.length : Int) := by omega
          have hy10 : y.length ≤ 10 := by rw [hy]; split <;> (try rw [List.length_append]) <;> (try rw [List.length_singleton]) <;> omega
          by_cases hkk : k = l.length
          · rw [if_pos hkk] at hy
            have Hy := Aside0.mk hy
            have hq3 : ((k : Int) == (l.length : Int)) = true := by rw [beq_iff_eq]; omega
            have hq4 : (k == l.length) = true := by rw [beq_iff_eq]; omega
            have Hkk := Aside0.mk hkk
            clear hy hkk
            go_wp2_with (first
              | (go_at_call 70; refine (slices_Clone_int_int.calls Al cl l l _ HRl'.out hcl (clone_small (by omega))).mono ?_; rintro e w1 ⟨v12, rfl, ho1, hb1⟩; have HO1 := Aside0.mk ho1; have HB1 := Aside0.mk hb1; clear ho1 hb1)
              | ((with_reducible refine gate_builtin (b := .append) (xs := #[.tmp 36, .tmp 37]) rfl ?_); at_builtin; refine Kd.R_append (Kd.int .i64) (w0 := wr) wr.heap.size rfl (.tmp 36) (.tmp 37) 22 3 (.int .i64 0) 8 rfl Try.underlying22 info3 rfl (by decide) (by omega) v12 l 0 [.int .i64 0] (fun _ => True) (fun _ => False) rfl rfl ?aP (fun _ hk => hk.elim) ?aF ?aO ?aB ?aS ?aL ?_; (case aP => exact rfl); (case aB => exact HB1.out); (case aF => exact fun _ _ => trivial); (case aO => exact HO1.out); (case aS => exact HB1.out.size); (case aL => omega); intro v38 w2 ho hb hg hat; rw [← Hy.out] at ho; obtain ⟨g8, d8, e8, gb8, _, _, _⟩ := Kd.R_form ho (by omega); subst e8; have HO2 := Aside0.mk ho; have HB2 := Aside0.mk hb; have GB8 := Aside0.mk gb8; clear ho hb hg hat gb8))
            have hx2 := pw_cell_below HB2.out hcx
            have ht2 := pw_cell_below HB2.out hct
            obtain ⟨hx8, hf8⟩ := Kd.R_celln 0 HO2.out (k : Int) (by omega) (by omega)
            rw [Int.toNat_natCast] at hx8 hf8
            refine start_ (n := 11) (S := fun w' => w'.cell? ⟨g8, k, none⟩ = some (.int .i64 (rdOf 0 y k)) ∧ w'.cell? ⟨bt, 0, none⟩ = some (.slice (some aT) t.length cT) ∧ w'.cell? (aT.add p.length) = some (.int .i64 x)) (ds := [10]) #[false, false, false, false, false, false, false, false, false, false, false] (by kernel_rfl) rfl rfl ⟨hx8, ht2, hx2⟩ (fun hHeld => ?_); refine with_tabW planTab10 planBits10 (fun HT_ HW_ => ?_)
            replace HO2 : Aside0 (Kd.R (Kd.int .i64) 3 w2.drew wr.heap.size (fun _ => True) (.slice (some ⟨g8, 0, none⟩) y.length d8) y) := ⟨HO2.out⟩
            replace HB2 : Aside0 (Below wr.heap.size wr w2.drew) := ⟨HB2.out.drew⟩
            replace hf8 : w2.drew.frozen? ⟨g8, k, none⟩ = false := hf8
            replace hx8 : w2.drew.cell? ⟨g8, k, none⟩ = some (.int .i64 (rdOf 0 y k)) := hx8
            clear hx2 ht2
            generalize w2.drew = w3 at HO2 HB2 hf8 hx8 hHeld ⊢
            refine pure_ (i := 0) (N := some 39) (v := ?_) (a' := ?_) #[true, false, false, false, false, false, false, false, false, false, false] rfl rfl (any_of HT_.out (by kernel_rfl)) (fun _ _ _ h => h) (Or.inl ⟨by rfl, ?_⟩) ?_ ?_
            rotate_left
            · intro w'
              go_simp
              with_reducible rfl
            rotate_left
            · simp only [Act.put, List.setIfInBounds_toArray, List.set_cons_zero, List.set_cons_succ, i64_w, i32_w]
              rfl
            refine pure_ (i := 1) (N := some 40) (v := ?_) (a' := ?_) #[true, true, false, false, false, false, false, false, false, false, false] rfl rfl (any_of HT_.out (by kernel_rfl)) (fun _ _ _ h => h) (Or.inl ⟨by rfl, ?_⟩) ?_ ?_
            rotate_left
            · intro w'
              go_simp
              with_reducible rfl
            rotate_left
            · simp only [Act.put, List.setIfInBounds_toArray, List.set_cons_zero, List.set_cons_succ, i64_w, i32_w]
              rfl
            refine pure_ (i := 2) (N := some 41) (v := ?_) (a' := ?_) #[true, true, true, false, false, false, false, false, false, false, false] rfl rfl (any_of HT_.out (by kernel_rfl)) (fun _ _ _ h => h) (Or.inl ⟨by rfl, ?_⟩) ?_ ?_
            rotate_left
            · intro w'
              go_simp
              with_reducible rfl
            rotate_left
            · simp only [Act.put, List.setIfInBounds_toArray, List.set_cons_zero, List.set_cons_succ, i64_w, i32_w]
              rfl
            refine pure_ (i := 5) (N := some 44) (v := ?_) (a' := ?_) #[true, true, true, false, false, true, false, false, false, false, false] rfl rfl (any_of HT_.out (by kernel_rfl)) (fun _ _ _ h => h) (Or.inl ⟨by rfl, ?_⟩) ?_ ?_
            rotate_left
            · intro w'
              go_simp
              with_reducible rfl
            rotate_left
            · simp only [Act.put, List.setIfInBounds_toArray, List.set_cons_zero, List.set_cons_succ, i64_w, i32_w]
              rfl
            refine take_ (i := 4) (N := some 43) (v := ?_) (a' := ?_) #[true, true, true, false, true, true, false, false, false, false, false] rfl rfl (take_ofW HT_.out HW_.out (by kernel_rfl)) (fun _ _ _ h => h) (Or.inl ⟨by rfl, ?_⟩) hHeld ?_ ?_
            rotate_left
            · rintro w' ⟨s0, s1, s2⟩
              (try simp only [Go.IntWalk.toNatUp] at s0 s1 s2)
              go_simp
              with_reducible rfl
            rotate_left
            · simp only [Act.put, List.setIfInBounds_toArray, List.set_cons_zero, List.set_cons_succ, i64_w, i32_w]
              rfl
            refine pure_ (i := 6) (N := some 45) (v := ?_) (a' := ?_) #[true, true, true, false, true, true, true, false, false, false, false] rfl rfl (any_of HT_.out (by kernel_rfl)) (fun _ _ _ h => h) (Or.inl ⟨by rfl, ?_⟩) ?_ ?_
            rotate_left
            · intro w'
              go_simp
              with_reducible rfl
            rotate_left
            · simp only [Act.put, List.setIfInBounds_toArray, List.set_cons_zero, List.set_cons_succ, i64_w, i32_w]
              rfl
            refine take_ (i := 3) (N := some 42) (v := ?_) (a' := ?_) #[true, true, true, true, true, true, true, false, false, false, false] rfl rfl (take_ofW HT_.out HW_.out (by kernel_rfl)) (fun _ _ _ h => h) (Or.inl ⟨by rfl, ?_⟩) hHeld ?_ ?_
            rotate_left
            · rintro w' ⟨s0, s1, s2⟩
              (try simp only [Go.IntWalk.toNatUp] at s0 s1 s2)
              go_simp
              with_reducible rfl
            rotate_left
            · simp only [Act.put, List.setIfInBounds_toArray, List.set_cons_zero, List.set_cons_succ, i64_w, i32_w]
              rfl
            refine take_ (i := 7) (N := some 46) (v := ?_) (a' := ?_) #[true, true, true, true, true, true, true, true, false, false, false] rfl rfl (take_ofW HT_.out HW_.out (by kernel_rfl)) (fun _ _ _ h => h) (Or.inl ⟨by rfl, ?_⟩) hHeld ?_ ?_
            rotate_left
            · rintro w' ⟨s0, s1, s2⟩
              (try simp only [Go.IntWalk.toNatUp] at s0 s1 s2)
              go_simp
              with_reducible rfl
            rotate_left
            · simp only [Act.put, List.setIfInBounds_toArray, List.set_cons_zero, List.set_cons_succ, i64_w, i32_w]
              rfl
            refine pure_ (i := 8) (N := some 47) (v := ?_) (a' := ?_) #[true, true, true, true, true, true, true, true, true, false, false] rfl rfl (any_of HT_.out (by kernel_rfl)) (fun _ _ _ h => h) (Or.inl ⟨by rfl, ?_⟩) ?_ ?_
            rotate_left
            · intro w'
              go_simp
              with_reducible rfl
            rotate_left
            · simp only [Act.put, List.setIfInBounds_toArray, List.set_cons_zero, List.set_cons_succ, i64_w, i32_w]
              rfl
            refine pure_ (i := 9) (N := some 48) (v := ?_) (a' := ?_) #[true, true, true, true, true, true, true, true, true, true, false] rfl rfl (any_of HT_.out (by kernel_rfl)) (fun _ _ _ h => h) (Or.inl ⟨by rfl, ?_⟩) ?_ ?_
            rotate_left
            · intro w'
              go_simp
              with_reducible rfl
            rotate_left
            · simp only [Act.put, List.setIfInBounds_toArray, List.set_cons_zero, List.set_cons_succ, i64_w, i32_w]
              rfl
            refine last_ (i := 10) (N := none) #[true, true, true, true, true, true, true, true, true, true, true] rfl rfl (one_of HT_.out (by kernel_rfl)) (by decide) (fun K hK => ?_)
            refine skip_ (w1 := ?_) (by rfl) rfl ?_ ?_
            rotate_left
            · go_simp
              rfl
            refine hK.out _ _ ?_
            clear hK K
            refine done_ (done_of HT_.out (by kernel_rfl)) ?_
            obtain ⟨nl, hnl⟩ : ∃ nl, nl = nextLoads l k x := ⟨_, rfl⟩
            have hnly : nl = y.set k (wrap64 (rdOf 0 y k + x)) := by rw [hnl]; unfold nextLoads; first | rw [if_pos Hkk.out, ← Hy.out] | rw [if_neg Hkk.out, ← Hy.out]
                                                                     rfl
            have hnlen : nl.length = y.length := by rw [hnly, List.length_set]
            have HP3 : Aside0 (Kd.R (Kd.int .i64) 3 (w3.setCell ⟨g8, k, none⟩ (.int .i64 (wrap64 (rdOf 0 y k + x)))) wr.heap.size (fun _ => True) (.slice (some ⟨g8, 0, none⟩) y.length d8) nl) := ⟨by have h := Kd.R_putn HO2.out (k : Int) (wrap64 (rdOf 0 y k + x)); rw [Int.toNat_natCast] at h; rw [hnly]; exact h⟩
            have HB3 : Aside0 (Below wr.heap.size wr (w3.setCell ⟨g8, k, none⟩ (.int .i64 (wrap64 (rdOf 0 y k + x))))) := ⟨below_set HB2.out GB8.out⟩
            have Hnl := Aside0.mk hnl
            have Hnlen := Aside0.mk hnlen
            have Hyl : Aside0 (y.length ≤ p.length + 1) := ⟨by have := Hlp.out; rw [Hy.out]; first | (rw [List.length_append, List.length_singleton]; omega) | omega⟩
            clear hnl hnly hnlen hf8 hx8 hHeld HB2 HO2
            go_wp2_with fail
            generalize w3.setCell ⟨g8, k, none⟩ (.int .i64 (wrap64 (rdOf 0 y k + x))) = w4 at HP3 HB3 ⊢
            obtain ⟨hx9, _⟩ := Kd.R_celln 0 HP3.out (k : Int) (by omega) (by omega)
            rw [Int.toNat_natCast] at hx9
            obtain ⟨z, hz⟩ : ∃ z, z = rdOf 0 nl k := ⟨_, rfl⟩
            rw [← hz] at hx9
            have Hz : Aside0 (z = rd (nextLoads l k x) k) := ⟨by rw [hz, Hnl.out]; rfl⟩
            have hr4 := pw_cell_below HB3.out hcr
            have hc4 := pw_cell_below HB3.out hcc
            clear hz
            by_cases hle : z ≤ room
            · have hzb : decide (z ≤ room) = true := decide_eq_true hle
              have HFk : Aside0 (F k = plansL room most (t.drop (p.length + 1)) (p ++ [(k : Int)]) nl) := ⟨by rw [HF_.out, if_pos (by rw [← Hz.out]; exact hle), Hnl.out]⟩
              obtain ⟨p', hp'⟩ : ∃ p', p' = p ++ [(k : Int)] := ⟨_, rfl⟩
              have Hp' := Aside0.mk hp'
              have Hlen' : Aside0 (p'.length = p.length + 1) := ⟨by rw [hp']; simp⟩
              obtain ⟨E, hE_⟩ : ∃ E, E = F k := ⟨_, rfl⟩
              have HE_ := Aside0.mk hE_
              have HEq : Aside0 (plansL room most (t.drop p'.length) p' nl = E) := ⟨by rw [Hlen'.out, Hp'.out, ← HFk.out, ← HE_.out]⟩
              obtain ⟨b, hb⟩ : ∃ b, b = outB dd E := ⟨_, rfl⟩
              have Hb := Aside0.mk hb
              obtain ⟨hcR, hrR⟩ := show p.length ≤ cp ∧ Kd.C (Kd.int .i64) W Ap p.length p by
                obtain ⟨A, c, e, h, k⟩ := Kd.R_reads HR.out; cases e; exact ⟨h, k⟩
              have HRp : Aside0 (Kd.C (Kd.int .i64) w4 Ap p.length p) := ⟨C_below (Kd.heap_int _) (C_reads_mod HR.out HMd.out hS) HB3.out⟩
              have HgS : Aside0 (¬ S g8) := ⟨fun hs => by have := hS _ hs; have := GB8.out; have := HMd.out.size; omega⟩
              clear hp' hE_ hb hrR hle
              go_region_held3 (fun w' => w'.cell? ⟨g8, k, none⟩ = some (.int .i64 z) ∧ w'.cell? ⟨br, 0, none⟩ = some (.int .i64 room) ∧ w'.cell? ⟨bc, 0, none⟩ = some (.func (.func 95) #[] #[.pointer (some ⟨bt, 0, none⟩), .pointer (some ⟨be, 0, none⟩), .pointer (some ⟨bm, 0, none⟩), .pointer (some ⟨br, 0, none⟩), .pointer (some ⟨bc, 0, none⟩)]))
                (first | go_keep | exact ⟨pw_cell_below HB5.out hx9, pw_cell_below HB5.out hr4, pw_cell_below HB5.out hc4⟩ | exact ⟨pw_cell_below HB6.out hx9, pw_cell_below HB6.out hr4, pw_cell_below HB6.out hc4⟩ | exact ⟨HM47.out.cell hx9 HgS.out, HM47.out.cell hr4 HP.out.nr, HM47.out.cell hc4 HP.out.nc⟩)
                (first
                  | (go_at_call 70
                     refine (slices_Clone_int_int.calls Ap cp p p _ ?_ hcR (clone_small (by have := Hlp.out; omega))).mono ?_
                     · (repeat (first | exact HRp.out | (with_reducible refine Kd.C_alloc ?_ _) | (with_reducible refine Kd.C_drew ?_)))
                     rintro e w5 ⟨v58, rfl, ho5, hb5⟩
                     have HO5 : Aside0 (Kd.R (Kd.int .i64) 3 w5 w4.heap.size (fun _ => True) v58 p) := ⟨Kd.R_lower ho5 (by simp)⟩
                     have HB5 : Aside0 (Below w4.heap.size w4 w5) := ⟨below_then (by first | exact below_alloc (Below.refl _ w4).drew _ | exact (below_alloc (Below.refl _ w4) _).drew | exact (Below.refl _ w4).drew) (by simp) hb5⟩
                     have HX5 := Aside0.mk hb5
                     clear ho5 hb5)
                  | (refine Kd.R_append_rows_step (Kd.int .i64) (w0 := w4) w4.heap.size (by rfl) (.tmp 58) (.tmp 60) 22 3 (.int .i64 0) 8 rfl Try.underlying22 info3 rfl (by decide) (by omega) v58 p [(k : Int)] _ 1 1 (fun _ => True) (fun _ => False) (by rfl) (by rfl) ?_ ?_ (fun _ _ h => h) (fun _ h => h.elim) (fun _ _ => trivial) ?_ ?_ ?_ ?_
                     · first | exact HO5.out | exact Kd.R_alloc HO5.out _
                     · first | exact C_one (cell_box _ _ _) | exact C_one (pw_cell_below HX5.out (cell_box w4 _ _))
                     · first | exact HB5.out | exact below_alloc' HB5.out _
                     · first | exact HB5.out.size | exact (below_alloc' HB5.out _).size
                     · have := Hlp.out; omega
                     intro v61 w6 ho6 hb6 hg6 hat6
                     rw [← Hp'.out] at ho6
                     obtain ⟨A6, c6, rfl, hc6, hr6⟩ := Kd.R_reads ho6
                     have HB6 := Aside0.mk hb6
                     have HO6 := Aside0.mk ho6
                     clear ho6 hb6 hg6 hat6 hr6 hc6)
                  | (go_at_call 95
                     have HI := ih p' nl _ A6 c6 (some ⟨g8, 0, none⟩) d8 w6 (by have := Hd.out; have := Hlen'.out; omega) (by have := Hnlen.out; have := Hyl.out; have := Hlen'.out; omega) (by have := HMd.out.size; have := HB3.out.size; have := HB6.out.size; omega) (hJ _ _ _ HJk.out (below_then HB3.out HB3.out.size HB6.out)) (HP.out.mod (HMd.out.trans ((Mod.of_below HB3.out).trans (Mod.of_below HB6.out)))) (Kd.R_lower HO6.out (by have := HMd.out.size; have := HB3.out.size; omega)) (C_below (Kd.heap_int _) (R_C_len HP3.out) HB6.out) (R_cap_len HP3.out) (fun ad h _ hs => by cases h; exact HgS.out hs)
                     rw [HEq.out, ← Hb.out, Hnlen.out] at HI
                     refine HI.mono ?_
                     rintro e w7 ⟨rfl, hj7, hm7⟩
                     have HJ7 := Aside0.mk hj7
                     have HM7 : Aside0 (Mod S wr w7) := ⟨(Mod.of_below HB3.out).trans ((Mod.of_below HB6.out).trans hm7)⟩
                     have HM47 : Aside0 (Mod S w4 w7) := ⟨(Mod.of_below HB6.out).trans hm7⟩
                     clear hj7 hm7 HI))
              all_goals
                cases b with
                | true =>
                  obtain ⟨o1, o2⟩ := out_miss dd _ E HDk.out Hb.out.symm
                  have O1 := Aside0.mk o1
                  have O2 := Aside0.mk o2
                  clear o1 o2
                  go_wp2_with fail
                  go_roundg (m - (k + 1))
                  case measure => omega
                  case rel => exact ⟨k + 1, by omega, by omega, by go_num, ⟨by have h := HJ7.out; rw [O2.out, HE_.out, List.append_assoc] at h; rw [List.range_succ, List.flatMap_append]; simp only [List.flatMap_cons, List.flatMap_nil, List.append_nil]; exact h⟩, ⟨HMd.out.trans HM7.out⟩, ⟨by rw [List.range_succ, List.flatMap_append]; simp only [List.flatMap_cons, List.flatMap_nil, List.append_nil]; rw [← HE_.out]; exact O1.out⟩⟩
                | false =>
                  obtain ⟨rest, hrest⟩ := range_cut F m hlt'
                  obtain ⟨o1, o2⟩ := out_hit dd _ E rest HDk.out Hb.out.symm
                  have O1 : Aside0 (outB dd (plansL room most (t.drop p.length) p l) = false) := ⟨by rw [Hpl.out, hrest, ← HE_.out]; exact o1⟩
                  have O2 : Aside0 (outL dd (plansL room most (t.drop p.length) p l) = (List.range k).flatMap F ++ outL dd E) := ⟨by rw [Hpl.out, hrest, ← HE_.out]; exact o2⟩
                  clear o1 o2 hrest
                  go_wp2_with fail
                  go_ret
                  exact ⟨by rw [O1.out]; rfl, by rw [O2.out, ← List.append_assoc]; exact HJ7.out, HMd.out.trans HM7.out⟩
            · have hzb : decide (z ≤ room) = false := decide_eq_false hle
              have HFk : Aside0 (F k = []) := ⟨by rw [HF_.out, if_neg (by rw [← Hz.out]; exact hle)]⟩
              clear hle
              go_quiet (fail)
              go_wp2_with fail
              go_roundg (m - (k + 1))
              case measure => omega
              case rel => exact ⟨k + 1, by omega, by omega, by go_num, ⟨by rw [List.range_succ, List.flatMap_append]; simp only [List.flatMap_cons, List.flatMap_nil, List.append_nil, HFk.out]; exact hJ _ _ _ HJk.out (pw_below_drewN HB3.out _)⟩, ⟨HMd.out.trans (Mod.of_below (pw_below_drewN HB3.out _))⟩, ⟨by rw [List.range_succ, List.flatMap_append]; simp only [List.flatMap_cons, List.flatMap_nil, List.append_nil, HFk.out]; exact HDk.out⟩⟩
          · rw [if_neg hkk] at hy
            have Hkk := Aside0.mk hkk
            have hq3 : ((k : Int) == (l.length : Int)) = false := by rw [beq_eq_false_iff_ne]; omega
            have hq4 : (k == l.length) = false := by rw [beq_eq_false_iff_ne]; omega
            have Hy := Aside0.mk hy
            clear hy hkk
            go_wp2_with (first
              | (go_at_call 70; refine (slices_Clone_int_int.calls Al cl l l _ HRl'.out hcl (clone_small (by omega))).mono ?_; rintro e w2 ⟨v12, rfl, ho1, hb1⟩; rw [← Hy.out] at ho1; obtain ⟨g8, d8, e8, gb8, _, _, _⟩ := Kd.R_form ho1 (by omega); subst e8; have HO2 := Aside0.mk ho1; have HB2 := Aside0.mk hb1; have GB8 := Aside0.mk gb8; clear ho1 hb1 gb8))
            have hx2 := pw_cell_below HB2.out hcx
            have ht2 := pw_cell_below HB2.out hct
            obtain ⟨hx8, hf8⟩ := Kd.R_celln 0 HO2.out (k : Int) (by omega) (by omega)
            rw [Int.toNat_natCast] at hx8 hf8
            refine start_ (n := 11) (S := fun w' => w'.cell? ⟨g8, k, none⟩ = some (.int .i64 (rdOf 0 y k)) ∧ w'.cell? ⟨bt, 0, none⟩ = some (.slice (some aT) t.length cT) ∧ w'.cell? (aT.add p.length) = some (.int .i64 x)) (ds := [10]) #[false, false, false, false, false, false, false, false, false, false, false] (by kernel_rfl) rfl rfl ⟨hx8, ht2, hx2⟩ (fun hHeld => ?_); refine with_tabW planTab10 planBits10 (fun HT_ HW_ => ?_)
            replace HO2 : Aside0 (Kd.R (Kd.int .i64) 3 w2.drew wr.heap.size (fun _ => True) (.slice (some ⟨g8, 0, none⟩) y.length d8) y) := ⟨HO2.out⟩
            replace HB2 : Aside0 (Below wr.heap.size wr w2.drew) := ⟨HB2.out.drew⟩
            replace hf8 : w2.drew.frozen? ⟨g8, k, none⟩ = false := hf8
            replace hx8 : w2.drew.cell? ⟨g8, k, none⟩ = some (.int .i64 (rdOf 0 y k)) := hx8
            clear hx2 ht2
            generalize w2.drew = w3 at HO2 HB2 hf8 hx8 hHeld ⊢
            refine pure_ (i := 0) (N := some 39) (v := ?_) (a' := ?_) #[true, false, false, false, false, false, false, false, false, false, false] rfl rfl (any_of HT_.out (by kernel_rfl)) (fun _ _ _ h => h) (Or.inl ⟨by rfl, ?_⟩) ?_ ?_
            rotate_left
            · intro w'
              go_simp
              with_reducible rfl
            rotate_left
            · simp only [Act.put, List.setIfInBounds_toArray, List.set_cons_zero, List.set_cons_succ, i64_w, i32_w]
              rfl
            refine pure_ (i := 1) (N := some 40) (v := ?_) (a' := ?_) #[true, true, false, false, false, false, false, false, false, false, false] rfl rfl (any_of HT_.out (by kernel_rfl)) (fun _ _ _ h => h) (Or.inl ⟨by rfl, ?_⟩) ?_ ?_
            rotate_left
            · intro w'
              go_simp
              with_reducible rfl
            rotate_left
            · simp only [Act.put, List.setIfInBounds_toArray, List.set_cons_zero, List.set_cons_succ, i64_w, i32_w]
              rfl
            refine pure_ (i := 2) (N := some 41) (v := ?_) (a' := ?_) #[true, true, true, false, false, false, false, false, false, false, false] rfl rfl (any_of HT_.out (by kernel_rfl)) (fun _ _ _ h => h) (Or.inl ⟨by rfl, ?_⟩) ?_ ?_
            rotate_left
            · intro w'
              go_simp
              with_reducible rfl
            rotate_left
            · simp only [Act.put, List.setIfInBounds_toArray, List.set_cons_zero, List.set_cons_succ, i64_w, i32_w]
              rfl
            refine pure_ (i := 5) (N := some 44) (v := ?_) (a' := ?_) #[true, true, true, false, false, true, false, false, false, false, false] rfl rfl (any_of HT_.out (by kernel_rfl)) (fun _ _ _ h => h) (Or.inl ⟨by rfl, ?_⟩) ?_ ?_
            rotate_left
            · intro w'
              go_simp
              with_reducible rfl
            rotate_left
            · simp only [Act.put, List.setIfInBounds_toArray, List.set_cons_zero, List.set_cons_succ, i64_w, i32_w]
              rfl
            refine take_ (i := 4) (N := some 43) (v := ?_) (a' := ?_) #[true, true, true, false, true, true, false, false, false, false, false] rfl rfl (take_ofW HT_.out HW_.out (by kernel_rfl)) (fun _ _ _ h => h) (Or.inl ⟨by rfl, ?_⟩) hHeld ?_ ?_
            rotate_left
            · rintro w' ⟨s0, s1, s2⟩
              (try simp only [Go.IntWalk.toNatUp] at s0 s1 s2)
              go_simp
              with_reducible rfl
            rotate_left
            · simp only [Act.put, List.setIfInBounds_toArray, List.set_cons_zero, List.set_cons_succ, i64_w, i32_w]
              rfl
            refine pure_ (i := 6) (N := some 45) (v := ?_) (a' := ?_) #[true, true, true, false, true, true, true, false, false, false, false] rfl rfl (any_of HT_.out (by kernel_rfl)) (fun _ _ _ h => h) (Or.inl ⟨by rfl, ?_⟩) ?_ ?_
            rotate_left
            · intro w'
              go_simp
              with_reducible rfl
            rotate_left
            · simp only [Act.put, List.setIfInBounds_toArray, List.set_cons_zero, List.set_cons_succ, i64_w, i32_w]
              rfl
            refine take_ (i := 3) (N := some 42) (v := ?_) (a' := ?_) #[true, true, true, true, true, true, true, false, false, false, false] rfl rfl (take_ofW HT_.out HW_.out (by kernel_rfl)) (fun _ _ _ h => h) (Or.inl ⟨by rfl, ?_⟩) hHeld ?_ ?_
            rotate_left
            · rintro w' ⟨s0, s1, s2⟩
              (try simp only [Go.IntWalk.toNatUp] at s0 s1 s2)
              go_simp
              with_reducible rfl
            rotate_left
            · simp only [Act.put, List.setIfInBounds_toArray, List.set_cons_zero, List.set_cons_succ, i64_w, i32_w]
              rfl
            refine take_ (i := 7) (N := some 46) (v := ?_) (a' := ?_) #[true, true, true, true, true, true, true, true, false, false, false] rfl rfl (take_ofW HT_.out HW_.out (by kernel_rfl)) (fun _ _ _ h => h) (Or.inl ⟨by rfl, ?_⟩) hHeld ?_ ?_
            rotate_left
            · rintro w' ⟨s0, s1, s2⟩
              (try simp only [Go.IntWalk.toNatUp] at s0 s1 s2)
              go_simp
              with_reducible rfl
            rotate_left
            · simp only [Act.put, List.setIfInBounds_toArray, List.set_cons_zero, List.set_cons_succ, i64_w, i32_w]
              rfl
            refine pure_ (i := 8) (N := some 47) (v := ?_) (a' := ?_) #[true, true, true, true, true, true, true, true, true, false, false] rfl rfl (any_of HT_.out (by kernel_rfl)) (fun _ _ _ h => h) (Or.inl ⟨by rfl, ?_⟩) ?_ ?_
            rotate_left
            · intro w'
              go_simp
              with_reducible rfl
            rotate_left
            · simp only [Act.put, List.setIfInBounds_toArray, List.set_cons_zero, List.set_cons_succ, i64_w, i32_w]
              rfl
            refine pure_ (i := 9) (N := some 48) (v := ?_) (a' := ?_) #[true, true, true, true, true, true, true, true, true, true, false] rfl rfl (any_of HT_.out (by kernel_rfl)) (fun _ _ _ h => h) (Or.inl ⟨by rfl, ?_⟩) ?_ ?_
            rotate_left
            · intro w'
              go_simp
              with_reducible rfl
            rotate_left
            · simp only [Act.put, List.setIfInBounds_toArray, List.set_cons_zero, List.set_cons_succ, i64_w, i32_w]
              rfl
            refine last_ (i := 10) (N := none) #[true, true, true, true, true, true, true, true, true, true, true] rfl rfl (one_of HT_.out (by kernel_rfl)) (by decide) (fun K hK => ?_)
            refine skip_ (w1 := ?_) (by rfl) rfl ?_ ?_
            rotate_left
            · go_simp
              rfl
            refine hK.out _ _ ?_
            clear hK K
            refine done_ (done_of HT_.out (by kernel_rfl)) ?_
            obtain ⟨nl, hnl⟩ : ∃ nl, nl = nextLoads l k x := ⟨_, rfl⟩
            have hnly : nl = y.set k (wrap64 (rdOf 0 y k + x)) := by rw [hnl]; unfold nextLoads; first | rw [if_pos Hkk.out, ← Hy.out] | rw [if_neg Hkk.out, ← Hy.out]
                                                                     rfl
            have hnlen : nl.length = y.length := by rw [hnly, List.length_set]
            have HP3 : Aside0 (Kd.R (Kd.int .i64) 3 (w3.setCell ⟨g8, k, none⟩ (.int .i64 (wrap64 (rdOf 0 y k + x)))) wr.heap.size (fun _ => True) (.slice (some ⟨g8, 0, none⟩) y.length d8) nl) := ⟨by have h := Kd.R_putn HO2.out (k : Int) (wrap64 (rdOf 0 y k + x)); rw [Int.toNat_natCast] at h; rw [hnly]; exact h⟩
            have HB3 : Aside0 (Below wr.heap.size wr (w3.setCell ⟨g8, k, none⟩ (.int .i64 (wrap64 (rdOf 0 y k + x))))) := ⟨below_set HB2.out GB8.out⟩
            have Hnl := Aside0.mk hnl
            have Hnlen := Aside0.mk hnlen
            have Hyl : Aside0 (y.length ≤ p.length + 1) := ⟨by have := Hlp.out; rw [Hy.out]; first | (rw [List.length_append, List.length_singleton]; omega) | omega⟩
            clear hnl hnly hnlen hf8 hx8 hHeld HB2 HO2
            go_wp2_with fail
            generalize w3.setCell ⟨g8, k, none⟩ (.int .i64 (wrap64 (rdOf 0 y k + x))) = w4 at HP3 HB3 ⊢
            obtain ⟨hx9, _⟩ := Kd.R_celln 0 HP3.out (k : Int) (by omega) (by omega)
            rw [Int.toNat_natCast] at hx9
            obtain ⟨z, hz⟩ : ∃ z, z = rdOf 0 nl k := ⟨_, rfl⟩
            rw [← hz] at hx9
            have Hz : Aside0 (z = rd (nextLoads l k x) k) := ⟨by rw [hz, Hnl.out]; rfl⟩
            have hr4 := pw_cell_below HB3.out hcr
            have hc4 := pw_cell_below HB3.out hcc
            clear hz
            by_cases hle : z ≤ room
            · have hzb : decide (z ≤ room) = true := decide_eq_true hle
              have HFk : Aside0 (F k = plansL room most (t.drop (p.length + 1)) (p ++ [(k : Int)]) nl) := ⟨by rw [HF_.out, if_pos (by rw [← Hz.out]; exact hle), Hnl.out]⟩
              obtain ⟨p', hp'⟩ : ∃ p', p' = p ++ [(k : Int)] := ⟨_, rfl⟩
              have Hp' := Aside0.mk hp'
              have Hlen' : Aside0 (p'.length = p.length + 1) := ⟨by rw [hp']; simp⟩
              obtain ⟨E, hE_⟩ : ∃ E, E = F k := ⟨_, rfl⟩
              have HE_ := Aside0.mk hE_
              have HEq : Aside0 (plansL room most (t.drop p'.length) p' nl = E) := ⟨by rw [Hlen'.out, Hp'.out, ← HFk.out, ← HE_.out]⟩
              obtain ⟨b, hb⟩ : ∃ b, b = outB dd E := ⟨_, rfl⟩
              have Hb := Aside0.mk hb
              obtain ⟨hcR, hrR⟩ := show p.length ≤ cp ∧ Kd.C (Kd.int .i64) W Ap p.length p by
                obtain ⟨A, c, e, h, k⟩ := Kd.R_reads HR.out; cases e; exact ⟨h, k⟩
              have HRp : Aside0 (Kd.C (Kd.int .i64) w4 Ap p.length p) := ⟨C_below (Kd.heap_int _) (C_reads_mod HR.out HMd.out hS) HB3.out⟩
              have HgS : Aside0 (¬ S g8) := ⟨fun hs => by have := hS _ hs; have := GB8.out; have := HMd.out.size; omega⟩
              clear hp' hE_ hb hrR hle
              go_region_held3 (fun w' => w'.cell? ⟨g8, k, none⟩ = some (.int .i64 z) ∧ w'.cell? ⟨br, 0, none⟩ = some (.int .i64 room) ∧ w'.cell? ⟨bc, 0, none⟩ = some (.func (.func 95) #[] #[.pointer (some ⟨bt, 0, none⟩), .pointer (some ⟨be, 0, none⟩), .pointer (some ⟨bm, 0, none⟩), .pointer (some ⟨br, 0, none⟩), .pointer (some ⟨bc, 0, none⟩)]))
                (first | go_keep | exact ⟨pw_cell_below HB5.out hx9, pw_cell_below HB5.out hr4, pw_cell_below HB5.out hc4⟩ | exact ⟨pw_cell_below HB6.out hx9, pw_cell_below HB6.out hr4, pw_cell_below HB6.out hc4⟩ | exact ⟨HM47.out.cell hx9 HgS.out, HM47.out.cell hr4 HP.out.nr, HM47.out.cell hc4 HP.out.nc⟩)
                (first
                  | (go_at_call 70
                     refine (slices_Clone_int_int.calls Ap cp p p _ ?_ hcR (clone_small (by have := Hlp.out; omega))).mono ?_
                     · (repeat (first | exact HRp.out | (with_reducible refine Kd.C_alloc ?_ _) | (with_reducible refine Kd.C_drew ?_)))
                     rintro e w5 ⟨v58, rfl, ho5, hb5⟩
                     have HO5 : Aside0 (Kd.R (Kd.int .i64) 3 w5 w4.heap.size (fun _ => True) v58 p) := ⟨Kd.R_lower ho5 (by simp)⟩
                     have HB5 : Aside0 (Below w4.heap.size w4 w5) := ⟨below_then (by first | exact below_alloc (Below.refl _ w4).drew _ | exact (below_alloc (Below.refl _ w4) _).drew | exact (Below.refl _ w4).drew) (by simp) hb5⟩
                     have HX5 := Aside0.mk hb5
                     clear ho5 hb5)
                  | (refine Kd.R_append_rows_step (Kd.int .i64) (w0 := w4) w4.heap.size (by rfl) (.tmp 58) (.tmp 60) 22 3 (.int .i64 0) 8 rfl Try.underlying22 info3 rfl (by decide) (by omega) v58 p [(k : Int)] _ 1 1 (fun _ => True) (fun _ => False) (by rfl) (by rfl) ?_ ?_ (fun _ _ h => h) (fun _ h => h.elim) (fun _ _ => trivial) ?_ ?_ ?_ ?_
                     · first | exact HO5.out | exact Kd.R_alloc HO5.out _
                     · first | exact C_one (cell_box _ _ _) | exact C_one (pw_cell_below HX5.out (cell_box w4 _ _))
                     · first | exact HB5.out | exact below_alloc' HB5.out _
                     · first | exact HB5.out.size | exact (below_alloc' HB5.out _).size
                     · have := Hlp.out; omega
                     intro v61 w6 ho6 hb6 hg6 hat6
                     rw [← Hp'.out] at ho6
                     obtain ⟨A6, c6, rfl, hc6, hr6⟩ := Kd.R_reads ho6
                     have HB6 := Aside0.mk hb6
                     have HO6 := Aside0.mk ho6
                     clear ho6 hb6 hg6 hat6 hr6 hc6)
                  | (go_at_call 95
                     have HI := ih p' nl _ A6 c6 (some ⟨g8, 0, none⟩) d8 w6 (by have := Hd.out; have := Hlen'.out; omega) (by have := Hnlen.out; have := Hyl.out; have := Hlen'.out; omega) (by have := HMd.out.size; have := HB3.out.size; have := HB6.out.size; omega) (hJ _ _ _ HJk.out (below_then HB3.out HB3.out.size HB6.out)) (HP.out.mod (HMd.out.trans ((Mod.of_below HB3.out).trans (Mod.of_below HB6.out)))) (Kd.R_lower HO6.out (by have := HMd.out.size; have := HB3.out.size; omega)) (C_below (Kd.heap_int _) (R_C_len HP3.out) HB6.out) (R_cap_len HP3.out) (fun ad h _ hs => by cases h; exact HgS.out hs)
                     rw [HEq.out, ← Hb.out, Hnlen.out] at HI
                     refine HI.mono ?_
                     rintro e w7 ⟨rfl, hj7, hm7⟩
                     have HJ7 := Aside0.mk hj7
                     have HM7 : Aside0 (Mod S wr w7) := ⟨(Mod.of_below HB3.out).trans ((Mod.of_below HB6.out).trans hm7)⟩
                     have HM47 : Aside0 (Mod S w4 w7) := ⟨(Mod.of_below HB6.out).trans hm7⟩
                     clear hj7 hm7 HI))
              all_goals
                cases b with
                | true =>
                  obtain ⟨o1, o2⟩ := out_miss dd _ E HDk.out Hb.out.symm
                  have O1 := Aside0.mk o1
                  have O2 := Aside0.mk o2
                  clear o1 o2
                  go_wp2_with fail
                  go_roundg (m - (k + 1))
                  case measure => omega
                  case rel => exact ⟨k + 1, by omega, by omega, by go_num, ⟨by have h := HJ7.out; rw [O2.out, HE_.out, List.append_assoc] at h; rw [List.range_succ, List.flatMap_append]; simp only [List.flatMap_cons, List.flatMap_nil, List.append_nil]; exact h⟩, ⟨HMd.out.trans HM7.out⟩, ⟨by rw [List.range_succ, List.flatMap_append]; simp only [List.flatMap_cons, List.flatMap_nil, List.append_nil]; rw [← HE_.out]; exact O1.out⟩⟩
                | false =>
                  obtain ⟨rest, hrest⟩ := range_cut F m hlt'
                  obtain ⟨o1, o2⟩ := out_hit dd _ E rest HDk.out Hb.out.symm
                  have O1 : Aside0 (outB dd (plansL room most (t.drop p.length) p l) = false) := ⟨by rw [Hpl.out, hrest, ← HE_.out]; exact o1⟩
                  have O2 : Aside0 (outL dd (plansL room most (t.drop p.length) p l) = (List.range k).flatMap F ++ outL dd E) := ⟨by rw [Hpl.out, hrest, ← HE_.out]; exact o2⟩
                  clear o1 o2 hrest
                  go_wp2_with fail
                  go_ret
                  exact ⟨by rw [O1.out]; rfl, by rw [O2.out, ← List.append_assoc]; exact HJ7.out, HMd.out.trans HM7.out⟩
            · have hzb : decide (z ≤ room) = false := decide_eq_false hle
              have HFk : Aside0 (F k = []) := ⟨by rw [HF_.out, if_neg (by rw [← Hz.out]; exact hle)]⟩
              clear hle
              go_quiet (fail)
              go_wp2_with fail
              go_roundg (m - (k + 1))
              case measure => omega
              case rel => exact ⟨k + 1, by omega, by omega, by go_num, ⟨by rw [List.range_succ, List.flatMap_append]; simp only [List.flatMap_cons, List.flatMap_nil, List.append_nil, HFk.out]; exact hJ _ _ _ HJk.out (pw_below_drewN HB3.out _)⟩, ⟨HMd.out.trans (Mod.of_below (pw_below_drewN HB3.out _))⟩, ⟨by rw [List.range_succ, List.flatMap_append]; simp only [List.flatMap_cons, List.flatMap_nil, List.append_nil, HFk.out]; exact HDk.out⟩⟩
        · skip
          obtain ⟨q1, q2⟩ := Hm2.out k hlt'
          first | (have q3 := q1 hcm) | (have q3 := q2 hcm)
          obtain rfl : k = m := by omega
          clear q1 q2 hlt'
          go_wp2_with fail
          go_ret
          obtain ⟨o1, o2⟩ := out_all dd _ HDk.out
          exact ⟨by rw [Hpl.out, o1]; rfl, by rw [Hpl.out, o2]; exact HJk.out, HMd.out⟩
theorem planW_start {S : Nat → Prop} {ge : Nat} {lbe : Array Value} {AT : Option Addr} {cT : Nat} {t : List Int} {most room : Int} {w : World} {t1 t2 t3 t4 t5 : TypeId} (hS : ∀ k, S k → k < w.heap.size) (hr : Kd.C (Kd.int .i64) w AT t.length t) (hf : ∀ ad, AT = some ad → 0 < t.length → ¬ S ad.block) :
    PlanW S ge lbe w.heap.size (w.heap.size + 3) (w.heap.size + 2) (w.heap.size + 1) (w.heap.size + 4) AT cT t most room (((((w.alloc (.cells #[.slice AT t.length cT] t1)).alloc (.cells #[.int .i64 room] t2)).alloc (.cells #[.int .i64 most] t3)).alloc (.cells #[.func (.func ge) #[] lbe] t4)).alloc (.cells #[.func (.func 95) #[] #[.pointer (some ⟨w.heap.size, 0, none⟩), .pointer (some ⟨w.heap.size + 3, 0, none⟩), .pointer (some ⟨w.heap.size + 2, 0, none⟩), .pointer (some ⟨w.heap.size + 1, 0, none⟩), .pointer (some ⟨w.heap.size + 4, 0, none⟩)]] t5)) := by
  have n0 : ∀ i : Nat, ¬ S (w.heap.size + i) := fun i h => by have := hS _ h; omega
  have b1 := cell_past (cell_past (cell_past (cell_past (cell_box w (.slice AT t.length cT) t1) (.cells #[.int .i64 room] t2)) (.cells #[.int .i64 most] t3)) (.cells #[.func (.func ge) #[] lbe] t4)) (.cells #[.func (.func 95) #[] #[.pointer (some ⟨w.heap.size, 0, none⟩), .pointer (some ⟨w.heap.size + 3, 0, none⟩), .pointer (some ⟨w.heap.size + 2, 0, none⟩), .pointer (some ⟨w.heap.size + 1, 0, none⟩), .pointer (some ⟨w.heap.size + 4, 0, none⟩)]] t5)
  have b2 := cell_past (cell_past (cell_past (cell_box (w.alloc (.cells #[.slice AT t.length cT] t1)) (.int .i64 room) t2) (.cells #[.int .i64 most] t3)) (.cells #[.func (.func ge) #[] lbe] t4)) (.cells #[.func (.func 95) #[] #[.pointer (some ⟨w.heap.size, 0, none⟩), .pointer (some ⟨w.heap.size + 3, 0, none⟩), .pointer (some ⟨w.heap.size + 2, 0, none⟩), .pointer (some ⟨w.heap.size + 1, 0, none⟩), .pointer (some ⟨w.heap.size + 4, 0, none⟩)]] t5)
  have b3 := cell_past (cell_past (cell_box ((w.alloc (.cells #[.slice AT t.length cT] t1)).alloc (.cells #[.int .i64 room] t2)) (.int .i64 most) t3) (.cells #[.func (.func ge) #[] lbe] t4)) (.cells #[.func (.func 95) #[] #[.pointer (some ⟨w.heap.size, 0, none⟩), .pointer (some ⟨w.heap.size + 3, 0, none⟩), .pointer (some ⟨w.heap.size + 2, 0, none⟩), .pointer (some ⟨w.heap.size + 1, 0, none⟩), .pointer (some ⟨w.heap.size + 4, 0, none⟩)]] t5)
  have b4 := cell_past (cell_box (((w.alloc (.cells #[.slice AT t.length cT] t1)).alloc (.cells #[.int .i64 room] t2)).alloc (.cells #[.int .i64 most] t3)) (.func (.func ge) #[] lbe) t4) (.cells #[.func (.func 95) #[] #[.pointer (some ⟨w.heap.size, 0, none⟩), .pointer (some ⟨w.heap.size + 3, 0, none⟩), .pointer (some ⟨w.heap.size + 2, 0, none⟩), .pointer (some ⟨w.heap.size + 1, 0, none⟩), .pointer (some ⟨w.heap.size + 4, 0, none⟩)]] t5)
  have b5 := cell_box ((((w.alloc (.cells #[.slice AT t.length cT] t1)).alloc (.cells #[.int .i64 room] t2)).alloc (.cells #[.int .i64 most] t3)).alloc (.cells #[.func (.func ge) #[] lbe] t4)) (.func (.func 95) #[] #[.pointer (some ⟨w.heap.size, 0, none⟩), .pointer (some ⟨w.heap.size + 3, 0, none⟩), .pointer (some ⟨w.heap.size + 2, 0, none⟩), .pointer (some ⟨w.heap.size + 1, 0, none⟩), .pointer (some ⟨w.heap.size + 4, 0, none⟩)]) t5
  rw [World.size_alloc] at b2
  rw [World.size_alloc, World.size_alloc] at b3
  rw [World.size_alloc, World.size_alloc, World.size_alloc] at b4
  rw [World.size_alloc, World.size_alloc, World.size_alloc, World.size_alloc] at b5
  exact ⟨b1, b4, b3, b2, b5, n0 0, n0 3, n0 2, n0 1, n0 4, C_below (Kd.heap_int _) hr (below_alloc (below_alloc (below_alloc (below_alloc (below_alloc (Below.refl _ w) _) _) _) _) _), hf⟩
set_option maxRecDepth 100000 in
set_option maxHeartbeats 4000000 in
theorem plans_calls (S : Nat → Prop) (ge : Nat) (lbe : Array Value) (ege : ∀ args w, (callFunc ge args).run Try.prog w = .ok (.enter ge args) w) (dd : Bool) (J : List (List Int) → World → Prop) (hJ : StaysP J) (AT : Option Addr) (cT : Nat) (t : List Int) (most room : Int) (w : World) (hE : EachP ge lbe S w.heap.size dd J) (ht : t.length ≤ 9)
    (hS : ∀ k, S k → k < w.heap.size) (hj : J [] w) (hr : Kd.C (Kd.int .i64) w AT t.length t) (hf : ∀ ad, AT = some ad → 0 < t.length → ¬ S ad.block) :
    Calls Try.prog 76 #[.slice AT t.length cT, .int .i64 room, .int .i64 most, .func (.func ge) #[] lbe] w fun e W' => e = .returned (.bool (outB dd (plansL room most t [] []))) ∧ J (outL dd (plansL room most t [] [])) W' ∧ Mod S w W' := by
  have HC := Aside0.mk (plans_choose S w.heap.size hS ge lbe ege dd J hJ hE w.heap.size (w.heap.size + 3) (w.heap.size + 2) (w.heap.size + 1) (w.heap.size + 4) AT cT t most room ht t.length [] [] [] none 0 none 0)
  have HS := Aside0.mk hS
  have HJ := Aside0.mk hj
  have HR := Aside0.mk hr
  have HF := Aside0.mk hf
  clear hE hS hj hr hf
  go_enter Try.func76, Try.ntmps76
  go_wp2_with (go_at_call 95
               refine (HC.out _ (by simp) (Nat.le_refl _) (by simp; omega) (hJ _ _ _ HJ.out (below_alloc (below_alloc (below_alloc (below_alloc (below_alloc (Below.refl _ w) _) _) _) _) _)) (planW_start HS.out HR.out HF.out) (R_nil_ _ _ _ _) (Kd.C_nil _ _) (by simp) (by simp)).mono ?_
               rintro e w1 ⟨rfl, hj1, hm1⟩)
  go_ret
  exact ⟨rfl, by simpa using hj1, ((((((Mod.refl _ w).alloc _).alloc _).alloc _).alloc _).alloc _).trans hm1⟩


end Go.Proofs.Ytcbiglcgdkimhaa.P
