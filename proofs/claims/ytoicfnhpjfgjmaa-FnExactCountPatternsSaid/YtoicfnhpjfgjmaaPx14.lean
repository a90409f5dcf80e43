-- Laid by wip/myprint.py of this project (a wrapper over the kit's print.py); Lean checks it.
import Derived.Test.YtoicfnhpjfgjmaaPx0
import Derived.Test.YtoicfnhpjfgjmaaPx1
import Derived.Test.YtoicfnhpjfgjmaaPx2
namespace Go.Proofs.Ytoicfnhpjfgjmaa.P
open Go.RowKit Go.Proofs.YtoicfnhpjfgjmaaW.PrintWords Go.Proofs.YtoicfnhpjfgjmaaW.PrintLast Go.Proofs.YtoicfnhpjfgjmaaW.PrintMore
attribute [local go_sem] max2_int min2_int max_two min_two max_three min_three max_four min_four   -- for this text's walks alone
set_option linter.unusedVariables false
set_option linter.unusedSimpArgs false

/-! ### impl_patterns: function 60 (by hand) -/
theorem le_div {left x : Int} {n m : Nat} (h0 : 0 ≤ left) (h1 : 1 ≤ x) (h : (n : Int) * x ≤ left) (hm : m = left.toNat / x.toNat) : n ≤ m := by
  rw [hm, Nat.le_div_iff_mul_le (by omega)]
  have : ((n * x.toNat : Nat) : Int) ≤ left := by rw [Int.natCast_mul, Int.toNat_of_nonneg (by omega)]; exact h
  omega
theorem lt_div {left x : Int} {n m : Nat} (h0 : 0 ≤ left) (h1 : 1 ≤ x) (h : ¬ (n : Int) * x ≤ left) (hm : m = left.toNat / x.toNat) : m < n := by
  rw [hm, Nat.div_lt_iff_lt_mul (by omega)]
  have : ¬ ((n * x.toNat : Nat) : Int) ≤ left := by rw [Int.natCast_mul, Int.toNat_of_nonneg (by omega)]; exact h
  omega
theorem drop_rd' {l : List Int} {i : Nat} (h : i < l.length) : l.drop i = rd l i :: l.drop (i + 1) := by
  rw [List.drop_eq_getElem_cons h]
  congr 1
  simp [rd, List.getD_eq_getElem?_getD, List.getElem?_eq_getElem h]
/-- All patterns that go on from p, with what is left. -/
def pats : List Int → List Int → Int → List (List Int × Int)
  | [], p, left => [(p, left)]
  | x :: xs, p, left => (List.range (left.toNat / x.toNat + 1)).flatMap fun n : Nat => pats xs (p ++ [(n : Int)]) (left - (n : Int) * x)
/-- What is asked of 'each'. -/
def Each (ge : Nat) (lbe : Array Value) (S : Nat → Prop) (J : List (List Int × Int) → World → Prop) : Prop :=
  ∀ (pre : List (List Int × Int)) (W : World) (A : Option Addr) (c : Nat) (p : List Int) (n : Int), J pre W → Kd.C (Kd.int .i64) W A p.length p → p.length ≤ c →
    Calls Try.prog ge (#[.slice A p.length c, .int .i64 n] ++ lbe) W fun e W' => e = .returned (.tuple #[]) ∧ J (pre ++ [(p, n)]) W' ∧ Mod S W W'
def Stays (J : List (List Int × Int) → World → Prop) : Prop := ∀ s W W', J s W → Below W.heap.size W W' → J s W'
structure PatW (S : Nat → Prop) (ge : Nat) (lbe : Array Value) (bl be bc : Nat) (AL : Option Addr) (cL : Nat) (l : List Int) (W : World) : Prop where
  cl : W.cell? ⟨bl, 0, none⟩ = some (.slice AL l.length cL)
  ce : W.cell? ⟨be, 0, none⟩ = some (.func (.func ge) #[] lbe)
  cc : W.cell? ⟨bc, 0, none⟩ = some (.func (.func 71) #[] #[.pointer (some ⟨bl, 0, none⟩), .pointer (some ⟨be, 0, none⟩), .pointer (some ⟨bc, 0, none⟩)])
  nl : ¬ S bl
  ne : ¬ S be
  nc : ¬ S bc
  rl : Kd.C (Kd.int .i64) W AL l.length l
  fl : ∀ ad, AL = some ad → 0 < l.length → ¬ S ad.block
theorem PatW.mod {S : Nat → Prop} {ge : Nat} {lbe : Array Value} {bl be bc : Nat} {AL : Option Addr} {cL : Nat} {l : List Int} {W W' : World} (h : PatW S ge lbe bl be bc AL cL l W) (hm : Mod S W W') : PatW S ge lbe bl be bc AL cL l W' :=
  ⟨hm.cell h.cl h.nl, hm.cell h.ce h.ne, hm.cell h.cc h.nc, h.nl, h.ne, h.nc, C_mod h.rl hm h.fl, h.fl⟩
set_option maxHeartbeats 4000000 in
theorem choose_calls (S : Nat → Prop) (N0 : Nat) (hS : ∀ k, S k → k < N0) (ge : Nat) (lbe : Array Value) (ege : ∀ args w, (callFunc ge args).run Try.prog w = .ok (.enter ge args) w) (J : List (List Int × Int) → World → Prop) (hJ : Stays J) (hE : Each ge lbe S J) (bl be bc : Nat) (AL : Option Addr) (cL : Nat) (l : List Int) (hl : l.length ≤ 4) (hg : ∀ x ∈ l, 1 ≤ x ∧ x ≤ 60) (d : Nat) :
    ∀ (p : List Int) (left : Int) (pre : List (List Int × Int)) (A : Option Addr) (c : Nat) (W : World), p.length + d = l.length → 0 ≤ left → left ≤ 60 → N0 ≤ W.heap.size → J pre W → PatW S ge lbe bl be bc AL cL l W → Kd.C (Kd.int .i64) W A p.length p → p.length ≤ c → (∀ ad, A = some ad → 0 < p.length → ¬ S ad.block) →
    Calls Try.prog 71 #[.slice A p.length c, .int .i64 left, .pointer (some ⟨bl, 0, none⟩), .pointer (some ⟨be, 0, none⟩), .pointer (some ⟨bc, 0, none⟩)] W fun e W' => e = .returned (.tuple #[]) ∧ J (pre ++ pats (l.drop p.length) p left) W' ∧ Mod S W W' := by
  induction d with
  | zero =>
    intro p left pre A c W hd h0 h1 hN hj hP hr hc hf
    have hlen : p.length = l.length := by omega
    have hcall := Aside0.mk (hE pre W A c p left hj hr hc)
    have hpats : Aside0 (pats (l.drop p.length) p left = [(p, left)]) := ⟨by rw [List.drop_of_length_le (by omega)]; rfl⟩
    have cl := hP.cl
    have ce := hP.ce
    have hq : ((p.length : Int) == (l.length : Int)) = true := by rw [beq_iff_eq]; omega
    have hq2 : (p.length == l.length) = true := by rw [beq_iff_eq]; omega
    clear hd hj hP hr hf hE hJ hS hlen
    go_enter Try.func71, Try.ntmps71
    go_wp2_with ((with_reducible refine hcall.out.mono ?_); rintro e w' ⟨rfl, hj', hm'⟩)
    refine bodyPost_ret (v := .tuple #[]) (by simp [results, Try.results71, go_sem]) rfl ⟨rfl, ?_, hm'⟩
    rw [hpats.out]; exact hj'
  | succ d ih =>
    intro p left pre A c W hd h0 h1 hN hj hP hr hc hf
    have hlt : p.length < l.length := by omega
    obtain ⟨x, hx⟩ : ∃ x, x = rd l p.length := ⟨_, rfl⟩
    have hxm : 1 ≤ x ∧ x ≤ 60 := by
      rw [hx]; unfold rd; rw [List.getD_eq_getElem?_getD, List.getElem?_eq_getElem (by simpa using hlt)]
      exact hg _ (List.getElem_mem _)
    have hcc := hP.cc
    obtain ⟨aL, eL, hxL⟩ := Kd.at_int hP.rl (p.length : Int) (by omega) (by omega)
    rw [Int.toNat_natCast, ← hx] at hxL
    subst eL
    have hadS : ¬ S (aL.add p.length).block := by rw [add_block]; exact hP.fl aL rfl (by omega)
    have cl := hP.cl
    have Hd := Aside0.mk hd
    have HP := Aside0.mk hP
    have Hlen : Aside0 (p.length ≤ 4) := ⟨by omega⟩
    have HR := Aside0.mk hr
    have HF := Aside0.mk hf
    have HJ := Aside0.mk hj
    have HX := Aside0.mk hx
    have hq : ((p.length : Int) == (l.length : Int)) = false := by rw [beq_eq_false_iff_ne]; omega
    have hq2 : (p.length == l.length) = false := by rw [beq_eq_false_iff_ne]; omega
    clear hd hP hr hf hj hx
    go_enter Try.func71, Try.ntmps71
    go_wp2_with fail
    obtain ⟨m, hm⟩ : ∃ m, m = left.toNat / x.toNat := ⟨_, rfl⟩
    have hm60 : m ≤ 60 := by rw [hm]; exact Nat.le_trans (Nat.div_le_self _ _) (by omega)
    have Hpats : Aside0 (pats (l.drop p.length) p left = (List.range (m + 1)).flatMap fun n : Nat => pats (l.drop (p.length + 1)) (p ++ [(n : Int)]) (left - (n : Int) * x)) := ⟨by rw [drop_rd' hlt, ← HX.out, hm]; rfl⟩
    have HM := Aside0.mk hm
    clear hm
    go_loopg [8] (m + 1) (fun gk v8 wr => ∃ n : Nat, v8 = .int .i64 n ∧ n ≤ m + 1 ∧ m + 1 - n ≤ gk ∧ Aside0 (J (pre ++ (List.range n).flatMap fun n : Nat => pats (l.drop (p.length + 1)) (p ++ [(n : Int)]) (left - (n : Int) * x)) wr) ∧ Aside0 (Mod S W wr))
    case atStart => exact ⟨0, rfl, by omega, by omega, ⟨by simpa using HJ.out⟩, ⟨Mod.refl _ _⟩⟩
    case round =>
      obtain ⟨n, rfl, hn, hgk, HJn, HMd⟩ := hrel
      have hn0 : (0 : Int) ≤ n := Int.natCast_nonneg _
      have hcl := HMd.out.cell cl HP.out.nl
      have hcx := HMd.out.cell hxL hadS
      have HaS := Aside0.mk hadS
      clear hadS
      have hcc' := HMd.out.cell hcc HP.out.nc
      clear cl hxL hcc
      have hwy : IntKind.i64.wrap ((n : Int) * x) = (n : Int) * x := by
        have : (n : Int) * x ≤ 61 * 60 := Int.mul_le_mul (by omega) (by omega) (by omega) (by omega)
        have : 0 ≤ (n : Int) * x := Int.mul_nonneg (by omega) (by omega)
        exact IntWalk.i64_in _ (by omega)
      have hy0 : 0 ≤ (n : Int) * x := Int.mul_nonneg (by omega) (by omega)
      obtain ⟨p', hp'⟩ : ∃ p', p' = p ++ [(n : Int)] := ⟨_, rfl⟩
      have Hp' := Aside0.mk hp'
      have Hlen' : Aside0 (p'.length = p.length + 1) := ⟨by rw [hp']; simp⟩
      clear hp'
      have HRp := Aside0.mk (C_mod HR.out HMd.out HF.out)
      have Hnm : Aside0 ((n : Int) * x ≤ left → n ≤ m) := ⟨fun h => le_div h0 hxm.1 h HM.out⟩
      have Hnx : Aside0 (¬ (n : Int) * x ≤ left → n = m + 1) := ⟨fun h => by have := lt_div h0 hxm.1 h HM.out; omega⟩
      by_cases hle : (n : Int) * x ≤ left
      · have hw2 : IntKind.i64.wrap (left - (n : Int) * x) = left - (n : Int) * x := IntWalk.i64_in _ (by omega)
        go_wp2_with fail
        go_region_held3 (fun w' => w'.cell? ⟨bc, 0, none⟩ = some (.func (.func 71) #[] #[.pointer (some ⟨bl, 0, none⟩), .pointer (some ⟨be, 0, none⟩), .pointer (some ⟨bc, 0, none⟩)]) ∧ w'.cell? ⟨bl, 0, none⟩ = some (.slice (some aL) l.length cL) ∧ w'.cell? (aL.add p.length) = some (.int .i64 x))
          (first | go_keep | exact ⟨pw_cell_below HB1.out hcc', pw_cell_below HB1.out hcl, pw_cell_below HB1.out hcx⟩ | exact ⟨pw_cell_below HB2.out hcc', pw_cell_below HB2.out hcl, pw_cell_below HB2.out hcx⟩ | exact ⟨HM3.out.cell hcc' HP.out.nc, HM3.out.cell hcl HP.out.nl, HM3.out.cell hcx HaS.out⟩)
          (first
            | (go_at_call 72
               refine (slices_Clone_int_int.calls A c p p _ ?_ hc (clone_small (by have := Hlen.out; omega))).mono ?_
               · (repeat (first | exact HRp.out | (with_reducible refine Kd.C_alloc ?_ _) | (with_reducible refine Kd.C_drew ?_)))
               rintro e w1 ⟨v31, rfl, ho1, hb1⟩
               have HO1 : Aside0 (Kd.R (Kd.int .i64) 3 w1 wr.heap.size (fun _ => True) v31 p) := ⟨Kd.R_lower ho1 (by simp)⟩
               have HB1 : Aside0 (Below wr.heap.size wr w1) := ⟨below_then (by first | exact below_alloc (Below.refl _ wr).drew _ | exact (below_alloc (Below.refl _ wr) _).drew | exact (Below.refl _ wr).drew) (by simp) hb1⟩
               have HX1 := Aside0.mk hb1
               clear ho1 hb1)
            | (refine Kd.R_append_rows_step (Kd.int .i64) (w0 := wr) wr.heap.size (by rfl) (.tmp 31) (.tmp 33) 23 3 (.int .i64 0) 8 rfl Try.underlying23 info3 rfl (by decide) (by omega) v31 p [(n : Int)] _ 1 1 (fun _ => True) (fun _ => False) (by rfl) (by rfl) ?_ ?_ (fun _ _ h => h) (fun _ h => h.elim) (fun _ _ => trivial) ?_ ?_ ?_ ?_
               · first | exact HO1.out | exact Kd.R_alloc HO1.out _
               · first | exact C_one (cell_box _ _ _) | exact C_one (pw_cell_below HX1.out (cell_box wr _ _))
               · first | exact HB1.out | exact below_alloc' HB1.out _
               · first | exact HB1.out.size | exact (below_alloc' HB1.out _).size
               · have := Hlen.out; omega
               intro v34 w2 ho2 hb2 hg2 hat2
               rw [← Hp'.out] at ho2
               obtain ⟨A2, c2, rfl, hc2, hr2⟩ := Kd.R_reads ho2
               have HF2 : Aside0 (∀ ad, A2 = some ad → 0 < p'.length → ¬ S ad.block) := ⟨own_far ho2 (by have := HMd.out.size; omega) hS⟩
               have HB2 := Aside0.mk hb2
               have HR2 := Aside0.mk hr2
               clear ho2 hb2 hg2 hat2 hr2)
            | (go_at_call 71
               refine (ih p' (left - (n : Int) * x) _ A2 c2 _ (by have := Hd.out; have := Hlen'.out; omega) (by omega) (by omega) ?_ (hJ _ _ _ HJn.out HB2.out) (HP.out.mod (HMd.out.trans (Mod.of_below HB2.out))) HR2.out hc2 HF2.out).mono ?_
               · have := HMd.out.size; have := HB2.out.size; omega
               rintro e w3 ⟨rfl, hj3, hm3⟩
               have HJ3 := Aside0.mk hj3
               have HM3 : Aside0 (Mod S wr w3) := ⟨(Mod.of_below HB2.out).trans hm3⟩
               clear hj3 hm3))
        all_goals
          go_wp2
          go_roundg (m + 1 - (n + 1))
          case measure => have := Hnm.out hle; omega
          case rel =>
            refine ⟨n + 1, by go_num, by have := Hnm.out hle; omega, by omega, ⟨?_⟩, ⟨HMd.out.trans HM3.out⟩⟩
            have h := HJ3.out
            rw [Hlen'.out, Hp'.out, List.append_assoc] at h
            rw [List.range_succ, List.flatMap_append]
            simpa using h
      · go_wp2_with fail
        go_end0
        refine ⟨rfl, ?_, HMd.out⟩
        obtain rfl : n = m + 1 := Hnx.out hle
        have h := HJn.out
        rw [Hpats.out]; exact h
theorem patW_start {S : Nat → Prop} {ge : Nat} {lbe : Array Value} {AL : Option Addr} {cL : Nat} {l : List Int} {w : World} {t1 t2 t3 : TypeId} (hS : ∀ k, S k → k < w.heap.size) (hr : Kd.C (Kd.int .i64) w AL l.length l) (hf : ∀ ad, AL = some ad → 0 < l.length → ¬ S ad.block) :
    PatW S ge lbe w.heap.size (w.heap.size + 1) (w.heap.size + 2) AL cL l (((w.alloc (.cells #[.slice AL l.length cL] t1)).alloc (.cells #[.func (.func ge) #[] lbe] t2)).alloc (.cells #[.func (.func 71) #[] #[.pointer (some ⟨w.heap.size, 0, none⟩), .pointer (some ⟨w.heap.size + 1, 0, none⟩), .pointer (some ⟨w.heap.size + 2, 0, none⟩)]] t3)) := by
  have n1 : ¬ S w.heap.size := fun h => by have := hS _ h; omega
  have n2 : ¬ S (w.heap.size + 1) := fun h => by have := hS _ h; omega
  have n3 : ¬ S (w.heap.size + 2) := fun h => by have := hS _ h; omega
  have b1 := cell_past (cell_past (cell_box w (.slice AL l.length cL) t1) (.cells #[.func (.func ge) #[] lbe] t2)) (.cells #[.func (.func 71) #[] #[.pointer (some ⟨w.heap.size, 0, none⟩), .pointer (some ⟨w.heap.size + 1, 0, none⟩), .pointer (some ⟨w.heap.size + 2, 0, none⟩)]] t3)
  have b2 := cell_past (cell_box (w.alloc (.cells #[.slice AL l.length cL] t1)) (.func (.func ge) #[] lbe) t2) (.cells #[.func (.func 71) #[] #[.pointer (some ⟨w.heap.size, 0, none⟩), .pointer (some ⟨w.heap.size + 1, 0, none⟩), .pointer (some ⟨w.heap.size + 2, 0, none⟩)]] t3)
  have b3 := cell_box ((w.alloc (.cells #[.slice AL l.length cL] t1)).alloc (.cells #[.func (.func ge) #[] lbe] t2)) (.func (.func 71) #[] #[.pointer (some ⟨w.heap.size, 0, none⟩), .pointer (some ⟨w.heap.size + 1, 0, none⟩), .pointer (some ⟨w.heap.size + 2, 0, none⟩)]) t3
  rw [World.size_alloc] at b2
  rw [World.size_alloc, World.size_alloc] at b3
  exact ⟨b1, b2, b3, n1, n2, n3, C_below (Kd.heap_int _) hr (below_alloc (below_alloc (below_alloc (Below.refl _ w) _) _) _), hf⟩
set_option maxHeartbeats 4000000 in
theorem patterns_calls (S : Nat → Prop) (ge : Nat) (lbe : Array Value) (ege : ∀ args w, (callFunc ge args).run Try.prog w = .ok (.enter ge args) w) (J : List (List Int × Int) → World → Prop) (hJ : Stays J) (hE : Each ge lbe S J) (AL : Option Addr) (cL : Nat) (l : List Int) (rod : Int) (w : World) (hl : l.length ≤ 4) (hg : ∀ x ∈ l, 1 ≤ x ∧ x ≤ 60) (h0 : 0 ≤ rod) (h1 : rod ≤ 60)
    (hS : ∀ k, S k → k < w.heap.size) (hj : J [] w) (hr : Kd.C (Kd.int .i64) w AL l.length l) (hf : ∀ ad, AL = some ad → 0 < l.length → ¬ S ad.block) :
    Calls Try.prog 60 #[.int .i64 rod, .slice AL l.length cL, .func (.func ge) #[] lbe] w fun e W' => e = .returned (.tuple #[]) ∧ J (pats l [] rod) W' ∧ Mod S w W' := by
  have HC := Aside0.mk (choose_calls S w.heap.size hS ge lbe ege J hJ hE w.heap.size (w.heap.size + 1) (w.heap.size + 2) AL cL l hl hg l.length [] rod [] none 0)
  have HS := Aside0.mk hS
  have HJ := Aside0.mk hj
  have HR := Aside0.mk hr
  have HF := Aside0.mk hf
  clear hE hS hj hr hf
  go_enter Try.func60, Try.ntmps60
  go_wp2_with (go_at_call 71
               refine (HC.out _ (by simp) h0 h1 (by simp; omega) (hJ _ _ _ HJ.out (below_alloc (below_alloc (below_alloc (Below.refl _ w) _) _) _)) (patW_start HS.out HR.out HF.out) (Kd.C_nil _ _) (by simp) (by simp)).mono ?_
               rintro e w1 ⟨rfl, hj1, hm1⟩)
  go_end0
  exact ⟨rfl, by simpa using hj1, ((((Mod.refl _ w).alloc _).alloc _).alloc _).trans hm1⟩


end Go.Proofs.Ytoicfnhpjfgjmaa.P
