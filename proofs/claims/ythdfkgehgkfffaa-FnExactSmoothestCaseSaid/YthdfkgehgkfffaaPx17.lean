-- Laid by wip/myprint.py of this project (a wrapper over the kit's print.py); Lean checks it.
import Derived.Test.YthdfkgehgkfffaaPx0
import Derived.Test.YthdfkgehgkfffaaPx1
import Derived.Test.YthdfkgehgkfffaaPx2
import Derived.Test.YthdfkgehgkfffaaPx7
namespace Go.Proofs.Ythdfkgehgkfffaa.P
open Go.RowKit Go.Proofs.YthdfkgehgkfffaaW.PrintWords Go.Proofs.YthdfkgehgkfffaaW.PrintLast Go.Proofs.YthdfkgehgkfffaaW.PrintMore
attribute [local go_sem] max2_int min2_int max_two min_two max_three min_three max_four min_four   -- for this text's walks alone
set_option linter.unusedVariables false
set_option linter.unusedSimpArgs false

/-! ### impl_shelvings: function 43 (by hand) -/
/-- The lists that go on from p with numbers from a on (e of them are left), in order. -/
def subE : Nat → Nat → List Int → List (List Int)
  | 0, _, _ => []
  | e + 1, a, p => ((p ++ [(a : Int)]) :: subE e (a + 1) (p ++ [(a : Int)])) ++ subE e (a + 1) p
/-- What 'each' is called with at a list. -/
def evS (shV : List Int → List (List S40) × Bool) (p : List Int) : List (List Int × List (List S40)) := if (shV p).2 = true then [(p, (shV p).1)] else []
/-- What is asked of 'each'. -/
def EachS (D : List (List S40) → Prop) (ge : Nat) (lbe : Array Value) (S : Nat → Prop) (N0 : Nat) (J : List (List Int × List (List S40)) → World → Prop) : Prop :=
  ∀ (pre : List (List Int × List (List S40))) (W : World) (A : Option Addr) (c : Nat) (p : List Int) (v : Value) (b : Nat) (ok : Nat → Prop) (list : List (List S40)), J pre W → Kd.R (Kd.int .i64) 3 W N0 (fun _ => True) (.slice A p.length c) p → D list → Kd.N (Kd.slice 40 k40) 26 W b ok v list →
    Calls Try.prog ge (#[.slice A p.length c, v] ++ lbe) W fun e W' => e = .returned (.tuple #[]) ∧ J (pre ++ [(p, list)]) W' ∧ Mod S W W'
def StaysS (J : List (List Int × List (List S40)) → World → Prop) : Prop := ∀ s W W', J s W → Below W.heap.size W W' → J s W'
structure ShW (S : Nat → Prop) (ge : Nat) (lbe : Array Value) (bt bw be bc : Nat) (P0 : Nat → Prop) (AT : Option Addr) (cT : Nat) (t : List S40) (width : Int) (W : World) : Prop where
  ct : W.cell? ⟨bt, 0, none⟩ = some (.slice AT t.length cT)
  cw : W.cell? ⟨bw, 0, none⟩ = some (.int .i64 width)
  ce : W.cell? ⟨be, 0, none⟩ = some (.func (.func ge) #[] lbe)
  cc : W.cell? ⟨bc, 0, none⟩ = some (.func (.func 55) #[] #[.pointer (some ⟨bt, 0, none⟩), .pointer (some ⟨bw, 0, none⟩), .pointer (some ⟨be, 0, none⟩), .pointer (some ⟨bc, 0, none⟩)])
  nt : ¬ S bt
  nw : ¬ S bw
  ne : ¬ S be
  nc : ¬ S bc
  vt : Kd.V k40 40 W 0 P0 (.slice AT t.length cT) t
  ft : ∀ k, P0 k → ¬ S k
theorem ShW.mod {S : Nat → Prop} {ge : Nat} {lbe : Array Value} {bt bw be bc : Nat} {P0 : Nat → Prop} {AT : Option Addr} {cT : Nat} {t : List S40} {width : Int} {W W' : World} (h : ShW S ge lbe bt bw be bc P0 AT cT t width W) (hm : Mod S W W') : ShW S ge lbe bt bw be bc P0 AT cT t width W' :=
  ⟨hm.cell h.ct h.nt, hm.cell h.cw h.nw, hm.cell h.ce h.ne, hm.cell h.cc h.nc, h.nt, h.nw, h.ne, h.nc, Kd.V_kept h.vt hm.kept h.ft, h.ft⟩
theorem R_modS {k : IntKind} {S : Nat → Prop} {e N0 : Nat} {w w' : World} {v : Value} {xs : List Int} (h : Kd.R (Kd.int k) e w N0 (fun _ => True) v xs) (hm : Mod S w w') (hS : ∀ k, S k → k < N0) : Kd.R (Kd.int k) e w' N0 (fun _ => True) v xs :=
  Kd.R_mono (Kd.R_kept (Kd.R_bound h) hm.kept (fun k hk hs => by have := hS k hs; have := hk.2.1; omega)) (fun _ _ => trivial)
theorem C_of_RS {e : TypeId} {w : World} {N n c : Nat} {A : Option Addr} {ok : Nat → Prop} {xs : List Int} (h : Kd.R (Kd.int .i64) e w N ok (.slice A n c) xs) : n = xs.length ∧ xs.length ≤ c ∧ Kd.C (Kd.int .i64) w A xs.length xs := by
  obtain ⟨A', c', e', h1, h2⟩ := Kd.R_reads h
  cases e'; exact ⟨rfl, h1, h2⟩
set_option maxRecDepth 100000 in
set_option maxHeartbeats 8000000 in
theorem shelv_choose (D : List (List S40) → Prop) (S : Nat → Prop) (N0 : Nat) (hS : ∀ k, S k → k < N0) (ge : Nat) (lbe : Array Value) (J : List (List Int × List (List S40)) → World → Prop) (hJ : StaysS J) (hE : EachS D ge lbe S N0 J) (ege : ∀ args w, (callFunc ge args).run Try.prog w = .ok (.enter ge args) w) (bt bw be bc : Nat) (P0 : Nat → Prop) (AT : Option Addr) (cT : Nat) (t : List S40) (width : Int) (ht : t.length ≤ 12) (kk : Nat) (shV : List Int → List (List S40) × Bool) (n : Nat) :
    ∀ (p : List Int) (a : Nat) (pre : List (List Int × List (List S40))) (Ap : Option Addr) (cp : Nat) (W : World), t.length - a = n → a ≤ t.length → p.length ≤ a → 0 < p.length → rd p ((p.length : Int) - 1) + 1 = (a : Int) → (∀ q ∈ p :: subE (t.length - a) a p, impl_shelving.f kk t width q = some (shV q) ∧ ((shV q).2 = true → D (shV q).1)) → N0 ≤ W.heap.size → J pre W → ShW S ge lbe bt bw be bc P0 AT cT t width W → Kd.R (Kd.int .i64) 3 W N0 (fun _ => True) (.slice Ap p.length cp) p →
    Calls Try.prog 55 #[.slice Ap p.length cp, .pointer (some ⟨bt, 0, none⟩), .pointer (some ⟨bw, 0, none⟩), .pointer (some ⟨be, 0, none⟩), .pointer (some ⟨bc, 0, none⟩)] W fun e W' => e = .returned (.tuple #[]) ∧ J (pre ++ (p :: subE (t.length - a) a p).flatMap (evS shV)) W' ∧ Mod S W W' := by
  induction n using Nat.strongRecOn with
  | ind n ih =>
    intro p a pre Ap cp W hn ha hpa hp0 hlast hsh hN hj hP hr
    obtain ⟨_, hcp, hrp⟩ := C_of_RS hr
    have ct := hP.ct
    have cw := hP.cw
    have ce := hP.ce
    obtain ⟨parts, ok, hv⟩ : ∃ parts ok, shV p = (parts, ok) := ⟨_, _, rfl⟩
    have Hcall := Aside0.mk (impl_shelving.calls kk P0 AT cT t width Ap cp p parts ok W (Kd.V_map hP.vt (fun _ h => h)) hrp hcp (by rw [(hsh p (by simp)).1, hv]))
    have HD : Aside0 (ok = true → D parts) := ⟨by have h := (hsh p (by simp)).2; rw [hv] at h; exact h⟩
    obtain ⟨aP, eP, hxP⟩ := Kd.at_int hrp ((p.length : Int) - 1) (by omega) (by omega)
    rw [show ((p.length : Int) - 1).toNat = p.length - 1 by omega] at hxP
    subst eP
    obtain ⟨x, hx⟩ : ∃ x, x = rd p ((p.length : Int) - 1) := ⟨_, rfl⟩
    rw [← hx] at hlast hxP
    have hw1 : IntKind.i64.wrap (x + 1) = x + 1 := IntWalk.i64_in _ (by omega)
    have hw0 : IntKind.i64.wrap ((p.length : Int) - 1) = (p.length : Int) - 1 := IntWalk.i64_in _ (by omega)
    have hl1 : 0 ≤ (p.length : Int) - 1 := by omega
    have hl2 : (p.length : Int) - 1 < (p.length : Int) := by omega
    have hl3 : p.length - 1 < p.length := by omega
    have haS : ¬ S aP.block := own_far hr (Nat.le_refl _) hS aP rfl hp0
    have HaS : Aside0 (¬ S (aP.add (p.length - 1)).block) := ⟨by rw [add_block]; exact haS⟩
    have Hla := Aside0.mk hlast
    have HJ := Aside0.mk hj
    have HP := Aside0.mk hP
    have HR := Aside0.mk hr
    have HRp := Aside0.mk hrp
    have HSh := Aside0.mk hsh
    have IH := Aside0.mk ih
    have Hn := Aside0.mk hn
    have HN := Aside0.mk hN
    have HE := Aside0.mk hE
    have Hev : Aside0 (evS shV p = if ok = true then [(p, parts)] else []) := ⟨by unfold evS; rw [hv]⟩
    clear hsh ih hn hN hj hP hr hrp hE hv haS hlast hx
    cases ok with
    | false =>
      go_enter Try.func55, Try.ntmps55
      go_wp2_with (go_at_call 56; refine Hcall.out.mono ?_; rintro e w1 ⟨v9, rfl, hN1, hb1⟩; have HB1 := Aside0.mk hb1; replace hxP := pw_cell_below hb1 hxP; clear hN1 hb1)
      have HJX : Aside0 (J (pre ++ evS shV p) w1) := ⟨by rw [Hev.out]; simpa using hJ _ _ _ HJ.out HB1.out⟩
      have HMX : Aside0 (Mod S W w1) := ⟨Mod.of_below HB1.out⟩
      go_loopg [8] (t.length - a) (fun gk v8 wr => ∃ (a' : Nat) (dn : List (List Int × List (List S40))), a' ≤ t.length ∧ a ≤ a' ∧ t.length - a' ≤ gk ∧ v8 = .int .i64 a' ∧ Aside0 (J (pre ++ dn) wr) ∧ Aside0 (Mod S W wr) ∧ Aside0 ((p :: subE (t.length - a) a p).flatMap (evS shV) = dn ++ (subE (t.length - a') a' p).flatMap (evS shV)) ∧ Aside0 (∀ q ∈ subE (t.length - a') a' p, impl_shelving.f kk t width q = some (shV q) ∧ ((shV q).2 = true → D (shV q).1)))
      case atStart => exact ⟨a, evS shV p, ha, Nat.le_refl _, Nat.le_refl _, by rw [Hla.out], HJX, HMX, ⟨by rw [List.flatMap_cons]⟩, ⟨fun q hq => HSh.out q (by simp [hq])⟩⟩
      case round =>
        obtain ⟨a', dn, ha', haa, hgk, rfl, HJd, HMd, Hdn, Hsub⟩ := hrel
        have hct := HMd.out.cell HP.out.ct HP.out.nt
        have hcc := HMd.out.cell HP.out.cc HP.out.nc
        have hz0 : (0 : Int) ≤ a' := Int.natCast_nonneg _
        by_cases hlt : a' < t.length
        · have hltz : (a' : Int) < (t.length : Int) := by omega
          obtain ⟨p', hp'⟩ : ∃ p', p' = p ++ [(a' : Int)] := ⟨_, rfl⟩
          have Hp' := Aside0.mk hp'
          have Hlen' : Aside0 (p'.length = p.length + 1) := ⟨by rw [hp']; simp⟩
          have Hlast' : Aside0 (rd p' ((p'.length : Int) - 1) + 1 = ((a' + 1 : Nat) : Int)) := ⟨by
            rw [Hlen'.out, hp', show (((p.length + 1 : Nat) : Int) - 1) = ((p.length : Nat) : Int) by omega]
            simp [rd, List.getD_eq_getElem?_getD]⟩
          have Hsplit : Aside0 (subE (t.length - a') a' p = (p' :: subE (t.length - (a' + 1)) (a' + 1) p') ++ subE (t.length - (a' + 1)) (a' + 1) p) := ⟨by
            rw [show t.length - a' = (t.length - (a' + 1)) + 1 by omega, hp']; rfl⟩
          have hw3 : IntKind.i64.wrap ((a' : Int) + 1) = (a' : Int) + 1 := IntWalk.i64_in _ (by omega)
          have HRp' := Aside0.mk (C_of_RS (R_modS HR.out HMd.out hS)).2.2
          clear hp'
          go_wp2_with fail
          go_region_held3 (fun w' => w'.cell? ⟨bc, 0, none⟩ = some (.func (.func 55) #[] #[.pointer (some ⟨bt, 0, none⟩), .pointer (some ⟨bw, 0, none⟩), .pointer (some ⟨be, 0, none⟩), .pointer (some ⟨bc, 0, none⟩)]))
            (first | go_keep | exact pw_cell_below HB5.out hcc | exact pw_cell_below HB6.out hcc | exact HM7.out.cell hcc HP.out.nc)
            (first
              | (go_at_call 57
                 refine (slices_Clone_int_int.calls (some aP) cp p p _ ?_ hcp (clone_small (by omega))).mono ?_
                 · (repeat (first | exact HRp'.out | (with_reducible refine Kd.C_alloc ?_ _) | (with_reducible refine Kd.C_drew ?_)))
                 rintro e w5 ⟨v36, rfl, ho5, hb5⟩
                 have HO5 : Aside0 (Kd.R (Kd.int .i64) 3 w5 wr.heap.size (fun _ => True) v36 p) := ⟨Kd.R_lower ho5 (by simp)⟩
                 have HB5 : Aside0 (Below wr.heap.size wr w5) := ⟨below_then (by first | exact below_alloc (Below.refl _ wr).drew _ | exact (below_alloc (Below.refl _ wr) _).drew | exact (Below.refl _ wr).drew) (by simp) hb5⟩
                 have HX5 := Aside0.mk hb5
                 clear ho5 hb5)
              | (refine Kd.R_append_rows_step (Kd.int .i64) (w0 := wr) wr.heap.size (by rfl) (.tmp 36) (.tmp 38) 30 3 (.int .i64 0) 8 rfl Try.underlying30 info3 rfl (by decide) (by omega) v36 p [(a' : Int)] _ 1 1 (fun _ => True) (fun _ => False) (by rfl) (by rfl) ?_ ?_ (fun _ _ h => h) (fun _ h => h.elim) (fun _ _ => trivial) ?_ ?_ ?_ ?_
                 · first | exact HO5.out | exact Kd.R_alloc HO5.out _
                 · first | exact C_one (cell_box _ _ _) | exact C_one (pw_cell_below HX5.out (cell_box wr _ _))
                 · first | exact HB5.out | exact below_alloc' HB5.out _
                 · first | exact HB5.out.size | exact (below_alloc' HB5.out _).size
                 · omega
                 intro v39 w6 ho6 hb6 hg6 hat6
                 rw [← Hp'.out] at ho6
                 obtain ⟨A6, c6, rfl, hc6, hr6⟩ := Kd.R_reads ho6
                 have HB6 := Aside0.mk hb6
                 have HO6 := Aside0.mk ho6
                 clear ho6 hb6 hg6 hat6 hr6 hc6)
              | (go_at_call 55
                 refine (IH.out (t.length - (a' + 1)) (by have := Hn.out; omega) p' (a' + 1) _ A6 c6 w6 rfl (by omega) (by have := Hlen'.out; omega) (by have := Hlen'.out; omega) Hlast'.out (fun q hq => Hsub.out q (by rw [Hsplit.out]; exact List.mem_append_left _ hq)) (by have := HN.out; have := HMd.out.size; have := HB6.out.size; omega) (hJ _ _ _ HJd.out HB6.out) (HP.out.mod (HMd.out.trans (Mod.of_below HB6.out))) (Kd.R_lower HO6.out (by have := HN.out; have := HMd.out.size; omega))).mono ?_
                 rintro e w7 ⟨rfl, hj7, hm7⟩
                 have HJ7 := Aside0.mk hj7
                 have HM7 : Aside0 (Mod S wr w7) := ⟨(Mod.of_below HB6.out).trans hm7⟩
                 clear hj7 hm7))
          all_goals
            go_wp2_with fail
            go_roundg (t.length - (a' + 1))
            case measure => omega
            case rel => exact ⟨a' + 1, dn ++ (p' :: subE (t.length - (a' + 1)) (a' + 1) p').flatMap (evS shV), by omega, by omega, by omega, by go_num, ⟨by rw [← List.append_assoc]; exact HJ7.out⟩, ⟨HMd.out.trans HM7.out⟩, ⟨by rw [Hdn.out, Hsplit.out, List.flatMap_append, List.append_assoc]⟩, ⟨fun q hq => Hsub.out q (by rw [Hsplit.out]; exact List.mem_append_right _ hq)⟩⟩
        · obtain rfl : a' = t.length := by omega
          have hltz : ¬ (t.length : Int) < (t.length : Int) := by omega
          go_wp2_with fail
          go_end0
          refine ⟨rfl, ?_, HMd.out⟩
          have e := Hdn.out
          rw [Nat.sub_self] at e
          have e2 : (subE 0 t.length p).flatMap (evS shV) = [] := rfl
          rw [e2, List.append_nil] at e
          have hj := HJd.out
          rw [← e, List.flatMap_cons] at hj
          simpa using hj
    | true =>
      go_enter Try.func55, Try.ntmps55
      go_wp2_with (first
        | (go_at_call 56; refine Hcall.out.mono ?_; rintro e w1 ⟨v9, rfl, hN1, hb1⟩; have HB1 := Aside0.mk hb1; replace ce := pw_cell_below hb1 ce; replace hxP := pw_cell_below hb1 hxP; have Heach := Aside0.mk (HE.out pre w1 (some aP) cp p v9 _ _ parts (hJ _ _ _ HJ.out hb1) (Kd.R_below HR.out hb1) (HD.out rfl) hN1); clear hN1 hb1)
        | ((with_reducible refine Heach.out.mono ?_); rintro e w2 ⟨rfl, hj2, hm2⟩; have HJ2 := Aside0.mk hj2; have HM2 := Aside0.mk hm2; replace hxP := hm2.cell hxP HaS.out; clear hj2 hm2))
      have HJX : Aside0 (J (pre ++ evS shV p) w2) := ⟨by rw [Hev.out]; simpa using HJ2.out⟩
      have HMX : Aside0 (Mod S W w2) := ⟨(Mod.of_below HB1.out).trans HM2.out⟩
      go_loopg [8] (t.length - a) (fun gk v8 wr => ∃ (a' : Nat) (dn : List (List Int × List (List S40))), a' ≤ t.length ∧ a ≤ a' ∧ t.length - a' ≤ gk ∧ v8 = .int .i64 a' ∧ Aside0 (J (pre ++ dn) wr) ∧ Aside0 (Mod S W wr) ∧ Aside0 ((p :: subE (t.length - a) a p).flatMap (evS shV) = dn ++ (subE (t.length - a') a' p).flatMap (evS shV)) ∧ Aside0 (∀ q ∈ subE (t.length - a') a' p, impl_shelving.f kk t width q = some (shV q) ∧ ((shV q).2 = true → D (shV q).1)))
      case atStart => exact ⟨a, evS shV p, ha, Nat.le_refl _, Nat.le_refl _, by rw [Hla.out], HJX, HMX, ⟨by rw [List.flatMap_cons]⟩, ⟨fun q hq => HSh.out q (by simp [hq])⟩⟩
      case round =>
        obtain ⟨a', dn, ha', haa, hgk, rfl, HJd, HMd, Hdn, Hsub⟩ := hrel
        have hct := HMd.out.cell HP.out.ct HP.out.nt
        have hcc := HMd.out.cell HP.out.cc HP.out.nc
        have hz0 : (0 : Int) ≤ a' := Int.natCast_nonneg _
        by_cases hlt : a' < t.length
        · have hltz : (a' : Int) < (t.length : Int) := by omega
          obtain ⟨p', hp'⟩ : ∃ p', p' = p ++ [(a' : Int)] := ⟨_, rfl⟩
          have Hp' := Aside0.mk hp'
          have Hlen' : Aside0 (p'.length = p.length + 1) := ⟨by rw [hp']; simp⟩
          have Hlast' : Aside0 (rd p' ((p'.length : Int) - 1) + 1 = ((a' + 1 : Nat) : Int)) := ⟨by
            rw [Hlen'.out, hp', show (((p.length + 1 : Nat) : Int) - 1) = ((p.length : Nat) : Int) by omega]
            simp [rd, List.getD_eq_getElem?_getD]⟩
          have Hsplit : Aside0 (subE (t.length - a') a' p = (p' :: subE (t.length - (a' + 1)) (a' + 1) p') ++ subE (t.length - (a' + 1)) (a' + 1) p) := ⟨by
            rw [show t.length - a' = (t.length - (a' + 1)) + 1 by omega, hp']; rfl⟩
          have hw3 : IntKind.i64.wrap ((a' : Int) + 1) = (a' : Int) + 1 := IntWalk.i64_in _ (by omega)
          have HRp' := Aside0.mk (C_of_RS (R_modS HR.out HMd.out hS)).2.2
          clear hp'
          go_wp2_with fail
          go_region_held3 (fun w' => w'.cell? ⟨bc, 0, none⟩ = some (.func (.func 55) #[] #[.pointer (some ⟨bt, 0, none⟩), .pointer (some ⟨bw, 0, none⟩), .pointer (some ⟨be, 0, none⟩), .pointer (some ⟨bc, 0, none⟩)]))
            (first | go_keep | exact pw_cell_below HB5.out hcc | exact pw_cell_below HB6.out hcc | exact HM7.out.cell hcc HP.out.nc)
            (first
              | (go_at_call 57
                 refine (slices_Clone_int_int.calls (some aP) cp p p _ ?_ hcp (clone_small (by omega))).mono ?_
                 · (repeat (first | exact HRp'.out | (with_reducible refine Kd.C_alloc ?_ _) | (with_reducible refine Kd.C_drew ?_)))
                 rintro e w5 ⟨v36, rfl, ho5, hb5⟩
                 have HO5 : Aside0 (Kd.R (Kd.int .i64) 3 w5 wr.heap.size (fun _ => True) v36 p) := ⟨Kd.R_lower ho5 (by simp)⟩
                 have HB5 : Aside0 (Below wr.heap.size wr w5) := ⟨below_then (by first | exact below_alloc (Below.refl _ wr).drew _ | exact (below_alloc (Below.refl _ wr) _).drew | exact (Below.refl _ wr).drew) (by simp) hb5⟩
                 have HX5 := Aside0.mk hb5
                 clear ho5 hb5)
              | (refine Kd.R_append_rows_step (Kd.int .i64) (w0 := wr) wr.heap.size (by rfl) (.tmp 36) (.tmp 38) 30 3 (.int .i64 0) 8 rfl Try.underlying30 info3 rfl (by decide) (by omega) v36 p [(a' : Int)] _ 1 1 (fun _ => True) (fun _ => False) (by rfl) (by rfl) ?_ ?_ (fun _ _ h => h) (fun _ h => h.elim) (fun _ _ => trivial) ?_ ?_ ?_ ?_
                 · first | exact HO5.out | exact Kd.R_alloc HO5.out _
                 · first | exact C_one (cell_box _ _ _) | exact C_one (pw_cell_below HX5.out (cell_box wr _ _))
                 · first | exact HB5.out | exact below_alloc' HB5.out _
                 · first | exact HB5.out.size | exact (below_alloc' HB5.out _).size
                 · omega
                 intro v39 w6 ho6 hb6 hg6 hat6
                 rw [← Hp'.out] at ho6
                 obtain ⟨A6, c6, rfl, hc6, hr6⟩ := Kd.R_reads ho6
                 have HB6 := Aside0.mk hb6
                 have HO6 := Aside0.mk ho6
                 clear ho6 hb6 hg6 hat6 hr6 hc6)
              | (go_at_call 55
                 refine (IH.out (t.length - (a' + 1)) (by have := Hn.out; omega) p' (a' + 1) _ A6 c6 w6 rfl (by omega) (by have := Hlen'.out; omega) (by have := Hlen'.out; omega) Hlast'.out (fun q hq => Hsub.out q (by rw [Hsplit.out]; exact List.mem_append_left _ hq)) (by have := HN.out; have := HMd.out.size; have := HB6.out.size; omega) (hJ _ _ _ HJd.out HB6.out) (HP.out.mod (HMd.out.trans (Mod.of_below HB6.out))) (Kd.R_lower HO6.out (by have := HN.out; have := HMd.out.size; omega))).mono ?_
                 rintro e w7 ⟨rfl, hj7, hm7⟩
                 have HJ7 := Aside0.mk hj7
                 have HM7 : Aside0 (Mod S wr w7) := ⟨(Mod.of_below HB6.out).trans hm7⟩
                 clear hj7 hm7))
          all_goals
            go_wp2_with fail
            go_roundg (t.length - (a' + 1))
            case measure => omega
            case rel => exact ⟨a' + 1, dn ++ (p' :: subE (t.length - (a' + 1)) (a' + 1) p').flatMap (evS shV), by omega, by omega, by omega, by go_num, ⟨by rw [← List.append_assoc]; exact HJ7.out⟩, ⟨HMd.out.trans HM7.out⟩, ⟨by rw [Hdn.out, Hsplit.out, List.flatMap_append, List.append_assoc]⟩, ⟨fun q hq => Hsub.out q (by rw [Hsplit.out]; exact List.mem_append_right _ hq)⟩⟩
        · obtain rfl : a' = t.length := by omega
          have hltz : ¬ (t.length : Int) < (t.length : Int) := by omega
          go_wp2_with fail
          go_end0
          refine ⟨rfl, ?_, HMd.out⟩
          have e := Hdn.out
          rw [Nat.sub_self] at e
          have e2 : (subE 0 t.length p).flatMap (evS shV) = [] := rfl
          rw [e2, List.append_nil] at e
          have hj := HJd.out
          rw [← e, List.flatMap_cons] at hj
          simpa using hj
theorem R_one (W : World) (x : Int) (e : Nat) : Kd.R (Kd.int .i64) e (W.alloc (.cells #[.int .i64 x] e)) W.heap.size (fun _ => True) (.slice (some ⟨W.heap.size, 0, none⟩) 1 1) [x] := by
  refine ⟨fun _ _ => trivial, [.int .i64 x], ?_, ⟨rfl, fun j y hj => ?_⟩⟩
  · have h2 := World.ownsRow_lit (base := W.heap.size) (e := e) (size := 1) W #[.int .i64 x] 1 (Nat.le_refl _) (by decide) (by simp)
    show (W.alloc _).ownsRow W.heap.size e 1 _ 1 _
    simpa using h2
  · match j, hj with
    | 0, hj => obtain rfl := Option.some.inj hj; rfl
theorem shW_start {S : Nat → Prop} {ge : Nat} {lbe : Array Value} {P0 : Nat → Prop} {AT : Option Addr} {cT : Nat} {t : List S40} {width : Int} {w : World} {b : Nat} {t1 t2 t3 t4 : TypeId} (hS : ∀ k, S k → k < w.heap.size) (hv : Kd.V k40 40 w b P0 (.slice AT t.length cT) t) (hf : ∀ k, P0 k → ¬ S k) :
    ShW S ge lbe w.heap.size (w.heap.size + 1) (w.heap.size + 2) (w.heap.size + 3) P0 AT cT t width ((((w.alloc (.cells #[.slice AT t.length cT] t1)).alloc (.cells #[.int .i64 width] t2)).alloc (.cells #[.func (.func ge) #[] lbe] t3)).alloc (.cells #[.func (.func 55) #[] #[.pointer (some ⟨w.heap.size, 0, none⟩), .pointer (some ⟨w.heap.size + 1, 0, none⟩), .pointer (some ⟨w.heap.size + 2, 0, none⟩), .pointer (some ⟨w.heap.size + 3, 0, none⟩)]] t4)) := by
  have n0 : ∀ i : Nat, ¬ S (w.heap.size + i) := fun i h => by have := hS _ h; omega
  have b1 := cell_past (cell_past (cell_past (cell_box w (.slice AT t.length cT) t1) (.cells #[.int .i64 width] t2)) (.cells #[.func (.func ge) #[] lbe] t3)) (.cells #[.func (.func 55) #[] #[.pointer (some ⟨w.heap.size, 0, none⟩), .pointer (some ⟨w.heap.size + 1, 0, none⟩), .pointer (some ⟨w.heap.size + 2, 0, none⟩), .pointer (some ⟨w.heap.size + 3, 0, none⟩)]] t4)
  have b2 := cell_past (cell_past (cell_box (w.alloc (.cells #[.slice AT t.length cT] t1)) (.int .i64 width) t2) (.cells #[.func (.func ge) #[] lbe] t3)) (.cells #[.func (.func 55) #[] #[.pointer (some ⟨w.heap.size, 0, none⟩), .pointer (some ⟨w.heap.size + 1, 0, none⟩), .pointer (some ⟨w.heap.size + 2, 0, none⟩), .pointer (some ⟨w.heap.size + 3, 0, none⟩)]] t4)
  have b3 := cell_past (cell_box ((w.alloc (.cells #[.slice AT t.length cT] t1)).alloc (.cells #[.int .i64 width] t2)) (.func (.func ge) #[] lbe) t3) (.cells #[.func (.func 55) #[] #[.pointer (some ⟨w.heap.size, 0, none⟩), .pointer (some ⟨w.heap.size + 1, 0, none⟩), .pointer (some ⟨w.heap.size + 2, 0, none⟩), .pointer (some ⟨w.heap.size + 3, 0, none⟩)]] t4)
  have b4 := cell_box (((w.alloc (.cells #[.slice AT t.length cT] t1)).alloc (.cells #[.int .i64 width] t2)).alloc (.cells #[.func (.func ge) #[] lbe] t3)) (.func (.func 55) #[] #[.pointer (some ⟨w.heap.size, 0, none⟩), .pointer (some ⟨w.heap.size + 1, 0, none⟩), .pointer (some ⟨w.heap.size + 2, 0, none⟩), .pointer (some ⟨w.heap.size + 3, 0, none⟩)]) t4
  rw [World.size_alloc] at b2
  rw [World.size_alloc, World.size_alloc] at b3
  rw [World.size_alloc, World.size_alloc, World.size_alloc] at b4
  exact ⟨b1, b2, b3, b4, n0 0, n0 1, n0 2, n0 3, Kd.V_map hv (fun _ h => Kd.F_below h (below_alloc (below_alloc (below_alloc (below_alloc (Below.refl _ w) _) _) _) _)), hf⟩
set_option maxRecDepth 100000 in
set_option maxHeartbeats 4000000 in
theorem shelvings_calls (D : List (List S40) → Prop) (S : Nat → Prop) (ge : Nat) (lbe : Array Value) (ege : ∀ args w, (callFunc ge args).run Try.prog w = .ok (.enter ge args) w) (J : List (List Int × List (List S40)) → World → Prop) (hJ : StaysS J) (P0 : Nat → Prop) (AT : Option Addr) (cT : Nat) (t : List S40) (width : Int) (kk : Nat) (shV : List Int → List (List S40) × Bool) (w : World) (b : Nat) (hE : EachS D ge lbe S w.heap.size J) (ht : t.length ≤ 12) (ht0 : 1 ≤ t.length)
    (hS : ∀ k, S k → k < w.heap.size) (hj : J [] w) (hv : Kd.V k40 40 w b P0 (.slice AT t.length cT) t) (hf : ∀ k, P0 k → ¬ S k) (hsh : ∀ q ∈ [(0 : Int)] :: subE (t.length - 1) 1 [(0 : Int)], impl_shelving.f kk t width q = some (shV q) ∧ ((shV q).2 = true → D (shV q).1)) :
    Calls Try.prog 43 #[.slice AT t.length cT, .int .i64 width, .func (.func ge) #[] lbe] w fun e W' => e = .returned (.tuple #[]) ∧ J (([(0 : Int)] :: subE (t.length - 1) 1 [(0 : Int)]).flatMap (evS shV)) W' ∧ Mod S w W' := by
  have HC := Aside0.mk (shelv_choose D S w.heap.size hS ge lbe J hJ hE ege w.heap.size (w.heap.size + 1) (w.heap.size + 2) (w.heap.size + 3) P0 AT cT t width ht kk shV (t.length - 1) [(0 : Int)] 1 [])
  obtain ⟨W4, hW4⟩ : ∃ W4, W4 = ((((w.alloc (.cells #[.slice AT t.length cT] 26)).alloc (.cells #[.int .i64 width] 3)).alloc (.cells #[.func (.func ge) #[] lbe] 60)).alloc (.cells #[.func (.func 55) #[] #[.pointer (some ⟨w.heap.size, 0, none⟩), .pointer (some ⟨w.heap.size + 1, 0, none⟩), .pointer (some ⟨w.heap.size + 2, 0, none⟩), .pointer (some ⟨w.heap.size + 3, 0, none⟩)]] 68)) := ⟨_, rfl⟩
  have h4s : W4.heap.size = w.heap.size + 4 := by rw [hW4]; simp
  have hP4 : ShW S ge lbe w.heap.size (w.heap.size + 1) (w.heap.size + 2) (w.heap.size + 3) P0 AT cT t width W4 := by rw [hW4]; exact shW_start hS hv hf
  have hB4 : Below w.heap.size w W4 := by rw [hW4]; exact below_alloc (below_alloc (below_alloc (below_alloc (Below.refl _ w) _) _) _) _
  have hR1 := R_one W4 0 3
  rw [h4s] at hR1
  have HX := Aside0.mk (HC.out (some ⟨w.heap.size + 4, 0, none⟩) 1 (W4.alloc (.cells #[.int .i64 0] 3)) rfl ht0 (Nat.le_refl _) (by simp) (by simp [rd]) hsh (by simp; omega) (hJ _ _ _ (hJ _ _ _ hj hB4) (below_alloc (Below.refl _ _) _)) (hP4.mod (Mod.of_below (below_alloc (Below.refl _ _) _))) (Kd.R_lower hR1 (by omega)))
  have HB4 := Aside0.mk hB4
  have HM5 := Aside0.mk (Mod.of_below (S := S) (below_alloc (Below.refl _ W4) (.cells #[.int .i64 0] 3)))
  clear hE hS hj hv hf hsh hP4 hB4 hR1 h4s HC
  subst hW4
  have hx := HX.out
  clear HX
  rw [show w.heap.size + 4 = w.heap.size + 1 + 1 + 1 + 1 from rfl, show w.heap.size + 3 = w.heap.size + 1 + 1 + 1 from rfl, show w.heap.size + 2 = w.heap.size + 1 + 1 from rfl, show ([(0 : Int)] : List Int).length = 1 from rfl] at hx
  have HX := Aside0.mk hx
  clear hx
  go_enter Try.func43, Try.ntmps43
  go_wp2_with (go_at_call 55; (with_reducible refine HX.out.mono ?_); rintro e w6 ⟨rfl, hj6, hm6⟩; have HJ6 := Aside0.mk hj6; have HM6 := Aside0.mk hm6; clear hj6 hm6)
  go_end0
  exact ⟨rfl, by simpa using HJ6.out, (Mod.of_below HB4.out).trans (HM5.out.trans HM6.out)⟩


end Go.Proofs.Ythdfkgehgkfffaa.P
