-- Laid by wip/myprint.py of this project (a wrapper over the kit's print.py); Lean checks it.
import Derived.Test.YtclfjjinfbfajaaPx0
import Derived.Test.YtclfjjinfbfajaaPx1
import Derived.Test.YtclfjjinfbfajaaPx2
import Derived.Test.YtclfjjinfbfajaaPx4
import Derived.Test.YtclfjjinfbfajaaPx8
import Derived.Test.YtclfjjinfbfajaaPx11
import Derived.Test.YtclfjjinfbfajaaPx18
import Derived.Test.YtclfjjinfbfajaaPx20
import Derived.Test.YtclfjjinfbfajaaPx21
namespace Go.Proofs.Ytclfjjinfbfajaa.P
open Go.RowKit Go.Proofs.YtclfjjinfbfajaaW.PrintWords Go.Proofs.YtclfjjinfbfajaaW.PrintLast Go.Proofs.YtclfjjinfbfajaaW.PrintMore
attribute [local go_sem] max2_int min2_int max_two min_two max_three min_three max_four min_four   -- for this text's walks alone
set_option linter.unusedVariables false
set_option linter.unusedSimpArgs false

/-! ### impl_ordered: function 15 (by hand) -/
section
open Go.Sort Go.Shelf
theorem Reps_map (xs : List Int) : ∀ inner : List Value, Reps (fun (x : Int) (cs : List Value) => cs = [Value.int .i64 x]) 1 xs inner → inner = xs.map (Value.int .i64) := by
  intro inner h
  have hl : inner.length = xs.length := by have := h.1; omega
  apply List.ext_getElem (by simp [hl])
  intro j h1 h2
  have hj : j < xs.length := by simpa using h2
  have := h.2 j xs[j] (List.getElem?_eq_getElem hj)
  have h3 : (List.drop (j * 1) inner)[0]? = some (Value.int .i64 xs[j]) := by
    have h4 : (List.take 1 (List.drop (j * 1) inner))[0]? = some (Value.int .i64 xs[j]) := by rw [this]; rfl
    rwa [List.getElem?_take_of_lt (by omega)] at h4
  rw [List.getElem?_drop, Nat.mul_one, Nat.add_zero, List.getElem?_eq_getElem h1] at h3
  rw [Option.some.inj h3]
  simp
theorem ownsRow_cut {w : World} {base g n cap m : Nat} {e : TypeId} {xs : List Value} (h : w.ownsRow base e 1 (.slice (some ⟨g, 0, none⟩) n cap) n xs) (hm : m ≤ n) : w.ownsRow base e 1 (.slice (some ⟨g, 0, none⟩) m cap) m (xs.take m) := by
  obtain ⟨h1, h2⟩ := h
  rcases h2 with ⟨h2, _⟩ | ⟨g', cap', cur, e1, hb, hg, r1, r2, r3, r4⟩
  · cases h2
  · cases e1
    refine ⟨by simp; omega, .inr ⟨g, cap, cur, rfl, hb, hg, by omega, r2, r3, ?_⟩⟩
    rw [← r4, List.take_take]
    congr 1
    omega
theorem grow_none (W : World) : grow W #[] = W := by
  unfold grow
  rw [Array.append_empty]
set_option maxHeartbeats 2000000 in
/-- slices.Delete of one number of a row of one's own. -/
theorem del_calls (i : Nat) (xs : List Int) (hi : i < xs.length) (w : World) (base : Nat) (ok : Nat → Prop) (A : Option Addr) (c : Nat) (h : Kd.R (Kd.int .i64) 3 w base ok (.slice A xs.length c) xs) :
    Calls Try.prog 31 #[.slice A xs.length c, .int .i64 (i : Int), .int .i64 ((i : Int) + 1)] w fun e w' => e = .returned (.slice A (xs.length - 1) c) ∧ Kd.R (Kd.int .i64) 3 w' base ok (.slice A (xs.length - 1) c) (xs.eraseIdx i) ∧ Below base w w' := by
  obtain ⟨hok, inner, ho, hreps⟩ := h
  obtain rfl := Reps_map xs inner hreps
  rcases ho.2 with ⟨_, h0⟩ | ⟨g, cap, cur, e1, hbase, hgb, r1, r2, r3, r4⟩
  · omega
  cases e1
  replace ho : w.ownsRow base 3 1 (.slice (some ⟨g, 0, none⟩) xs.length c) xs.length (xs.map (Value.int .i64)) := ho
  replace r3 : cur.size = c * 1 := r3
  replace r4 : cur.toList.take (xs.length * 1) = xs.map (Value.int .i64) := r4
  have hml : maxLen ≤ 9223372036854775807 := by decide
  have hH : Holds (Value.int .i64) w g 0 xs.toArray := holds_of_block_i hgb (by simpa using r4)
  have hD := Try.slices_Delete_int g 0 c i (i + 1) xs w hH r1 (by omega) (by omega) (by omega)
  rw [show ((i + 1 : Nat) : Int) = (i : Int) + 1 by omega] at hD
  refine hD.mono ?_
  rintro e w' ⟨rfl, q, rfl⟩
  have hlen : (xs.take i ++ xs.drop (i + 1) ++ List.replicate (i + 1 - i) 0).length = xs.length := by simp; omega
  have e2 : putRow (Value.int .i64) (Sort.ahead w q) g 0 (xs.take i ++ xs.drop (i + 1) ++ List.replicate (i + 1 - i) 0).toArray = grow (putRow (Value.int .i64) (Sort.ahead w q) g 0 (xs.take i ++ xs.drop (i + 1) ++ List.replicate (i + 1 - i) 0).toArray) #[] := (grow_none _).symm
  rw [e2]
  have hS := ownsRow_sorted_i (n := q) (os := #[]) hlen hbase hgb r1 r2 r3
  have hC := ownsRow_cut hS (show xs.length - 1 ≤ xs.length by omega)
  have hE : ((xs.take i ++ xs.drop (i + 1) ++ List.replicate (i + 1 - i) 0).map (Value.int .i64)).take (xs.length - 1) = (xs.eraseIdx i).map (Value.int .i64) := by
    rw [← List.map_take, List.take_append_of_le_length (by simp; omega), List.take_of_length_le (by simp; omega), List.eraseIdx_eq_take_drop_succ]
  rw [hE] at hC
  have hl : (xs.eraseIdx i).length = xs.length - 1 := by rw [List.length_eraseIdx, if_pos hi]
  refine ⟨by rw [show xs.length - (i + 1 - i) = xs.length - 1 by omega], ?_, ?_⟩
  · have hR := R_of_own (by rw [hl]; exact hC)
    exact ⟨fun k hk => hok k hk, hR.2.imp_ (fun _ _ h => h)⟩
  · exact (Below.refl base w).grown (grownBy_sorted_i _) (by have := blk_lt hgb; omega) (fun j hj => by cases hj; exact hbase)
end
theorem C_of_RO {e : TypeId} {w : World} {N n c : Nat} {A : Option Addr} {ok : Nat → Prop} {xs : List Int} (h : Kd.R (Kd.int .i64) e w N ok (.slice A n c) xs) : n = xs.length ∧ xs.length ≤ c ∧ Kd.C (Kd.int .i64) w A xs.length xs := by
  obtain ⟨A', c', e', h1, h2⟩ := Kd.R_reads h
  cases e'; exact ⟨rfl, h1, h2⟩
/-- What comes of a round over the places of l from i on (d of them are left). -/
def lvR (G : List Int → List Int → List (List Int)) (p l : List Int) : Nat → Nat → List (List Int)
  | 0, _ => []
  | d + 1, i => (if i = 0 ∨ rd l ((i : Int) - 1) ≠ rd l i then G (p ++ [rd l i]) (l.eraseIdx i) else []) ++ lvR G p l d (i + 1)
/-- The orders that go on from p with the numbers of l (n of them). -/
def lvE : Nat → List Int → List Int → List (List Int)
  | 0, p, _ => [p]
  | n + 1, p, l => lvR (lvE n) p l l.length 0
/-- How many boxes FirstFit takes at an order. -/
def ownF (kk : Nat) (room : Int) (o : List Int) : Option Int := (impl_FirstFit.f kk o room).bind fun r => (slices_Max_int_int.f kk r.1).bind fun m => some (wrap64 (m + 1))
def stepO (sc : Int → Int) (ownV : List Int → Int) (s : List Int × Int) (o : List Int) : List Int × Int := if s.1.length = 0 ∨ sc (ownV o) > sc s.2 then (o, ownV o) else s
def bestL (sc : Int → Int) (ownV : List Int → Int) (l : List (List Int)) : List Int × Int := l.foldl (stepO sc ownV) ([], 0)
def Score1 (gs : Nat) (sc : Int → Int) : Prop := ∀ (W : World) (x : Int), Calls Try.prog gs #[.int .i64 x] W fun e W' => e = .returned (.int .i64 (sc x)) ∧ Drawn0 W W'
def OrdJ (B0 : Nat) (sc : Int → Int) (ownV : List Int → Int) (bb bn : Nat) (l : List (List Int)) (W : World) : Prop :=
  (∃ v : Value, W.heap[bb]? = some (.cells #[v] 22 (0, 0)) ∧ Kd.R (Kd.int .i64) 3 W B0 (fun k => ¬ (k = bb ∨ k = bn)) v (bestL sc ownV l).1 ∧ ((v = .slice none 0 0 ∧ l = []) ∨ 0 < (bestL sc ownV l).1.length)) ∧ W.heap[bn]? = some (.cells #[.int .i64 (bestL sc ownV l).2] 3 (0, 0))
theorem ordJ_stays {B0 : Nat} {sc : Int → Int} {ownV : List Int → Int} {bb bn : Nat} {l : List (List Int)} {W W' : World} (h : OrdJ B0 sc ownV bb bn l W) (hb : Below W.heap.size W W') : OrdJ B0 sc ownV bb bn l W' := by
  obtain ⟨⟨v, h1, h2, h3⟩, h4⟩ := h
  exact ⟨⟨v, (hb.block bb (blk_lt h1)).trans h1, Kd.R_below h2 hb, h3⟩, (hb.block bn (blk_lt h4)).trans h4⟩
structure OrdW (gs br bb bs bn bc : Nat) (room : Int) (W : World) : Prop where
  cr : W.cell? ⟨br, 0, none⟩ = some (.int .i64 room)
  cs : W.cell? ⟨bs, 0, none⟩ = some (.func (.func gs) #[] #[])
  cc : W.cell? ⟨bc, 0, none⟩ = some (.func (.func 27) #[] #[.pointer (some ⟨br, 0, none⟩), .pointer (some ⟨bb, 0, none⟩), .pointer (some ⟨bs, 0, none⟩), .pointer (some ⟨bn, 0, none⟩), .pointer (some ⟨bc, 0, none⟩)])
  nr : ¬ (br = bb ∨ br = bn)
  ns : ¬ (bs = bb ∨ bs = bn)
  nc : ¬ (bc = bb ∨ bc = bn)
  nb : bb ≠ bn
theorem OrdW.mod {gs br bb bs bn bc : Nat} {room : Int} {W W' : World} (h : OrdW gs br bb bs bn bc room W) (hm : Mod (fun k => k = bb ∨ k = bn) W W') : OrdW gs br bb bs bn bc room W' :=
  ⟨hm.cell h.cr h.nr, hm.cell h.cs h.ns, hm.cell h.cc h.nc, h.nr, h.ns, h.nc, h.nb⟩
theorem R_out {B0 : Nat} {S : Nat → Prop} {B : Nat} {W : World} {v : Value} {xs : List Int} (h : Kd.R (Kd.int .i64) 3 W B (fun _ => True) v xs) (hS : ∀ k, S k → k < B) (hB : B0 ≤ B) : Kd.R (Kd.int .i64) 3 W B0 (fun k => ¬ S k) v xs :=
  Kd.R_lower (Kd.R_mono (Kd.R_bound h) (fun k hk hs => by have := hS k hs; have := hk.2.1; omega)) hB
theorem R_modN {B0 : Nat} {S : Nat → Prop} {W W' : World} {v : Value} {xs : List Int} (h : Kd.R (Kd.int .i64) 3 W B0 (fun k => ¬ S k) v xs) (hm : Mod S W W') : Kd.R (Kd.int .i64) 3 W' B0 (fun k => ¬ S k) v xs :=
  Kd.R_kept h hm.kept (fun k hk hs => hk hs)

theorem ordJ_put {B0 : Nat} {sc : Int → Int} {ownV : List Int → Int} {bb bn : Nat} {pre : List (List Int)} {p : List Int} {own : Int} {A : Option Addr} {c : Nat} {W : World} (hbn : bb ≠ bn) (h3 : ∃ v, W.heap[bb]? = some (.cells #[v] 22 (0, 0))) (h5 : ∃ v, W.heap[bn]? = some (.cells #[v] 3 (0, 0))) (hp : 0 < p.length)
    (hst : bestL sc ownV (pre ++ [p]) = (p, own)) (hr : Kd.R (Kd.int .i64) 3 W B0 (fun k => ¬ (k = bb ∨ k = bn)) (.slice A p.length c) p) : OrdJ B0 sc ownV bb bn (pre ++ [p]) ((W.setCell ⟨bb, 0, none⟩ (.slice A p.length c)).setCell ⟨bn, 0, none⟩ (.int .i64 own)) := by
  obtain ⟨v3, h3⟩ := h3
  obtain ⟨v5, h5⟩ := h5
  have hM : Mod (fun k => k = bb ∨ k = bn) W ((W.setCell ⟨bb, 0, none⟩ (.slice A p.length c)).setCell ⟨bn, 0, none⟩ (.int .i64 own)) := ((Mod.refl _ W).set (p := ⟨bb, 0, none⟩) (.inl (.inl rfl)) _).set (p := ⟨bn, 0, none⟩) (.inl (.inr rfl)) _
  refine ⟨⟨.slice A p.length c, ?_, ?_, .inr ?_⟩, ?_⟩
  · rw [Below.heap_setCell _ _ _ _ hbn, blk_set h3]; simp
  · rw [hst]; exact R_modN hr hM
  · rw [hst]; exact hp
  · rw [hst, blk_set (h := (Below.heap_setCell W ⟨bb, 0, none⟩ _ bn (Ne.symm hbn)).trans h5)]; simp
theorem ord_eq_nil (a : Option Addr) (l c : Nat) (w : World) : (binOp .eql 22 (.slice a l c) (.slice none 0 0)).run Try.prog w = .ok (.bool a.isNone) w := eql_slice_nil w _ _ a l c Try.underlying22
attribute [local go_sem] ord_eq_nil
set_option maxRecDepth 100000 in
set_option maxHeartbeats 8000000 in
theorem ord_leaf (gs : Nat) (egs : ∀ args w, (callFunc gs args).run Try.prog w = .ok (.enter gs args) w) (sc : Int → Int) (hsc : Score1 gs sc) (ownV : List Int → Int) (kk br bb bs bn bc : Nat) (room : Int) (p : List Int) (pre : List (List Int)) (Ap : Option Addr) (cp : Nat) (Al : Option Addr) (cl : Nat) (B0 : Nat) (W : World) (hp : 0 < p.length) (how : ownF kk room p = some (ownV p)) (hj : OrdJ B0 sc ownV bb bn pre W) (hP : OrdW gs br bb bs bn bc room W) (hr : Kd.R (Kd.int .i64) 3 W B0 (fun k => ¬ (k = bb ∨ k = bn)) (.slice Ap p.length cp) p) :
    Calls Try.prog 27 #[.slice Ap p.length cp, .slice Al 0 cl, .pointer (some ⟨br, 0, none⟩), .pointer (some ⟨bb, 0, none⟩), .pointer (some ⟨bs, 0, none⟩), .pointer (some ⟨bn, 0, none⟩), .pointer (some ⟨bc, 0, none⟩)] W fun e W' => e = .returned (.tuple #[]) ∧ OrdJ B0 sc ownV bb bn (pre ++ [p]) W' ∧ Mod (fun k => k = bb ∨ k = bn) W W' := by
  obtain ⟨⟨pl, ok⟩, hff, how⟩ := Option.bind_eq_some_iff.mp how
  obtain ⟨m, hmx, how⟩ := Option.bind_eq_some_iff.mp how
  replace how := Option.some.inj how
  obtain ⟨_, hcp, hrp⟩ := C_of_RO hr
  have HFF := Aside0.mk (impl_FirstFit.calls kk Ap cp p room pl ok W hrp hcp hff)
  have HMX := Aside0.mk (fun (A1 : Option Addr) (c1 : Nat) (w1 : World) (hr1 : Kd.C (Kd.int .i64) w1 A1 pl.length pl) (hc1 : pl.length ≤ c1) => slices_Max_int_int.calls kk A1 c1 pl m w1 hr1 hc1 hmx)
  obtain ⟨own, hown⟩ : ∃ own, own = ownV p := ⟨_, rfl⟩
  have hwm : IntKind.i64.wrap (m + 1) = own := by rw [hown, ← how, IntKind.wrap_i64]; unfold wrap64; rfl
  obtain ⟨⟨vb, j3, j4⟩, j5⟩ := hj
  obtain ⟨best, hbe⟩ : ∃ x, x = (bestL sc ownV pre).1 := ⟨_, rfl⟩
  obtain ⟨boxes, hbo⟩ : ∃ x, x = (bestL sc ownV pre).2 := ⟨_, rfl⟩
  rw [← hbe] at j4
  rw [← hbo] at j5
  have Hst : Aside0 (bestL sc ownV (pre ++ [p]) = if best.length = 0 ∨ sc own > sc boxes then (p, own) else (best, boxes)) := ⟨by unfold bestL; rw [List.foldl_append]; simp only [List.foldl_cons, List.foldl_nil, stepO]; rw [hbe, hbo, hown]; rfl⟩
  have Hbe := Aside0.mk hbe
  have Hbo := Aside0.mk hbo
  have cr := hP.cr
  have cs := hP.cs
  have hnb := hP.nb
  have HP := Aside0.mk hP
  have HR := Aside0.mk hr
  have Hp := Aside0.mk hp
  have J4 := Aside0.mk j4.1
  have hv : (vb = .slice none 0 0 ∧ best = []) ∨ (∃ g c, vb = .slice (some ⟨g, 0, none⟩) best.length c ∧ 0 < best.length) := by
    rcases j4.2 with ⟨h1, h2⟩ | h
    · subst h2; exact .inl ⟨h1, by rw [hbe]; rfl⟩
    · obtain ⟨g, c, e, _⟩ := Kd.R_form j4.1 h
      exact .inr ⟨g, c, e, h⟩
  clear hmx hff hrp hr hP hp j4 how hbe hbo hown hcp
  rcases hv with ⟨rfl, rfl⟩ | ⟨gb, cb, rfl, hb0⟩
  · have Hs : Aside0 (bestL sc ownV (pre ++ [p]) = (p, own)) := ⟨by rw [Hst.out, if_pos (.inl rfl)]⟩
    go_enter Try.func27, Try.ntmps27
    go_wp2_with (first
      | (go_at_call 28; refine HFF.out.mono ?_; rintro e w1 ⟨v1, rfl, ho1, hb1⟩; obtain ⟨A1, c1, rfl, hc1, hr1⟩ := Kd.R_reads ho1; have HB1 := Aside0.mk hb1; have HX := Aside0.mk (HMX.out A1 c1 w1 hr1 hc1); clear hb1 ho1 hr1 hc1)
      | (go_at_call 29; refine HX.out.mono ?_; rintro e w2 ⟨rfl, hb2⟩; have HB2 := Aside0.mk (below_then HB1.out HB1.out.size hb2); clear hb2
         replace j3 := (HB2.out.block bb (blk_lt j3)).trans j3; replace j5 := (HB2.out.block bn (blk_lt j5)).trans j5; have c3 := cell_at_blk j3; have c5 := cell_at_blk j5; have f3 := blk_frozen j3 0; have f5 := blk_frozen j5 0; have J3 := Aside0.mk j3; have J5 := Aside0.mk j5; clear j3 j5))
    go_quiet (fail)
    go_wp2
    refine bodyPost_ret (results_none rfl _ _ _) rfl ?_
    have HBq : Aside0 (Below W.heap.size W (w2.drewN nq)) := ⟨pw_below_drewN HB2.out _⟩
    have hR2 : Kd.R (Kd.int .i64) 3 (w2.drewN nq) B0 (fun k => ¬ (k = bb ∨ k = bn)) (.slice Ap p.length cp) p := Kd.R_below HR.out HBq.out
    refine ⟨rfl, ordJ_put hnb ⟨_, J3.out⟩ ⟨_, J5.out⟩ Hp.out Hs.out hR2, (Mod.of_below HBq.out).trans ?_⟩
    exact ((Mod.refl _ _).set (p := ⟨bb, 0, none⟩) (.inl (.inl rfl)) _).set (p := ⟨bn, 0, none⟩) (.inl (.inr rfl)) _
  · have HSC := Aside0.mk hsc
    by_cases q : sc own > sc boxes
    · have Hs : Aside0 (bestL sc ownV (pre ++ [p]) = (p, own)) := ⟨by rw [Hst.out, if_pos (.inr q)]⟩
      have hq : decide (sc own > sc boxes) = true := decide_eq_true q
      clear q hsc
      go_enter Try.func27, Try.ntmps27
      go_wp2_with (first
        | (go_at_call 28; refine HFF.out.mono ?_; rintro e w1 ⟨v1, rfl, ho1, hb1⟩; obtain ⟨A1, c1, rfl, hc1, hr1⟩ := Kd.R_reads ho1; have HB1 := Aside0.mk hb1; have HX := Aside0.mk (HMX.out A1 c1 w1 hr1 hc1); clear hb1 ho1 hr1 hc1)
        | (go_at_call 29; refine HX.out.mono ?_; rintro e w2 ⟨rfl, hb2⟩; have HB2 := Aside0.mk (below_then HB1.out HB1.out.size hb2); clear hb2
           replace j3 := (HB2.out.block bb (blk_lt j3)).trans j3; replace j5 := (HB2.out.block bn (blk_lt j5)).trans j5; replace cs := pw_cell_below HB2.out cs; have c3 := cell_at_blk j3; have c5 := cell_at_blk j5; have f3 := blk_frozen j3 0; have f5 := blk_frozen j5 0; have J3 := Aside0.mk j3; have J5 := Aside0.mk j5; clear j3 j5))
      go_quiet (first
        | (refine Calls.quiet_of (v := .int .i64 (sc own)) ((HSC.out _ own).mono ?_); rintro e w9 ⟨rfl, ⟨mm, hmm⟩⟩; exact ⟨rfl, mm, hmm⟩)
        | (refine Calls.quiet_of (v := .int .i64 (sc boxes)) ((HSC.out _ boxes).mono ?_); rintro e w9 ⟨rfl, ⟨mm, hmm⟩⟩; exact ⟨rfl, mm, hmm⟩))
      go_wp2
      refine bodyPost_ret (results_none rfl _ _ _) rfl ?_
      have HBq : Aside0 (Below W.heap.size W (w2.drewN nq)) := ⟨pw_below_drewN HB2.out _⟩
      have hR2 : Kd.R (Kd.int .i64) 3 (w2.drewN nq) B0 (fun k => ¬ (k = bb ∨ k = bn)) (.slice Ap p.length cp) p := Kd.R_below HR.out HBq.out
      refine ⟨rfl, ordJ_put hnb ⟨_, J3.out⟩ ⟨_, J5.out⟩ Hp.out Hs.out hR2, (Mod.of_below HBq.out).trans ?_⟩
      exact ((Mod.refl _ _).set (p := ⟨bb, 0, none⟩) (.inl (.inl rfl)) _).set (p := ⟨bn, 0, none⟩) (.inl (.inr rfl)) _
    · have Hs : Aside0 (bestL sc ownV (pre ++ [p]) = bestL sc ownV pre) := ⟨by rw [Hst.out, if_neg (fun h => h.elim (fun h => by omega) q), Hbe.out, Hbo.out]⟩
      have hq : decide (sc own > sc boxes) = false := decide_eq_false q
      clear q hsc
      go_enter Try.func27, Try.ntmps27
      go_wp2_with (first
        | (go_at_call 28; refine HFF.out.mono ?_; rintro e w1 ⟨v1, rfl, ho1, hb1⟩; obtain ⟨A1, c1, rfl, hc1, hr1⟩ := Kd.R_reads ho1; have HB1 := Aside0.mk hb1; have HX := Aside0.mk (HMX.out A1 c1 w1 hr1 hc1); clear hb1 ho1 hr1 hc1)
        | (go_at_call 29; refine HX.out.mono ?_; rintro e w2 ⟨rfl, hb2⟩; have HB2 := Aside0.mk (below_then HB1.out HB1.out.size hb2); clear hb2
           replace j3 := (HB2.out.block bb (blk_lt j3)).trans j3; replace j5 := (HB2.out.block bn (blk_lt j5)).trans j5; replace cs := pw_cell_below HB2.out cs; have c3 := cell_at_blk j3; have c5 := cell_at_blk j5; have f3 := blk_frozen j3 0; have f5 := blk_frozen j5 0; have J3 := Aside0.mk j3; have J5 := Aside0.mk j5; clear j3 j5))
      go_quiet (first
        | (refine Calls.quiet_of (v := .int .i64 (sc own)) ((HSC.out _ own).mono ?_); rintro e w9 ⟨rfl, ⟨mm, hmm⟩⟩; exact ⟨rfl, mm, hmm⟩)
        | (refine Calls.quiet_of (v := .int .i64 (sc boxes)) ((HSC.out _ boxes).mono ?_); rintro e w9 ⟨rfl, ⟨mm, hmm⟩⟩; exact ⟨rfl, mm, hmm⟩))
      go_wp2
      refine bodyPost_ret (results_none rfl _ _ _) rfl ?_
      have HBq : Aside0 (Below W.heap.size W (w2.drewN nq)) := ⟨pw_below_drewN HB2.out _⟩
      refine ⟨rfl, ?_, Mod.of_below HBq.out⟩
      rw [show OrdJ B0 sc ownV bb bn (pre ++ [p]) (w2.drewN nq) = OrdJ B0 sc ownV bb bn (pre ++ [p]) (w2.drewN nq) from rfl]
      refine ⟨⟨_, (Below.refl _ w2 |> fun h => (pw_below_drewN h nq).block bb (blk_lt J3.out)).trans J3.out, ?_, .inr ?_⟩, ?_⟩
      · rw [Hs.out, ← Hbe.out]; exact Kd.R_below J4.out HBq.out
      · rw [Hs.out, ← Hbe.out]; exact hb0
      · rw [Hs.out, ← Hbo.out]; exact J5.out
set_option maxRecDepth 100000 in
set_option maxHeartbeats 8000000 in
theorem ord_choose (gs : Nat) (egs : ∀ args w, (callFunc gs args).run Try.prog w = .ok (.enter gs args) w) (sc : Int → Int) (hsc : Score1 gs sc) (ownV : List Int → Int) (kk br bb bs bn bc : Nat) (room : Int) (B0 N0 : Nat) (hB0 : B0 ≤ N0) (hS : ∀ k, (k = bb ∨ k = bn) → k < N0) (n : Nat) :
    ∀ (p l : List Int) (pre : List (List Int)) (Ap : Option Addr) (cp : Nat) (Al : Option Addr) (cl : Nat) (W : World), l.length = n → p.length + n ≤ 7 → 0 < p.length + n → (∀ q ∈ lvE n p l, ownF kk room q = some (ownV q)) → N0 ≤ W.heap.size → OrdJ B0 sc ownV bb bn pre W → OrdW gs br bb bs bn bc room W → Kd.R (Kd.int .i64) 3 W B0 (fun k => ¬ (k = bb ∨ k = bn)) (.slice Ap p.length cp) p → Kd.R (Kd.int .i64) 3 W B0 (fun k => ¬ (k = bb ∨ k = bn)) (.slice Al l.length cl) l →
    Calls Try.prog 27 #[.slice Ap p.length cp, .slice Al l.length cl, .pointer (some ⟨br, 0, none⟩), .pointer (some ⟨bb, 0, none⟩), .pointer (some ⟨bs, 0, none⟩), .pointer (some ⟨bn, 0, none⟩), .pointer (some ⟨bc, 0, none⟩)] W fun e W' => e = .returned (.tuple #[]) ∧ OrdJ B0 sc ownV bb bn (pre ++ lvE n p l) W' ∧ Mod (fun k => k = bb ∨ k = bn) W W' := by
  induction n with
  | zero =>
    intro p l pre Ap cp Al cl W hl hn hp how hN hj hP hr hrl
    obtain rfl := List.eq_nil_of_length_eq_zero hl
    exact ord_leaf gs egs sc hsc ownV kk br bb bs bn bc room p pre Ap cp Al cl B0 W (by omega) (how p (by simp [lvE])) hj hP hr
  | succ n ih =>
    intro p l pre Ap cp Al cl W hl hn hp how hN hj hP hr hrl
    obtain ⟨_, hcp, _⟩ := C_of_RO hr
    obtain ⟨_, hcl, hcl0⟩ := C_of_RO hrl
    have hl0 : ((l.length : Int) == 0) = false := by rw [beq_eq_false_iff_ne]; omega
    obtain ⟨ad, eA, _⟩ := Kd.at_int hcl0 0 (by omega) (by omega)
    subst eA
    have hl7 : l.length ≤ 7 := by omega
    have HJ := Aside0.mk hj
    have HP := Aside0.mk hP
    have HR := Aside0.mk hr
    have HRl := Aside0.mk hrl
    have How := Aside0.mk how
    have IH := Aside0.mk ih
    have Hl := Aside0.mk hl
    have Hn := Aside0.mk hn
    have HN := Aside0.mk hN
    have HS := Aside0.mk hS
    clear ih hl hn hp how hN hj hP hr hrl hS hcl0 hsc
    go_enter Try.func27, Try.ntmps27
    go_wp2
    go_loopg [41] l.length (fun gk v41 wr => ∃ (i : Nat) (dn : List (List Int)), i ≤ l.length ∧ l.length - i ≤ gk ∧ v41 = .int .i64 i ∧ Aside0 (OrdJ B0 sc ownV bb bn (pre ++ dn) wr) ∧ Aside0 (Mod (fun k => k = bb ∨ k = bn) W wr) ∧ Aside0 (lvE (n + 1) p l = dn ++ lvR (lvE n) p l (l.length - i) i) ∧ Aside0 (∀ q ∈ lvR (lvE n) p l (l.length - i) i, ownF kk room q = some (ownV q)))
    case atStart => exact ⟨0, [], Nat.zero_le _, by omega, rfl, ⟨by simpa using HJ.out⟩, ⟨Mod.refl _ _⟩, ⟨rfl⟩, ⟨How.out⟩⟩
    case round =>
      obtain ⟨i, dn, hi, hgk, rfl, HJd, HMd, Hdn, Hsub⟩ := hrel
      have hcc := HMd.out.cell HP.out.cc HP.out.nc
      have hz0 : (0 : Int) ≤ i := Int.natCast_nonneg _
      by_cases hlt : i < l.length
      · have hltz : (i : Int) < (l.length : Int) := by omega
        have HRlw := Aside0.mk (R_modN HRl.out HMd.out)
        have HClw := Aside0.mk (C_of_RO HRlw.out).2.2
        have HCpw := Aside0.mk (C_of_RO (R_modN HR.out HMd.out)).2.2
        obtain ⟨ad', eA, hx⟩ := Kd.at_int HClw.out (i : Int) hz0 hltz
        obtain rfl : ad = ad' := Option.some.inj eA
        clear eA
        rw [Int.toNat_natCast] at hx
        obtain ⟨x, hxe⟩ : ∃ x, x = rd l i := ⟨_, rfl⟩
        rw [← hxe] at hx
        obtain ⟨p', hp'⟩ : ∃ p', p' = p ++ [x] := ⟨_, rfl⟩
        have Hp' := Aside0.mk hp'
        have Hlen' : Aside0 (p'.length = p.length + 1) := ⟨by rw [hp']; simp⟩
        have Hle : Aside0 ((l.eraseIdx i).length = l.length - 1) := ⟨by rw [List.length_eraseIdx, if_pos hlt]⟩
        have Hsplit : Aside0 (lvR (lvE n) p l (l.length - i) i = (if i = 0 ∨ rd l ((i : Int) - 1) ≠ x then lvE n p' (l.eraseIdx i) else []) ++ lvR (lvE n) p l (l.length - (i + 1)) (i + 1)) := ⟨by
          rw [show l.length - i = (l.length - (i + 1)) + 1 by omega, hp', hxe]; rfl⟩
        have hw1 : IntKind.i64.wrap ((i : Int) + 1) = (i : Int) + 1 := IntWalk.i64_in _ (by omega)
        have Hxe := Aside0.mk hxe
        clear hp' hxe
        have hcase : (((i : Int) == 0) = true ∧ Aside0 (i = 0 ∨ rd l ((i : Int) - 1) ≠ x)) ∨ (((i : Int) == 0) = false ∧ 0 < i) := by
          by_cases h : i = 0
          · subst h; exact .inl ⟨rfl, ⟨.inl rfl⟩⟩
          · exact .inr ⟨by rw [beq_eq_false_iff_ne]; omega, by omega⟩
        rcases hcase with ⟨hi0, Hyes⟩ | ⟨hi0, hpos⟩
        · go_wp2_with fail
          go_region_held3 (fun w' => w'.cell? ⟨bc, 0, none⟩ = some (.func (.func 27) #[] #[.pointer (some ⟨br, 0, none⟩), .pointer (some ⟨bb, 0, none⟩), .pointer (some ⟨bs, 0, none⟩), .pointer (some ⟨bn, 0, none⟩), .pointer (some ⟨bc, 0, none⟩)]))
            (first | go_keep | exact pw_cell_below HB5.out hcc | exact pw_cell_below HB6.out hcc | exact pw_cell_below HB8.out hcc | exact pw_cell_below HB9.out hcc | exact HM7.out.cell hcc HP.out.nc)
            (first
              | (go_at_call 30
                 refine (slices_Clone_int_int.calls Ap cp p p _ ?_ hcp (clone_small (by have := Hn.out; omega))).mono ?_
                 · (repeat (first | exact HCpw.out | (with_reducible refine Kd.C_alloc ?_ _) | (with_reducible refine Kd.C_drew ?_)))
                 rintro e w5 ⟨v59, rfl, ho5, hb5⟩
                 have HO5 : Aside0 (Kd.R (Kd.int .i64) 3 w5 wr.heap.size (fun _ => True) v59 p) := ⟨Kd.R_lower ho5 (by simp)⟩
                 have HB5 : Aside0 (Below wr.heap.size wr w5) := ⟨below_then (by first | exact below_alloc (Below.refl _ wr).drew _ | exact (below_alloc (Below.refl _ wr) _).drew | exact (Below.refl _ wr).drew) (by simp) hb5⟩
                 have HX5 := Aside0.mk hb5
                 clear ho5 hb5)
              | (refine Kd.R_append_rows_step (Kd.int .i64) (w0 := wr) wr.heap.size (by rfl) (.tmp 59) (.tmp 61) 22 3 (.int .i64 0) 8 rfl Try.underlying22 info3 rfl (by decide) (by omega) v59 p [x] _ 1 1 (fun _ => True) (fun _ => False) (by rfl) (by rfl) ?_ ?_ (fun _ _ h => h) (fun _ h => h.elim) (fun _ _ => trivial) ?_ ?_ ?_ ?_
                 · first | exact HO5.out | exact Kd.R_alloc HO5.out _
                 · first | exact C_one (cell_box _ _ _) | exact C_one (pw_cell_below HX5.out (cell_box wr _ _))
                 · first | exact HB5.out | exact below_alloc' HB5.out _
                 · first | exact HB5.out.size | exact (below_alloc' HB5.out _).size
                 · have := Hn.out; omega
                 intro v62 w6 ho6 hb6 hg6 hat6
                 rw [← Hp'.out] at ho6
                 obtain ⟨A6, c6, rfl, hc6, hr6⟩ := Kd.R_reads ho6
                 have HB6 := Aside0.mk hb6
                 have HO6 := Aside0.mk ho6
                 have HCl6 := Aside0.mk (Kd.C_below HClw.out hb6)
                 clear ho6 hb6 hg6 hat6 hr6 hc6)
              | (go_at_call 30
                 refine (slices_Clone_int_int.calls (some ad) cl l l w6 HCl6.out hcl (clone_small (by omega))).mono ?_
                 rintro e w8 ⟨v64, rfl, ho8, hb8⟩
                 obtain ⟨A8, c8, rfl, hc8, hr8⟩ := Kd.R_reads ho8
                 have HB8 : Aside0 (Below wr.heap.size wr w8) := ⟨below_then HB6.out HB6.out.size hb8⟩
                 have HX8 := Aside0.mk hb8
                 have HD8 := Aside0.mk (del_calls i l hlt w8 w6.heap.size (fun _ => True) A8 c8 ho8)
                 have HS8 := Aside0.mk hb8.size
                 clear ho8 hb8 hr8 hc8)
              | (go_at_call 31
                 refine HD8.out.mono ?_
                 rintro e w9 ⟨rfl, ho9, hb9⟩
                 have HB9 : Aside0 (Below wr.heap.size wr w9) := ⟨HB8.out.trans (hb9.mono (HB6.out.size))⟩
                 have HO9 := Aside0.mk ho9
                 have HO6'' := Aside0.mk (Kd.R_below HO6.out (HX8.out.trans hb9))
                 clear ho9 hb9)
              | (go_at_call 27
                 have hih := IH.out p' (l.eraseIdx i) (pre ++ dn) A6 c6 A8 c8 w9 (by have := Hle.out; have := Hl.out; omega) (by have := Hlen'.out; have := Hn.out; omega) (by have := Hlen'.out; omega) (fun q hq => Hsub.out q (by rw [Hsplit.out, if_pos Hyes.out]; exact List.mem_append_left _ hq)) (by have := HN.out; have := HMd.out.size; have := HB9.out.size; omega) (ordJ_stays HJd.out (below_then (Below.refl _ wr) (Nat.le_refl _) HB9.out)) (HP.out.mod (HMd.out.trans (Mod.of_below HB9.out))) (R_out HO6''.out (fun k hk => by have := HS.out k hk; have := HN.out; have := HMd.out.size; omega) (by have := HN.out; have := HMd.out.size; omega)) (by rw [Hle.out]; exact R_out HO9.out (fun k hk => by have := HS.out k hk; have := HN.out; have := HMd.out.size; have := HB6.out.size; omega) (by have := HN.out; have := HMd.out.size; have := HB6.out.size; omega))
                 rw [Hle.out] at hih
                 refine hih.mono ?_
                 rintro e w7 ⟨rfl, hj7, hm7⟩
                 have HJ7 := Aside0.mk hj7
                 have HM7 : Aside0 (Mod (fun k => k = bb ∨ k = bn) wr w7) := ⟨(Mod.of_below HB9.out).trans hm7⟩
                 clear hj7 hm7 hih))
          all_goals
            go_wp2_with fail
            go_roundg (l.length - (i + 1))
            case measure => omega
            case rel => exact ⟨i + 1, dn ++ lvE n p' (l.eraseIdx i), by omega, by omega, by go_num, ⟨by rw [← List.append_assoc]; exact HJ7.out⟩, ⟨HMd.out.trans HM7.out⟩, ⟨by rw [Hdn.out, Hsplit.out, if_pos Hyes.out, List.append_assoc]⟩, ⟨fun q hq => Hsub.out q (by rw [Hsplit.out]; exact List.mem_append_right _ hq)⟩⟩
        · have hw0 : IntKind.i64.wrap ((i : Int) - 1) = (i : Int) - 1 := IntWalk.i64_in _ (by omega)
          have hl1 : 0 ≤ (i : Int) - 1 := by omega
          have hl2 : (i : Int) - 1 < (l.length : Int) := by omega
          have hl3 : i - 1 < l.length := by omega
          obtain ⟨ad', eA, hxp⟩ := Kd.at_int HClw.out ((i : Int) - 1) hl1 hl2
          obtain rfl : ad = ad' := Option.some.inj eA
          clear eA
          rw [show ((i : Int) - 1).toNat = i - 1 by omega] at hxp
          obtain ⟨y, hye⟩ : ∃ y, y = rd l ((i : Int) - 1) := ⟨_, rfl⟩
          rw [← hye] at hxp
          by_cases hxy : y = x
          · have hb1 : (y == x) = true := by rw [beq_iff_eq]; exact hxy
            have Hno : Aside0 (¬ (i = 0 ∨ rd l ((i : Int) - 1) ≠ x)) := ⟨by rw [← hye]; intro h; rcases h with h | h; omega; exact h hxy⟩
            clear hye hxy
            go_wp2_with fail
            go_roundg (l.length - (i + 1))
            case measure => omega
            case rel => exact ⟨i + 1, dn, by omega, by omega, by go_num, HJd, HMd, ⟨by rw [Hdn.out, Hsplit.out, if_neg Hno.out, List.nil_append]⟩, ⟨fun q hq => Hsub.out q (by rw [Hsplit.out]; exact List.mem_append_right _ hq)⟩⟩
          have hb1 : (y == x) = false := by rw [beq_eq_false_iff_ne]; exact hxy
          have Hyes : Aside0 (i = 0 ∨ rd l ((i : Int) - 1) ≠ x) := ⟨by rw [← hye]; exact .inr hxy⟩
          clear hye hxy
          go_wp2_with fail
          go_region_held3 (fun w' => w'.cell? ⟨bc, 0, none⟩ = some (.func (.func 27) #[] #[.pointer (some ⟨br, 0, none⟩), .pointer (some ⟨bb, 0, none⟩), .pointer (some ⟨bs, 0, none⟩), .pointer (some ⟨bn, 0, none⟩), .pointer (some ⟨bc, 0, none⟩)]))
            (first | go_keep | exact pw_cell_below HB5.out hcc | exact pw_cell_below HB6.out hcc | exact pw_cell_below HB8.out hcc | exact pw_cell_below HB9.out hcc | exact HM7.out.cell hcc HP.out.nc)
            (first
              | (go_at_call 30
                 refine (slices_Clone_int_int.calls Ap cp p p _ ?_ hcp (clone_small (by have := Hn.out; omega))).mono ?_
                 · (repeat (first | exact HCpw.out | (with_reducible refine Kd.C_alloc ?_ _) | (with_reducible refine Kd.C_drew ?_)))
                 rintro e w5 ⟨v59, rfl, ho5, hb5⟩
                 have HO5 : Aside0 (Kd.R (Kd.int .i64) 3 w5 wr.heap.size (fun _ => True) v59 p) := ⟨Kd.R_lower ho5 (by simp)⟩
                 have HB5 : Aside0 (Below wr.heap.size wr w5) := ⟨below_then (by first | exact below_alloc (Below.refl _ wr).drew _ | exact (below_alloc (Below.refl _ wr) _).drew | exact (Below.refl _ wr).drew) (by simp) hb5⟩
                 have HX5 := Aside0.mk hb5
                 clear ho5 hb5)
              | (refine Kd.R_append_rows_step (Kd.int .i64) (w0 := wr) wr.heap.size (by rfl) (.tmp 59) (.tmp 61) 22 3 (.int .i64 0) 8 rfl Try.underlying22 info3 rfl (by decide) (by omega) v59 p [x] _ 1 1 (fun _ => True) (fun _ => False) (by rfl) (by rfl) ?_ ?_ (fun _ _ h => h) (fun _ h => h.elim) (fun _ _ => trivial) ?_ ?_ ?_ ?_
                 · first | exact HO5.out | exact Kd.R_alloc HO5.out _
                 · first | exact C_one (cell_box _ _ _) | exact C_one (pw_cell_below HX5.out (cell_box wr _ _))
                 · first | exact HB5.out | exact below_alloc' HB5.out _
                 · first | exact HB5.out.size | exact (below_alloc' HB5.out _).size
                 · have := Hn.out; omega
                 intro v62 w6 ho6 hb6 hg6 hat6
                 rw [← Hp'.out] at ho6
                 obtain ⟨A6, c6, rfl, hc6, hr6⟩ := Kd.R_reads ho6
                 have HB6 := Aside0.mk hb6
                 have HO6 := Aside0.mk ho6
                 have HCl6 := Aside0.mk (Kd.C_below HClw.out hb6)
                 clear ho6 hb6 hg6 hat6 hr6 hc6)
              | (go_at_call 30
                 refine (slices_Clone_int_int.calls (some ad) cl l l w6 HCl6.out hcl (clone_small (by omega))).mono ?_
                 rintro e w8 ⟨v64, rfl, ho8, hb8⟩
                 obtain ⟨A8, c8, rfl, hc8, hr8⟩ := Kd.R_reads ho8
                 have HB8 : Aside0 (Below wr.heap.size wr w8) := ⟨below_then HB6.out HB6.out.size hb8⟩
                 have HX8 := Aside0.mk hb8
                 have HD8 := Aside0.mk (del_calls i l hlt w8 w6.heap.size (fun _ => True) A8 c8 ho8)
                 have HS8 := Aside0.mk hb8.size
                 clear ho8 hb8 hr8 hc8)
              | (go_at_call 31
                 refine HD8.out.mono ?_
                 rintro e w9 ⟨rfl, ho9, hb9⟩
                 have HB9 : Aside0 (Below wr.heap.size wr w9) := ⟨HB8.out.trans (hb9.mono (HB6.out.size))⟩
                 have HO9 := Aside0.mk ho9
                 have HO6'' := Aside0.mk (Kd.R_below HO6.out (HX8.out.trans hb9))
                 clear ho9 hb9)
              | (go_at_call 27
                 have hih := IH.out p' (l.eraseIdx i) (pre ++ dn) A6 c6 A8 c8 w9 (by have := Hle.out; have := Hl.out; omega) (by have := Hlen'.out; have := Hn.out; omega) (by have := Hlen'.out; omega) (fun q hq => Hsub.out q (by rw [Hsplit.out, if_pos Hyes.out]; exact List.mem_append_left _ hq)) (by have := HN.out; have := HMd.out.size; have := HB9.out.size; omega) (ordJ_stays HJd.out (below_then (Below.refl _ wr) (Nat.le_refl _) HB9.out)) (HP.out.mod (HMd.out.trans (Mod.of_below HB9.out))) (R_out HO6''.out (fun k hk => by have := HS.out k hk; have := HN.out; have := HMd.out.size; omega) (by have := HN.out; have := HMd.out.size; omega)) (by rw [Hle.out]; exact R_out HO9.out (fun k hk => by have := HS.out k hk; have := HN.out; have := HMd.out.size; have := HB6.out.size; omega) (by have := HN.out; have := HMd.out.size; have := HB6.out.size; omega))
                 rw [Hle.out] at hih
                 refine hih.mono ?_
                 rintro e w7 ⟨rfl, hj7, hm7⟩
                 have HJ7 := Aside0.mk hj7
                 have HM7 : Aside0 (Mod (fun k => k = bb ∨ k = bn) wr w7) := ⟨(Mod.of_below HB9.out).trans hm7⟩
                 clear hj7 hm7 hih))
          all_goals
            go_wp2_with fail
            go_roundg (l.length - (i + 1))
            case measure => omega
            case rel => exact ⟨i + 1, dn ++ lvE n p' (l.eraseIdx i), by omega, by omega, by go_num, ⟨by rw [← List.append_assoc]; exact HJ7.out⟩, ⟨HMd.out.trans HM7.out⟩, ⟨by rw [Hdn.out, Hsplit.out, if_pos Hyes.out, List.append_assoc]⟩, ⟨fun q hq => Hsub.out q (by rw [Hsplit.out]; exact List.mem_append_right _ hq)⟩⟩
      · obtain rfl : i = l.length := by omega
        have hltz : ¬ (l.length : Int) < (l.length : Int) := by omega
        go_wp2_with fail
        go_end0
        refine ⟨rfl, ?_, HMd.out⟩
        have e := Hdn.out
        rw [Nat.sub_self] at e
        have e2 : lvR (lvE n) p l 0 l.length = [] := rfl
        rw [e2, List.append_nil] at e
        rw [e]; exact HJd.out
/-- The orders with the numbers of boxes that they take. -/
def evsW (kk : Nat) (room : Int) : List (List Int) → Option (List (List Int × Int))
  | [] => some []
  | q :: qs => (ownF kk room q).bind fun a => (evsW kk room qs).bind fun b => some ((q, a) :: b)
def stepP (sc : Int → Int) (s : List Int × Int) (e : List Int × Int) : List Int × Int := if s.1.length = 0 ∨ sc e.2 > sc s.2 then e else s
def bestP (sc : Int → Int) (l : List (List Int × Int)) : List Int × Int := l.foldl (stepP sc) ([], 0)
def sortL (t : List Int) : List Int := t.mergeSort fun x y => decide (x ≤ y)
def ordO (sc : Int → Int) (kk : Nat) (t : List Int) (room : Int) : Option (List Int × Int × Bool) :=
  (impl_areRoomy.f kk t room).bind fun b => if b = true then (if t.length ≤ 7 then (if 1 ≤ t.length then (evsW kk room (lvE t.length [] (sortL t))).bind fun l => some ((bestP sc l).1, (bestP sc l).2, true) else none) else some ([], 0, false)) else some ([], 0, false)
theorem ownF_mono (room : Int) (q : List Int) (k : Nat) : LeO (ownF k room q) (ownF (k + 1) room q) :=
  LeO.bind (impl_FirstFit.mono q room k) (fun r => LeO.bind (slices_Max_int_int.mono r.1 k) (fun _ => LeO.refl _))
theorem evsW_mono (room : Int) (k : Nat) : ∀ qs, LeO (evsW k room qs) (evsW (k + 1) room qs)
  | [] => LeO.refl _
  | q :: qs => LeO.bind (ownF_mono room q k) (fun _ => LeO.bind (evsW_mono room k qs) (fun _ => LeO.refl _))
theorem ordO_mono (sc : Int → Int) (t : List Int) (room : Int) (k : Nat) : LeO (ordO sc k t room) (ordO sc (k + 1) t room) := by
  unfold ordO
  exact LeO.bind (impl_areRoomy.mono t room k) (fun _ => LeO.ite (LeO.ite (LeO.ite (LeO.bind (evsW_mono room k _) (fun _ => LeO.refl _)) (LeO.refl _)) (LeO.refl _)) (LeO.refl _))
theorem evsW_some (kk : Nat) (room : Int) (sc : Int → Int) : ∀ (qs : List (List Int)) (l : List (List Int × Int)), evsW kk room qs = some l →
    (∀ q ∈ qs, ownF kk room q = some ((ownF kk room q).getD 0)) ∧ ∀ s, qs.foldl (stepO sc (fun q => (ownF kk room q).getD 0)) s = l.foldl (stepP sc) s
  | [], l, h => by
    obtain rfl := Option.some.inj h
    exact ⟨by simp, fun s => rfl⟩
  | q :: qs, l, h => by
    obtain ⟨a, ha, h⟩ := Option.bind_eq_some_iff.mp h
    obtain ⟨b, hb, h⟩ := Option.bind_eq_some_iff.mp h
    obtain rfl := Option.some.inj h
    obtain ⟨i1, i2⟩ := evsW_some kk room sc qs b hb
    refine ⟨fun q' hq' => ?_, fun s => ?_⟩
    · rcases List.mem_cons.1 hq' with rfl | hq'
      · rw [ha]; rfl
      · exact i1 q' hq'
    · rw [List.foldl_cons, List.foldl_cons]
      have e : stepO sc (fun q => (ownF kk room q).getD 0) s q = stepP sc s (q, a) := by unfold stepO stepP; simp only [ha, Option.getD_some]
      rw [e]
      exact i2 _
theorem sortL_len (t : List Int) : (sortL t).length = t.length := List.length_mergeSort _
theorem valsInts_of_C {w : World} {A : Option Addr} {c : Nat} {t : List Int} (h : Kd.C (Kd.int .i64) w A t.length t) (h0 : 0 < t.length) : vals_Ints w.heap.size w (.slice A t.length c) t := by
  obtain ⟨ad, eA, _⟩ := Kd.at_int h 0 (by omega) (by omega)
  subst eA
  refine .inr ⟨ad, c, rfl, C_block_lt h h0, fun j hj => ?_⟩
  obtain ⟨ad', e, hx⟩ := Kd.at_int h (j : Int) (by omega) (by omega)
  obtain rfl := Option.some.inj e
  rw [Int.toNat_natCast] at hx
  rw [hx]
  simp [rd, List.getD_eq_getElem?_getD]
theorem ord_start {gs br bs : Nat} {room : Int} {B0 : Nat} {sc : Int → Int} {ownV : List Int → Int} {w3 : World} (hcr : w3.cell? ⟨br, 0, none⟩ = some (.int .i64 room)) (hcs : w3.cell? ⟨bs, 0, none⟩ = some (.func (.func gs) #[] #[])) (hbr : br < w3.heap.size) (hbs : bs < w3.heap.size) (W6 : World)
    (e6 : W6 = (((w3.alloc (.cells #[.slice none 0 0] 22)).alloc (.cells #[.int .i64 0] 3)).alloc (.cells #[.func (.func 27) #[] #[.pointer (some ⟨br, 0, none⟩), .pointer (some ⟨w3.heap.size, 0, none⟩), .pointer (some ⟨bs, 0, none⟩), .pointer (some ⟨w3.heap.size + 1, 0, none⟩), .pointer (some ⟨w3.heap.size + 1 + 1, 0, none⟩)]] 43))) :
    OrdW gs br w3.heap.size bs (w3.heap.size + 1) (w3.heap.size + 1 + 1) room W6 ∧ OrdJ B0 sc ownV w3.heap.size (w3.heap.size + 1) [] W6 ∧ Below w3.heap.size w3 W6 ∧ W6.heap.size = w3.heap.size + 3 := by
  have hb : Below w3.heap.size w3 W6 := by rw [e6]; exact below_alloc (below_alloc (below_alloc (Below.refl _ w3) _) _) _
  have hbb : W6.heap[w3.heap.size]? = some (.cells #[.slice none 0 0] 22 (0, 0)) := by rw [e6]; exact blk_alloc (blk_alloc (heap_alloc_new _ _) _) _
  have hbn : W6.heap[w3.heap.size + 1]? = some (.cells #[.int .i64 0] 3 (0, 0)) := by
    rw [e6]
    have h := heap_alloc_new (w3.alloc (.cells #[.slice none 0 0] 22)) (.cells #[.int .i64 0] 3)
    rw [World.size_alloc] at h
    exact blk_alloc h _
  have hbc : W6.cell? ⟨w3.heap.size + 1 + 1, 0, none⟩ = some (.func (.func 27) #[] #[.pointer (some ⟨br, 0, none⟩), .pointer (some ⟨w3.heap.size, 0, none⟩), .pointer (some ⟨bs, 0, none⟩), .pointer (some ⟨w3.heap.size + 1, 0, none⟩), .pointer (some ⟨w3.heap.size + 1 + 1, 0, none⟩)]) := by
    rw [e6]
    have h := cell_box ((w3.alloc (.cells #[.slice none 0 0] 22)).alloc (.cells #[.int .i64 0] 3)) (.func (.func 27) #[] #[.pointer (some ⟨br, 0, none⟩), .pointer (some ⟨w3.heap.size, 0, none⟩), .pointer (some ⟨bs, 0, none⟩), .pointer (some ⟨w3.heap.size + 1, 0, none⟩), .pointer (some ⟨w3.heap.size + 1 + 1, 0, none⟩)]) 43
    simpa only [World.size_alloc] using h
  refine ⟨⟨pw_cell_below hb hcr, pw_cell_below hb hcs, hbc, by omega, by omega, by omega, by omega⟩, ⟨⟨_, hbb, R_nil_ _ _ _ _, .inl ⟨rfl, rfl⟩⟩, hbn⟩, hb, by rw [e6]; simp⟩
set_option maxRecDepth 100000 in
set_option maxHeartbeats 8000000 in
theorem ordered_calls (gs : Nat) (egs : ∀ args w, (callFunc gs args).run Try.prog w = .ok (.enter gs args) w) (sc : Int → Int) (hsc : Score1 gs sc) (kk : Nat) (A0 : Option Addr) (c0 : Nat) (t : List Int) (room : Int) (r : List Int × Int × Bool) (w : World) (hr0 : Kd.C (Kd.int .i64) w A0 t.length t) (hc0 : t.length ≤ c0) (h : ordO sc kk t room = some r) :
    Calls Try.prog 15 #[.slice A0 t.length c0, .int .i64 room, .func (.func gs) #[] #[]] w fun e w' => ∃ v : Value, e = .returned (.tuple #[v, .int .i64 r.2.1, .bool r.2.2]) ∧ Kd.R (Kd.int .i64) 3 w' w.heap.size (fun _ => True) v r.1 ∧ Below w.heap.size w w' := by
  unfold ordO at h
  obtain ⟨b, hb, h⟩ := Option.bind_eq_some_iff.mp h
  obtain ⟨W2, hW2⟩ : ∃ W2, W2 = (w.alloc (.cells #[.int .i64 room] 3)).alloc (.cells #[.func (.func gs) #[] #[]] 32) := ⟨_, rfl⟩
  have hB2 : Below w.heap.size w W2 := by rw [hW2]; exact below_alloc (below_alloc (Below.refl _ w) _) _
  have hs2 : W2.heap.size = w.heap.size + 2 := by rw [hW2]; simp
  have hcr : W2.cell? ⟨w.heap.size, 0, none⟩ = some (.int .i64 room) := by rw [hW2]; exact cell_past (cell_box w _ _) _
  have hcs : W2.cell? ⟨w.heap.size + 1, 0, none⟩ = some (.func (.func gs) #[] #[]) := by rw [hW2]; have := cell_box (w.alloc (.cells #[.int .i64 room] 3)) (.func (.func gs) #[] #[]) 32; simpa only [World.size_alloc] using this
  have HA := Aside0.mk (impl_areRoomy.calls kk A0 c0 t room b W2 (Kd.C_below hr0 hB2) hc0 hb)
  have HB2 := Aside0.mk hB2
  have HS2 := Aside0.mk hs2
  have HCR := Aside0.mk hcr
  have HCS := Aside0.mk hcs
  have HR0 := Aside0.mk hr0
  cases b with
  | false =>
    simp only [Bool.false_eq_true, if_false, Option.some.injEq] at h
    subst h
    clear hr0 hb hsc hB2 hs2 hcr hcs
    subst hW2
    go_enter Try.func15, Try.ntmps15
    go_wp2_with (go_at_call 24; refine HA.out.mono ?_; rintro e w1 ⟨rfl, hb1⟩; have HB1 := Aside0.mk (below_then HB2.out HB2.out.size hb1); clear hb1)
    go_ret3
    exact ⟨_, rfl, R_nil_ _ _ _ _, HB1.out⟩
  | true =>
    simp only [if_true] at h
    by_cases h7 : t.length ≤ 7
    · rw [if_pos h7] at h
      by_cases h1 : 1 ≤ t.length
      · rw [if_pos h1] at h
        obtain ⟨l, hl, h⟩ := Option.bind_eq_some_iff.mp h
        obtain rfl := Option.some.inj h
        obtain ⟨how, hfold⟩ := evsW_some kk room sc _ l hl
        have hbest : (bestL sc (fun q => (ownF kk room q).getD 0) ([] ++ lvE t.length [] (sortL t))) = bestP sc l := hfold ([], 0)
        have HOW := Aside0.mk how
        have HSC := Aside0.mk hsc
        have Hbest := Aside0.mk hbest
        have h7b : decide ((t.length : Int) > 7) = false := decide_eq_false (by omega)
        clear how hfold hbest hl h hsc
        clear hr0 hb hB2 hs2 hcr hcs
        subst hW2
        go_enter Try.func15, Try.ntmps15
        go_wp2_with (first
          | (go_at_call 24; refine HA.out.mono ?_; rintro e w1 ⟨rfl, hb1⟩; have HB1 := Aside0.mk (below_then HB2.out HB2.out.size hb1); have HZ1 : Aside0 (w.heap.size + 2 ≤ w1.heap.size) := ⟨by have := hb1.size; have := HS2.out; omega⟩
             have HCR1 := Aside0.mk (pw_cell_below hb1 HCR.out); have HCS1 := Aside0.mk (pw_cell_below hb1 HCS.out)
             have HV := Aside0.mk (callsIn_wide.1 (vals_values_in Fence.wide 3 trivial rfl A0 t.length c0 w1)); clear hb1)
          | (go_at_call 26; refine HV.out.mono ?_; rintro e w2 ⟨rfl, rfl⟩
             have HSo := Aside0.mk (sorted_calls w1.heap.size (.slice A0 t.length c0) t h1 (Nat.le_trans h7 (by decide)) (by omega) (w1.alloc (.cells #[.slice A0 t.length c0] 22)) (by simp) (cell_box _ _ _) (valsInts_of_C (Kd.C_below HR0.out (below_alloc HB1.out _)) h1)))
          | (go_at_call 25; refine HSo.out.mono ?_; rintro e w3 ⟨v24, rfl, ho3, hb3⟩
             obtain ⟨A3, c3, rfl, hc3, hr3⟩ := Kd.R_reads ho3
             have HB3 := Aside0.mk hb3
             have hcr3 := pw_cell_below hb3 (cell_past HCR1.out (.cells #[.slice A0 t.length c0] 22))
             have hcs3 := pw_cell_below hb3 (cell_past HCS1.out (.cells #[.slice A0 t.length c0] 22))
             have hsz : w.heap.size + 2 ≤ w3.heap.size := by have := hb3.size; have := HB1.out.size; have := HS2.out; have := HZ1.out; simp at *; omega
             obtain ⟨s1, s2, s3, s4⟩ := ord_start (B0 := w.heap.size) (sc := sc) (ownV := fun q => (ownF kk room q).getD 0) hcr3 hcs3 (by omega) (by omega) _ rfl
             have hR6 := Kd.R_below (Kd.R_mono (ok' := fun k => ¬ (k = w3.heap.size ∨ k = w3.heap.size + 1)) (Kd.R_bound ho3) (fun k hk hs => by have := hk.2.2.1; omega)) s3
             have HCh := Aside0.mk (ord_choose gs egs sc HSC.out (fun q => (ownF kk room q).getD 0) kk w.heap.size w3.heap.size (w.heap.size + 1) (w3.heap.size + 1) (w3.heap.size + 1 + 1) room w.heap.size (w3.heap.size + 3) (by omega) (fun k hk => by omega) t.length [] (sortL t) [] none 0 A3 c3 _ (sortL_len t) (by simp; omega) (by simp; omega) HOW.out (by rw [s4]; exact Nat.le_refl _) s2 s1 (R_nil_ _ _ _ _) (Kd.R_lower hR6 (by rw [World.size_alloc]; have := HZ1.out; omega)))
             have HS3 := Aside0.mk s3
             have HSZ := Aside0.mk hsz
             clear ho3 hb3 hr3 hc3 s1 s2 s3 s4 hR6 hcr3 hcs3 hsz)
          | (go_at_call 27
             have hch := HCh.out
             rw [sortL_len] at hch
             refine hch.mono ?_
             rintro e w7 ⟨rfl, ⟨⟨v7, j3, j4, _⟩, j5⟩, hm7⟩
             have J4 := Aside0.mk j4
             have HM7 := Aside0.mk hm7
             have c3' := cell_at_blk j3
             have c5' := cell_at_blk j5
             clear j3 j5 j4 hm7 hch))
        go_quiet (fail)
        go_wp2
        go_ret3
        have hbl := Hbest.out
        rw [← hbl]
        have hB3 : Below w.heap.size w w3 := (below_alloc HB1.out _ |> fun h => below_then h (by have := HZ1.out; simp; omega) HB3.out)
        have hB7 : Below w.heap.size w w7 := (hB3.trans (HS3.out.mono (by have := HSZ.out; omega))).trans (HM7.out.belowB (by have := HSZ.out; have := HS3.out.size; omega) (fun k hk => by have := HSZ.out; omega))
        exact ⟨_, rfl, Kd.R_drewN (Kd.R_mono J4.out (fun _ _ => trivial)) _, pw_below_drewN hB7 _⟩
      · rw [if_neg h1] at h; cases h
    · rw [if_neg h7] at h
      obtain rfl := Option.some.inj h
      have h7b : decide ((t.length : Int) > 7) = true := decide_eq_true (by omega)
      clear hr0 hb hsc hB2 hs2 hcr hcs h7
      subst hW2
      go_enter Try.func15, Try.ntmps15
      go_wp2_with (go_at_call 24; refine HA.out.mono ?_; rintro e w1 ⟨rfl, hb1⟩; have HB1 := Aside0.mk (below_then HB2.out HB2.out.size hb1); clear hb1)
      go_ret3
      exact ⟨_, rfl, R_nil_ _ _ _ _, HB1.out⟩


end Go.Proofs.Ytclfjjinfbfajaa.P
