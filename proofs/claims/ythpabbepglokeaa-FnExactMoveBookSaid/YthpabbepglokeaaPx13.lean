-- Laid by wip/myprint.py of this project (a wrapper over the kit's print.py); Lean checks it.
import Derived.Test.YthpabbepglokeaaPx0
import Derived.Test.YthpabbepglokeaaPx1
import Derived.Test.YthpabbepglokeaaPx4
import Derived.Test.YthpabbepglokeaaPx7
import Derived.Test.YthpabbepglokeaaPx9
namespace Go.Proofs.Ythpabbepglokeaa.P
open Go.RowKit Go.Proofs.YthpabbepglokeaaW.PrintWords Go.Proofs.YthpabbepglokeaaW.PrintLast Go.Proofs.YthpabbepglokeaaW.PrintMore
attribute [local go_sem] max2_int min2_int max_two min_two max_three min_three max_four min_four   -- for this text's walks alone
set_option linter.unusedVariables false
set_option linter.unusedSimpArgs false

/-! ### impl_MoveBook: function 8 (by hand) -/
/-- The cells of some books. -/
def flatB (xs : List S36) : List Value := xs.flatMap fun b => [.int .i64 b.f0, .int .i64 b.f1]
theorem flatB_len (xs : List S36) : (flatB xs).length = xs.length * 2 := by
  induction xs with
  | nil => rfl
  | cons x xs ih => simp only [flatB, List.flatMap_cons, List.length_append, List.length_cons, List.length_nil] at ih ⊢; omega
theorem flatB_app (xs ys : List S36) : flatB (xs ++ ys) = flatB xs ++ flatB ys := by simp [flatB]
theorem flatB_one (xs : List S36) : ∀ u ∈ flatB xs, u.oneCell' = true := by
  intro u hu
  obtain ⟨b, _, hb⟩ := List.mem_flatMap.1 hu
  simp only [List.mem_cons, List.not_mem_nil, or_false] at hb
  rcases hb with rfl | rfl <;> rfl
theorem repsB_flat : ∀ (xs : List S36) (inner : List Value), Reps (fun (x : S36) (cs : List Value) => cs = [.int .i64 x.f0, .int .i64 x.f1]) 2 xs inner → inner = flatB xs := by
  intro xs inner h
  have hl : inner.length = xs.length * 2 := h.1
  apply List.ext_getElem (by rw [flatB_len, hl])
  intro j h1 h2
  have hj : j / 2 < xs.length := by rw [flatB_len] at h2; omega
  have hA := h.2 (j / 2) xs[j / 2] (List.getElem?_eq_getElem hj)
  have e1 : (inner.drop (j / 2 * 2))[j % 2]? = ([.int .i64 xs[j / 2].f0, .int .i64 xs[j / 2].f1] : List Value)[j % 2]? := by
    rw [← hA, List.getElem?_take_of_lt (by omega)]
  have gen : ∀ (ys : List S36) (k : Nat), k < ys.length → ∀ r : Nat, r < 2 → (flatB ys)[k * 2 + r]? = ([.int .i64 (rd_T36 ys k).f0, .int .i64 (rd_T36 ys k).f1] : List Value)[r]? := by
    intro ys
    induction ys with
    | nil => intro k hk; simp at hk
    | cons y ys ih =>
      intro k hk r hr
      cases k with
      | zero =>
        have : r = 0 ∨ r = 1 := by omega
        rcases this with rfl | rfl <;> simp [flatB, rd_T36]
      | succ k =>
        have h3 := ih k (by simpa using hk) r hr
        have e : flatB (y :: ys) = [.int .i64 y.f0, .int .i64 y.f1] ++ flatB ys := rfl
        rw [e, List.getElem?_append_right (by simp; omega)]
        have e2 : (k + 1) * 2 + r - ([.int .i64 y.f0, .int .i64 y.f1] : List Value).length = k * 2 + r := by simp; omega
        rw [e2, h3]
        simp [rd_T36]
  have hB := gen xs (j / 2) hj (j % 2) (Nat.mod_lt _ (by omega))
  rw [show j / 2 * 2 + j % 2 = j by omega] at hB
  rw [List.getElem?_drop, show j / 2 * 2 + j % 2 = j by omega, List.getElem?_eq_getElem h1] at e1
  rw [List.getElem?_eq_getElem h2] at hB
  have e3 : rd_T36 xs ((j / 2 : Nat) : Int) = xs[j / 2] := by
    unfold rd_T36
    rw [Int.toNat_natCast, List.getD_eq_getElem?_getD, List.getElem?_eq_getElem hj]
    rfl
  rw [e3, ← e1] at hB
  exact (Option.some.inj hB).symm
theorem flatB_reps (xs : List S36) : Reps (fun (x : S36) (cs : List Value) => cs = [.int .i64 x.f0, .int .i64 x.f1]) 2 xs (flatB xs) := by
  induction xs with
  | nil => exact Reps.none _ _
  | cons x xs ih => exact Reps.c2 rfl ih
/-- A row of books of one's own, by its cells. -/
structure RawB (w : World) (base g c : Nat) (cur : List Value) (n : Nat) (xs : List S36) : Prop where
  hg : w.heap[g]? = some (.cells cur.toArray 36 (0, 0))
  hb : base ≤ g
  hl : n = xs.length
  hn : n ≤ c
  hc : c ≤ maxLen
  hs : cur.length = c * 2
  ht : cur.take (n * 2) = flatB xs
theorem rawB_of {w : World} {base : Nat} {ok : Nat → Prop} {g n c : Nat} {xs : List S36} (h : Kd.R k36 36 w base ok (.slice (some ⟨g, 0, none⟩) n c) xs) : ∃ cur, RawB w base g c cur n xs := by
  obtain ⟨hn, _, _⟩ := Kd.R_reads' h
  obtain ⟨_, inner, ho, hr⟩ := h
  obtain rfl := repsB_flat xs inner (hr.imp_ (fun _ _ hp => k36_openM hp))
  rcases ho.2 with ⟨e, _⟩ | ⟨g', c', cur, e, hb, hg, r1, r2, r3, r4⟩
  · cases e
  · cases e
    exact ⟨cur.toList, by rw [Array.toArray_toList]; exact hg, hb, hn, by omega, r2, by rw [Array.length_toList]; exact r3, by rw [hn]; exact r4⟩
theorem rawB_R {w : World} {base g c n : Nat} {cur : List Value} {xs : List S36} (h : RawB w base g c cur n xs) : Kd.R k36 36 w base (fun _ => True) (.slice (some ⟨g, 0, none⟩) n c) xs := by
  have hl := h.hl
  subst hl
  exact ⟨fun _ _ => trivial, flatB xs, ⟨flatB_len xs, .inr ⟨g, c, cur.toArray, rfl, h.hb, h.hg, h.hn, h.hc, h.hs, h.ht⟩⟩, (flatB_reps xs).imp_ (fun _ _ hp => by rw [hp]; exact k36_mkM _ _ _ _)⟩
/-- 'copy' at elements of two cells, into a row that is known whole. -/
theorem run_copy_row2 {P : Program} (w : World) (dT sT ty elem : TypeId) (g o dLen dCap : Nat) (a : Addr) (sLen sCap : Nat) (cur : List Value) (t : TypeId) (cs : List Value)
    (hu : P.underlying dT = some (.slice elem)) (hs : (P.info? elem).map (·.size) = some 2)
    (hg : w.heap[g]? = some (.cells cur.toArray t (0, 0))) (hn : cs.length = Nat.min sLen dLen * 2)
    (hsrc : ∀ j v, cs[j]? = some v → w.cell? (a.add j) = some v) (hfit : o + cs.length ≤ cur.length) (h1 : ∀ v ∈ cs, v.oneCell' = true) :
    (Builtin.copy_ #[dT, sT] ty #[.slice (some ⟨g, o, none⟩) dLen dCap, .slice (some a) sLen sCap]).run P w = .ok (goInt (Nat.min sLen dLen)) (w.setRow g (splice cur o cs).toArray) := by
  have hl := run_loadCells_list (P := P) w a cs hsrc
  have hst := run_storeCells_at P g o t cs 0 cur.toArray w hg (by simpa using hfit) h1
  cases hq : P.info? elem with
  | none => simp [hq] at hs
  | some i =>
    have hi : i.size = 2 := by simpa [hq] using hs
    rw [hn] at hl
    simp [Builtin.copy_, run_underlying hu, Builtin.lenOf, Builtin.firstCells, sizeOf, typeInfo, hq, hi, hl, hst, splice]
/-- 'clear' of one element of two cells. -/
theorem run_clear_one {P : Program} (w : World) (t e ty : TypeId) (z c0 c1 : Value) (ht : P.underlying t = some (.slice e)) (hv : ∀ w, (zeroValue e).run P w = .ok z w) (hz : z.cells = #[c0, c1]) (h0 : c0.oneCell' = true) (h1 : c1.oneCell' = true) (g o c : Nat) (cur : List Value) (te : TypeId) (hg : w.heap[g]? = some (.cells cur.toArray te (0, 0))) (hfit : o + 2 ≤ cur.length) :
    (Builtin.clear_ #[t] ty #[.slice (some ⟨g, o, none⟩) 1 c]).run P w = .ok (.tuple #[]) (w.setRow g (splice cur o [c0, c1]).toArray) := by
  have hzc : (Builtin.zeroCells z.cells 1).toList = [c0, c1] := by
    rw [hz]
    simp [Builtin.zeroCells]
    rfl
  have hst := run_storeCells_at P g o te [c0, c1] 0 cur.toArray w hg (by simpa using hfit) (by simp [h0, h1])
  simp [Builtin.clear_, run_underlying ht, hv, hzc, hst, splice]
theorem wpList_run2 {P : Program} (w : World) {ops : Array Oper} {rest : List Oper} {o : Oper} {a : Act} {Q : Exit → Act → World → Prop} (hgd : o.guard = none) (d s : Operand) (t t' : TypeId)
    (ho : o.op = .call { callee := .builtin .copy, args := #[d, s], argTypes := #[t, t'] }) (v u : Value) (hd : a.eval d = v) (hs : a.eval s = u) {v' : Value} {w' : World}
    (hr : (Builtin.copy_ #[t, t'] o.type #[v, u]).run P w = .ok v' w') (h : wpList P ops Q rest (a.put o.dst v') w') : wpList P ops Q (o :: rest) a w := by
  refine wpList_plain hgd fun K hK => ?_
  unfold Oper.wp
  simp [execOp, ho, resolve, invoke, builtin, hd, hs, hr, Result.andThen]
  exact hK _ _ h
theorem step_run2 {P : Program} {ops : Array Oper} {o : Oper} {a : Act} {w : World} {K : Act → World → Prop} {Q : Exit → Act → World → Prop} {E : Prop}
    (hw : Region.wanted o (yielded ops a.tmps) = true) (d x : Operand) (dT sT : TypeId) (hop : o.op = Op.call { callee := Callee.builtin Builtin.copy, args := #[d, x], argTypes := #[dT, sT] })
    (v u : Value) (hd : a.eval d = v) (hx : a.eval x = u) {v' : Value} {w' : World} (hr : (Builtin.copy_ #[dT, sT] o.type #[v, u]).run P w = .ok v' w') (hK : K (a.put o.dst v') w') :
    if Region.wanted o (yielded ops a.tmps) = true then Oper.wp P o a w K Q else E := by
  rw [if_pos hw]
  unfold Oper.wp
  simp [execOp, hop, resolve, invoke, builtin, hd, hx, hr, Result.andThen]
  exact hK
theorem wpList_clear1 {P : Program} (w : World) {ops : Array Oper} {rest : List Oper} {o : Oper} {a : Act} {Q : Exit → Act → World → Prop} (hgd : o.guard = none) (s : Operand) (t : TypeId)
    (ho : o.op = .call { callee := .builtin .clear, args := #[s], argTypes := #[t] }) (u : Value) (hs : a.eval s = u) {v' : Value} {w' : World}
    (hr : (Builtin.clear_ #[t] o.type #[u]).run P w = .ok v' w') (h : wpList P ops Q rest (a.put o.dst v') w') : wpList P ops Q (o :: rest) a w := by
  refine wpList_plain hgd fun K hK => ?_
  unfold Oper.wp
  simp [execOp, ho, resolve, invoke, builtin, hs, hr, Result.andThen]
  exact hK _ _ h
theorem splice_take {α : Type} (L cs : List α) (off k : Nat) (hk : k ≤ off) (hf : off ≤ L.length) : (splice L off cs).take k = L.take k := by
  unfold splice
  rw [List.take_append_of_le_length (by simp; omega), List.take_take, Nat.min_eq_left hk]
set_option maxRecDepth 100000 in
set_option maxHeartbeats 4000000 in
/-- slices.Delete of one book of a row of one's own. -/
theorem del_book (i : Nat) (xs : List S36) (hi : i < xs.length) (hx : xs.length ≤ 1000) (w : World) (base g c : Nat) (hbw : base ≤ w.heap.size) (h : Kd.R k36 36 w base (fun _ => True) (.slice (some ⟨g, 0, none⟩) xs.length c) xs) :
    Calls Try.prog 19 #[.slice (some ⟨g, 0, none⟩) xs.length c, .int .i64 (i : Int), .int .i64 ((i : Int) + 1)] w fun e w' => e = .returned (.slice (some ⟨g, 0, none⟩) (xs.length - 1) c) ∧ Kd.R k36 36 w' base (fun _ => True) (.slice (some ⟨g, 0, none⟩) (xs.length - 1) c) (xs.eraseIdx i) ∧ (∃ cur, w'.heap[g]? = some (.cells cur 36 (0, 0))) ∧ Below base w w' := by
  obtain ⟨cur0, hraw⟩ := rawB_of h
  obtain ⟨n, hn⟩ : ∃ n, n = xs.length := ⟨_, rfl⟩
  have hnc : n ≤ c := by rw [hn]; exact hraw.hn
  have hcm : c ≤ 9223372036854775807 := Nat.le_trans hraw.hc (by decide)
  have HO := Aside0.mk h
  have Hraw := Aside0.mk hraw
  have Hn := Aside0.mk hn
  have hin : i < n := by omega
  have hn1 : n ≤ 1000 := by omega
  have h01 : (0 : Int) ≤ i := Int.natCast_nonneg _
  have h02 : (i : Int) ≤ (i : Int) + 1 := by omega
  have h03 : (i : Int) + 1 ≤ (n : Int) := by omega
  have h04 : (0 : Int) ≤ (i : Int) + 1 := by omega
  have h05 : ((i : Int) == (i : Int) + 1) = false := by rw [beq_eq_false_iff_ne]; omega
  have h06 : (n : Int) ≤ (c : Int) := by omega
  have h07 : (i : Int) ≤ (c : Int) := by omega
  have h08 : ((i : Int) + 1).toNat = i + 1 := by omega
  have h09 : ¬ (c = i) := by omega
  rw [← hn]
  clear h hraw hn hi hx
  by_cases hcp : c = i + 1
  · subst hcp
    go_enter Try.func19, Try.ntmps19
    go_wp2
    go_region_held3 (fun _ => True) (first | go_keep | exact trivial)
      (first | (refine Kd.R_delete_step k36 (w0 := w) base (by rfl) (.tmp 22) (.tmp 25) 24 36 rfl Try.underlying24 (by kernel_rfl) (g := g) (n := n) (c := i + 1) (k := i) (xs := xs) (ok := fun _ => True) rfl rfl (by first | rfl | (rw [if_pos rfl]) | (rw [if_neg hcp]; exact congrArg some (add_plain _ _).symm)) (by first | rfl | omega) ?_ hin ?_ ?_ ?_
                · rw [Hn.out]; exact Kd.R_drew HO.out
                · exact (Below.refl _ w).drew
                · exact hbw
                intro w1 ho1 hb1 hg1
                have HO1 := Aside0.mk ho1
                have HB1 := Aside0.mk hb1
                have HG1 := Aside0.mk hg1
                clear ho1 hb1 hg1))
    obtain ⟨cur1, hraw1⟩ := rawB_of HO1.out
    have HW1 := Aside0.mk hraw1
    have hfit : (n - 1) * 2 + 2 ≤ cur1.length := by rw [hraw1.hs]; omega
    have hclr : ∀ ty cc, (Builtin.clear_ #[24] ty #[.slice (some ⟨g, (n - 1) * 2, none⟩) (n - (n - 1)) cc]).run Try.prog w1 = .ok (.tuple #[]) (w1.setRow g (splice cur1 ((n - 1) * 2) [.int .i64 0, .int .i64 0]).toArray) := fun ty cc => by
      rw [show n - (n - 1) = 1 by omega]
      exact run_clear_one w1 24 36 ty (.agg #[.int .i64 0, .int .i64 0]) (.int .i64 0) (.int .i64 0) Try.underlying24 (fun w => Try.zeroValue36 w) rfl rfl rfl g ((n - 1) * 2) cc cur1 36 hraw1.hg hfit
    obtain ⟨w2, hw2⟩ : ∃ w2, w2 = w1.setRow g (splice cur1 ((n - 1) * 2) [.int .i64 0, .int .i64 0]).toArray := ⟨_, rfl⟩
    have HR2 : Aside0 (RawB w2 base g (i + 1) (splice cur1 ((n - 1) * 2) [.int .i64 0, .int .i64 0]) (n - 1) (xs.eraseIdx i)) := ⟨⟨by rw [hw2]; exact setRow_heap w1 g _ _ _ _ hraw1.hg, hraw1.hb, hraw1.hl, hraw1.hn, hraw1.hc, by rw [length_splice _ _ _ (by simpa using hfit)]; exact hraw1.hs, by rw [splice_take _ _ _ _ (Nat.le_refl _) (by omega)]; exact hraw1.ht⟩⟩
    have HB2 : Aside0 (Below base w w2) := ⟨by rw [hw2]; exact below_setRow HB1.out hraw1.hb _⟩
    rw [← hw2] at hclr
    clear hraw1 hw2 hfit
    go_wp2_with (at_builtin; refine wpList_clear1 _ rfl (.tmp 31) 24 rfl _ rfl (hclr _ _) ?_)
    go_ret
    exact ⟨rfl, rawB_R HR2.out, ⟨_, HR2.out.hg⟩, HB2.out⟩
  · go_enter Try.func19, Try.ntmps19
    go_wp2
    go_region_held3 (fun _ => True) (first | go_keep | exact trivial)
      (first | (refine Kd.R_delete_step k36 (w0 := w) base (by rfl) (.tmp 22) (.tmp 25) 24 36 rfl Try.underlying24 (by kernel_rfl) (g := g) (n := n) (c := c) (k := i) (xs := xs) (ok := fun _ => True) rfl rfl (by first | rfl | (rw [if_pos hcp]) | (rw [if_neg hcp]; exact congrArg some (add_plain _ _).symm)) (by first | rfl | omega) ?_ hin ?_ ?_ ?_
                · rw [Hn.out]; exact Kd.R_drew HO.out
                · exact (Below.refl _ w).drew
                · exact hbw
                intro w1 ho1 hb1 hg1
                have HO1 := Aside0.mk ho1
                have HB1 := Aside0.mk hb1
                have HG1 := Aside0.mk hg1
                clear ho1 hb1 hg1))
    obtain ⟨cur1, hraw1⟩ := rawB_of HO1.out
    have HW1 := Aside0.mk hraw1
    have hfit : (n - 1) * 2 + 2 ≤ cur1.length := by rw [hraw1.hs]; omega
    have hclr : ∀ ty cc, (Builtin.clear_ #[24] ty #[.slice (some ⟨g, (n - 1) * 2, none⟩) (n - (n - 1)) cc]).run Try.prog w1 = .ok (.tuple #[]) (w1.setRow g (splice cur1 ((n - 1) * 2) [.int .i64 0, .int .i64 0]).toArray) := fun ty cc => by
      rw [show n - (n - 1) = 1 by omega]
      exact run_clear_one w1 24 36 ty (.agg #[.int .i64 0, .int .i64 0]) (.int .i64 0) (.int .i64 0) Try.underlying24 (fun w => Try.zeroValue36 w) rfl rfl rfl g ((n - 1) * 2) cc cur1 36 hraw1.hg hfit
    obtain ⟨w2, hw2⟩ : ∃ w2, w2 = w1.setRow g (splice cur1 ((n - 1) * 2) [.int .i64 0, .int .i64 0]).toArray := ⟨_, rfl⟩
    have HR2 : Aside0 (RawB w2 base g c (splice cur1 ((n - 1) * 2) [.int .i64 0, .int .i64 0]) (n - 1) (xs.eraseIdx i)) := ⟨⟨by rw [hw2]; exact setRow_heap w1 g _ _ _ _ hraw1.hg, hraw1.hb, hraw1.hl, hraw1.hn, hraw1.hc, by rw [length_splice _ _ _ (by simpa using hfit)]; exact hraw1.hs, by rw [splice_take _ _ _ _ (Nat.le_refl _) (by omega)]; exact hraw1.ht⟩⟩
    have HB2 : Aside0 (Below base w w2) := ⟨by rw [hw2]; exact below_setRow HB1.out hraw1.hb _⟩
    rw [← hw2] at hclr
    clear hraw1 hw2 hfit
    go_wp2_with (at_builtin; refine wpList_clear1 _ rfl (.tmp 31) 24 rfl _ rfl (hclr _ _) ?_)
    go_ret
    exact ⟨rfl, rawB_R HR2.out, ⟨_, HR2.out.hg⟩, HB2.out⟩
set_option maxRecDepth 100000 in
set_option maxHeartbeats 8000000 in
/-- slices.Insert of one book into a row of one's own that has room. -/
theorem ins_book (i : Nat) (ys : List S36) (b : S36) (hi : i ≤ ys.length) (hx : ys.length ≤ 1000) (w : World) (base g c vb : Nat) (hbw : base ≤ w.heap.size) (h : Kd.R k36 36 w base (fun _ => True) (.slice (some ⟨g, 0, none⟩) ys.length c) ys) (hc : ys.length + 1 ≤ c) (hv : w.heap[vb]? = some (.cells #[.int .i64 b.f0, .int .i64 b.f1] 36 (0, 0))) (hvg : vb ≠ g) :
    Calls Try.prog 21 #[.slice (some ⟨g, 0, none⟩) ys.length c, .int .i64 (i : Int), .slice (some ⟨vb, 0, none⟩) 1 1] w fun e w' => ∃ v, e = .returned v ∧ Kd.R k36 36 w' base (fun _ => True) v (ys.take i ++ b :: ys.drop i) ∧ Below base w w' := by
  obtain ⟨n, hn⟩ : ∃ n, n = ys.length := ⟨_, rfl⟩
  have h0c : w.cell? ⟨vb, 0, none⟩ = some (.int .i64 b.f0) := by simp [World.cell?, hv]
  have h1c : w.cell? ⟨vb, 1, none⟩ = some (.int .i64 b.f1) := by simp [World.cell?, hv]
  have HC : Aside0 (Kd.C k36 w (some ⟨vb, 0, none⟩) 1 [b]) := ⟨by
    refine ⟨rfl, by decide, fun _ => ⟨_, rfl, fun j p hj => ?_⟩⟩
    match j, hj with
    | 0, hj =>
      obtain rfl := Option.some.inj hj
      refine ⟨_, rfl, k36_mk w b, fun r u hu => ?_⟩
      match r, hu with
      | 0, hu => obtain rfl := Option.some.inj hu; exact h0c
      | 1, hu => obtain rfl := Option.some.inj hu; exact h1c⟩
  have HO := Aside0.mk h
  have Hn := Aside0.mk hn
  rcases Nat.lt_or_ge i ys.length with hlt | hge
  · obtain ⟨cur, hraw⟩ := rawB_of h
    have hcm : c ≤ 9223372036854775807 := Nat.le_trans hraw.hc (by decide)
    have hcur : (n + 1) * 2 ≤ cur.length := by rw [hraw.hs]; omega
    have hin : i < n := by omega
    have hn1 : n ≤ 1000 := by omega
    have hnc1 : n + 1 ≤ c := by omega
    have e1 : n + 1 - (i + 1) = n - i := by omega
    have hmin1 : Nat.min (n + 1 - i) (n - i) = n - i := Nat.min_eq_right (by omega)
    -- the cells that are moved
    obtain ⟨X1, hX1⟩ : ∃ X1, X1 = flatB (ys.drop i) := ⟨_, rfl⟩
    have hX1l : X1.length = (n - i) * 2 := by rw [hX1, flatB_len, List.length_drop, hn]
    have hcell : ∀ j v, cur[j]? = some v → w.cell? ⟨g, j, none⟩ = some v := fun j v hj => by
      simp only [World.cell?, hraw.hg]
      simp [hj]
    have hX1c : ∀ j v, X1[j]? = some v → w.drew.cell? ((⟨g, i * 2, none⟩ : Addr).add j) = some v := fun j v hj => by
      have hjl := (List.getElem?_eq_some_iff.1 hj).1
      rw [show (⟨g, i * 2, none⟩ : Addr).add j = ⟨g, i * 2 + j, none⟩ by unfold Addr.add; split <;> simp_all]
      refine (World.cell?_drew _ _).trans (hcell _ _ ?_)
      have h2 : (cur.take (n * 2))[i * 2 + j]? = some v := by
        rw [hn, hraw.ht, ← List.take_append_drop i ys, flatB_app, List.getElem?_append_right (by rw [flatB_len, List.length_take]; omega), flatB_len, List.length_take, Nat.min_eq_left hi, ← hX1, show i * 2 + j - i * 2 = j by omega]
        exact hj
      rwa [List.getElem?_take_of_lt (by omega)] at h2
    have hsz2 : (Try.prog.info? 36).map (·.size) = some 2 := by kernel_rfl
    have hg0 : w.drew.heap[g]? = some (.cells cur.toArray 36 (0, 0)) := hraw.hg
    have hcp1 : ∀ ty (d s : Nat) dc sc, d = n - i → s = n + 1 - i → (Builtin.copy_ #[24, 24] ty #[.slice (some ⟨g, (i + 1) * 2, none⟩) d dc, .slice (some ⟨g, i * 2, none⟩) s sc]).run Try.prog w.drew = .ok (goInt ((n - i : Nat) : Int)) (w.drew.setRow g (splice cur ((i + 1) * 2) X1).toArray) := fun ty d s dc sc ed es => by
      subst ed es
      have h := run_copy_row2 (P := Try.prog) w.drew 24 24 ty 36 g ((i + 1) * 2) (n + 1 - (i + 1)) dc ⟨g, i * 2, none⟩ (n + 1 - i) sc cur 36 X1 Try.underlying24 hsz2 hg0 (by rw [e1, hmin1, hX1l]) hX1c (by rw [hX1l]; omega) (by rw [hX1]; exact flatB_one _)
      rw [e1, hmin1] at h
      exact h
    obtain ⟨cur1, hcur1⟩ : ∃ cur1, cur1 = splice cur ((i + 1) * 2) X1 := ⟨_, rfl⟩
    have hcur1l : cur1.length = cur.length := by rw [hcur1, length_splice _ _ _ (by rw [hX1l]; omega)]
    have hg1 : ∀ W : World, W = w.drew.setRow g cur1.toArray → W.heap[g]? = some (.cells cur1.toArray 36 (0, 0)) := fun W e => by rw [e]; exact setRow_heap _ g _ _ _ _ hg0
    obtain ⟨W1, hW1⟩ : ∃ W1, W1 = w.drew.setRow g cur1.toArray := ⟨_, rfl⟩
    have hgW1 := hg1 W1 hW1
    have hvW1 : W1.heap[vb]? = some (.cells #[.int .i64 b.f0, .int .i64 b.f1] 36 (0, 0)) := by rw [hW1, setRow_other _ _ _ _ hvg]; exact hv
    have hcp2 : ∀ ty (d : Nat) dc, d = n + 1 - i → (Builtin.copy_ #[24, 24] ty #[.slice (some ⟨g, i * 2, none⟩) d dc, .slice (some ⟨vb, 0, none⟩) 1 1]).run Try.prog W1 = .ok (goInt 1) (W1.setRow g (splice cur1 (i * 2) [.int .i64 b.f0, .int .i64 b.f1]).toArray) := fun ty d dc ed => by
      subst ed
      have hm1 : Nat.min 1 (n + 1 - i) = 1 := Nat.min_eq_left (by omega)
      have h := run_copy_row2 (P := Try.prog) W1 24 24 ty 36 g (i * 2) (n + 1 - i) dc ⟨vb, 0, none⟩ 1 1 cur1 36 [.int .i64 b.f0, .int .i64 b.f1] Try.underlying24 hsz2 hgW1 (by rw [hm1]; rfl) (fun j v hj => by
        rw [add_plain]
        match j, hj with
        | 0, hj => obtain rfl := Option.some.inj hj; simp [World.cell?, hvW1]
        | 1, hj => obtain rfl := Option.some.inj hj; simp [World.cell?, hvW1]) (by rw [hcur1l]; simp; omega) (by intro v hv; simp only [List.mem_cons, List.not_mem_nil, or_false] at hv; rcases hv with rfl | rfl <;> rfl)
      rw [hm1] at h
      exact h
    obtain ⟨cur2, hcur2⟩ : ∃ cur2, cur2 = splice cur1 (i * 2) [.int .i64 b.f0, .int .i64 b.f1] := ⟨_, rfl⟩
    obtain ⟨W2, hW2⟩ : ∃ W2, W2 = W1.setRow g cur2.toArray := ⟨_, rfl⟩
    have HB2 : Aside0 (Below base w W2) := ⟨by rw [hW2, hW1]; exact below_setRow (below_setRow (Below.refl _ w).drew hraw.hb _) hraw.hb _⟩
    have HR2 : Aside0 (RawB W2 base g c cur2 (n + 1) (ys.take i ++ b :: ys.drop i)) := ⟨by
      have hc2l : cur2.length = cur1.length := by rw [hcur2, length_splice _ _ _ (by rw [hcur1l]; simp; omega)]
      refine ⟨by rw [hW2]; exact setRow_heap _ g _ _ _ _ hgW1, hraw.hb, by simp; omega, hnc1, hraw.hc, by rw [hc2l, hcur1l]; exact hraw.hs, ?_⟩
      have hA : cur.take (i * 2) = flatB (ys.take i) := by
        have h3 : (cur.take (n * 2)).take (i * 2) = (flatB ys).take (i * 2) := by rw [hn, hraw.ht]
        rw [List.take_take, Nat.min_eq_left (by omega)] at h3
        rw [h3]
        conv => lhs; rw [← List.take_append_drop i ys, flatB_app]
        rw [List.take_append_of_le_length (by rw [flatB_len, List.length_take]; omega), List.take_of_length_le (by rw [flatB_len, List.length_take]; omega)]
      have hB : cur1.take (i * 2) = flatB (ys.take i) := by rw [hcur1, splice_take _ _ _ _ (by omega) (by omega), hA]
      have hC : (cur1.drop (i * 2 + 2)).take ((n - i) * 2) = X1 := by
        rw [hcur1]
        unfold splice
        rw [List.drop_append_of_le_length (by rw [List.length_take]; omega), List.drop_of_length_le (by rw [List.length_take]; omega), List.nil_append, List.take_append_of_le_length (by omega), List.take_of_length_le (by omega)]
      rw [hcur2]
      unfold splice
      rw [List.take_append, List.take_of_length_le (by rw [List.length_take]; omega), hB, flatB_len, List.length_take, Nat.min_eq_left (by omega), show (n + 1) * 2 - i * 2 = 2 + (n - i) * 2 by omega, List.take_append, List.take_of_length_le (l := ([.int .i64 b.f0, .int .i64 b.f1] : List Value)) (by simp), show (2 + (n - i) * 2 - ([.int .i64 b.f0, .int .i64 b.f1] : List Value).length) = (n - i) * 2 by simp, show i * 2 + ([.int .i64 b.f0, .int .i64 b.f1] : List Value).length = i * 2 + 2 from rfl, hC, hX1, flatB_app]
      rfl⟩
    have hov : ∀ lb cb, (callFunc 27 #[.slice (some ⟨vb, 0, none⟩) 1 1, .slice (some ⟨g, (i + 1) * 2, none⟩) lb cb]).run Try.prog w = .ok (.value (.bool false)) w := fun lb cb => by
      rw [run_callFunc_extern Try.func27 (by kernel_rfl) (by kernel_rfl) (by kernel_rfl) (e := Extern.SlicesOverlaps.overlaps #[24, 24] #[4]) (by kernel_rfl),
        Lib.run_overlaps_apart w 24 4 36 Try.underlying24 2 (fun w => Try.sizeOf36 w) ⟨vb, 0, none⟩ ⟨g, (i + 1) * 2, none⟩ 1 1 lb cb hvg 36 36 2 cur.length (by simp [World.shape?, hv]) (by simp [World.shape?, hraw.hg]) (by omega) (by simp [World.frozen?, hv]) (by simp [World.frozen?, hv])]
      rfl
    rw [← hcur1, ← hW1] at hcp1
    rw [← hcur2, ← hW2] at hcp2
    rw [← hn]
    have hz2 : ((i : Int) == (n : Int)) = false := by rw [beq_eq_false_iff_ne]; omega
    have hz3 : ¬ ((i : Int) = (n : Int)) := by omega
    have hw1 : IntKind.i64.wrap ((i : Int) + 1) = (i : Int) + 1 := IntWalk.i64_in _ (by omega)
    have hw2 : IntKind.i64.wrap ((n : Int) + 1) = (n : Int) + 1 := IntWalk.i64_in _ (by omega)
    have hi0 : (0 : Int) ≤ i := Int.natCast_nonneg _
    have hi1 : (i : Int) ≤ (n : Int) := by omega
    have hi2 : (0 : Int) ≤ (i : Int) + 1 := by omega
    have hi3 : (i : Int) + 1 ≤ (n : Int) + 1 := by omega
    have hi4 : (0 : Int) ≤ (n : Int) + 1 := by omega
    have hi5 : (n : Int) + 1 ≤ (c : Int) := by omega
    have hi6 : (i : Int) ≤ (n : Int) + 1 := by omega
    have ht1 : ((i : Int) + 1).toNat = i + 1 := by omega
    have ht2 : ((n : Int) + 1).toNat = n + 1 := by omega
    have hb2 : ¬ (c = i + 1) := by omega
    have hb3 : ¬ (c = i) := by omega
    have hgt : decide ((n : Int) + 1 > (c : Int)) = false := decide_eq_false (by omega)
    clear h hraw hv hn hi hx hlt hc h0c h1c hvg hcell hX1c hg0 hg1 hgW1 hvW1 hcur1 hcur2 hW1 hW2 hX1 hX1l hcur1l hcur hmin1 hsz2 HO
    go_enter Try.func21, Try.ntmps21
    go_wp2_with (simp only [hov])
    go_region_held3 (fun _ => True) (first | go_keep | exact trivial)
      (first | (refine step_run2 (by rfl) (.tmp 73) (.tmp 76) 24 24 rfl _ _ rfl rfl (hcp1 _ _ _ _ _ (by omega) (by omega)) ?_))
    go_wp2_with (at_builtin; refine wpList_run2 _ rfl (.tmp 80) (.tmp 81) 24 24 rfl _ _ rfl rfl (hcp2 _ _ _ (by omega)) ?_)
    go_ret
    exact ⟨_, rfl, rawB_R HR2.out, HB2.out⟩
  · obtain rfl : i = ys.length := by omega
    rw [List.take_of_length_le (Nat.le_refl _), List.drop_of_length_le (Nat.le_refl _)]
    rw [← hn]
    have hcn : ¬ (c = n) := by omega
    have hcn2 : n < c := by omega
    have hn0 : (0 : Int) ≤ n := Int.natCast_nonneg _
    have hnc : (n : Int) ≤ (c : Int) := by omega
    have Hx : Aside0 (n ≤ 1000) := ⟨by omega⟩
    clear h hv hn hi hx hge h0c h1c hvg hc
    go_enter Try.func21, Try.ntmps21
    go_wp2_with ((with_reducible refine gate_builtin (b := .append) (xs := #[.tmp 23, .tmp 24]) rfl ?_); at_builtin; refine Kd.R_append_rows k36 (Rr := k36.K w) (w0 := w) base rfl (.tmp 23) (.tmp 24) 24 36 (.agg #[.int .i64 0, .int .i64 0]) 16 rfl Try.underlying24 info36 rfl (by decide) (by omega) (.slice (some ⟨g, 0, none⟩) n c) ys [b] _ 1 1 (fun _ => True) (fun _ => False) rfl rfl ?aO ?aR (fun x cs h => by obtain rfl := k36_open h; exact k36_mkM _ _ _ x) (fun _ h => h.elim) (fun _ _ => trivial) (Below.refl _ _) ?aS ?aL ?_; (case aO => (rw [Hn.out]; exact HO.out)); (case aR => exact HC.out); (case aS => exact hbw); (case aL => (have := Hn.out; have := Hx.out; omega)); intro v1 w1 ho hb hg hat; have HO2 := Aside0.mk ho; have HB2 := Aside0.mk hb; clear ho hb hg hat)
    go_ret
    exact ⟨_, rfl, HO2.out, HB2.out⟩
/-- What MoveBook answers. -/
def moveV (l : List S36) (i t : Nat) : List S36 := (l.eraseIdx i).take t ++ rd_T36 l i :: (l.eraseIdx i).drop t
def impl_MoveBook.f (l0 : List S36) (a1 a2 : Int) : Option (List S36 × Bool) := some (if (inK 1 12 l0.length && !l0.any badB) = true then (if inK 0 ((l0.length : Int) - 1) a1 = true then (if inK 0 ((l0.length : Int) - 1) a2 = true then (moveV l0 a1.toNat a2.toNat, true) else ([], false)) else ([], false)) else ([], false))
set_option maxRecDepth 100000 in
set_option maxHeartbeats 8000000 in
theorem impl_MoveBook.calls (A0 : Option Addr) (c0 : Nat) (l0 : List S36) (a1 : Int) (a2 : Int) (r1 : List S36) (r2 : Bool) (w : World) (hr0 : Kd.C k36 w A0 l0.length l0) (hc0 : l0.length ≤ c0) (h : impl_MoveBook.f l0 a1 a2 = some (r1, r2)) :
    Calls Try.prog 8 #[.slice A0 l0.length c0, .int .i64 a1, .int .i64 a2] w fun e w' => ∃ v0_ : Value, e = .returned (.tuple #[v0_, .bool r2]) ∧ Kd.R k36 36 w' w.heap.size (fun _ => True) v0_ r1 ∧ Below w.heap.size w w' := by
  replace h := Option.some.inj h
  have HA := Aside0.mk (impl_AreBooks.calls A0 c0 l0 (inK 1 12 l0.length && !l0.any badB) w hr0 hc0 rfl)
  have HW1 := Aside0.mk (fun W => impl_within.calls a1 0 ((l0.length : Int) - 1) (inK 0 ((l0.length : Int) - 1) a1) W (within_inK 0 ((l0.length : Int) - 1) a1))
  have HW2 := Aside0.mk (fun W => impl_within.calls a2 0 ((l0.length : Int) - 1) (inK 0 ((l0.length : Int) - 1) a2) W (within_inK 0 ((l0.length : Int) - 1) a2))
  have hmax : l0.length ≤ 9223372036854775807 := hr0.2.1
  have hw0 : IntKind.i64.wrap ((l0.length : Int) - 1) = (l0.length : Int) - 1 := IntWalk.i64_in _ (by omega)
  by_cases b1 : (inK 1 12 l0.length && !l0.any badB) = true
  · rw [if_pos b1] at h
    rw [b1] at HA
    by_cases b2 : inK 0 ((l0.length : Int) - 1) a1 = true
    · rw [if_pos b2] at h
      rw [b2] at HW1
      by_cases b3 : inK 0 ((l0.length : Int) - 1) a2 = true
      · rw [if_pos b3] at h
        rw [b3] at HW2
        obtain ⟨rfl, rfl⟩ := Prod.mk.inj h
        have q0 : l0.length ≤ 12 := by
          unfold inK at b1
          simp only [Bool.and_eq_true, decide_eq_true_eq] at b1
          omega
        have q1 : 0 ≤ a1 ∧ a1 ≤ (l0.length : Int) - 1 := by simpa [inK] using b2
        have q2 : 0 ≤ a2 ∧ a2 ≤ (l0.length : Int) - 1 := by simpa [inK] using b3
        obtain ⟨i, rfl⟩ : ∃ i : Nat, a1 = i := ⟨a1.toNat, by omega⟩
        obtain ⟨t, rfl⟩ : ∃ t : Nat, a2 = t := ⟨a2.toNat, by omega⟩
        rw [Int.toNat_natCast, Int.toNat_natCast]
        have hil : i < l0.length := by omega
        have htl : t ≤ l0.length - 1 := by omega
        have hw1 : IntKind.i64.wrap ((i : Int) + 1) = (i : Int) + 1 := IntWalk.i64_in _ (by omega)
        obtain ⟨ad, eA, x0, x1⟩ := at_T36 hr0 (i : Int) (by omega) (by omega)
        subst eA
        rw [Int.toNat_natCast] at x0 x1
        obtain ⟨bk, hbk⟩ : ∃ bk, bk = rd_T36 l0 i := ⟨_, rfl⟩
        rw [← hbk] at x0 x1
        have hi0 : (0 : Int) ≤ i := Int.natCast_nonneg _
        have hi1 : (i : Int) < (l0.length : Int) := by omega
        have X0 := Aside0.mk x0
        have X1 := Aside0.mk x1
        have HR0 := Aside0.mk hr0
        have Hle : Aside0 ((l0.eraseIdx i).length = l0.length - 1) := ⟨by rw [List.length_eraseIdx, if_pos hil]⟩
        have HV : Aside0 (moveV l0 i t = (l0.eraseIdx i).take t ++ bk :: (l0.eraseIdx i).drop t) := ⟨by unfold moveV; rw [hbk]⟩
        have Hc0 := Aside0.mk hc0
        clear h b1 b2 b3 hr0 x0 x1 q1 q2 hbk hc0
        go_enter Try.func8, Try.ntmps8
        go_wp2_with (first
          | (go_at_call 17; refine HA.out.mono ?_; rintro e w1 ⟨rfl, hb1⟩; have HB1 := Aside0.mk hb1; clear hb1)
          | (go_at_call 18; first
             | ((with_reducible refine (HW1.out _).mono ?_); rintro e w2 ⟨rfl, hd2⟩; have HB2 := Aside0.mk (below_then HB1.out HB1.out.size hd2.below); clear hd2)
             | ((with_reducible refine (HW2.out _).mono ?_); rintro e w3 ⟨rfl, hd3⟩; have HB3 := Aside0.mk (below_then HB2.out HB2.out.size hd3.below); clear hd3))
          | (go_at_call 20; refine (slices_Clone_Book.calls (some ad) c0 l0 l0 w3 (Kd.C_below HR0.out HB3.out) Hc0.out (cloneB_small (by omega))).mono ?_; rintro e w4 ⟨v4, rfl, ho4, hb4⟩; obtain ⟨g, c, rfl, hgb, hgl, _⟩ := Kd.R_form ho4 (by omega); have HB4 := Aside0.mk (below_then HB3.out HB3.out.size hb4); have HD := Aside0.mk (del_book i l0 hil (by omega) w4 w.heap.size g c HB4.out.size (Kd.R_lower ho4 HB3.out.size)); have Hcc : Aside0 (l0.length ≤ c) := ⟨(Kd.R_reads' ho4).2.1⟩; clear ho4 hb4 hgb hgl)
          | (go_at_call 19; refine HD.out.mono ?_; rintro e w5 ⟨rfl, ho5, ⟨cur5, hg5⟩, hb5⟩; have HB5 := Aside0.mk (HB4.out.trans hb5); have x0 := pw_cell_below HB5.out X0.out; have x1 := pw_cell_below HB5.out X1.out; have HO5 := Aside0.mk ho5; have HG5 := Aside0.mk (blk_lt hg5); clear ho5 hg5 hb5)
          | (go_at_call 21
             have hins := ins_book t (l0.eraseIdx i) bk (by rw [Hle.out]; exact htl) (by rw [Hle.out]; omega) (w5.alloc (.cells #[.int .i64 bk.f0, .int .i64 bk.f1] 36)) w.heap.size g c w5.heap.size (by rw [World.size_alloc]; have := HB5.out.size; omega) (by rw [Hle.out]; exact Kd.R_alloc HO5.out _) (by rw [Hle.out]; have := Hcc.out; omega) (heap_alloc_new _ _) (by have := HG5.out; omega)
             rw [Hle.out] at hins
             refine hins.mono ?_
             rintro e w6 ⟨v6, rfl, ho6, hb6⟩
             have HO6 := Aside0.mk ho6
             have HB6 := Aside0.mk (hb6)
             have HA5 := Aside0.mk (below_alloc HB5.out (.cells #[.int .i64 bk.f0, .int .i64 bk.f1] 36))
             clear ho6 hb6 hins))
        go_ret2
        exact ⟨_, rfl, by rw [HV.out]; exact HO6.out, HA5.out.trans HB6.out⟩
      · rw [if_neg b3] at h
        obtain ⟨rfl, rfl⟩ := Prod.mk.inj h
        rw [Bool.eq_false_iff.mpr b3] at HW2
        clear h b1 b2 b3 hr0 hc0
        go_enter Try.func8, Try.ntmps8
        go_wp2_with (first
          | (go_at_call 17; refine HA.out.mono ?_; rintro e w1 ⟨rfl, hb1⟩; have HB1 := Aside0.mk hb1; clear hb1)
          | (go_at_call 18; first
             | ((with_reducible refine (HW1.out _).mono ?_); rintro e w2 ⟨rfl, hd2⟩; have HB2 := Aside0.mk (below_then HB1.out HB1.out.size hd2.below); clear hd2)
             | ((with_reducible refine (HW2.out _).mono ?_); rintro e w3 ⟨rfl, hd3⟩; have HB3 := Aside0.mk (below_then HB2.out HB2.out.size hd3.below); clear hd3)))
        go_ret2
        exact ⟨_, rfl, Kd.R_nil _ _ _ _ _, by first | exact HB3.out | exact HB2.out⟩
    · rw [if_neg b2] at h
      obtain ⟨rfl, rfl⟩ := Prod.mk.inj h
      rw [Bool.eq_false_iff.mpr b2] at HW1
      clear h b1 b2 hr0 hc0 HW2
      go_enter Try.func8, Try.ntmps8
      go_wp2_with (first
        | (go_at_call 17; refine HA.out.mono ?_; rintro e w1 ⟨rfl, hb1⟩; have HB1 := Aside0.mk hb1; clear hb1)
        | (go_at_call 18; (with_reducible refine (HW1.out _).mono ?_); rintro e w2 ⟨rfl, hd2⟩; have HB2 := Aside0.mk (below_then HB1.out HB1.out.size hd2.below); clear hd2))
      go_ret2
      exact ⟨_, rfl, Kd.R_nil _ _ _ _ _, HB2.out⟩
  · rw [if_neg b1] at h
    obtain ⟨rfl, rfl⟩ := Prod.mk.inj h
    rw [Bool.eq_false_iff.mpr b1] at HA
    clear h b1 hr0 hc0 HW1 HW2
    go_enter Try.func8, Try.ntmps8
    go_wp2_with (go_at_call 17; refine HA.out.mono ?_; rintro e w1 ⟨rfl, hb1⟩; have HB1 := Aside0.mk hb1; clear hb1)
    go_ret2
    exact ⟨_, rfl, Kd.R_nil _ _ _ _ _, HB1.out⟩


end Go.Proofs.Ythpabbepglokeaa.P
