/- The walk of ParseBooks and of its law: the pairs of a list by slices.Chunk, a range over a function. Conditions: the table of Itoa and the errors of Atoi lie as the program lays them. -/
import Derived.Test.YtecpcbkoemhclaaDoorPx0
import Derived.Test.YtecpcbkoemhclaaDoorPx1
import Derived.Laws.EntriesVeiled
import Derived.RangeFuncBox
import Derived.RangeFuncLeaves
import Derived.Shelf.Abstract
import Derived.WalkKit
import Derived.OwnWalkIn
import Derived.TacticsInMore
import Derived.LoopNIn
import Derived.LoopIn
import Derived.Maps.AppendAt
import Derived.Laws.Cover3
namespace Go.Proofs.YtecpcbkoemhclaaDoor.P
open Go.RowKit Go.Proofs.YtecpcbkoemhclaaDoorW.PrintWords Go.Proofs.YtecpcbkoemhclaaDoorW.PrintLast Go.Proofs.YtecpcbkoemhclaaDoorW.PrintMore
attribute [local go_sem] max2_int min2_int max_two min_two max_three min_three max_four min_four
set_option linter.unusedVariables false
set_option linter.unusedSimpArgs false
/-- What is carried out inside a fence is carried out in a round of it. -/
theorem opIn_inRound {F : Fence} {n : Nat} {P : Program} {o : Oper} {a : Act} {w : World} {K : Act → World → Prop} {Q : Exit → Act → World → Prop} (l : Nat) (hd : ∀ c, o.op ≠ .defer c) (h : o.wpIn F n P a w K Q) : o.wpIn (F.inRound l) n P a w K Q := by
  refine ⟨h.1, ?_⟩
  have h2 := h.2
  rw [Oper.semAt_plain F _ _ hd] at h2
  rw [Oper.semAt_plain (F.inRound l) _ _ hd]
  generalize (execOp a.eval o).run P w = r at *
  cases r with
  | ok x w' => cases x <;> simp only [Oper.uponIn] at h2 ⊢ <;> exact h2
  | halt x w' => cases x <;> simp only [Oper.uponIn] at h2 ⊢ <;> exact h2
theorem opIn_mono' {F : Fence} {n : Nat} {P : Program} {o : Oper} {a : Act} {w : World} {K K' : Act → World → Prop} {Q : Exit → Act → World → Prop} (h : ∀ a w, K a w → K' a w) (hh : o.wpIn F n P a w K Q) : o.wpIn F n P a w K' Q := Oper.wpIn_mono h hh
theorem opsIn_inRound {F : Fence} {n : Nat} {P : Program} {ops : Array Oper} {Q : Exit → Act → World → Prop} (l : Nat) (hd : ∀ (i : Nat) (o : Oper), ops[i]? = some o → ∀ c, o.op ≠ .defer c) : ∀ (s : List Nat) (a : Act) (w : World), wpOpsIn F n P ops Q s a w → wpOpsIn (F.inRound l) n P ops Q s a w
  | [], a, w, h => h
  | i :: rest, a, w, h => by
    simp only [wpOpsIn] at h ⊢
    cases ho : ops[i]? with
    | none =>
      simp only [ho] at h ⊢
      exact opsIn_inRound l hd rest a w h
    | some o =>
      simp only [ho] at h ⊢
      split
      · rename_i hw
        rw [if_pos hw] at h
        exact opIn_inRound l (hd i o ho) (opIn_mono' (fun a w h => opsIn_inRound l hd rest a w h) h)
      · rename_i hw
        rw [if_neg hw] at h
        exact ⟨h.1, opsIn_inRound l hd rest _ w h.2⟩
/-- A region that draws its order, in a round: by all its orders. -/
theorem region_inRound {F : Fence} {n : Nat} {P : Program} {id : Nat} {ops : Array Oper} {Q : Exit → Act → World → Prop} {a : Act} {w : World} (l : Nat) (hd : ops.all (fun o => match o.op with | .defer _ => false | _ => true) = true) (hm : P.follows .mixedOrders = true)
    (h : wpAnyIn F n P .any ops Q ops.size (Array.replicate ops.size false) a w.drew) : (Code.region id ops true).wpIn (F.inRound l) n P Q a w :=
  wpIn_region_draw fun t => by
    simp only [Region.schedule, hm, Bool.true_or, if_true]
    refine opsIn_inRound l (fun i o ho c e => ?_) _ a _ (wpAnyIn_sound ops.size t _ a _ h)
    have h2 := (Array.all_eq_true.1 hd) i (Array.getElem?_eq_some_iff.1 ho).1
    rw [(Array.getElem?_eq_some_iff.1 ho).2, e] at h2
    cases h2
/-- An append to a row of one's own, one operation. -/
theorem opIn_append_own {F : Fence} {n : Nat} {P : Program} (w : World) {o : Oper} {a : Act} {K : Act → World → Prop} {Q : Exit → Act → World → Prop}
    (s x : Operand) (t : TypeId) (hop : o.op = Op.call { callee := Callee.builtin Builtin.append, args := #[s, x], argTypes := #[t, t] })
    (base : Nat) (e : TypeId) (i : TypeInfo) (z : Value) (size bytes : Nat) (h1 : P.underlying t = some (.slice e)) (h2 : P.info? e = some i) (h3 : i.zero = some z) (h4 : i.size = size) (h5 : i.bytes = bytes) (h6 : z.cells.size = size) (h7 : 0 < size)
    (v : Value) (k : Nat) (xs : List Value) (hs : a.eval s = v) (hown : w.ownsRow base e size v k xs) (ad : Addr) (m c : Nat) (news : List Value) (hx : a.eval x = .slice (some ad) m c) (hn : news.length = m * size)
    (hc : ∀ j u, news[j]? = some u → w.cell? (ad.add j) = some u) (h1c : ∀ u ∈ news, u.oneCell' = true) (b1 : k + m ≤ maxLen) (b2 : (k + m) * bytes ≤ 140737488355328) (b3 : base ≤ w.heap.size)
    (hK : ∀ v' w', w'.ownsRow base e size v' (k + m) (xs ++ news) → w.grownBy w' v.ownBlock → K (a.put o.dst v') w') : o.wpIn F n P a w K Q := by
  obtain ⟨v', w', hrun, r1, r2, r3⟩ := run_append_own (P := P) w base t o.type e i z size bytes h1 h2 h3 h4 h5 h6 h7 v k xs hown ad m c news hn hc h1c b1 b2 b3
  unfold Oper.wpIn
  refine ⟨?_, ?_⟩
  · simp [Oper.about, hop, resolve, Target.leads, Sem.run_pure]
  · rw [Oper.semAt_plain F _ _ (by rw [hop]; intro c hc'; cases hc')]
    simp [execOp, hop, resolve, invoke, builtin, hs, hx, hrun, Result.andThen]
    exact hK v' w' r1 r2
section
open Go.Shelf
attribute [local go_sem] Oper.semAt_some
/-- A chunk: two numbers of the row. -/
def chEnc (g m : Nat) (x : { k : Nat // k < m }) : Array Value := #[.slice (some ⟨g, 2 * x.1, none⟩) 2 2]
/-- What the iterator wants kept: its boxes, and whatever lay below n₀. -/
def chKp (Bs Bn n₀ : Nat) (W W' : World) : Prop := (∀ t v, Boxed W Bs t v → Boxed W' Bs t v) ∧ (∀ t v, Boxed W Bn t v → Boxed W' Bn t v) ∧ Below n₀ W W'
theorem chKp_refl (Bs Bn n₀ : Nat) (W : World) : chKp Bs Bn n₀ W W := ⟨fun _ _ h => h, fun _ _ h => h, Below.refl _ _⟩
theorem chKp_trans {Bs Bn n₀ : Nat} {A B C : World} (h : chKp Bs Bn n₀ A B) (k : chKp Bs Bn n₀ B C) : chKp Bs Bn n₀ A C := ⟨fun t v x => k.1 t v (h.1 t v x), fun t v x => k.2.1 t v (h.2.1 t v x), h.2.2.trans k.2.2⟩
theorem chKp_put {Bs Bn n₀ : Nat} (W : World) (l : Nat) (o o' : Obj) (hl : n₀ ≤ l) (ho : W.heap[l]? = some o) (hc : o.isCells = false) (hw : o.isWalk = false) : chKp Bs Bn n₀ W (W.putObj l o') := by
  have key : ∀ B t v, Boxed W B t v → Boxed (W.putObj l o') B t v := fun B t v h => h.kept (grownBy_putObj' W l o') (fun e => by
    obtain rfl := Option.some.inj e
    rw [show W.heap[B]? = _ from h] at ho
    cases ho; cases hc)
  exact ⟨key Bs, key Bn, (Below.refl _ W).grown (grownBy_putObj' W l o') (by have := (Array.getElem?_eq_some_iff.1 ho).1; omega) (fun k e => by cases e; exact hl)⟩
set_option maxRecDepth 100000 in
set_option maxHeartbeats 4000000 in
/-- The iterator over the pairs of a slice of an even length. -/
theorem chunk1_in (F : Fence) (n : Nat) (h7 : F.fn 49) (hro : F.round = none) (hn : 1 ≤ n) (l Bs Bn n₀ g m cap : Nat) (A : Option Addr) (hA : 0 < m → A = some ⟨g, 0, none⟩) (hcap : 2 * m ≤ cap) (hm : m ≤ 1000000) (J Jx : List ({ k : Nat // k < m }) → World → Prop)
    (hY : ∀ pre x W, J pre W → pre.length < m → YieldAt F (n - 1) Tryd.prog l (chEnc g m x) W fun e W' =>
      (e = .returned (.bool true) ∧ J (pre ++ [x]) W' ∧ chKp Bs Bn n₀ W W') ∨ (e = .returned (.bool false) ∧ Jx (pre ++ [x]) W'))
    (W : World) (hJ : AbidesFrom W.heap.size J) (hBs : Boxed W Bs 22 (.slice A (2 * m) cap)) (hBn : Boxed W Bn 3 (.int .i64 2)) (h0 : J [] W) :
    CallsIn F n Tryd.prog 49 #[.func (.yield l) #[] #[], .pointer (some ⟨Bs, 0, none⟩), .pointer (some ⟨Bn, 0, none⟩)] W fun e W' => (∃ v, e = .returned v) ∧
      ((∃ ys : List ({ k : Nat // k < m }), ys.map (·.1) = List.range m ∧ J ys W') ∨ (∃ pre : List ({ k : Nat // k < m }), Jx pre W')) := by
  refine callsIn_of_wp Tryd.func49 rfl h7 ?_ hro
  simp only [Tryd.ntmps49, List.size_toArray, List.length_cons, List.length_nil, Nat.reduceAdd, Nat.reduceSub, Array.replicate_succ, Array.replicate_zero, List.push_toArray, List.append_toArray, List.nil_append, List.cons_append]
  gi_wp2
  gi_loopw [4] (fun i wr => ∃ (k : Nat) (pre : List ({ k : Nat // k < m })), k ≤ m ∧ i = .int .i64 (2 * (k : Int)) ∧ pre.map (·.1) = List.range k ∧ J pre wr ∧ Boxed wr Bs 22 (.slice A (2 * m) cap) ∧ Boxed wr Bn 3 (.int .i64 2) ∧ W.heap.size ≤ wr.heap.size)
    (fun i _ => 2 * m - (intOf i).toNat)
  case atStart => exact ⟨0, [], Nat.zero_le _, rfl, rfl, h0, hBs, hBn, Nat.le_refl _⟩
  case round =>
    obtain ⟨k, pre, hk, rfl, hpre, hJs, hbs, hbn, hsz⟩ := hrel
    have cs := hbs.cell
    have cn := hbn.cell
    by_cases hlt : k < m
    · obtain rfl := hA (by omega)
      have hltz : 2 * (k : Int) < 2 * (m : Int) := by omega
      have hpl : pre.length = k := by have := congrArg List.length hpre; simpa using this
      have hmin : ¬ (((2 * m - 2 * k : Nat) : Int) < 2) := by omega
      have hb0 : (0 : Int) ≤ 2 * (k : Int) := by omega
      have hb1 : (0 : Int) ≤ 2 * (k : Int) + 2 := by omega
      have hb2 : 2 * (k : Int) ≤ 2 * (k : Int) + 2 := by omega
      have hb3 : 2 * (k : Int) + 2 ≤ (cap : Int) := by omega
      have hb4 : 2 * (k : Int) ≤ 2 * (m : Int) := by omega
      have ht0 : (2 * (k : Int)).toNat = 2 * k := by omega
      have ht1 : (2 * (k : Int) + 2).toNat = 2 * k + 2 := by omega
      have hs1 : 2 * k + 2 - 2 * k = 2 := by omega
      have hne : ¬ (cap = 2 * k) := by omega
      have hne2 : ¬ (2 * k + 2 = 2 * k) := by omega
      have hw2 : IntKind.i64.wrap (2 * (k : Int) + 2) = 2 * (k : Int) + 2 := IntWalk.i64_in _ (by omega)
      have hJd : J pre wr.drew := hJ pre wr wr.drew none hJs ⟨rfl, rfl, rfl, Nat.le_refl _, fun _ _ _ => rfl⟩ (fun r e => by cases e)
      obtain ⟨fn, tmps, assign, body, hy, hR⟩ := hY pre ⟨k, hlt⟩ wr.drew hJd (by omega)
      dsimp only [chEnc] at hy
      have hbs' : Boxed wr.drew Bs 22 (.slice (some ⟨g, 0, none⟩) (2 * m) cap) := hbs
      have hbn' : Boxed wr.drew Bn 3 (.int .i64 2) := hbn
      gi_wp2
      gi_region
      all_goals
        gi_wp2
        refine hR.mono ?_
        rintro e W3 (⟨rfl, hJ3, hk3⟩ | ⟨rfl, hJx3⟩)
        · have hbs3 := hk3.1 _ _ hbs'
          have hbn3 := hk3.2.1 _ _ hbn'
          have cn3 := hbn3.cell
          gi_wp2
          go_roundw
          case rel => exact ⟨k + 1, pre ++ [⟨k, hlt⟩], by omega, by simp; omega, by rw [List.map_append, hpre, List.range_succ]; rfl, hJ3, hbs3, hbn3, Nat.le_trans hsz hk3.2.2.size⟩
          case measure => simp [intOf]; omega
        · gi_wp2
          refine bodyPost_ret (results_none rfl _ _ _) rfl ?_
          exact ⟨⟨_, rfl⟩, .inr ⟨_, hJx3⟩⟩
    · obtain rfl : k = m := by omega
      have hltz : ¬ 2 * (k : Int) < 2 * (k : Int) := by omega
      gi_wp2
      go_end0
      exact ⟨⟨_, rfl⟩, .inl ⟨pre, hpre, hJs⟩⟩
end
/-- The cells of some books. -/
def flatB (xs : List S48) : List Value := xs.flatMap fun b => [.int .i64 b.f0, .int .i64 b.f1]
theorem flatB_len (xs : List S48) : (flatB xs).length = xs.length * 2 := by
  induction xs with
  | nil => rfl
  | cons x xs ih => simp only [flatB, List.flatMap_cons, List.length_append, List.length_cons, List.length_nil] at ih ⊢; omega
theorem flatB_app (xs ys : List S48) : flatB (xs ++ ys) = flatB xs ++ flatB ys := by simp [flatB]
theorem flatB_one (xs : List S48) : ∀ u ∈ flatB xs, u.oneCell' = true := by
  intro u hu
  obtain ⟨b, _, hb⟩ := List.mem_flatMap.1 hu
  simp only [List.mem_cons, List.not_mem_nil, or_false] at hb
  rcases hb with rfl | rfl <;> rfl
theorem repsB_flat : ∀ (xs : List S48) (inner : List Value), Reps (fun (x : S48) (cs : List Value) => cs = [.int .i64 x.f0, .int .i64 x.f1]) 2 xs inner → inner = flatB xs := by
  intro xs inner h
  have hl : inner.length = xs.length * 2 := h.1
  apply List.ext_getElem (by rw [flatB_len, hl])
  intro j h1 h2
  have hj : j / 2 < xs.length := by rw [flatB_len] at h2; omega
  have hA := h.2 (j / 2) xs[j / 2] (List.getElem?_eq_getElem hj)
  have e1 : (inner.drop (j / 2 * 2))[j % 2]? = ([.int .i64 xs[j / 2].f0, .int .i64 xs[j / 2].f1] : List Value)[j % 2]? := by
    rw [← hA, List.getElem?_take_of_lt (by omega)]
  have gen : ∀ (ys : List S48) (k : Nat), k < ys.length → ∀ r : Nat, r < 2 → (flatB ys)[k * 2 + r]? = ([.int .i64 (rd_T48 ys k).f0, .int .i64 (rd_T48 ys k).f1] : List Value)[r]? := by
    intro ys
    induction ys with
    | nil => intro k hk; simp at hk
    | cons y ys ih =>
      intro k hk r hr
      cases k with
      | zero =>
        have : r = 0 ∨ r = 1 := by omega
        rcases this with rfl | rfl <;> simp [flatB, rd_T48]
      | succ k =>
        have h3 := ih k (by simpa using hk) r hr
        have e : flatB (y :: ys) = [.int .i64 y.f0, .int .i64 y.f1] ++ flatB ys := rfl
        rw [e, List.getElem?_append_right (by simp; omega)]
        have e2 : (k + 1) * 2 + r - ([.int .i64 y.f0, .int .i64 y.f1] : List Value).length = k * 2 + r := by simp; omega
        rw [e2, h3]
        simp [rd_T48]
  have hB := gen xs (j / 2) hj (j % 2) (Nat.mod_lt _ (by omega))
  rw [show j / 2 * 2 + j % 2 = j by omega] at hB
  rw [List.getElem?_drop, show j / 2 * 2 + j % 2 = j by omega, List.getElem?_eq_getElem h1] at e1
  rw [List.getElem?_eq_getElem h2] at hB
  have e3 : rd_T48 xs ((j / 2 : Nat) : Int) = xs[j / 2] := by
    unfold rd_T48
    rw [Int.toNat_natCast, List.getD_eq_getElem?_getD, List.getElem?_eq_getElem hj]
    rfl
  rw [e3, ← e1] at hB
  exact (Option.some.inj hB).symm
theorem flatB_reps (xs : List S48) : Reps (fun (x : S48) (cs : List Value) => cs = [.int .i64 x.f0, .int .i64 x.f1]) 2 xs (flatB xs) := by
  induction xs with
  | nil => exact Reps.none _ _
  | cons x xs ih => exact Reps.c2 rfl ih
set_option maxHeartbeats 2000000 in
/-- slices.Chunk: the slice and the length are boxed; the function value captures the boxes. -/
theorem chunk_in (F : Fence) (n : Nat) (h5 : F.fn 32) (hro : F.round = none) (a : Option Addr) (len cap : Nat) (w : World) :
    CallsIn F n Tryd.prog 32 #[.slice a len cap, .int .i64 2] w fun e w' => e = .returned (.func (.func 49) #[] #[.pointer (some ⟨w.heap.size, 0, none⟩), .pointer (some ⟨w.heap.size + 1, 0, none⟩)]) ∧ w' = (w.alloc (.cells #[.slice a len cap] 22)).alloc (.cells #[.int .i64 2] 3) := by
  refine callsIn_of_wp Tryd.func32 rfl h5 ?_ hro
  simp only [Tryd.ntmps32, List.size_toArray, List.length_cons, List.length_nil, Nat.reduceAdd, Nat.reduceSub, Array.replicate_succ, Array.replicate_zero, List.push_toArray, List.append_toArray, List.nil_append, List.cons_append]
  gi_wp2
  go_ret
  exact ⟨rfl, rfl⟩
/-- What slices.Chunk hands back gives the pairs. -/
theorem chunk_stops (F : Fence) (n : Nat) (h7 : F.fn 49) (hro : F.round = none) (hn : 1 ≤ n) (Bs Bn n₀ g m cap : Nat) (A : Option Addr) (hA : 0 < m → A = some ⟨g, 0, none⟩) (hcap : 2 * m ≤ cap) (hm : m ≤ 1000000) (w : World)
    (hBs : Boxed w Bs 22 (.slice A (2 * m) cap)) (hBn : Boxed w Bn 3 (.int .i64 2)) :
    SeqStopsK F n Tryd.prog 49 #[.pointer (some ⟨Bs, 0, none⟩), .pointer (some ⟨Bn, 0, none⟩)] (chEnc g m) (chKp Bs Bn n₀) (fun ys => ys.map (·.1) = List.range m) (fun _ => True) m w := fun l J Jx W hW hJ _ hY h0 => by
  have k1 : Boxed W Bs 22 (.slice A (2 * m) cap) := (hW.block Bs hBs.lt).trans hBs
  have k2 : Boxed W Bn 3 (.int .i64 2) := (hW.block Bn hBn.lt).trans hBn
  refine (chunk1_in F n h7 hro hn l Bs Bn n₀ g m cap A hA hcap hm J Jx hY W hJ k1 k2 h0).mono ?_
  rintro e W' ⟨he, ⟨ys, h1, h2⟩ | ⟨pre, h1⟩⟩
  · exact ⟨he, .inl ⟨ys, h1, h2⟩⟩
  · exact ⟨he, .inr ⟨pre, trivial, h1⟩⟩
end Go.Proofs.YtecpcbkoemhclaaDoor.P
