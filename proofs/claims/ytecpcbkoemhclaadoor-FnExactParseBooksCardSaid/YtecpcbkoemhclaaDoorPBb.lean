/- One round of ParseBooks' loop over the pairs, in all the orders that its region may draw (the walk of the orders is printed by wip/tools/regtree.py). Conditions: the pairs' cells lie below the loop's blocks. -/
import Derived.Test.YtecpcbkoemhclaaDoorPx0
import Derived.Test.YtecpcbkoemhclaaDoorPx1
import Derived.Test.YtecpcbkoemhclaaDoorPB
namespace Go.Proofs.YtecpcbkoemhclaaDoor.P
open Go.RowKit Go.Proofs.YtecpcbkoemhclaaDoorW.PrintWords Go.Proofs.YtecpcbkoemhclaaDoorW.PrintLast Go.Proofs.YtecpcbkoemhclaaDoorW.PrintMore
attribute [local go_sem] max2_int min2_int max_two min_two max_three min_three max_four min_four
set_option linter.unusedVariables false
set_option linter.unusedSimpArgs false
/-- The book of a pair. -/
def bkAt (ll : List Int) (k : Nat) : S48 := ⟨rd ll (2 * (k : Int)), rd ll (2 * (k : Int) + 1)⟩
def bksOf {m : Nat} (ll : List Int) (pre : List ({ k : Nat // k < m })) : List S48 := pre.map fun x => bkAt ll x.1
theorem bksOf_snoc {m : Nat} (ll : List Int) (pre : List ({ k : Nat // k < m })) (x : { k : Nat // k < m }) : bksOf ll (pre ++ [x]) = bksOf ll pre ++ [bkAt ll x.1] := by simp [bksOf]
theorem boxed_own2 {β : Type} (B : Nat) (t : TypeId) (v : Value) : Own (fun (_ : β) W => Boxed W B t v) := by
  intro s X Y row h hg hrow
  refine h.kept hg (fun e' => ?_)
  obtain ⟨o, ho, hc⟩ := hrow B e'.symm
  rw [show X.heap[B]? = _ from h] at ho; cases ho; cases hc
theorem own_and {β : Type} {I I' : β → World → Prop} (h : Own I) (h' : Own I') : Own (fun s W => I s W ∧ I' s W) := fun s W W' row hs hg hr => ⟨h s W W' row hs.1 hg hr, h' s W W' row hs.2 hg hr⟩
/-- Between two rounds. -/
def pbI (ll : List Int) (n₀ Bo Bs Bn : Nat) (sv : Value) (w1 : World) {m : Nat} (pre : List ({ k : Nat // k < m })) (W : World) : Prop :=
  ((∃ v, Boxed W Bo 28 v ∧ W.ownsRow n₀ 48 2 v pre.length (flatB (bksOf ll pre)) ∧ True) ∧ Boxed W Bs 22 sv ∧ Boxed W Bn 3 (.int .i64 2)) ∧ Below n₀ w1 W
theorem pbI_own {ll : List Int} {n₀ Bo Bs Bn B : Nat} {sv : Value} {w1 : World} {m : Nat} (hn : n₀ ≤ w1.heap.size) (hB : n₀ ≤ B) : OwnFrom B (pbI ll n₀ Bo Bs Bn sv w1 (m := m)) :=
  OwnFrom.and (Own.from (own_and (holdsRow_own n₀ Bo 28 48 2 (fun pre : List ({ k : Nat // k < m }) => pre.length) (fun pre => flatB (bksOf ll pre)) (fun _ _ => True)) (own_and (boxed_own2 Bs 22 sv) (boxed_own2 Bn 3 (.int .i64 2)))) _) (ownFrom_below hn hB)
/-- Behind the append and the store. -/
theorem pb_fin {m : Nat} {ll : List Int} {n₀ Bo Bs Bn B : Nat} {sv : Value} {w1 W w2 : World} {pre : List ({ k : Nat // k < m })} {x : { k : Nat // k < m }} {v v' : Value} {x0 x1 : Int} {tmp : Obj} (hx0 : x0 = rd ll (2 * (x.1 : Int))) (hx1 : x1 = rd ll (2 * (x.1 : Int) + 1)) (hne1 : Bo ≠ Bs) (hne2 : Bo ≠ Bn)
    (hbs : Boxed W Bs 22 sv) (hbn : Boxed W Bn 3 (.int .i64 2)) (hB : Below n₀ w1 W) (hrow : W.drew.ownsRow n₀ 48 2 v pre.length (flatB (bksOf ll pre))) (hgrow : (W.drew.alloc tmp).grownBy w2 v.ownBlock)
    (hv2 : Boxed (w2.setCell ⟨Bo, 0, none⟩ v') Bo 28 v') (hr2 : (w2.setCell ⟨Bo, 0, none⟩ v').ownsRow n₀ 48 2 v' (pre.length + 1) (flatB (bksOf ll pre) ++ [.int .i64 x0, .int .i64 x1]))
    (hk2 : KeepsOthers W.drew (w2.setCell ⟨Bo, 0, none⟩ v')) (hb2 : Below n₀ W.drew (w2.setCell ⟨Bo, 0, none⟩ v')) :
    KeepsFrom B W (w2.setCell ⟨Bo, 0, none⟩ v') ∧ chKp Bs Bn n₀ W (w2.setCell ⟨Bo, 0, none⟩ v') ∧ pbI ll n₀ Bo Bs Bn sv w1 (pre ++ [x]) (w2.setCell ⟨Bo, 0, none⟩ v') := by
  have keep : ∀ (K : Nat) (t : TypeId) (u : Value), t ≠ 48 → Bo ≠ K → Boxed W K t u → Boxed (w2.setCell ⟨Bo, 0, none⟩ v') K t u := fun K t u ht hne h => by
    have hd : Boxed W.drew K t u := h
    exact ((hd.alloc tmp).kept hgrow (hd.not_row ht hrow)).kept (grownBy_setCell' w2 Bo v') (fun e => hne (Option.some.inj e).symm)
  have hbs2 := keep Bs _ _ (by decide) hne1 hbs
  have hbn2 := keep Bn _ _ (by decide) hne2 hbn
  have hB2 : Below n₀ W (w2.setCell ⟨Bo, 0, none⟩ v') := ((Below.refl n₀ W).drew).trans hb2
  refine ⟨⟨hk2.size, fun k o _ hk ho => hk2.same k o hk ho⟩, ⟨fun t u h => ?_, fun t u h => ?_, hB2⟩, ⟨⟨⟨v', hv2, ?_, trivial⟩, hbs2, hbn2⟩, hB.trans hB2⟩⟩
  · have e := (show W.heap[Bs]? = _ from hbs).symm.trans (show W.heap[Bs]? = _ from h)
    cases e; exact hbs2
  · have e := (show W.heap[Bn]? = _ from hbn).symm.trans (show W.heap[Bn]? = _ from h)
    cases e; exact hbn2
  · rw [bksOf_snoc, flatB_app, List.length_append]
    have e : flatB [bkAt ll x.1] = [.int .i64 x0, .int .i64 x1] := by rw [hx0, hx1]; rfl
    rw [e]; exact hr2
theorem pb_info : (Tryd.prog.info? 48).map (fun i => (i.zero, i.size, i.bytes)) = some (some (.agg #[.int .i64 0, .int .i64 0]), 2, 16) := by kernel_rfl
set_option maxRecDepth 100000 in
set_option maxHeartbeats 16000000 in
/-- One round of the loop. -/
theorem pb_body (n l : Nat) (ll : List Int) (m g n₀ Bo Bs Bn B : Nat) (sv : Value) (w1 : World) (pre : List ({ k : Nat // k < m })) (x : { k : Nat // k < m }) (W : World) (fr : Fin 45 → Value) (hm : m ≤ 1000000) (hn₀ : n₀ = w1.heap.size) (hg : g < n₀) (hcell : ∀ j : Nat, j < 2 * m → w1.cell? ⟨g, j, none⟩ = some (.int .i64 (rd ll j))) (hBn₀ : n₀ ≤ Bo) (hne1 : Bo ≠ Bs) (hne2 : Bo ≠ Bn) (hI : pbI ll n₀ Bo Bs Bn sv w1 pre W) (hlt : pre.length < m)
    (tm : Array Value) (htm : tm = #[fr 0, fr 1, fr 2, fr 3, fr 4, fr 5, .pointer (some ⟨Bo, 0, none⟩), .slice (some ⟨g, 2 * x.1, none⟩) 2 2, fr 8, fr 9, fr 10, fr 11, fr 12, fr 13, fr 14, fr 15, fr 16, fr 17, fr 18, fr 19, fr 20, fr 21, fr 22, fr 23, fr 24, undef, undef, undef, undef, undef, undef, undef, undef, undef, undef, undef, undef, undef, undef, undef, undef, undef, undef, undef, undef]) :
    (Code.region 7 #[{ dst := some 25, op := Op.load 28 (Operand.tmp 6), type := 28, pos := "l2_shelf.go:319", after := #[], guard := none }, { dst := some 26, op := Op.move (Operand.tmp 7), type := 22, pos := "l2_shelf.go:319", after := #[], guard := none }, { dst := some 27, op := Op.indexAddr 22 (Operand.tmp 26) (Operand.const (Value.int IntKind.i64 0)), type := 0, pos := "l2_shelf.go:319", after := #[{ on := 1, ground := Ground.data }], guard := none }, { dst := some 28, op := Op.load 3 (Operand.tmp 27), type := 3, pos := "l2_shelf.go:319", after := #[{ on := 2, ground := Ground.data }], guard := none }, { dst := some 29, op := Op.move (Operand.tmp 7), type := 22, pos := "l2_shelf.go:319", after := #[], guard := none }, { dst := some 30, op := Op.indexAddr 22 (Operand.tmp 29) (Operand.const (Value.int IntKind.i64 1)), type := 0, pos := "l2_shelf.go:319", after := #[{ on := 4, ground := Ground.data }], guard := none }, { dst := some 31, op := Op.load 3 (Operand.tmp 30), type := 3, pos := "l2_shelf.go:319", after := #[{ on := 5, ground := Ground.data }], guard := none }, { dst := some 32, op := Op.build 48 #[(0, Operand.tmp 28), (1, Operand.tmp 31)], type := 48, pos := "l2_shelf.go:319", after := #[{ on := 3, ground := Ground.data }, { on := 6, ground := Ground.data }], guard := none }, { dst := some 33, op := Op.buildSlice 28 1 #[(0, Operand.tmp 32)], type := 28, pos := "l2_shelf.go:319", after := #[{ on := 7, ground := Ground.data }], guard := none }, { dst := some 34, op := Op.call { callee := Callee.builtin Builtin.append, args := #[Operand.tmp 25, Operand.tmp 33], argTypes := #[28, 28] }, type := 28, pos := "l2_shelf.go:319", after := #[{ on := 0, ground := Ground.data }, { on := 8, ground := Ground.data }], guard := none }, { dst := none, op := Op.store 28 (Operand.tmp 6) (Operand.tmp 34), type := 0, pos := "l2_shelf.go:319", after := #[{ on := 9, ground := Ground.data }, { on := 9, ground := Ground.chain }, { on := 0, ground := Ground.phase }, { on := 1, ground := Ground.phase }, { on := 2, ground := Ground.phase }, { on := 3, ground := Ground.phase }, { on := 4, ground := Ground.phase }, { on := 5, ground := Ground.phase }, { on := 6, ground := Ground.phase }, { on := 7, ground := Ground.phase }, { on := 8, ground := Ground.phase }, { on := 9, ground := Ground.phase }], guard := none }] true).wpIn (Fence.wide.inRound l) n Tryd.prog (ownPostG B (chKp Bs Bn n₀) (pbI ll n₀ Bo Bs Bn sv w1 (m := m)) (fun _ _ _ => False) (pre ++ [x]) W) { tmps := tm, defers := [] } W := by
  obtain ⟨i0, hi, hz0, hz1, hz2⟩ := info_parts pb_info
  obtain ⟨⟨⟨v, hv, hrow, _⟩, hbs, hbn⟩, hB⟩ := hI
  subst htm
  obtain ⟨x0, hx0⟩ : ∃ x0, x0 = rd ll (2 * (x.1 : Int)) := ⟨_, rfl⟩
  obtain ⟨x1, hx1⟩ : ∃ x1, x1 = rd ll (2 * (x.1 : Int) + 1) := ⟨_, rfl⟩
  have hk := x.2
  have cA : W.drew.cell? ⟨g, 2 * x.1, none⟩ = some (.int .i64 x0) := by
    have h := hcell (2 * x.1) (by omega)
    rw [show ((2 * x.1 : Nat) : Int) = 2 * (x.1 : Int) by omega, ← hx0] at h
    exact (World.cell?_drew _ _).trans ((hB.cell (p := ⟨g, 2 * x.1, none⟩) hg).trans h)
  have cB : W.drew.cell? ⟨g, 2 * x.1 + 1, none⟩ = some (.int .i64 x1) := by
    have h := hcell (2 * x.1 + 1) (by omega)
    rw [show ((2 * x.1 + 1 : Nat) : Int) = 2 * (x.1 : Int) + 1 by omega, ← hx1] at h
    exact (World.cell?_drew _ _).trans ((hB.cell (p := ⟨g, 2 * x.1 + 1, none⟩) hg).trans h)
  have hvd : Boxed W.drew Bo 28 v := hv
  have hrowd : W.drew.ownsRow n₀ 48 2 v pre.length (flatB (bksOf ll pre)) := hrow
  have hrowA : ((W.alloc (.cells #[.int .i64 x0, .int .i64 x1] 48)).drew).ownsRow n₀ 48 2 v pre.length (flatB (bksOf ll pre)) := hrowd.alloc (.cells #[.int .i64 x0, .int .i64 x1] 48)
  have hnd : n₀ ≤ W.drew.heap.size := by rw [hn₀]; exact hB.size
  have cO := hvd.cell
  have cX0 : (W.drew.alloc (.cells #[.int .i64 x0, .int .i64 x1] 48)).cell? ⟨W.heap.size, 0, none⟩ = some (.int .i64 x0) := by show (W.drew.alloc _).cell? ⟨W.drew.heap.size, 0, none⟩ = _; rw [World.cell?_alloc_at _ _ _ _ rfl]; rfl
  have cX1 : (W.drew.alloc (.cells #[.int .i64 x0, .int .i64 x1] 48)).cell? ⟨W.heap.size, 1, none⟩ = some (.int .i64 x1) := by show (W.drew.alloc _).cell? ⟨W.drew.heap.size, 1, none⟩ = _; rw [World.cell?_alloc_at _ _ _ _ rfl]; rfl
  have hnew : ∀ (j : Nat) (u : Value), ([.int .i64 x0, .int .i64 x1] : List Value)[j]? = some u → ((W.alloc (.cells #[.int .i64 x0, .int .i64 x1] 48)).drew).cell? ((⟨W.heap.size, 0, none⟩ : Addr).add j) = some u := fun j u hj => by
    rw [add_plain]
    match j, hj with
    | 0, hj => obtain rfl := Option.some.inj hj; exact cX0
    | 1, hj => obtain rfl := Option.some.inj hj; exact cX1
  have hlm : pre.length ≤ 1000000 := by omega
  have hbl1 : pre.length + 1 ≤ maxLen := Nat.le_trans (show pre.length + 1 ≤ 1000001 by omega) (by decide)
  have hbl2 : (pre.length + 1) * 16 ≤ 140737488355328 := by omega
  have hsz3 : n₀ ≤ ((W.alloc (.cells #[.int .i64 x0, .int .i64 x1] 48)).drew).heap.size := Nat.le_trans hnd (by show W.heap.size ≤ (W.heap.push _).size; simp)
  have cO3 : (W.alloc (.cells #[.int .i64 x0, .int .i64 x1] 48)).cell? ⟨Bo, 0, none⟩ = some v := (hv.alloc _).cell
  have Hx0 := Aside0.mk hx0
  have Hx1 := Aside0.mk hx1
  clear hx0 hx1 cX0 cX1 hcell hlt hm
  refine region_inRound l (by simp) (by kernel_rfl) ?_
  refine wpAnyIn_take (i := 1) (v := ?_) rfl rfl (by kernel_rfl) (by kernel_rfl) (by kernel_rfl) (fun _ _ _ h => h) ⟨Or.inl ⟨by rfl, ?_⟩, fun _ => rfl⟩ ?_
  rotate_left
  · (intro w'; go_simp; try (with_reducible rfl))
  refine wpAnyIn_take (i := 2) (v := ?_) rfl rfl (by kernel_rfl) (by kernel_rfl) (by kernel_rfl) (fun _ _ _ h => h) ⟨Or.inl ⟨by rfl, ?_⟩, fun _ => rfl⟩ ?_
  rotate_left
  · (intro w'; go_simp; try (with_reducible rfl))
  refine wpAnyIn_take (i := 4) (v := ?_) rfl rfl (by kernel_rfl) (by kernel_rfl) (by kernel_rfl) (fun _ _ _ h => h) ⟨Or.inl ⟨by rfl, ?_⟩, fun _ => rfl⟩ ?_
  rotate_left
  · (intro w'; go_simp; try (with_reducible rfl))
  refine wpAnyIn_take (i := 5) (v := ?_) rfl rfl (by kernel_rfl) (by kernel_rfl) (by kernel_rfl) (fun _ _ _ h => h) ⟨Or.inl ⟨by rfl, ?_⟩, fun _ => rfl⟩ ?_
  rotate_left
  · (intro w'; go_simp; try (with_reducible rfl))
  refine wpAnyIn_ready (rs := [0, 3, 6]) (by kernel_rfl) (by simp) ?_
  refine AllReadyIn.cons rfl (fun K hK => ?_) ?_
  · go_simp
    refine hK _ _ ?_
    clear hK K
    refine wpAnyIn_ready (rs := [3, 6]) (by kernel_rfl) (by simp) ?_
    refine AllReadyIn.cons rfl (fun K hK => ?_) ?_
    · go_simp
      refine hK _ _ ?_
      clear hK K
      refine wpAnyIn_ready (rs := [6]) (by kernel_rfl) (by simp) ?_
      refine AllReadyIn.cons rfl (fun K hK => ?_) ?_
      · go_simp
        refine hK _ _ ?_
        clear hK K
        refine wpAnyIn_take (i := 7) (v := ?_) rfl rfl (by kernel_rfl) (by kernel_rfl) (by kernel_rfl) (fun _ _ _ h => h) ⟨Or.inl ⟨by rfl, ?_⟩, fun _ => rfl⟩ ?_
        rotate_left
        · (intro w'; go_simp; try (with_reducible rfl))
        refine wpAnyIn_ready (rs := [8]) (by kernel_rfl) (by simp) ?_
        refine AllReadyIn.cons rfl (fun K hK => ?_) ?_
        · go_simp
          refine hK _ _ ?_
          clear hK K
          refine wpAnyIn_ready (rs := [9]) (by kernel_rfl) (by simp) ?_
          refine AllReadyIn.cons rfl (fun K hK => ?_) ?_
          · rw [if_pos (by rfl)]
            refine opIn_append_own _ (.tmp 25) (.tmp 33) 28 rfl n₀ 48 i0 (.agg #[.int .i64 0, .int .i64 0]) 2 16 Tryd.underlying28 hi hz0 hz1 hz2 rfl (by decide) v pre.length (flatB (bksOf ll pre)) rfl hrowA ⟨W.heap.size, 0, none⟩ 1 1 [.int .i64 x0, .int .i64 x1] rfl rfl hnew (by simp [Value.oneCell']) hbl1 hbl2 hsz3 ?_
            intro v' w1 hown' hgrow
            obtain ⟨g', cap', rfl⟩ := ownsRow_succ hown'
            obtain ⟨hv1, hv2, hr2, hk2, hb2⟩ := hvd.appended (tmp := .cells #[.int .i64 x0, .int .i64 x1] 48) (by decide) hrowd hnd hBn₀ hown' hgrow
            have hc1 := hv1.cell
            have hf1 := hv1.frozen
            have HF := Aside0.mk (pb_fin (B := B) (tmp := .cells #[.int .i64 x0, .int .i64 x1] 48) Hx0.out Hx1.out hne1 hne2 hbs hbn hB hrowd hgrow hv2 hr2 hk2 hb2)
            clear hv1 hv2 hr2 hk2 hb2 hown' hgrow
            refine hK _ _ ?_
            clear hK K
            refine wpAnyIn_ready (rs := [10]) (by kernel_rfl) (by simp) ?_
            refine AllReadyIn.cons rfl (fun K hK => ?_) ?_
            · go_simp
              refine hK _ _ ?_
              clear hK K
              refine wpAnyIn_done (by kernel_rfl) ?_ _
              exact HF.out
            exact AllReadyIn.nil
          exact AllReadyIn.nil
        exact AllReadyIn.nil
      exact AllReadyIn.nil
    refine AllReadyIn.cons rfl (fun K hK => ?_) ?_
    · go_simp
      refine hK _ _ ?_
      clear hK K
      refine wpAnyIn_ready (rs := [3]) (by kernel_rfl) (by simp) ?_
      refine AllReadyIn.cons rfl (fun K hK => ?_) ?_
      · go_simp
        refine hK _ _ ?_
        clear hK K
        refine wpAnyIn_take (i := 7) (v := ?_) rfl rfl (by kernel_rfl) (by kernel_rfl) (by kernel_rfl) (fun _ _ _ h => h) ⟨Or.inl ⟨by rfl, ?_⟩, fun _ => rfl⟩ ?_
        rotate_left
        · (intro w'; go_simp; try (with_reducible rfl))
        refine wpAnyIn_ready (rs := [8]) (by kernel_rfl) (by simp) ?_
        refine AllReadyIn.cons rfl (fun K hK => ?_) ?_
        · go_simp
          refine hK _ _ ?_
          clear hK K
          refine wpAnyIn_ready (rs := [9]) (by kernel_rfl) (by simp) ?_
          refine AllReadyIn.cons rfl (fun K hK => ?_) ?_
          · rw [if_pos (by rfl)]
            refine opIn_append_own _ (.tmp 25) (.tmp 33) 28 rfl n₀ 48 i0 (.agg #[.int .i64 0, .int .i64 0]) 2 16 Tryd.underlying28 hi hz0 hz1 hz2 rfl (by decide) v pre.length (flatB (bksOf ll pre)) rfl hrowA ⟨W.heap.size, 0, none⟩ 1 1 [.int .i64 x0, .int .i64 x1] rfl rfl hnew (by simp [Value.oneCell']) hbl1 hbl2 hsz3 ?_
            intro v' w1 hown' hgrow
            obtain ⟨g', cap', rfl⟩ := ownsRow_succ hown'
            obtain ⟨hv1, hv2, hr2, hk2, hb2⟩ := hvd.appended (tmp := .cells #[.int .i64 x0, .int .i64 x1] 48) (by decide) hrowd hnd hBn₀ hown' hgrow
            have hc1 := hv1.cell
            have hf1 := hv1.frozen
            have HF := Aside0.mk (pb_fin (B := B) (tmp := .cells #[.int .i64 x0, .int .i64 x1] 48) Hx0.out Hx1.out hne1 hne2 hbs hbn hB hrowd hgrow hv2 hr2 hk2 hb2)
            clear hv1 hv2 hr2 hk2 hb2 hown' hgrow
            refine hK _ _ ?_
            clear hK K
            refine wpAnyIn_ready (rs := [10]) (by kernel_rfl) (by simp) ?_
            refine AllReadyIn.cons rfl (fun K hK => ?_) ?_
            · go_simp
              refine hK _ _ ?_
              clear hK K
              refine wpAnyIn_done (by kernel_rfl) ?_ _
              exact HF.out
            exact AllReadyIn.nil
          exact AllReadyIn.nil
        exact AllReadyIn.nil
      exact AllReadyIn.nil
    exact AllReadyIn.nil
  refine AllReadyIn.cons rfl (fun K hK => ?_) ?_
  · go_simp
    refine hK _ _ ?_
    clear hK K
    refine wpAnyIn_ready (rs := [0, 6]) (by kernel_rfl) (by simp) ?_
    refine AllReadyIn.cons rfl (fun K hK => ?_) ?_
    · go_simp
      refine hK _ _ ?_
      clear hK K
      refine wpAnyIn_ready (rs := [6]) (by kernel_rfl) (by simp) ?_
      refine AllReadyIn.cons rfl (fun K hK => ?_) ?_
      · go_simp
        refine hK _ _ ?_
        clear hK K
        refine wpAnyIn_take (i := 7) (v := ?_) rfl rfl (by kernel_rfl) (by kernel_rfl) (by kernel_rfl) (fun _ _ _ h => h) ⟨Or.inl ⟨by rfl, ?_⟩, fun _ => rfl⟩ ?_
        rotate_left
        · (intro w'; go_simp; try (with_reducible rfl))
        refine wpAnyIn_ready (rs := [8]) (by kernel_rfl) (by simp) ?_
        refine AllReadyIn.cons rfl (fun K hK => ?_) ?_
        · go_simp
          refine hK _ _ ?_
          clear hK K
          refine wpAnyIn_ready (rs := [9]) (by kernel_rfl) (by simp) ?_
          refine AllReadyIn.cons rfl (fun K hK => ?_) ?_
          · rw [if_pos (by rfl)]
            refine opIn_append_own _ (.tmp 25) (.tmp 33) 28 rfl n₀ 48 i0 (.agg #[.int .i64 0, .int .i64 0]) 2 16 Tryd.underlying28 hi hz0 hz1 hz2 rfl (by decide) v pre.length (flatB (bksOf ll pre)) rfl hrowA ⟨W.heap.size, 0, none⟩ 1 1 [.int .i64 x0, .int .i64 x1] rfl rfl hnew (by simp [Value.oneCell']) hbl1 hbl2 hsz3 ?_
            intro v' w1 hown' hgrow
            obtain ⟨g', cap', rfl⟩ := ownsRow_succ hown'
            obtain ⟨hv1, hv2, hr2, hk2, hb2⟩ := hvd.appended (tmp := .cells #[.int .i64 x0, .int .i64 x1] 48) (by decide) hrowd hnd hBn₀ hown' hgrow
            have hc1 := hv1.cell
            have hf1 := hv1.frozen
            have HF := Aside0.mk (pb_fin (B := B) (tmp := .cells #[.int .i64 x0, .int .i64 x1] 48) Hx0.out Hx1.out hne1 hne2 hbs hbn hB hrowd hgrow hv2 hr2 hk2 hb2)
            clear hv1 hv2 hr2 hk2 hb2 hown' hgrow
            refine hK _ _ ?_
            clear hK K
            refine wpAnyIn_ready (rs := [10]) (by kernel_rfl) (by simp) ?_
            refine AllReadyIn.cons rfl (fun K hK => ?_) ?_
            · go_simp
              refine hK _ _ ?_
              clear hK K
              refine wpAnyIn_done (by kernel_rfl) ?_ _
              exact HF.out
            exact AllReadyIn.nil
          exact AllReadyIn.nil
        exact AllReadyIn.nil
      exact AllReadyIn.nil
    refine AllReadyIn.cons rfl (fun K hK => ?_) ?_
    · go_simp
      refine hK _ _ ?_
      clear hK K
      refine wpAnyIn_take (i := 7) (v := ?_) rfl rfl (by kernel_rfl) (by kernel_rfl) (by kernel_rfl) (fun _ _ _ h => h) ⟨Or.inl ⟨by rfl, ?_⟩, fun _ => rfl⟩ ?_
      rotate_left
      · (intro w'; go_simp; try (with_reducible rfl))
      refine wpAnyIn_ready (rs := [0, 8]) (by kernel_rfl) (by simp) ?_
      refine AllReadyIn.cons rfl (fun K hK => ?_) ?_
      · go_simp
        refine hK _ _ ?_
        clear hK K
        refine wpAnyIn_ready (rs := [8]) (by kernel_rfl) (by simp) ?_
        refine AllReadyIn.cons rfl (fun K hK => ?_) ?_
        · go_simp
          refine hK _ _ ?_
          clear hK K
          refine wpAnyIn_ready (rs := [9]) (by kernel_rfl) (by simp) ?_
          refine AllReadyIn.cons rfl (fun K hK => ?_) ?_
          · rw [if_pos (by rfl)]
            refine opIn_append_own _ (.tmp 25) (.tmp 33) 28 rfl n₀ 48 i0 (.agg #[.int .i64 0, .int .i64 0]) 2 16 Tryd.underlying28 hi hz0 hz1 hz2 rfl (by decide) v pre.length (flatB (bksOf ll pre)) rfl hrowA ⟨W.heap.size, 0, none⟩ 1 1 [.int .i64 x0, .int .i64 x1] rfl rfl hnew (by simp [Value.oneCell']) hbl1 hbl2 hsz3 ?_
            intro v' w1 hown' hgrow
            obtain ⟨g', cap', rfl⟩ := ownsRow_succ hown'
            obtain ⟨hv1, hv2, hr2, hk2, hb2⟩ := hvd.appended (tmp := .cells #[.int .i64 x0, .int .i64 x1] 48) (by decide) hrowd hnd hBn₀ hown' hgrow
            have hc1 := hv1.cell
            have hf1 := hv1.frozen
            have HF := Aside0.mk (pb_fin (B := B) (tmp := .cells #[.int .i64 x0, .int .i64 x1] 48) Hx0.out Hx1.out hne1 hne2 hbs hbn hB hrowd hgrow hv2 hr2 hk2 hb2)
            clear hv1 hv2 hr2 hk2 hb2 hown' hgrow
            refine hK _ _ ?_
            clear hK K
            refine wpAnyIn_ready (rs := [10]) (by kernel_rfl) (by simp) ?_
            refine AllReadyIn.cons rfl (fun K hK => ?_) ?_
            · go_simp
              refine hK _ _ ?_
              clear hK K
              refine wpAnyIn_done (by kernel_rfl) ?_ _
              exact HF.out
            exact AllReadyIn.nil
          exact AllReadyIn.nil
        exact AllReadyIn.nil
      refine AllReadyIn.cons rfl (fun K hK => ?_) ?_
      · go_simp
        refine hK _ _ ?_
        clear hK K
        refine wpAnyIn_ready (rs := [0]) (by kernel_rfl) (by simp) ?_
        refine AllReadyIn.cons rfl (fun K hK => ?_) ?_
        · go_simp
          refine hK _ _ ?_
          clear hK K
          refine wpAnyIn_ready (rs := [9]) (by kernel_rfl) (by simp) ?_
          refine AllReadyIn.cons rfl (fun K hK => ?_) ?_
          · rw [if_pos (by rfl)]
            refine opIn_append_own _ (.tmp 25) (.tmp 33) 28 rfl n₀ 48 i0 (.agg #[.int .i64 0, .int .i64 0]) 2 16 Tryd.underlying28 hi hz0 hz1 hz2 rfl (by decide) v pre.length (flatB (bksOf ll pre)) rfl hrowA ⟨W.heap.size, 0, none⟩ 1 1 [.int .i64 x0, .int .i64 x1] rfl rfl hnew (by simp [Value.oneCell']) hbl1 hbl2 hsz3 ?_
            intro v' w1 hown' hgrow
            obtain ⟨g', cap', rfl⟩ := ownsRow_succ hown'
            obtain ⟨hv1, hv2, hr2, hk2, hb2⟩ := hvd.appended (tmp := .cells #[.int .i64 x0, .int .i64 x1] 48) (by decide) hrowd hnd hBn₀ hown' hgrow
            have hc1 := hv1.cell
            have hf1 := hv1.frozen
            have HF := Aside0.mk (pb_fin (B := B) (tmp := .cells #[.int .i64 x0, .int .i64 x1] 48) Hx0.out Hx1.out hne1 hne2 hbs hbn hB hrowd hgrow hv2 hr2 hk2 hb2)
            clear hv1 hv2 hr2 hk2 hb2 hown' hgrow
            refine hK _ _ ?_
            clear hK K
            refine wpAnyIn_ready (rs := [10]) (by kernel_rfl) (by simp) ?_
            refine AllReadyIn.cons rfl (fun K hK => ?_) ?_
            · go_simp
              refine hK _ _ ?_
              clear hK K
              refine wpAnyIn_done (by kernel_rfl) ?_ _
              exact HF.out
            exact AllReadyIn.nil
          exact AllReadyIn.nil
        exact AllReadyIn.nil
      exact AllReadyIn.nil
    exact AllReadyIn.nil
  refine AllReadyIn.cons rfl (fun K hK => ?_) ?_
  · go_simp
    refine hK _ _ ?_
    clear hK K
    refine wpAnyIn_ready (rs := [0, 3]) (by kernel_rfl) (by simp) ?_
    refine AllReadyIn.cons rfl (fun K hK => ?_) ?_
    · go_simp
      refine hK _ _ ?_
      clear hK K
      refine wpAnyIn_ready (rs := [3]) (by kernel_rfl) (by simp) ?_
      refine AllReadyIn.cons rfl (fun K hK => ?_) ?_
      · go_simp
        refine hK _ _ ?_
        clear hK K
        refine wpAnyIn_take (i := 7) (v := ?_) rfl rfl (by kernel_rfl) (by kernel_rfl) (by kernel_rfl) (fun _ _ _ h => h) ⟨Or.inl ⟨by rfl, ?_⟩, fun _ => rfl⟩ ?_
        rotate_left
        · (intro w'; go_simp; try (with_reducible rfl))
        refine wpAnyIn_ready (rs := [8]) (by kernel_rfl) (by simp) ?_
        refine AllReadyIn.cons rfl (fun K hK => ?_) ?_
        · go_simp
          refine hK _ _ ?_
          clear hK K
          refine wpAnyIn_ready (rs := [9]) (by kernel_rfl) (by simp) ?_
          refine AllReadyIn.cons rfl (fun K hK => ?_) ?_
          · rw [if_pos (by rfl)]
            refine opIn_append_own _ (.tmp 25) (.tmp 33) 28 rfl n₀ 48 i0 (.agg #[.int .i64 0, .int .i64 0]) 2 16 Tryd.underlying28 hi hz0 hz1 hz2 rfl (by decide) v pre.length (flatB (bksOf ll pre)) rfl hrowA ⟨W.heap.size, 0, none⟩ 1 1 [.int .i64 x0, .int .i64 x1] rfl rfl hnew (by simp [Value.oneCell']) hbl1 hbl2 hsz3 ?_
            intro v' w1 hown' hgrow
            obtain ⟨g', cap', rfl⟩ := ownsRow_succ hown'
            obtain ⟨hv1, hv2, hr2, hk2, hb2⟩ := hvd.appended (tmp := .cells #[.int .i64 x0, .int .i64 x1] 48) (by decide) hrowd hnd hBn₀ hown' hgrow
            have hc1 := hv1.cell
            have hf1 := hv1.frozen
            have HF := Aside0.mk (pb_fin (B := B) (tmp := .cells #[.int .i64 x0, .int .i64 x1] 48) Hx0.out Hx1.out hne1 hne2 hbs hbn hB hrowd hgrow hv2 hr2 hk2 hb2)
            clear hv1 hv2 hr2 hk2 hb2 hown' hgrow
            refine hK _ _ ?_
            clear hK K
            refine wpAnyIn_ready (rs := [10]) (by kernel_rfl) (by simp) ?_
            refine AllReadyIn.cons rfl (fun K hK => ?_) ?_
            · go_simp
              refine hK _ _ ?_
              clear hK K
              refine wpAnyIn_done (by kernel_rfl) ?_ _
              exact HF.out
            exact AllReadyIn.nil
          exact AllReadyIn.nil
        exact AllReadyIn.nil
      exact AllReadyIn.nil
    refine AllReadyIn.cons rfl (fun K hK => ?_) ?_
    · go_simp
      refine hK _ _ ?_
      clear hK K
      refine wpAnyIn_take (i := 7) (v := ?_) rfl rfl (by kernel_rfl) (by kernel_rfl) (by kernel_rfl) (fun _ _ _ h => h) ⟨Or.inl ⟨by rfl, ?_⟩, fun _ => rfl⟩ ?_
      rotate_left
      · (intro w'; go_simp; try (with_reducible rfl))
      refine wpAnyIn_ready (rs := [0, 8]) (by kernel_rfl) (by simp) ?_
      refine AllReadyIn.cons rfl (fun K hK => ?_) ?_
      · go_simp
        refine hK _ _ ?_
        clear hK K
        refine wpAnyIn_ready (rs := [8]) (by kernel_rfl) (by simp) ?_
        refine AllReadyIn.cons rfl (fun K hK => ?_) ?_
        · go_simp
          refine hK _ _ ?_
          clear hK K
          refine wpAnyIn_ready (rs := [9]) (by kernel_rfl) (by simp) ?_
          refine AllReadyIn.cons rfl (fun K hK => ?_) ?_
          · rw [if_pos (by rfl)]
            refine opIn_append_own _ (.tmp 25) (.tmp 33) 28 rfl n₀ 48 i0 (.agg #[.int .i64 0, .int .i64 0]) 2 16 Tryd.underlying28 hi hz0 hz1 hz2 rfl (by decide) v pre.length (flatB (bksOf ll pre)) rfl hrowA ⟨W.heap.size, 0, none⟩ 1 1 [.int .i64 x0, .int .i64 x1] rfl rfl hnew (by simp [Value.oneCell']) hbl1 hbl2 hsz3 ?_
            intro v' w1 hown' hgrow
            obtain ⟨g', cap', rfl⟩ := ownsRow_succ hown'
            obtain ⟨hv1, hv2, hr2, hk2, hb2⟩ := hvd.appended (tmp := .cells #[.int .i64 x0, .int .i64 x1] 48) (by decide) hrowd hnd hBn₀ hown' hgrow
            have hc1 := hv1.cell
            have hf1 := hv1.frozen
            have HF := Aside0.mk (pb_fin (B := B) (tmp := .cells #[.int .i64 x0, .int .i64 x1] 48) Hx0.out Hx1.out hne1 hne2 hbs hbn hB hrowd hgrow hv2 hr2 hk2 hb2)
            clear hv1 hv2 hr2 hk2 hb2 hown' hgrow
            refine hK _ _ ?_
            clear hK K
            refine wpAnyIn_ready (rs := [10]) (by kernel_rfl) (by simp) ?_
            refine AllReadyIn.cons rfl (fun K hK => ?_) ?_
            · go_simp
              refine hK _ _ ?_
              clear hK K
              refine wpAnyIn_done (by kernel_rfl) ?_ _
              exact HF.out
            exact AllReadyIn.nil
          exact AllReadyIn.nil
        exact AllReadyIn.nil
      refine AllReadyIn.cons rfl (fun K hK => ?_) ?_
      · go_simp
        refine hK _ _ ?_
        clear hK K
        refine wpAnyIn_ready (rs := [0]) (by kernel_rfl) (by simp) ?_
        refine AllReadyIn.cons rfl (fun K hK => ?_) ?_
        · go_simp
          refine hK _ _ ?_
          clear hK K
          refine wpAnyIn_ready (rs := [9]) (by kernel_rfl) (by simp) ?_
          refine AllReadyIn.cons rfl (fun K hK => ?_) ?_
          · rw [if_pos (by rfl)]
            refine opIn_append_own _ (.tmp 25) (.tmp 33) 28 rfl n₀ 48 i0 (.agg #[.int .i64 0, .int .i64 0]) 2 16 Tryd.underlying28 hi hz0 hz1 hz2 rfl (by decide) v pre.length (flatB (bksOf ll pre)) rfl hrowA ⟨W.heap.size, 0, none⟩ 1 1 [.int .i64 x0, .int .i64 x1] rfl rfl hnew (by simp [Value.oneCell']) hbl1 hbl2 hsz3 ?_
            intro v' w1 hown' hgrow
            obtain ⟨g', cap', rfl⟩ := ownsRow_succ hown'
            obtain ⟨hv1, hv2, hr2, hk2, hb2⟩ := hvd.appended (tmp := .cells #[.int .i64 x0, .int .i64 x1] 48) (by decide) hrowd hnd hBn₀ hown' hgrow
            have hc1 := hv1.cell
            have hf1 := hv1.frozen
            have HF := Aside0.mk (pb_fin (B := B) (tmp := .cells #[.int .i64 x0, .int .i64 x1] 48) Hx0.out Hx1.out hne1 hne2 hbs hbn hB hrowd hgrow hv2 hr2 hk2 hb2)
            clear hv1 hv2 hr2 hk2 hb2 hown' hgrow
            refine hK _ _ ?_
            clear hK K
            refine wpAnyIn_ready (rs := [10]) (by kernel_rfl) (by simp) ?_
            refine AllReadyIn.cons rfl (fun K hK => ?_) ?_
            · go_simp
              refine hK _ _ ?_
              clear hK K
              refine wpAnyIn_done (by kernel_rfl) ?_ _
              exact HF.out
            exact AllReadyIn.nil
          exact AllReadyIn.nil
        exact AllReadyIn.nil
      exact AllReadyIn.nil
    exact AllReadyIn.nil
  exact AllReadyIn.nil
end Go.Proofs.YtecpcbkoemhclaaDoor.P
