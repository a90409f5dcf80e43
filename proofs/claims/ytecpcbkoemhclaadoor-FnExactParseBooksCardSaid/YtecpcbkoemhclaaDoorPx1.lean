-- Laid by wip/myprint.py of this project (a wrapper over the kit's print.py); Lean checks it.
import Derived.Test.YtecpcbkoemhclaaDoorPx0
namespace Go.Proofs.YtecpcbkoemhclaaDoor.P
open Go.RowKit Go.Proofs.YtecpcbkoemhclaaDoorW.PrintWords Go.Proofs.YtecpcbkoemhclaaDoorW.PrintLast Go.Proofs.YtecpcbkoemhclaaDoorW.PrintMore
attribute [local go_sem] max2_int min2_int max_two min_two max_three min_three max_four min_four   -- for this text's walks alone
set_option linter.unusedVariables false
set_option linter.unusedSimpArgs false

/-! ### common words (by hand) -/
/-- A call of function f enters it. -/
theorem entersOf {P : Program} {f : FuncId} {fn : Func} {c : Code} (hf : P.funcs[f]? = some fn) (hname : (fn.name == "runtime.NumGoroutine") = false) (hb : fn.body = some c) : ∀ (args : Array Value) (w : World), (callFunc f args).run P w = .ok (.enter f args) w := by
  intro args w
  have h1 : fn.name ≠ "runtime.NumGoroutine" := by simpa using hname
  simp [callFunc, hf, h1, hb, mark]
/-- What is asked of a predicate on numbers that is handed over as a function value: it answers p, whatever has been made since w. -/
def Asks (g : Nat) (lb : Array Value) (p : Int → Bool) (w : World) : Prop :=
  ∀ (W : World) (x : Int), Below w.heap.size w W → Calls Tryd.prog g (#[.int .i64 x] ++ lb) W fun e W' => e = .returned (.bool (p x)) ∧ Drawn0 W W'
theorem Drawn0.trans {a b c : World} (h : Drawn0 a b) (k : Drawn0 b c) : Drawn0 a c := by
  obtain ⟨n, rfl⟩ := h
  obtain ⟨m, rfl⟩ := k
  exact ⟨⟨n + m, World.drewN_drewN ..⟩⟩
theorem cell_box (w : World) (v : Value) (t : TypeId) : (w.alloc (.cells #[v] t)).cell? ⟨w.heap.size, 0, none⟩ = some v := by
  rw [World.cell?_alloc_at _ _ _ _ rfl]; rfl
theorem cell_past {w : World} {a : Addr} {v : Value} (h : w.cell? a = some v) (o : Obj) : (w.alloc o).cell? a = some v := pw_cell_below (below_alloc (Below.refl _ w) o) h
theorem C_below {α : Type} {d : Kd α} (hd : Kd.Heap d) {w W : World} {A : Option Addr} {n : Nat} {xs : List α} (h : d.C w A n xs) (hb : Below w.heap.size w W) : d.C W A n xs := hd.C hb.block h
/-- Since w nothing that was there has turned but the blocks of S; the streams are as they were. -/
structure Mod (S : Nat → Prop) (w w' : World) : Prop where
  os : w'.os = w.os
  tape : w'.tape = w.tape
  output : w'.output = w.output
  size : w.heap.size ≤ w'.heap.size
  block : ∀ k, k < w.heap.size → ¬ S k → w'.heap[k]? = w.heap[k]?
namespace Mod
variable {S S' : Nat → Prop} {a b c w w' : World}
theorem refl (S : Nat → Prop) (w : World) : Mod S w w := ⟨rfl, rfl, rfl, Nat.le_refl _, fun _ _ _ => rfl⟩
theorem trans (h : Mod S a b) (k : Mod S b c) : Mod S a c :=
  ⟨k.os.trans h.os, k.tape.trans h.tape, k.output.trans h.output, Nat.le_trans h.size k.size, fun i hi hn => (k.block i (Nat.lt_of_lt_of_le hi h.size) hn).trans (h.block i hi hn)⟩
theorem mono (h : Mod S w w') (hs : ∀ k, k < w.heap.size → S k → S' k) : Mod S' w w' := ⟨h.os, h.tape, h.output, h.size, fun i hi hn => h.block i hi (fun hk => hn (hs i hi hk))⟩
theorem of_below (h : Below w.heap.size w w') : Mod S w w' := ⟨h.os, h.tape, h.output, h.size, fun i hi _ => h.block i hi⟩
theorem below (h : Mod S w w') (hs : ∀ k, S k → w.heap.size ≤ k) : Below w.heap.size w w' := ⟨h.os, h.tape, h.output, h.size, fun i hi => h.block i hi (fun hk => by have := hs i hk; omega)⟩
/-- What lay below B, where S lies from B on. -/
theorem belowB {B : Nat} (h : Mod S w w') (hB : B ≤ w.heap.size) (hs : ∀ k, S k → B ≤ k) : Below B w w' := ⟨h.os, h.tape, h.output, h.size, fun i hi => h.block i (by omega) (fun hk => by have := hs i hk; omega)⟩
theorem kept (h : Mod S w w') : Kept w w' S := ⟨h.size, h.block⟩
theorem cell {p : Addr} {v : Value} (h : Mod S w w') (hc : w.cell? p = some v) (hn : ¬ S p.block) : w'.cell? p = some v := Go.Proofs.YtecpcbkoemhclaaDoorW.PrintWords.cell_kept hc h.kept hn
theorem blk {g : Nat} {o : Obj} (h : Mod S w w') (hb : w.heap[g]? = some o) (hn : ¬ S g) : w'.heap[g]? = some o := (h.block g (blk_lt hb) hn).trans hb
theorem alloc (h : Mod S w w') (o : Obj) : Mod S w (w'.alloc o) := h.trans (of_below (below_alloc (Below.refl _ _) o))
theorem drew (h : Mod S w w') : Mod S w w'.drew := h.trans (of_below (Below.refl _ w').drew)
theorem drewN (h : Mod S w w') (n : Nat) : Mod S w (w'.drewN n) := h.trans (of_below (pw_below_drewN (Below.refl _ w') n))
theorem drawn (h : Mod S w a) (k : Drawn0 a b) : Mod S w b := h.trans (of_below k.below)
theorem set (h : Mod S w w') {p : Addr} (hp : S p.block ∨ w.heap.size ≤ p.block) (u : Value) : Mod S w (w'.setCell p u) :=
  ⟨h.os, h.tape, h.output, by simp [World.setCell]; exact h.size, fun i hi hn => (Below.heap_setCell w' p u i (by rintro rfl; rcases hp with hp | hp; exact hn hp; omega)).trans (h.block i hi hn)⟩
/-- A call that turned S' and what is new: S' lies in S, or is new since w. -/
theorem then_ (h : Mod S a b) (k : Mod S' b c) (hs : ∀ i, S' i → S i ∨ a.heap.size ≤ i) : Mod S a c :=
  ⟨k.os.trans h.os, k.tape.trans h.tape, k.output.trans h.output, Nat.le_trans h.size k.size, fun i hi hn => (k.block i (Nat.lt_of_lt_of_le hi h.size) (fun h2 => (hs i h2).elim hn (fun h3 => by omega))).trans (h.block i hi hn)⟩
theorem grown {row : Option Nat} (h : Mod S w a) (hg : a.grownBy b row) (hr : ∀ k, row = some k → S k ∨ w.heap.size ≤ k) : Mod S w b :=
  h.then_ (S' := fun k => row = some k) ⟨hg.os, hg.tape, hg.output, hg.size, fun i hi hn => hg.block i hi (fun he => hn he.symm)⟩ hr
end Mod
/-- A row of numbers that lies outside S is read as before. -/
theorem C_mod {k : IntKind} {S : Nat → Prop} {w w' : World} {A : Option Addr} {n : Nat} {xs : List Int} (h : Kd.C (Kd.int k) w A n xs) (hm : Mod S w w') (hf : ∀ ad, A = some ad → 0 < n → ¬ S ad.block) : Kd.C (Kd.int k) w' A n xs :=
  Kd.C_foot_neS (fun h => h) h hf w' hm.kept
theorem C_one {W : World} {b : Nat} {y : Int} (h : W.cell? ⟨b, 0, none⟩ = some (.int .i64 y)) : Kd.C (Kd.int .i64) W (some ⟨b, 0, none⟩) 1 [y] := by
  refine Kd.C_of_reads (d := (0 : Int)) (h1 := fun _ => rfl) ⟨rfl, by decide, fun _ => ⟨_, rfl, fun j hj => ?_⟩⟩
  obtain rfl : j = 0 := by omega
  rw [add_plain]; exact h
theorem below_alloc' {B : Nat} {w W : World} (h : Below B w W) (o : Obj) (hB : B ≤ w.heap.size := by exact Nat.le_refl _) : Below B w (W.alloc o) := h.alloc (Nat.le_trans hB h.size) o
/-- A row of one's own that is not empty lies from its base on. -/
theorem own_far {S : Nat → Prop} {N0 e base n c : Nat} {w : World} {ok : Nat → Prop} {A : Option Addr} {xs : List Int} (h : Kd.R (Kd.int .i64) e w base ok (.slice A n c) xs) (hb : N0 ≤ base) (hS : ∀ k, S k → k < N0) : ∀ ad, A = some ad → 0 < xs.length → ¬ S ad.block := by
  rintro ad rfl hp hs
  obtain ⟨g, cap, he, hg, _⟩ := Kd.R_form h hp
  injection he with h1 h2 h3
  injection h1 with h1
  subst h1
  have := hS _ hs
  simp at this
  omega
theorem cell_at_blk {w : World} {g : Nat} {v : Value} {t : TypeId} (h : w.heap[g]? = some (.cells #[v] t (0, 0))) : w.cell? ⟨g, 0, none⟩ = some v := by rw [blk_cell h]; rfl
/-- The nil slice, as a row of one's own. -/
theorem R_nil_ {k : IntKind} (e : Nat) (W : World) (base : Nat) (ok : Nat → Prop) : Kd.R (Kd.int k) e W base ok (.slice none 0 0) [] :=
  ⟨by simp [Value.ownBlock], [], own_nil W base e _, Reps.none _ _⟩
/-- A row that is read lies in a block that is there. -/
theorem C_block_lt {k : IntKind} {w : World} {ad : Addr} {n : Nat} {xs : List Int} (h : Kd.C (Kd.int k) w (some ad) n xs) (hn : 0 < n) : ad.block < w.heap.size := by
  obtain ⟨ad', he, hx⟩ := Kd.at_int h 0 (by omega) (by have := h.1; omega)
  injection he with he
  subst he
  have := World.block_lt_of_cell? w _ hx
  rwa [add_block] at this
theorem drop_rd' {l : List Int} {i : Nat} (h : i < l.length) : l.drop i = rd l i :: l.drop (i + 1) := by
  rw [List.drop_eq_getElem_cons h]
  congr 1
  simp [rd, List.getD_eq_getElem?_getD, List.getElem?_eq_getElem h]


end Go.Proofs.YtecpcbkoemhclaaDoor.P
