-- Laid by wip/myprint.py of this project (a wrapper over the kit's print.py); Lean checks it.
import Derived.Test.YtecpcbkoemhclaaDoorPx0
import Derived.Test.YtecpcbkoemhclaaDoorPx1
namespace Go.Proofs.YtecpcbkoemhclaaDoor.P
open Go.RowKit Go.Proofs.YtecpcbkoemhclaaDoorW.PrintWords Go.Proofs.YtecpcbkoemhclaaDoorW.PrintLast Go.Proofs.YtecpcbkoemhclaaDoorW.PrintMore
attribute [local go_sem] max2_int min2_int max_two min_two max_three min_three max_four min_four   -- for this text's walks alone
set_option linter.unusedVariables false
set_option linter.unusedSimpArgs false

/-! ### strings_Join: function 46 (by hand) -/
theorem join_calls (v : Value) (base : Nat) (xs : List ByteArray) (sep : ByteArray) (W : World) (hR : Kd.R Kd.string 9 W base (fun _ => True) v xs) (hn : xs.length ≤ 1048576) (hl : (Lib.join (xs.map (·.data.toList)) sep.data.toList).length ≤ 140737488355328) :
    Calls Tryd.prog 46 #[v, .string sep] W fun e w' => e = .returned (.string ⟨(Lib.join (xs.map (·.data.toList)) sep.data.toList).toArray⟩) ∧ Below W.heap.size W w' := by
  by_cases hx : xs = []
  · subst hx
    obtain ⟨A, c, rfl, _, _⟩ := Kd.R_reads hR
    exact (Tryd.strings_Join_none A c sep W).mono (by rintro e w' ⟨rfl, rfl⟩; exact ⟨rfl, Below.refl _ _⟩)
  · have hp : 0 < xs.length := by cases xs with | nil => exact absurd rfl hx | cons => simp
    obtain ⟨g, c, rfl, gb, gl, _⟩ := Kd.R_form hR hp
    obtain ⟨_, hc, hC⟩ := Kd.R_reads' hR
    exact Tryd.strings_Join g 0 c xs sep W (fun j x hj => by
      obtain ⟨hjl, hje⟩ := List.getElem?_eq_some_iff.1 hj
      obtain ⟨ad2, e2, h2⟩ := Kd.at_string hC (j : Int) (by omega) (by omega)
      obtain rfl := Option.some.inj e2
      rw [Int.toNat_natCast, add_plain] at h2
      rw [Nat.zero_add, h2]
      simp [rdOf, List.getD_eq_getElem?_getD, hj]) gl (by omega) hc hl
theorem joinL_len (sep : List UInt8) : ∀ (xs : List (List UInt8)) (m : Nat), (∀ x ∈ xs, x.length ≤ m) → (Lib.join xs sep).length ≤ xs.length * (m + sep.length)
  | [], m, _ => by simp [Lib.join_nil]
  | x :: r, m, h => by
    have h1 : ∀ r : List (List UInt8), (∀ x ∈ r, x.length ≤ m) → (Lib.joinTail sep r).length ≤ r.length * (m + sep.length) := by
      intro r
      induction r with
      | nil => intro _; simp [Lib.joinTail]
      | cons y r ih =>
        intro h
        have := ih (fun z hz => h z (List.mem_cons_of_mem _ hz))
        have hy := h y List.mem_cons_self
        simp only [Lib.joinTail, List.map_cons, List.flatten_cons, List.length_append, List.length_cons] at this ⊢
        rw [Nat.add_mul]; omega
    rw [Lib.join_cons, List.length_append, List.length_cons, Nat.add_mul]
    have := h1 r (fun z hz => h z (List.mem_cons_of_mem _ hz))
    have := h x List.mem_cons_self
    omega
/-- The text of a row of texts, with a sign between them. -/
def joinT (l : List ByteArray) (sep : ByteArray) : ByteArray := ⟨(Lib.join (l.map (·.data.toList)) sep.data.toList).toArray⟩
def strings_Join.f (l0 : List ByteArray) (a1 : ByteArray) : Option (ByteArray × List ByteArray) := if l0.length ≤ 1048576 ∧ (Lib.join (l0.map (·.data.toList)) a1.data.toList).length ≤ 140737488355328 then some (joinT l0 a1, l0) else none
theorem strings_Join.calls (P0_ : Nat → Prop) (u9000_ : Value) (l0 : List ByteArray) (a1 : ByteArray) (r1 : ByteArray) (r2 : List ByteArray) (w0 w : World) (hB : Below w0.heap.size w0 w) (ho0 : Kd.R Kd.string 9 w w0.heap.size P0_ u9000_ l0) (h : strings_Join.f l0 a1 = some (r1, r2)) :
    Calls Tryd.prog 46 #[u9000_, .string a1] w fun e w' => e = .returned (.string r1) ∧ Kd.R Kd.string 9 w' w0.heap.size (fun k_ => (P0_ k_ ∨ w.heap.size ≤ k_)) u9000_ r2 ∧ Below w0.heap.size w0 w' ∧ Kept w w' (fun k_ => P0_ k_) := by
  unfold strings_Join.f at h
  split at h
  next hc =>
    simp only [Option.some.injEq, Prod.mk.injEq] at h
    obtain ⟨rfl, rfl⟩ := h
    refine (join_calls u9000_ w0.heap.size l0 a1 w (Kd.R_mono ho0 (fun _ _ => trivial)) hc.1 hc.2).mono ?_
    rintro e w' ⟨rfl, hb⟩
    exact ⟨rfl, Kd.R_below (Kd.R_mono ho0 (fun k hk => .inl hk)) hb, below_then hB hB.size hb, Kept.of_below hb _⟩
  next => cases h


end Go.Proofs.YtecpcbkoemhclaaDoor.P
