-- Laid by wip/myprint.py of this project (a wrapper over the kit's print.py); Lean checks it.
import Derived.Test.YthpabbepglokeaaRows
import Derived.Test.YthpabbepglokeaaPx15
import Derived.Test.YthpabbepglokeaaPureFnExactMoveBook
import Derived.WalkKit
import Derived.ProofKit
import Derived.OpenShut
import Derived.ShutString
import Derived.ChangeOld
import Derived.Below
import Derived.SizedLaws
import Derived.Deep.SlicePairs
import Derived.ChangeArms
import Derived.Test.YthpabbepglokeaaWSized
namespace Go.Proofs.Ythpabbepglokeaa.fnExactMoveBook
open Go.ChangeShapes Go.WideShapes Go.ChangeAt Go.RowKit
open Go.ChangeMaps (open_string shut_string)
set_option linter.unusedVariables false
theorem own : ownKnob Try.prog.godebug = none := by kernel_rfl
theorem laidOut : laidOutB Try.prog = true := by kernel_rfl
def IsRow (k : IntKind) (w : World) (a : Option Addr) (len cap : Nat) (zs : List Int) : Prop :=
  (a = none ∧ len = 0 ∧ cap = 0 ∧ zs = []) ∨
  ∃ x, a = some x ∧ len ≤ cap ∧ cap ≤ maxLen ∧ zs.length = cap ∧ (∀ i, i < zs.length → w.cell? (x.add i) = some (.int k (zs.getD i 0))) ∧ ∀ n ∈ zs, (Lit.int k n).wf = true
set_option maxRecDepth 100000 in
theorem lifted (os : Os) (started : os.Started) (H : Type) (enc : TypeId × Value → H) :
    ReturnsInHanded {} Try.checked os 3 .any (Rows.fnExactMoveBookSpec.pre6 enc Try.prog Try.f3 Rows.fnExactMoveBookRow.domain false) (Rows.fnExactMoveBookSpec.post enc Try.prog Try.f3 false true false false) := by
  refine returnsInHanded_of_change_sized (C := Try.checked) own started (by kernel_rfl) Try.func3
    (ChangeSpec.witness6 (enc := enc) (C := Try.checked) false ⟨#[], #[.slice none 0 0, .int .i64 0, .int .i64 0], []⟩ 8 (by kernel_rfl) (by kernel_rfl) (by kernel_rfl) (by kernel_rfl)) ?_
  intro W base args ds gs before hval0 hW hcnd hsz0 _
  have hsz : (DataW.weightsEach Try.prog (Try.f3.params.toList ++ Rows.fnExactMoveBookSpec.plain.varTypes Try.prog) (ds ++ gs)).all (· ≤ reachBytes) = true := hsz0
  have hval : ∀ (j : Nat) t v, Try.f3.params[j]? = some t → args[j]? = some v → Value.okWide Try.prog W .any base t v := hval0
  have hW' := hW
  obtain ⟨p, q, hA0, hV, rfl, hfz, hnd⟩ := hW
  have hA : DataW.TrodAll enc Try.prog W 0 (fun _ => true) true Try.f3.params.toList args.toList ds p := hA0
  rw [Try.params3] at hA hval hsz
  obtain ⟨v0, vs0, d0, ds0, p0, q0, hargs, rfl, rfl, h0, r0⟩ := trodAll_cons hA
  obtain ⟨v1, vs1, d1, ds1, p1, q1, rfl, rfl, rfl, h1, r1⟩ := trodAll_cons r0
  obtain ⟨v2, vs2, d2, ds2, p2, q2, rfl, rfl, rfl, h2, r2⟩ := trodAll_cons r1
  obtain ⟨rfl, rfl, rfl⟩ := trodAll_nil r2
  obtain rfl : args = #[v0, v1, v2] := by cases args; simp_all
  obtain ⟨rfl, rfl⟩ := trodVars_none hV
  obtain ⟨a0, len0, cap0, rfl⟩ := okWide_slice Try.underlying22 (hval 0 22 v0 rfl rfl)
  have k0 := h0
  have lt0 : ∀ x ∈ p0, x.block < W.heap.size := by obtain ⟨m, hm⟩ := k0; exact DataW.trod_lt m _ _ _ hm
  obtain ⟨z0, w0, c0, y0, e0⟩ : ∃ zs : List P.S38, Go.Proofs.YthpabbepglokeaaW.PrintWords.Kd.C P.k38 W a0 zs.length zs ∧ zs.length ≤ cap0 ∧ zs.length ≤ maxLen ∧ zs.length = len0 := by
    obtain ⟨fuel, hf⟩ := h0
    rcases Go.Deep.open_slice_pairs Try.underlying22 Try.underlying38 (by kernel_rfl) rfl rfl (by kernel_rfl) (by kernel_rfl) hf with ⟨hcs, _⟩ | ⟨x, l, c, m, n, V0, V1, D0, D1, P0, P1, hcs, _, hl, hm, hmm, _, hx⟩
    · simp [Value.cells] at hcs
      obtain ⟨rfl, rfl, rfl⟩ := hcs
      exact ⟨[], ⟨rfl, by simp, fun h => absurd h (by simp)⟩, by simp, by simp, rfl⟩
    · simp [Value.cells] at hcs
      obtain ⟨rfl, rfl, rfl⟩ := hcs
      have hlm : len0 ≤ m := by rw [hmm]; split <;> omega
      have hv : ∀ i : Nat, ∃ s : P.S38, i < len0 → W.cell? (x.add (i * 2)) = some (.int .i64 s.f0) ∧ W.cell? (x.add (i * 2 + 1)) = some (.int .i64 s.f1) := by
        intro i
        by_cases hi : i < len0
        · obtain ⟨e0, e1, t0, t1⟩ := hx i (by omega)
          obtain ⟨n0, q0, _, _⟩ := DataW.trod_int Try.underlying3 t0
          obtain ⟨n1, q1, _, _⟩ := DataW.trod_int Try.underlying3 t1
          refine ⟨⟨n0, n1⟩, fun _ => ⟨?_, ?_⟩⟩
          · rw [e0]; simpa using q0
          · rw [e1]; simpa using q1
        · exact ⟨⟨0, 0⟩, fun h => absurd h hi⟩
      obtain ⟨S, hS⟩ : ∃ S : Nat → P.S38, ∀ i, i < len0 → W.cell? (x.add (i * 2)) = some (.int .i64 (S i).f0) ∧ W.cell? (x.add (i * 2 + 1)) = some (.int .i64 (S i).f1) := ⟨fun i => Classical.choose (hv i), fun i hi => Classical.choose_spec (hv i) hi⟩
      refine ⟨(List.range len0).map S, ⟨rfl, ?_, fun hn => ⟨x, rfl, fun j p hj => ?_⟩⟩, ?_, ?_, ?_⟩
      · simp only [List.length_map, List.length_range]; have : maxLen = 9223372036854775807 := rfl; omega
      · have hjl : j < len0 := by have := (List.getElem?_eq_some_iff.1 hj).1; simpa using this
        have hp : S j = p := by simpa [hjl] using hj
        subst hp
        refine ⟨[.int .i64 (S j).f0, .int .i64 (S j).f1], rfl, P.k38_mk _ _, fun q u hu => ?_⟩
        match q, hu with
        | 0, hu => obtain rfl := Option.some.inj hu; exact (hS j hjl).1
        | 1, hu => obtain rfl := Option.some.inj hu; exact (hS j hjl).2
      · simpa using hl
      · simpa using Nat.le_trans hl hm
      · simp
  subst e0
  obtain ⟨a1, rfl, rfl, rfl, w1⟩ := open_int Try.underlying3 (hval 1 3 v1 rfl rfl) h1
  obtain ⟨a2, rfl, rfl, rfl, w2⟩ := open_int Try.underlying3 (hval 2 3 v2 rfl rfl) h2
  clear hA0 hval0 hsz0 hsz
  refine (P.laws_FnExactMoveBook.walk Pure.FnExactMoveBook a0 cap0 z0 a1 a2 W w0 c0 y0 w1 w2).mono fun e W' ⟨he, bel⟩ => ?_
  subst he
  exact ⟨_, rfl, _, _, _, [], _, [], hW', trodAll_mk1 (shut_bool Try.underlying4 _), (trodAll_cons_mk (Below.trod laidOut (by kernel_rfl) (of_decide_eq_true (by kernel_rfl)) k0 bel lt0) (trodAll_cons_mk (shut_int Try.underlying3 w1) (trodAll_cons_mk (shut_int Try.underlying3 w2) trodAll_mk0))), rfl, bel.frame _, fun h => by cases h⟩
theorem over : Rows.fnExactMoveBookRow.holds Try.pinned (OpenSpec.ofChange Rows.fnExactMoveBookSpec) :=
  OpenClaim.holds_of_wide 3 Try.f3 rfl rfl rfl rfl rfl rfl rfl ⟨rfl, rfl, rfl, rfl, rfl⟩ rfl rfl rfl rfl rfl (by kernel_rfl) Try.func3 (by kernel_rfl)
    (of_decide_eq_true (by kernel_rfl)) (by unfold Func.isWrapper; first | (rw [if_pos (by decide +kernel)]; kernel_rfl) | (rw [if_neg (by decide +kernel)]; exact ⟨rfl, rfl⟩))
    (fun os started H enc _ => lifted os started H enc)
theorem proved : Rows.FnExactMoveBookSaid := over
#print axioms proved
end Go.Proofs.Ythpabbepglokeaa.fnExactMoveBook
namespace Go.Proofs.Ythpabbepglokeaa
/-- The row, under a short name, for the claim. -/
theorem fnExactMoveBook_holds : Rows.FnExactMoveBookSaid := fnExactMoveBook.proved
end Go.Proofs.Ythpabbepglokeaa
