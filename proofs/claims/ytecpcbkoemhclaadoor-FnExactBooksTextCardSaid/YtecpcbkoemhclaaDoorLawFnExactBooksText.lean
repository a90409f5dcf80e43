/- The law FnExactBooksText answers true and its arguments read as before. Condition: the listed variables read as the program's text lays them (the card ties them). -/
import Derived.Test.YtecpcbkoemhclaaDoorRows
import Derived.Test.YtecpcbkoemhclaaDoorCards
import Derived.Test.YtecpcbkoemhclaaDoorTie
import Derived.Test.YtecpcbkoemhclaaDoorPx26
import Derived.Test.YtecpcbkoemhclaaDoorPureFnExactBooksText
import Derived.WalkKit
import Derived.ProofKit
import Derived.OpenShut
import Derived.ShutString
import Derived.ChangeOld
import Derived.Below
import Derived.SizedLaws
import Derived.LaidMore
import Derived.SevenTiedAt
import Derived.Stop.Joined
import Derived.Deep.SlicePairs
import Derived.ChangeArms
import Derived.Test.YtecpcbkoemhclaaDoorWSized
namespace Go.Proofs.YtecpcbkoemhclaaDoor.fnExactBooksText
open Go.ChangeShapes Go.WideShapes Go.ChangeAt Go.RowKit
open Go.ChangeMaps (open_string shut_string)
set_option linter.unusedVariables false
theorem own : ownKnob Tryd.prog.godebug = none := by kernel_rfl
theorem laidOut : laidOutB Tryd.prog = true := by kernel_rfl
def IsRow (k : IntKind) (w : World) (a : Option Addr) (len cap : Nat) (zs : List Int) : Prop :=
  (a = none ∧ len = 0 ∧ cap = 0 ∧ zs = []) ∨
  ∃ x, a = some x ∧ len ≤ cap ∧ cap ≤ maxLen ∧ zs.length = cap ∧ (∀ i, i < zs.length → w.cell? (x.add i) = some (.int k (zs.getD i 0))) ∧ ∀ n ∈ zs, (Lit.int k n).wf = true
theorem gTab : Tryd.prog.globalNamed "internal/strconv.uint64pow10" = some 3 := by kernel_rfl
theorem tTab : (Tryd.prog.globals[3]?).map (·.type) = some 116 := by kernel_rfl
theorem dTab : (Rows.laid_internal_strconv_uint64pow10 : DataW Unit) = Lib.tabData .u64 Lib.pow10Tab := by rfl
/-- The heap that the door's own run leaves meets the condition. -/
theorem door_met (os : Os) (args : Array Value) : laidMetH Tryd.prog Rows.fnExactBooksTextRow.laid ((World.doorLaid Tryd.prog 400 os).forCall (fun _ _ => 0) ⟨#[], args, []⟩).memory :=
  laidMetH_of_parts3 (fuel := 8) (laidMet_of_run' 8 (by kernel_rfl) (by kernel_rfl)) (by kernel_rfl) (by kernel_rfl)
/-- What the condition gives the walk. -/
theorem of_laid {W : World} (h : laidMetH Tryd.prog Rows.fnExactBooksTextRow.laid W) : P.Pow10 W := by
  rw [MakeChecks.laidMetH_plain _ _ _ (by kernel_rfl)] at h
  obtain ⟨ps, ⟨g0, t0, cs0, f0, p0, q0, hg0, ht0, hv0, hd0, ⟨g1, t1, cs1, f1, p1, q1, hg1, ht1, hv1, hd1, ⟨g2, t2, cs2, f2, p2, q2, hg2, ht2, hv2, hd2, _, _⟩, _⟩, _⟩, _, _⟩ := h
  obtain rfl := Option.some.inj (gTab.symm.trans hg2)
  obtain rfl := Option.some.inj (tTab.symm.trans ht2)
  unfold P.Pow10 Lib.TabIs
  rw [hv2]
  rw [dTab] at hd2
  rw [← Lib.cells_of_tab Tryd.underlying116 Tryd.underlying101 (by kernel_rfl) (by kernel_rfl) hd2]
set_option maxRecDepth 100000 in
theorem lifted (os : Os) (started : os.Started) (H : Type) (enc : TypeId × Value → H) :
    ReturnsInHanded {} Tryd.checked os 6 .any (fun w args => (Rows.fnExactBooksTextSpec.pre enc Tryd.prog Tryd.f6 [] false w args ∧ laidMetH Tryd.prog Rows.fnExactBooksTextRow.laid w) ∧ sizedMet enc Tryd.prog Tryd.f6 (OpenSpec.ofChange Rows.fnExactBooksTextSpec) false w args) (Rows.fnExactBooksTextSpec.post enc Tryd.prog Tryd.f6 false true false false) := by
  refine returnsInHanded_of_change_and (C := Tryd.checked) (X := fun w _ => laidMetH Tryd.prog Rows.fnExactBooksTextRow.laid w) (fun _ _ _ hh h => h.of_heap hh) own started (by kernel_rfl) Tryd.func6
    (ChangeSpec.witness_shaped (enc := enc) (C := Tryd.checked) (os := os) (X := fun w _ => laidMetH Tryd.prog Rows.fnExactBooksTextRow.laid w) false (World.doorLaid Tryd.prog 400 os) #[.slice none 0 0] 8 rfl (World.shaped_of_RefB (by kernel_rfl) (by kernel_rfl)) (by kernel_rfl) (by kernel_rfl) (by kernel_rfl) (door_met os _)) ?_
  intro W base args ds gs before hval0 hW hcnd hsz0 hL _
  have hsz : (DataW.weightsEach Tryd.prog (Tryd.f6.params.toList ++ Rows.fnExactBooksTextSpec.plain.varTypes Tryd.prog) (ds ++ gs)).all (· ≤ reachBytes) = true := hsz0
  have hval : ∀ (j : Nat) t v, Tryd.f6.params[j]? = some t → args[j]? = some v → Value.okWide Tryd.prog W .any base t v := hval0
  have hW' := hW
  obtain ⟨p, q, hA0, hV, rfl, hfz, hnd⟩ := hW
  have hA : DataW.TrodAll enc Tryd.prog W 0 (fun _ => true) true Tryd.f6.params.toList args.toList ds p := hA0
  rw [Tryd.params6] at hA hval hsz
  obtain ⟨v0, vs0, d0, ds0, p0, q0, hargs, rfl, rfl, h0, r0⟩ := trodAll_cons hA
  obtain ⟨rfl, rfl, rfl⟩ := trodAll_nil r0
  obtain rfl : args = #[v0] := by cases args; simp_all
  obtain ⟨rfl, rfl⟩ := trodVars_none hV
  obtain ⟨a0, len0, cap0, rfl⟩ := okWide_slice Tryd.underlying37 (hval 0 37 v0 rfl rfl)
  have k0 := h0
  have lt0 : ∀ x ∈ p0, x.block < W.heap.size := by obtain ⟨m, hm⟩ := k0; exact DataW.trod_lt m _ _ _ hm
  obtain ⟨z0, w0, c0, y0, e0⟩ : ∃ zs : List P.S57, Go.Proofs.YtecpcbkoemhclaaDoorW.PrintWords.Kd.C P.k57 W a0 zs.length zs ∧ zs.length ≤ cap0 ∧ zs.length ≤ maxLen ∧ zs.length = len0 := by
    obtain ⟨fuel, hf⟩ := h0
    rcases Go.Deep.open_slice_pairs Tryd.underlying37 Tryd.underlying57 (by kernel_rfl) rfl rfl (by kernel_rfl) (by kernel_rfl) hf with ⟨hcs, _⟩ | ⟨x, l, c, m, n, V0, V1, D0, D1, P0, P1, hcs, _, hl, hm, hmm, _, hx⟩
    · simp [Value.cells] at hcs
      obtain ⟨rfl, rfl, rfl⟩ := hcs
      exact ⟨[], ⟨rfl, by simp, fun h => absurd h (by simp)⟩, by simp, by simp, rfl⟩
    · simp [Value.cells] at hcs
      obtain ⟨rfl, rfl, rfl⟩ := hcs
      have hlm : len0 ≤ m := by rw [hmm]; split <;> omega
      have hv : ∀ i : Nat, ∃ s : P.S57, i < len0 → W.cell? (x.add (i * 2)) = some (.int .i64 s.f0) ∧ W.cell? (x.add (i * 2 + 1)) = some (.int .i64 s.f1) := by
        intro i
        by_cases hi : i < len0
        · obtain ⟨e0, e1, t0, t1⟩ := hx i (by omega)
          obtain ⟨n0, q0, _, _⟩ := DataW.trod_int Tryd.underlying3 t0
          obtain ⟨n1, q1, _, _⟩ := DataW.trod_int Tryd.underlying3 t1
          refine ⟨⟨n0, n1⟩, fun _ => ⟨?_, ?_⟩⟩
          · rw [e0]; simpa using q0
          · rw [e1]; simpa using q1
        · exact ⟨⟨0, 0⟩, fun h => absurd h hi⟩
      obtain ⟨S, hS⟩ : ∃ S : Nat → P.S57, ∀ i, i < len0 → W.cell? (x.add (i * 2)) = some (.int .i64 (S i).f0) ∧ W.cell? (x.add (i * 2 + 1)) = some (.int .i64 (S i).f1) := ⟨fun i => Classical.choose (hv i), fun i hi => Classical.choose_spec (hv i) hi⟩
      refine ⟨(List.range len0).map S, ⟨rfl, ?_, fun hn => ⟨x, rfl, fun j p hj => ?_⟩⟩, ?_, ?_, ?_⟩
      · simp only [List.length_map, List.length_range]; have : maxLen = 9223372036854775807 := rfl; omega
      · have hjl : j < len0 := by have := (List.getElem?_eq_some_iff.1 hj).1; simpa using this
        have hp : S j = p := by simpa [hjl] using hj
        subst hp
        refine ⟨[.int .i64 (S j).f0, .int .i64 (S j).f1], rfl, P.k57_mk _ _, fun q u hu => ?_⟩
        match q, hu with
        | 0, hu => obtain rfl := Option.some.inj hu; exact (hS j hjl).1
        | 1, hu => obtain rfl := Option.some.inj hu; exact (hS j hjl).2
      · simpa using hl
      · simpa using Nat.le_trans hl hm
      · simp
  subst e0
  clear hA0 hval0 hsz0 hsz
  refine (P.laws_FnExactBooksText.walk Pure.FnExactBooksText a0 cap0 z0 W (of_laid hL) w0 c0 y0).mono fun e W' ⟨he, bel⟩ => ?_
  subst he
  exact ⟨_, rfl, _, _, _, [], _, [], hW', trodAll_mk1 (shut_bool Tryd.underlying4 _), (trodAll_cons_mk (Below.trod laidOut (by kernel_rfl) (of_decide_eq_true (by kernel_rfl)) k0 bel lt0) trodAll_mk0), rfl, bel.frame _, fun h => by cases h⟩
theorem over : Rows.fnExactBooksTextRow.holds Tryd.pinned (OpenSpec.ofChange Rows.fnExactBooksTextSpec) :=
  OpenClaim.holds_of_wide 6 Tryd.f6 rfl rfl rfl rfl rfl rfl rfl ⟨rfl, rfl, rfl, rfl, rfl⟩ rfl rfl rfl rfl rfl (by kernel_rfl) Tryd.func6 (by kernel_rfl)
    (of_decide_eq_true (by kernel_rfl)) (by unfold Func.isWrapper; first | (rw [if_pos (by decide +kernel)]; kernel_rfl) | (rw [if_neg (by decide +kernel)]; exact ⟨rfl, rfl⟩))
    (fun os started H enc _ => lifted os started H enc)
end Go.Proofs.YtecpcbkoemhclaaDoor.fnExactBooksText
namespace Go.Proofs.YtecpcbkoemhclaaDoor
open Go
/-- THE TIED CARD. -/
theorem fnExactBooksText_holds : Rows.FnExactBooksTextCardSaid :=
  Claim7.holds_tied_plain_at .later [] [.data, .data, .data] true (true, "90de179d76bfe85fab4316a8348448985d7da64643cec164d82f3392a07288c1") true
    fnExactBooksText.over (fun _ h => by cases h) (by kernel_rfl) (fun _ h => by cases h) fnExactBooksText_row_tie rfl ⟨rfl, rfl⟩ (by kernel_rfl) rfl
    (fun f fn hf hfn => by
      obtain rfl : f = 6 := Option.some.inj ((show Tryd.prog.funcNamed Rows.fnExactBooksTextRow.func = some 6 by kernel_rfl).symm.trans hf) |>.symm
      obtain rfl : fn = Tryd.f6 := (Option.some.inj (Tryd.func6.symm.trans hfn)).symm
      exact ⟨by kernel_rfl, fun j t ht => by
        rw [Tryd.params6] at ht
        have hm : t ∈ [37] := by simpa using Array.mem_of_getElem? ht
        have hall : ([37].all fun u => !Tryd.prog.wantsStandIn u) = true := by kernel_rfl
        exact (show Tryd.prog.wantsStandIn t = false by simpa using List.all_eq_true.1 hall t hm)⟩)
    (by kernel_rfl)
#print axioms fnExactBooksText_holds
end Go.Proofs.YtecpcbkoemhclaaDoor
