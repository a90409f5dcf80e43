-- Laid by wip/myprint.py of this project (a wrapper over the kit's print.py); Lean checks it.
import Derived.Test.YtclfjjinfbfajaaPx0
import Derived.Test.YtclfjjinfbfajaaPx18
import Derived.Test.YtclfjjinfbfajaaPx21
namespace Go.Proofs.Ytclfjjinfbfajaa.P
open Go.RowKit Go.Proofs.YtclfjjinfbfajaaW.PrintWords Go.Proofs.YtclfjjinfbfajaaW.PrintLast Go.Proofs.YtclfjjinfbfajaaW.PrintMore
attribute [local go_sem] max2_int min2_int max_two min_two max_three min_three max_four min_four   -- for this text's walks alone
set_option linter.unusedVariables false
set_option linter.unusedSimpArgs false

/-! ### slices_Sorted_int: function 25 (by hand) -/
section
open Go.Sort Go.Shelf
theorem sorted_empty : ([] : List Int).mergeSort (fun x y => decide (x ≤ y)) = [] := by simp
set_option maxRecDepth 100000 in
set_option maxHeartbeats 2000000 in
/-- slices.Sorted of what slices.Values gives: a new row with the same numbers, sorted. -/
theorem sorted_calls (Bs : Nat) (sv : Value) (zs : List Int) (h0 : 0 < zs.length) (hlen : zs.length ≤ maxLen) (hreach : zs.length * 8 ≤ 140737488351232) (w : World) (hBs : Bs < w.heap.size) (hcs : w.cell? ⟨Bs, 0, none⟩ = some sv) (hI : vals_Ints w.heap.size w sv zs) :
    Calls Try.prog 25 #[.func (.func 40) #[] #[.pointer (some ⟨Bs, 0, none⟩)]] w fun e W' => ∃ v, e = .returned v ∧ Kd.R (Kd.int .i64) 3 W' w.heap.size (fun _ => True) v (zs.mergeSort fun x y => decide (x ≤ y)) ∧ Below w.heap.size w W' := by
  have HA := Aside0.mk (collect_calls Bs sv zs hlen hreach w hBs hcs hI)
  clear hcs hI
  have hm : zs.length < 4611686018427387904 := by omega
  go_enter Try.func25, Try.ntmps25
  go_wp2_with (first
    | (go_at_call 38; refine HA.out.mono ?_; rintro e w1 ⟨v, rfl, hr, hn, hb⟩
       obtain ⟨g, cap, cur, rfl, hbase, hgb, r1, r2, r3, r4⟩ : ∃ g cap cur, v = .slice (some ⟨g, 0, none⟩) zs.length cap ∧ w.heap.size ≤ g ∧ w1.heap[g]? = some (.cells cur 3 (0, 0)) ∧ zs.length ≤ cap ∧ cap ≤ maxLen ∧ cur.size = cap * 1 ∧ cur.toList.take (zs.length * 1) = zs.map (Value.int .i64) := by
         rcases hr.2 with ⟨_, h⟩ | h
         · exact absurd h (by omega)
         · exact h
       have hH : Holds (Value.int .i64) w1 g 0 zs.toArray := holds_of_block_i hgb (by simpa using r4)
       have HS := Aside0.mk (Try.slices_Sort_int g 0 cap zs w1 hH (blk_lt hgb) hm)
       have HB := Aside0.mk hb
       have HG := Aside0.mk hgb
       clear hr hn hb hH hgb r4)
    | (go_at_call 39; refine HS.out.mono ?_; rintro e w2 ⟨rfl, nn, os, hw2⟩
       have HR2 : Aside0 (w2.ownsRow w.heap.size 3 1 (.slice (some ⟨g, 0, none⟩) zs.length cap) zs.length ((zs.mergeSort fun x y => decide (x ≤ y)).map (Value.int .i64))) := ⟨by rw [hw2]; exact ownsRow_sorted_i (by simp) hbase HG.out r1 r2 r3⟩
       have HB2 : Aside0 (Below w.heap.size w w2) := ⟨by rw [hw2]; exact HB.out.grown (grownBy_sorted_i _) HB.out.size (fun j hj => by cases hj; exact hbase)⟩
       clear hw2))
  go_ret
  refine ⟨_, rfl, R_of_own ?_, HB2.out⟩
  have h := HR2.out
  rw [List.length_mergeSort]
  exact h
end


end Go.Proofs.Ytclfjjinfbfajaa.P
