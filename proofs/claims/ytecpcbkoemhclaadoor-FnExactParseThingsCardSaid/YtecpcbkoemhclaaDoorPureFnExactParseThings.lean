/- The program's ParseThings answers as the reference's: what the law's walk wants. It has no conditions. -/
import Derived.Test.YtecpcbkoemhclaaDoorPx0
import Derived.Test.YtecpcbkoemhclaaDoorPx29
import Derived.Test.YtecpcbkoemhclaaDoorQBoxA
import Derived.Test.YtecpcbkoemhclaaDoorQParC
import Derived.Test.YtecpcbkoemhclaaDoorQMark
namespace Go.Proofs.YtecpcbkoemhclaaDoor.Pure
open Go.RowKit Go.Proofs.YtecpcbkoemhclaaDoor.P Go.Proofs.YtecpcbkoemhclaaDoor.Q Go.Proofs.YtecpcbkoemhclaaDoorW.PrintWords Go.Proofs.YtecpcbkoemhclaaDoorW.PrintLast
set_option linter.unusedVariables false
set_option linter.unusedSimpArgs false

theorem FnExactParseThings : laws_FnExactParseThings.Pure := by
  intro s hs
  obtain ⟨⟨v, b⟩, hv⟩ : ∃ x, x = specV s := ⟨_, rfl⟩
  have hi := spec_impl s
  have hsp := specParse_ev s hs
  rw [← hv] at hi hsp
  have hlen : v.length ≤ 1048576 := by
    unfold specV goodV at hv
    split at hv
    · injection hv with h1 _; rw [h1]; exact Nat.zero_le _
    · split at hv
      next hg => injection hv with h1 _; rw [h1]; have := (good_all hg).2.1; omega
      next => injection hv with h1 _; rw [h1]; exact Nat.zero_le _
  obtain ⟨m, hm, hh⟩ := mark_both v hlen 1 (by omega)
  obtain ⟨k1, e1⟩ := hsp
  obtain ⟨k2, e2⟩ := eqIntS_ev v hlen
  obtain ⟨k3, e3⟩ := hm
  obtain ⟨k4, e4⟩ := hh
  refine ⟨k1 + k2 + k3 + k4, goodT, v, b, m, _, AreThings_eq, fun l hl => ?_, hi, e1 _ (by omega), e2 _ (by omega), e3 _ (by omega), e4 _ (by omega), by omega⟩
  obtain ⟨_, h2, h3⟩ := good_all hl
  exact ⟨h2, fun x hx => by have := h3 x hx; omega⟩

end Go.Proofs.YtecpcbkoemhclaaDoor.Pure
