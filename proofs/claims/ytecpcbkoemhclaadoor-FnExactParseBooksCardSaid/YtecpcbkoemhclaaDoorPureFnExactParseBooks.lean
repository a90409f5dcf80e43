/- The program's ParseBooks answers as the reference's: what the law's walk wants. It has no conditions. -/
import Derived.Test.YtecpcbkoemhclaaDoorPx0
import Derived.Test.YtecpcbkoemhclaaDoorPx13
import Derived.Test.YtecpcbkoemhclaaDoorPx20
import Derived.Test.YtecpcbkoemhclaaDoorQPd
import Derived.Test.YtecpcbkoemhclaaDoorQMarkC
import Derived.Test.YtecpcbkoemhclaaDoorPBe
namespace Go.Proofs.YtecpcbkoemhclaaDoor.Pure
open Go.RowKit Go.Proofs.YtecpcbkoemhclaaDoor.P Go.Proofs.YtecpcbkoemhclaaDoor.Q Go.Proofs.YtecpcbkoemhclaaDoorW.PrintWords Go.Proofs.YtecpcbkoemhclaaDoorW.PrintLast
set_option linter.unusedVariables false
set_option linter.unusedSimpArgs false

theorem FnExactParseBooks : laws_FnExactParseBooks.Pure := by
  intro s hs
  obtain ⟨⟨v, b⟩, hv⟩ : ∃ x, x = specBV s := ⟨_, rfl⟩
  have hi := specB_impl s
  have hsp := specB_ev s hs
  have hlen := specBV_len s
  rw [← hv] at hi hsp hlen
  replace hlen : v.length ≤ 1048576 := hlen
  obtain ⟨m, hm, hh⟩ := markB_both v hlen
  obtain ⟨k1, e1⟩ := hsp
  obtain ⟨k2, e2⟩ := eqBookS_ev v hlen
  obtain ⟨k3, e3⟩ := hm
  obtain ⟨k4, e4⟩ := hh
  obtain ⟨k5, e5⟩ : ∃ K, ∀ k, K ≤ k → ∀ l, numsF 100 (Lib.goFieldsP barP s) = some l → goodK (pairB l) = true → impl_booksText.f k (pairB l) = some (txB (pairB l)) := by
    by_cases h : ∃ l, numsF 100 (Lib.goFieldsP barP s) = some l ∧ goodK (pairB l) = true
    · obtain ⟨l, hn, hg⟩ := h
      obtain ⟨K, hK⟩ := implBooks_ev (pairB l) (goodK_in hg).1 (goodK_in hg).2
      refine ⟨K, fun k hk l2 h2 _ => ?_⟩
      obtain rfl : l = l2 := Option.some.inj (hn.symm.trans h2)
      exact hK k hk
    · exact ⟨0, fun k _ l h2 hg => absurd ⟨l, h2, hg⟩ h⟩
  refine ⟨k1 + k2 + k3 + k4 + k5, goodK, txB, v, b, m, _, AreBooks_eq, e5 _ (by omega), hi, e1 _ (by omega), e2 _ (by omega), e3 _ (by omega), e4 _ (by omega), by omega⟩

end Go.Proofs.YtecpcbkoemhclaaDoor.Pure
