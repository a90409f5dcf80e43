/- The program's BoxesOf answers as the reference's: what the law's walk wants. It has no conditions. -/
import Derived.Test.YtchbjdoneanhpaaPx0
import Derived.Test.YtchbjdoneanhpaaPx14
import Derived.Test.YtchbjdoneanhpaaQBo
import Derived.Test.YtchbjdoneanhpaaQMark
namespace Go.Proofs.Ytchbjdoneanhpaa.Pure
open Go.RowKit Go.Proofs.Ytchbjdoneanhpaa.P Go.Proofs.Ytchbjdoneanhpaa.Q Go.Proofs.YtchbjdoneanhpaaW.PrintWords Go.Proofs.YtchbjdoneanhpaaW.PrintLast
set_option linter.unusedVariables false
set_option linter.unusedSimpArgs false

theorem FnExactBoxesOf : laws_FnExactBoxesOf.Pure := by
  intro l0 a1 l2 h0 h2
  obtain ⟨v, b, hs, hi, hn, hr⟩ := boxes_both l0 a1 l2 h0 h2
  obtain ⟨m0, hm0, _⟩ := mark_both l0 h0 1 (by omega)
  obtain ⟨m1, hm1, _⟩ := mark_both l2 h2 (1 + l0.length) (by omega)
  obtain ⟨mv, q, hq1, hq2⟩ := markSS_both v hn hr
  obtain ⟨k1, e1⟩ := toIntS_ev l0 h0
  obtain ⟨k2, e2⟩ := toIntS_ev l2 h2
  obtain ⟨k3, e3⟩ := hs
  obtain ⟨k4, e4⟩ := hi
  obtain ⟨k5, e5⟩ := eqIntSS_ev v hn hr
  obtain ⟨k6, e6⟩ := eqIntS_ev l0 h0
  obtain ⟨k7, e7⟩ := eqIntS_ev l2 h2
  obtain ⟨k8, e8⟩ := hm0
  obtain ⟨k9, e9⟩ := hm1
  obtain ⟨k10, e10⟩ := hq1
  obtain ⟨k11, e11⟩ := hq2
  obtain ⟨K, hK⟩ : ∃ K, K = k1 + k2 + k3 + k4 + k5 + k6 + k7 + k8 + k9 + k10 + k11 := ⟨_, rfl⟩
  exact ⟨K, v, b, _, m0, _, m1, _, mv, e1 K (by omega), e2 K (by omega), e3 K (by omega), e4 K (by omega), e5 K (by omega), e6 K (by omega), e7 K (by omega), e8 K (by omega), e9 K (by omega), by omega, e10 K (by omega), e11 K (by omega), by omega⟩

end Go.Proofs.Ytchbjdoneanhpaa.Pure
