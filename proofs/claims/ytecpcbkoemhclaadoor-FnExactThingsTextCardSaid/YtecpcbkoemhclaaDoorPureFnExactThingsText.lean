/- The program's ThingsText answers as the reference's: what the law's walk wants. It has no conditions. -/
import Derived.Test.YtecpcbkoemhclaaDoorPx0
import Derived.Test.YtecpcbkoemhclaaDoorPx17
import Derived.Test.YtecpcbkoemhclaaDoorQBoxA
import Derived.Test.YtecpcbkoemhclaaDoorQTxt
namespace Go.Proofs.YtecpcbkoemhclaaDoor.Pure
open Go.RowKit Go.Proofs.YtecpcbkoemhclaaDoor.P Go.Proofs.YtecpcbkoemhclaaDoor.Q Go.Proofs.YtecpcbkoemhclaaDoorW.PrintWords Go.Proofs.YtecpcbkoemhclaaDoorW.PrintLast
set_option linter.unusedVariables false
set_option linter.unusedSimpArgs false

theorem FnExactThingsText : laws_FnExactThingsText.Pure := by
  intro l0 h0
  obtain ⟨k1, e1⟩ := toIntS_ev l0 h0
  obtain ⟨k2, e2⟩ := specThingsText_ev l0 h0
  obtain ⟨k3, e3⟩ := eqIntS_ev l0 h0
  refine ⟨k1 + k2 + k3, goodT l0, e1 _ (by omega), e2 _ (by omega), AreThings_eq l0, fun hg => ?_, e3 _ (by omega)⟩
  obtain ⟨h1, h2⟩ := (goodT_iff l0).1 hg
  refine ⟨h0, fun x hx => ?_⟩
  obtain ⟨j, hj, rfl⟩ := List.getElem_of_mem hx
  have := h2 j hj
  rw [rd_get hj] at this
  omega

end Go.Proofs.YtecpcbkoemhclaaDoor.Pure
