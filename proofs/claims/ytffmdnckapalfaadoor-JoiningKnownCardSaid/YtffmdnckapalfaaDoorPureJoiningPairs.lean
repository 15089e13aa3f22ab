/- Any two characters join in the program as the reference says. No conditions. -/
import Derived.Test.YtffmdnckapalfaaDoorJx3
import Derived.Test.YtffmdnckapalfaaDoorPurJ
namespace Go.Proofs.YtffmdnckapalfaaDoor.Pure
open Go.RowKit Go.Proofs.YtffmdnckapalfaaDoor.J Go.Proofs.YtffmdnckapalfaaDoor.PurJ
theorem JoiningPairs : calamuslaw15_JoiningPairs.Pure := by
  intro a b _ _
  refine ⟨1, ?_⟩
  unfold calamuslaw15_JoiningPairs.f
  rw [joins_own 0, joins_ref, works_ok 0]
  simp
end Go.Proofs.YtffmdnckapalfaaDoor.Pure
