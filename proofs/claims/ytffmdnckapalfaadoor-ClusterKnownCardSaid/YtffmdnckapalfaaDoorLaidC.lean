/- The condition of the cluster rows: a start that meets it, and what it gives the walks. -/
import Derived.Test.YtffmdnckapalfaaDoorLaidK
import Derived.Test.YtffmdnckapalfaaDoorWalkC1
namespace Go.Proofs.YtffmdnckapalfaaDoor.LaidC
open Go Go.ChangeShapes Go.WideShapes Go.ChangeAt Go.RowKit Go.Proofs.YtffmdnckapalfaaDoor.SpecC Go.Proofs.YtffmdnckapalfaaDoor.LaidK
def laidL : List (String × DataW Unit) := [("calamus/ucd.clusters", Rows.laid_calamus_ucd_clusters)]
set_option maxRecDepth 100000 in
theorem door_met (os : Os) (args : Array Value) : laidMetH Tryd.prog laidL ((World.doorLaid Tryd.prog 138 os).forCall (fun _ _ => 0) ⟨#[], args, []⟩).memory :=
  laidMetH_of_parts3 (fuel := 8) (laidMet_of_run' 8 (by kernel_rfl) (by kernel_rfl)) (by kernel_rfl) (by kernel_rfl)
theorem glob {W : World} (h : laidMetH Tryd.prog laidL W) : ExtC.Glob W := by
  rw [MakeChecks.laidMetH_plain _ _ _ (by kernel_rfl)] at h
  obtain ⟨ps, ⟨g0, t0, cs0, f0, p0, q0, hg0, ht0, hv0, hd0, _, _⟩, _, _⟩ := h
  obtain rfl := Option.some.inj (gC.symm.trans hg0)
  obtain rfl := Option.some.inj (tC.symm.trans ht0)
  have hl : ctab.length = 50 := by decide
  rw [laidC] at hd0
  have hJ := spans_of_trod Tryd.underlying68 hl hd0
  simp only [Array.getElem?_toList] at hJ
  refine ⟨fun i x hx => ?_⟩
  obtain ⟨h1, h2, h3⟩ := hJ i x hx
  exact ⟨(World.var?_cell hg0 hv0 _).trans h1, (World.var?_cell hg0 hv0 _).trans h2, (World.var?_cell hg0 hv0 _).trans h3⟩
end Go.Proofs.YtffmdnckapalfaaDoor.LaidC
