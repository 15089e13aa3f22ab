/- The condition of the joining rows: a start that meets it, and what it gives the walks. -/
import Derived.Test.YtffmdnckapalfaaDoorLaidK
import Derived.Test.YtffmdnckapalfaaDoorExtJ
namespace Go.Proofs.YtffmdnckapalfaaDoor.LaidJ
open Go Go.ChangeShapes Go.WideShapes Go.ChangeAt Go.RowKit Go.Proofs.YtffmdnckapalfaaDoor.SpecJ Go.Proofs.YtffmdnckapalfaaDoor.LaidK
def laidL : List (String × DataW Unit) := [("calamus/ucd.joinings", Rows.laid_calamus_ucd_joinings), ("calamus/joining.forms", Rows.laid_calamus_joining_forms)]
set_option maxRecDepth 100000 in
theorem door_met (os : Os) (args : Array Value) : laidMetH Tryd.prog laidL ((World.doorLaid Tryd.prog 138 os).forCall (fun _ _ => 0) ⟨#[], args, []⟩).memory :=
  laidMetH_of_parts3 (fuel := 8) (laidMet_of_run' 8 (by kernel_rfl) (by kernel_rfl)) (by kernel_rfl) (by kernel_rfl)
theorem glob {W : World} (h : laidMetH Tryd.prog laidL W) : ExtJ.Glob W := by
  rw [MakeChecks.laidMetH_plain _ _ _ (by kernel_rfl)] at h
  obtain ⟨ps, ⟨g0, t0, cs0, f0, p0, q0, hg0, ht0, hv0, hd0, ⟨g1, t1, cs1, f1, p1, q1, hg1, ht1, hv1, hd1, _, _⟩, _⟩, _, _⟩ := h
  obtain rfl := Option.some.inj (gJ.symm.trans hg0)
  obtain rfl := Option.some.inj (gF.symm.trans hg1)
  obtain rfl := Option.some.inj (tJ.symm.trans ht0)
  obtain rfl := Option.some.inj (tF.symm.trans ht1)
  have hl : jtab.length = 62 := by decide
  rw [laidJ] at hd0
  have hJ := spans_of_trod Tryd.underlying65 hl hd0
  have hF := four_of_trod hd1
  simp only [Array.getElem?_toList] at hF hJ
  refine ⟨fun i x hx => ?_, ?_, ?_, ?_, ?_⟩
  · obtain ⟨h1, h2, h3⟩ := hJ i x hx
    exact ⟨(World.var?_cell hg0 hv0 _).trans h1, (World.var?_cell hg0 hv0 _).trans h2, (World.var?_cell hg0 hv0 _).trans h3⟩
  · exact (World.var?_cell hg1 hv1 _).trans hF.1
  · exact (World.var?_cell hg1 hv1 _).trans hF.2.1
  · exact (World.var?_cell hg1 hv1 _).trans hF.2.2.1
  · exact (World.var?_cell hg1 hv1 _).trans hF.2.2.2
end Go.Proofs.YtffmdnckapalfaaDoor.LaidJ
