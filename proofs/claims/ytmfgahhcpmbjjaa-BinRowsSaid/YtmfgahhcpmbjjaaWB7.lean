/- The reader of package bin: Part where the bytes are all there. Conditions: the reader is there. -/
import Derived.Test.YtmfgahhcpmbjjaaWB6
namespace Go.Proofs.Ytmfgahhcpmbjjaa.WB
open Go.RowKit Go.Proofs.YtmfgahhcpmbjjaaW.PrintWords
theorem part_at (B S : Nat) (bad : Bool) (A : Option Addr) (xs : List Int) (c a m : Nat) (w : World) (h : RdrOf w B S bad A xs c) (ha : a + m ≤ xs.length) :
    Calls Try.prog 19 #[.pointer (some ⟨B, 0, none⟩), .int .i64 (a : Int), .int .i64 (m : Int)] w fun e w' => ∃ (B' : Nat) (A' : Option Addr), e = .returned (.pointer (some ⟨B', 0, none⟩)) ∧ RdrOf w' B' S bad A' ((xs.drop a).take m) (c - a) ∧ Below w.heap.size w w' := by
  have hll : ((xs.drop a).take m).length = m := by rw [List.length_take, List.length_drop]; omega
  have HN := Aside0.mk (row_at B S bad A xs c a m w h.h h.hx h.hc h.hl ha)
  have HV := Aside0.mk (part_range h.hv a m)
  have HH := Aside0.mk h
  have hl := h.hl
  clear h
  have hu53 := Try.underlying53
  have HC0 : Aside0 (∀ w', Below w.heap.size w w' → w'.cell? ⟨B, 0, none⟩ = some (.pointer (some ⟨S, 0, none⟩))) := ⟨fun w' hb => (HH.out.h.below hb).c0⟩
  go_enter Try.func19, Try.ntmps19
  go_wp2_with (go_at_call 27; refine HN.out.mono ?_; rintro e w' ⟨A', rfl, hA, hC, hb⟩; have hc0 := HC0.out w' hb)
  go_ret
  have hb2 : Below w.heap.size w (w'.alloc (.cells #[.pointer (some ⟨S, 0, none⟩), .slice A' m (c - a)] 53)) := below_alloc hb _
  refine ⟨w'.heap.size, A', rfl, ⟨⟨?_, ?_⟩, ?_, ?_, ?_, HV.out⟩, hb2⟩
  · rw [hll]; exact heap_alloc_new w' _
  · exact (HH.out.h.below hb2).sblk
  · rw [hll]; exact Kd.C_below hA hb2
  · rw [hll]; exact hC
  · rw [hll]; omega
end Go.Proofs.Ytmfgahhcpmbjjaa.WB
