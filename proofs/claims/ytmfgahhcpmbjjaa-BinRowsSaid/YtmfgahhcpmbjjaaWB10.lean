/- The reader of package bin: Open and Bytes. Conditions: the bytes are there; the reader is there. -/
import Derived.Test.YtmfgahhcpmbjjaaWB9
namespace Go.Proofs.Ytmfgahhcpmbjjaa.WB
open Go.RowKit Go.Proofs.YtmfgahhcpmbjjaaW.PrintWords
theorem open_calls (A : Option Addr) (xs : List Int) (c : Nat) (w : World) (hx : Kd.C (Kd.int .u8) w A xs.length xs) (hc : xs.length ≤ c) (hl : xs.length ≤ 1000000) (hv : ∀ x ∈ xs, 0 ≤ x ∧ x ≤ 255) :
    Calls Try.prog 11 #[.slice A xs.length c] w fun e w' => ∃ (B S : Nat) (A' : Option Addr) (c' : Nat), e = .returned (.pointer (some ⟨B, 0, none⟩)) ∧ RdrOf w' B S false A' xs c' ∧ Below w.heap.size w w' := by
  have HN := Aside0.mk (clone_calls A xs c (w.alloc (.cells #[.bool false] 50)) (Kd.C_alloc hx _) hc hl)
  have HV := Aside0.mk hv
  have hS := heap_alloc_new w (.cells #[.bool false] 50)
  have HB := Aside0.mk (below_alloc (Below.refl w.heap.size w) (.cells #[.bool false] 50))
  clear hx hv
  have hu50 := Try.underlying50
  have hu53 := Try.underlying53
  go_enter Try.func11, Try.ntmps11
  go_wp2_with (go_at_call 26; refine HN.out.mono ?_; rintro e w' ⟨v, rfl, ho, hb⟩; obtain ⟨A', c', rfl, hle, hr⟩ := Kd.R_reads ho)
  go_ret
  have hb2 : Below w.heap.size w (w'.alloc (.cells #[.pointer (some ⟨w.heap.size, 0, none⟩), .slice A' xs.length c'] 53)) := below_alloc (below_step HB.out hb) _
  have hb3 := below_alloc hb (.cells #[.pointer (some ⟨w.heap.size, 0, none⟩), .slice A' xs.length c'] 53)
  refine ⟨w'.heap.size, w.heap.size, A', c', rfl, ⟨⟨heap_alloc_new w' _, ?_⟩, Kd.C_alloc hr _, hle, hl, HV.out⟩, hb2⟩
  exact (hb3.block _ (Array.getElem?_eq_some_iff.1 hS).1).trans hS
theorem bytes_calls (B S : Nat) (bad : Bool) (A : Option Addr) (xs : List Int) (c : Nat) (w : World) (h : RdrOf w B S bad A xs c) :
    Calls Try.prog 20 #[.pointer (some ⟨B, 0, none⟩)] w fun e w' => ∃ v, e = .returned v ∧ Kd.R (Kd.int .u8) 5 w' w.heap.size (fun _ => True) v xs ∧ Below w.heap.size w w' := by
  have HN := Aside0.mk (clone_calls A xs c w h.hx h.hc h.hl)
  have h0 := h.h.c0
  have h1 := h.h.c1
  clear h
  have hu53 := Try.underlying53
  go_enter Try.func20, Try.ntmps20
  go_wp2_with (go_at_call 26; refine HN.out.mono ?_; rintro e w' ⟨v, rfl, ho, hb⟩)
  go_ret
  exact ⟨_, rfl, ho, hb⟩
end Go.Proofs.Ytmfgahhcpmbjjaa.WB
