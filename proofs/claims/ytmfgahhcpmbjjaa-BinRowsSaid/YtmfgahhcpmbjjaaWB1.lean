/- The reader of package bin: what its small functions answer. Conditions: the reader is there, as its cells tell, or it is nil. -/
import Derived.Test.YtmfgahhcpmbjjaaPBinNonex0
namespace Go.Proofs.Ytmfgahhcpmbjjaa.WB
open Go.RowKit Go.Proofs.YtmfgahhcpmbjjaaW.PrintWords
/-- A reader at the block B, its state at the block S. -/
structure Rdr (W : World) (B S : Nat) (bad : Bool) (A : Option Addr) (n c : Nat) : Prop where
  blk : W.heap[B]? = some (.cells #[.pointer (some ⟨S, 0, none⟩), .slice A n c] 53 (0, 0))
  sblk : W.heap[S]? = some (.cells #[.bool bad] 50 (0, 0))
theorem Rdr.below {W W' : World} {B S : Nat} {bad : Bool} {A : Option Addr} {n c : Nat} (h : Rdr W B S bad A n c) (hb : Below W.heap.size W W') : Rdr W' B S bad A n c :=
  ⟨(hb.block _ (Array.getElem?_eq_some_iff.1 h.blk).1).trans h.blk, (hb.block _ (Array.getElem?_eq_some_iff.1 h.sblk).1).trans h.sblk⟩
theorem Rdr.c0 {W : World} {B S : Nat} {bad : Bool} {A : Option Addr} {n c : Nat} (h : Rdr W B S bad A n c) : W.cell? ⟨B, 0, none⟩ = some (.pointer (some ⟨S, 0, none⟩)) := by
  rw [cell_of_row _ _ _ _ _ _ h.blk]; rfl
theorem Rdr.c1 {W : World} {B S : Nat} {bad : Bool} {A : Option Addr} {n c : Nat} (h : Rdr W B S bad A n c) : W.cell? ⟨B, 1, none⟩ = some (.slice A n c) := by
  rw [cell_of_row _ _ _ _ _ _ h.blk]; rfl
theorem Rdr.s0 {W : World} {B S : Nat} {bad : Bool} {A : Option Addr} {n c : Nat} (h : Rdr W B S bad A n c) : W.cell? ⟨S, 0, none⟩ = some (.bool bad) := by
  rw [cell_of_row _ _ _ _ _ _ h.sblk]; rfl
theorem bad_calls (B S : Nat) (bad : Bool) (A : Option Addr) (n c : Nat) (w : World) (h : Rdr w B S bad A n c) :
    Calls Try.prog 17 #[.pointer (some ⟨B, 0, none⟩)] w fun e w' => e = .returned (.bool bad) ∧ Below w.heap.size w w' := by
  have h0 := h.c0
  have h1 := h.s0
  clear h
  have hu50 := Try.underlying50
  have hu53 := Try.underlying53
  go_enter Try.func17, Try.ntmps17
  go_wp2
  go_ret
  exact ⟨rfl, Below.refl _ _⟩
theorem bad_nil (w : World) : Calls Try.prog 17 #[.pointer none] w fun e w' => e = .returned (.bool true) ∧ Below w.heap.size w w' := by
  go_enter Try.func17, Try.ntmps17
  go_wp2
  go_ret
  exact ⟨rfl, Below.refl _ _⟩
theorem len_calls (B S : Nat) (bad : Bool) (A : Option Addr) (n c : Nat) (w : World) (h : Rdr w B S bad A n c) :
    Calls Try.prog 18 #[.pointer (some ⟨B, 0, none⟩)] w fun e w' => e = .returned (.int .i64 n) ∧ Below w.heap.size w w' := by
  have h0 := h.c0
  have h1 := h.c1
  clear h
  have hu53 := Try.underlying53
  go_enter Try.func18, Try.ntmps18
  go_wp2
  go_ret
  exact ⟨rfl, Below.refl _ _⟩
theorem len_nil (w : World) : Calls Try.prog 18 #[.pointer none] w fun e w' => e = .returned (.int .i64 0) ∧ Below w.heap.size w w' := by
  go_enter Try.func18, Try.ntmps18
  go_wp2
  go_ret
  exact ⟨rfl, Below.refl _ _⟩
end Go.Proofs.Ytmfgahhcpmbjjaa.WB
