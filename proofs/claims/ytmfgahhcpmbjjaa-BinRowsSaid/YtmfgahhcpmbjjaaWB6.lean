/- The reader of package bin: Int where the bytes are all there. Conditions: as told. -/
import Derived.Test.YtmfgahhcpmbjjaaWB5
namespace Go.Proofs.Ytmfgahhcpmbjjaa.WB
open Go.RowKit Go.Proofs.YtmfgahhcpmbjjaaW.PrintWords
theorem int_at (B S : Nat) (bad : Bool) (A : Option Addr) (xs : List Int) (c a : Nat) (w : World) (h : RdrOf w B S bad A xs c) (ha : a + 2 ≤ xs.length) (v : Int) (hv : v = numUp ((xs.drop a).take 2) 2) :
    Calls Try.prog 15 #[.pointer (some ⟨B, 0, none⟩), .int .i64 (a : Int)] w fun e w' => e = .returned (.int .i16 (IntKind.i16.wrap v)) ∧ Below w.heap.size w w' := by
  have HN := Aside0.mk (word_at B S bad A xs c a w h ha v hv)
  clear h hv
  go_enter Try.func15, Try.ntmps15
  go_wp2_with (go_at_call 13; refine HN.out.mono ?_; rintro e w' ⟨rfl, hb⟩)
  go_ret
  exact ⟨rfl, hb⟩
end Go.Proofs.Ytmfgahhcpmbjjaa.WB
