/- The reader of package bin: Words of a reader that is not there. No conditions. -/
import Derived.Test.YtmfgahhcpmbjjaaWB7
namespace Go.Proofs.Ytmfgahhcpmbjjaa.WB
open Go.RowKit Go.Proofs.YtmfgahhcpmbjjaaW.PrintWords
theorem words_nil (a n : Int) (w : World) : Calls Try.prog 12 #[.pointer none, .int .i64 a, .int .i64 n] w fun e w' => e = .returned (.slice none 0 0) ∧ Below w.heap.size w w' := by
  by_cases h0 : n < 0
  · go_enter Try.func12, Try.ntmps12
    go_wp2_with (go_at_call 27; refine (row_nil a _ _).mono ?_; rintro e w' ⟨rfl, hb⟩)
    go_ret
    exact ⟨rfl, hb⟩
  · by_cases h1 : n > 0
    · have h1' : (0 : Int) < n := h1
      go_enter Try.func12, Try.ntmps12
      go_wp2_with (first | (go_at_call 18; refine (len_nil _).mono ?_; rintro e w1 ⟨rfl, hb1⟩) | (go_at_call 27; refine (row_nil a _ _).mono ?_; rintro e w' ⟨rfl, hb⟩))
      go_ret
      exact ⟨rfl, hb1.trans (hb.mono hb1.size)⟩
    · obtain rfl : n = 0 := by omega
      go_enter Try.func12, Try.ntmps12
      go_wp2_with (first | (go_at_call 18; refine (len_nil _).mono ?_; rintro e w1 ⟨rfl, hb1⟩) | (go_at_call 27; refine (row_nil a _ _).mono ?_; rintro e w' ⟨rfl, hb⟩))
      go_ret
      exact ⟨rfl, hb1.trans (hb.mono hb1.size)⟩
end Go.Proofs.Ytmfgahhcpmbjjaa.WB
