/- BinNone: a reader that is not there answers so to every call. Conditions: none. -/
import Derived.Test.YtmfgahhcpmbjjaaWB14
namespace Go.Proofs.Ytmfgahhcpmbjjaa.WB
open Go.RowKit Go.Proofs.YtmfgahhcpmbjjaaW.PrintWords
set_option maxHeartbeats 2000000 in
set_option maxRecDepth 100000 in
theorem binNone_walk (a0 a1 : Int) (w : World) (_w0 : (Lit.int .i64 a0).wf = true) (_w1 : (Lit.int .i64 a1).wf = true) :
    Calls Try.prog 4 #[.int .i64 a0, .int .i64 a1] w fun e w' => e = .returned (.bool true) ∧ Below w.heap.size w w' := by
  have HB0 := Aside0.mk (Below.refl w.heap.size w)
  go_enter Try.func4, Try.ntmps4
  go_wp2_with (first
    | (go_at_call 17; (with_reducible refine (bad_nil _).mono ?_); rintro e w1 ⟨rfl, hb⟩; have n0_ := Aside0.mk (below_step HB0.out hb); clear HB0 hb; have HB0 := n0_; clear n0_)
    | (go_at_call 18; (with_reducible refine (len_nil _).mono ?_); rintro e w1 ⟨rfl, hb⟩; have n0_ := Aside0.mk (below_step HB0.out hb); clear HB0 hb; have HB0 := n0_; clear n0_)
    | (go_at_call 14; (with_reducible refine (byte_nil _ _).mono ?_); rintro e w1 ⟨rfl, hb⟩; have n0_ := Aside0.mk (below_step HB0.out hb); clear HB0 hb; have HB0 := n0_; clear n0_)
    | (go_at_call 13; (with_reducible refine (word_nil _ _).mono ?_); rintro e w1 ⟨rfl, hb⟩; have n0_ := Aside0.mk (below_step HB0.out hb); clear HB0 hb; have HB0 := n0_; clear n0_)
    | (go_at_call 15; (with_reducible refine (int_nil _ _).mono ?_); rintro e w1 ⟨rfl, hb⟩; have n0_ := Aside0.mk (below_step HB0.out hb); clear HB0 hb; have HB0 := n0_; clear n0_)
    | (go_at_call 16; (with_reducible refine (long_nil _ _).mono ?_); rintro e w1 ⟨rfl, hb⟩; have n0_ := Aside0.mk (below_step HB0.out hb); clear HB0 hb; have HB0 := n0_; clear n0_)
    | (go_at_call 19; (with_reducible refine (part_nil _ _ _).mono ?_); rintro e w1 ⟨rfl, hb⟩; have n0_ := Aside0.mk (below_step HB0.out hb); clear HB0 hb; have HB0 := n0_; clear n0_)
    | (go_at_call 12; (with_reducible refine (words_nil _ _ _).mono ?_); rintro e w1 ⟨rfl, hb⟩; have n0_ := Aside0.mk (below_step HB0.out hb); clear HB0 hb; have HB0 := n0_; clear n0_)
    | (go_at_call 20; (with_reducible refine (bytes_nil _).mono ?_); rintro e w1 ⟨rfl, hb⟩; have n0_ := Aside0.mk (below_step HB0.out hb); clear HB0 hb; have HB0 := n0_; clear n0_)
    | (go_at_call 10; (with_reducible refine (works_calls _).mono ?_); rintro e w1 ⟨rfl, hb⟩; have n0_ := Aside0.mk (below_step HB0.out hb); clear HB0 hb; have HB0 := n0_; clear n0_))
  go_ret
  exact ⟨rfl, HB0.out⟩
end Go.Proofs.Ytmfgahhcpmbjjaa.WB
