import Derived.Test.YtffmdnckapalfaaDoorWalkC3
namespace Go.Proofs.YtffmdnckapalfaaDoor.ExtC
open Go.RowKit Go.Proofs.YtffmdnckapalfaaDoor.SpecC Go.Proofs.YtffmdnckapalfaaDoorW.PrintWords
def cluster_Bounds.f (l0 : List Int) : Option (List Int) := if l0.length ≤ 1000000 then some (outUp l0 l0.length) else none
theorem cluster_Bounds.calls (A0 : Option Addr) (c0 : Nat) (l0 : List Int) (r : List Int) (w : World) (hr0 : Kd.C (Kd.int .i32) w A0 l0.length l0) (_hc0 : l0.length ≤ c0) (hG : Glob w) (h : cluster_Bounds.f l0 = some r) :
    Calls Tryd.prog 23 #[.slice A0 l0.length c0] w fun e w' => ∃ v0_ : Value, e = .returned (v0_) ∧ Kd.R (Kd.int .i64) 3 w' w.heap.size (fun _ => True) v0_ r ∧ Below w.heap.size w w' := by
  unfold cluster_Bounds.f at h
  split at h
  · rename_i hl
    obtain rfl := Option.some.inj h
    exact Bounds_any A0 c0 l0 w hr0 hG hl
  · cases h
end Go.Proofs.YtffmdnckapalfaaDoor.ExtC
