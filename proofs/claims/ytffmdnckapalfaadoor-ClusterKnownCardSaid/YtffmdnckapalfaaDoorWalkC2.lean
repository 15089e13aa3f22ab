import Derived.Test.YtffmdnckapalfaaDoorVx1
import Derived.Test.YtffmdnckapalfaaDoorWalkC1
namespace Go.Proofs.YtffmdnckapalfaaDoor.ExtC
open Go.RowKit Go.Proofs.YtffmdnckapalfaaDoorW.PrintWords

/-- What is known ahead of a character: its class, the RI there, a Pict, a Pict and a ZWJ. -/
structure St where
  c : Int
  f : Int
  p : Bool
  j : Bool
def St.v (s : St) : Value := .agg #[.int .u8 s.c, .int .i64 s.f, .bool s.p, .bool s.j]
def St.next (s : St) (c : Int) : St := ⟨c, if c = 6 then s.f + 1 else 0, if c = 13 then true else if c = 4 then s.p else false, if c = 5 then s.p else false⟩
set_option maxHeartbeats 2000000 in
theorem next_calls (s : St) (c : Int) (w : World) (h0 : 0 ≤ s.f) (hf : s.f ≤ 1000000) :
    Calls Tryd.prog 38 #[.agg #[.int .u8 s.c, .int .i64 s.f, .bool s.p, .bool s.j], .int .u8 c] w fun e w' => e = .returned (.agg #[.int .u8 (s.next c).c, .int .i64 (s.next c).f, .bool (s.next c).p, .bool (s.next c).j]) ∧ Below w.heap.size w w' := by
  obtain ⟨a, f, p, j⟩ := s
  dsimp only at h0 hf ⊢
  have hu49 := Tryd.underlying49
  by_cases h6 : c = 6
  · subst h6
    go_enter Tryd.func38, Tryd.ntmps38
    go_wp2
    exact bodyPost_ret (v := .agg #[.int .u8 6, .int .i64 (f + 1), .bool false, .bool false]) (by simp [results, Tryd.results38, go_sem]) rfl ⟨rfl, by repeat (first | exact Below.refl _ _ | apply below_alloc)⟩
  · by_cases h13 : c = 13
    · subst h13
      go_enter Tryd.func38, Tryd.ntmps38
      go_wp2
      exact bodyPost_ret (v := .agg #[.int .u8 13, .int .i64 0, .bool true, .bool false]) (by simp [results, Tryd.results38, go_sem]) rfl ⟨rfl, by repeat (first | exact Below.refl _ _ | apply below_alloc)⟩
    · by_cases h4 : c = 4
      · subst h4
        go_enter Tryd.func38, Tryd.ntmps38
        go_wp2
        exact bodyPost_ret (v := .agg #[.int .u8 4, .int .i64 0, .bool p, .bool false]) (by simp [results, Tryd.results38, go_sem]) rfl ⟨rfl, by repeat (first | exact Below.refl _ _ | apply below_alloc)⟩
      · by_cases h5 : c = 5
        · subst h5
          go_enter Tryd.func38, Tryd.ntmps38
          go_wp2
          exact bodyPost_ret (v := .agg #[.int .u8 5, .int .i64 0, .bool false, .bool p]) (by simp [results, Tryd.results38, go_sem]) rfl ⟨rfl, by repeat (first | exact Below.refl _ _ | apply below_alloc)⟩
        · have e6 : (c == 6) = false := by simp [h6]
          have e13 : (c == 13) = false := by simp [h13]
          have e4 : (c == 4) = false := by simp [h4]
          have e5 : (c == 5) = false := by simp [h5]
          have hn : (⟨c, 0, false, false⟩ : St) = St.next ⟨a, f, p, j⟩ c := by simp [St.next, h6, h13, h4, h5]
          rw [← hn]
          clear h6 h13 h4 h5 hn
          go_enter Tryd.func38, Tryd.ntmps38
          go_wp2
          exact bodyPost_ret (v := .agg #[.int .u8 c, .int .i64 0, .bool false, .bool false]) (by simp [results, Tryd.results38, go_sem]) rfl ⟨rfl, by repeat (first | exact Below.refl _ _ | apply below_alloc)⟩
end Go.Proofs.YtffmdnckapalfaaDoor.ExtC
