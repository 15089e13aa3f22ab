import Derived.Test.YtffmdnckapalfaaDoorWalkJ2
namespace Go.Proofs.YtffmdnckapalfaaDoor.ExtJ
open Go.RowKit Go.Shelf Go.Proofs.YtffmdnckapalfaaDoor.SpecJ Go.Proofs.YtffmdnckapalfaaDoorW.PrintWords

theorem jb_no (x y : Int) (h2 : x ≠ 2) (h3 : x ≠ 3) (h5 : x ≠ 5) : jb x y = false := by simp [jb, h2, h3, h5]
theorem jb_yes (x y : Int) (h : x = 2 ∨ x = 3 ∨ x = 5) : jb x y = (y == 1 || y == 2 || y == 3) := by
  rcases h with rfl | rfl | rfl <;> simp [jb]
set_option maxHeartbeats 1000000 in
theorem Joins_calls (a b : Int) (w : World) (hG : Glob w) :
    Calls Tryd.prog 17 #[.int .i32 a, .int .i32 b] w fun e w' => e = .returned (.bool (jb (jn a) (jn b))) ∧ Below w.heap.size w w' := by
  have hJ := Aside0.mk (fun (r : Int) (W : World) (hb : Below w.heap.size w W) => ucd_Joining.calls r (jn r) W (hG.below hb) rfl)
  clear hG
  obtain ⟨x, hx⟩ : ∃ x, x = jn a := ⟨_, rfl⟩
  obtain ⟨y, hy⟩ : ∃ y, y = jn b := ⟨_, rfl⟩
  have hA := Aside0.mk (fun W hb => hx ▸ hJ.out a W hb)
  have hB := Aside0.mk (fun W hb => hy ▸ hJ.out b W hb)
  rw [← hx, ← hy]
  clear hx hy hJ
  have hy4 : y = 1 ∨ y = 2 ∨ y = 3 ∨ ((y == 1) = false ∧ (y == 2) = false ∧ (y == 3) = false) := by
    by_cases h1 : y = 1
    · exact .inl h1
    · by_cases h2 : y = 2
      · exact .inr (.inl h2)
      · by_cases h3 : y = 3
        · exact .inr (.inr (.inl h3))
        · exact .inr (.inr (.inr ⟨by simp [h1], by simp [h2], by simp [h3]⟩))
  by_cases hs : x = 2 ∨ x = 3 ∨ x = 5
  · rw [jb_yes x y hs]
    rcases hs with rfl | rfl | rfl
    all_goals
      rcases hy4 with rfl | rfl | rfl | ⟨h1, h2, h3⟩
      all_goals
        go_enter Tryd.func17, Tryd.ntmps17
        go_wp2_with (go_at_call 30; first | (refine (hA.out _ (Below.refl _ _)).mono ?_; rintro e w' ⟨rfl, hb1⟩) | (refine (hB.out _ hb1).mono ?_; rintro e w' ⟨rfl, hb2⟩))
        go_ret
        exact ⟨by first | rfl | simp [h1, h2, h3], hb1.trans (hb2.mono hb1.size)⟩
  · rw [jb_no x y (fun h => hs (.inl h)) (fun h => hs (.inr (.inl h))) (fun h => hs (.inr (.inr h)))]
    have e2 : (x == 2) = false := by simp; exact fun h => hs (.inl h)
    have e3 : (x == 3) = false := by simp; exact fun h => hs (.inr (.inl h))
    have e5 : (x == 5) = false := by simp; exact fun h => hs (.inr (.inr h))
    clear hs hy4
    go_enter Tryd.func17, Tryd.ntmps17
    go_wp2_with (go_at_call 30; refine (hA.out _ (Below.refl _ _)).mono ?_; rintro e w' ⟨rfl, hb1⟩)
    go_ret
    exact ⟨rfl, hb1⟩
end Go.Proofs.YtffmdnckapalfaaDoor.ExtJ
