/- Package bin: by, the way a letter's number is put. Conditions: none. -/
import Derived.Test.YtmfgahhcpmbjjaaWB10
namespace Go.Proofs.Ytmfgahhcpmbjjaa.WB
open Go.RowKit Go.Proofs.YtmfgahhcpmbjjaaW.PrintWords
/-- The closure of a size, a lowest and a highest number. -/
def byFn (p q r : Nat) : Value := .func (.func 36) #[] #[.pointer (some ⟨p, 0, none⟩), .pointer (some ⟨q, 0, none⟩), .pointer (some ⟨r, 0, none⟩)]
/-- Three cells, each a block of its own. -/
structure Held (w : World) (p q r : Nat) (low high size : Int) : Prop where
  hp : w.cell? ⟨p, 0, none⟩ = some (.int .i64 low)
  hq : w.cell? ⟨q, 0, none⟩ = some (.int .i64 high)
  hr : w.cell? ⟨r, 0, none⟩ = some (.int .i64 size)
theorem by1_calls (size low high : Int) (w : World) :
    Calls Try.prog 35 #[.int .i64 size, .int .i64 low, .int .i64 high] w fun e w' => ∃ p q r, e = .returned (byFn p q r) ∧ Held w' p q r low high size ∧ Below w.heap.size w w' := by
  have hu3 := Try.underlying3
  have hu2 := Try.underlying2
  go_enter Try.func35, Try.ntmps35
  go_wp2
  go_ret
  have h1 := heap_alloc_new w (.cells #[.int .i64 size] 3)
  have h2 := heap_alloc_new (w.alloc (.cells #[.int .i64 size] 3)) (.cells #[.int .i64 low] 2)
  have h3 := heap_alloc_new ((w.alloc (.cells #[.int .i64 size] 3)).alloc (.cells #[.int .i64 low] 2)) (.cells #[.int .i64 high] 2)
  rw [World.size_alloc] at h2
  rw [World.size_alloc, World.size_alloc] at h3
  refine ⟨_, _, _, rfl, ⟨?_, ?_, ?_⟩, below_alloc (below_alloc (below_alloc (Below.refl _ _) _) _) _⟩
  · exact (below_alloc (Below.refl _ _) _).cell (by simp) |>.trans (by rw [cell_of_row _ _ _ _ _ _ h2]; rfl)
  · rw [cell_of_row _ _ _ _ _ _ h3]; rfl
  · exact (below_alloc (below_alloc (Below.refl _ _) _) _).cell (by simp) |>.trans (by rw [cell_of_row _ _ _ _ _ _ h1]; rfl)
/-- A letter's size and range. -/
inductive Way : Int → Int → Int → Int → Prop
  | b : Way 98 1 0 255
  | H : Way 72 2 0 65535
  | h : Way 104 2 (-32768) 32767
  | I : Way 73 4 0 4294967295
theorem by_calls (ch : Int) (w : World) :
    Calls Try.prog 30 #[.int .u8 ch] w fun e w' => ((∃ p q r size low high, e = .returned (.tuple #[byFn p q r, .bool true]) ∧ Held w' p q r low high size ∧ Way ch size low high) ∨ (e = .returned (.tuple #[.nilFunc, .bool false]) ∧ ∀ s l h, ¬ Way ch s l h)) ∧ Below w.heap.size w w' := by
  by_cases h1 : ch = 98
  · subst h1
    go_enter Try.func30, Try.ntmps30
    go_wp2_with (go_at_call 35; refine (by1_calls _ _ _ _).mono ?_; rintro e w' ⟨p, q, r, rfl, hh, hb⟩)
    go_ret2
    exact ⟨.inl ⟨p, q, r, _, _, _, rfl, hh, .b⟩, hb⟩
  by_cases h2 : ch = 72
  · subst h2
    go_enter Try.func30, Try.ntmps30
    go_wp2_with (go_at_call 35; refine (by1_calls _ _ _ _).mono ?_; rintro e w' ⟨p, q, r, rfl, hh, hb⟩)
    go_ret2
    exact ⟨.inl ⟨p, q, r, _, _, _, rfl, hh, .H⟩, hb⟩
  by_cases h3 : ch = 104
  · subst h3
    go_enter Try.func30, Try.ntmps30
    go_wp2_with (go_at_call 35; refine (by1_calls _ _ _ _).mono ?_; rintro e w' ⟨p, q, r, rfl, hh, hb⟩)
    go_ret2
    exact ⟨.inl ⟨p, q, r, _, _, _, rfl, hh, .h⟩, hb⟩
  by_cases h4 : ch = 73
  · subst h4
    go_enter Try.func30, Try.ntmps30
    go_wp2_with (go_at_call 35; refine (by1_calls _ _ _ _).mono ?_; rintro e w' ⟨p, q, r, rfl, hh, hb⟩)
    go_ret2
    exact ⟨.inl ⟨p, q, r, _, _, _, rfl, hh, .I⟩, hb⟩
  have hno : Aside0 (∀ s l h, ¬ Way ch s l h) := ⟨fun s l h hw => by cases hw <;> omega⟩
  go_enter Try.func30, Try.ntmps30
  go_wp2
  go_ret2
  exact ⟨.inr ⟨rfl, hno.out⟩, Below.refl _ _⟩
end Go.Proofs.Ytmfgahhcpmbjjaa.WB
