/- The reader of package bin: Word, Int, Long, told that the memory stays as it is. Conditions: the reader is there and the bytes too. -/
import Derived.Test.YtmfgahhcpmbjjaaWB15
namespace Go.Proofs.Ytmfgahhcpmbjjaa.WB
open Go.RowKit Go.Proofs.YtmfgahhcpmbjjaaW.PrintWords
theorem long_atq (B S : Nat) (bad : Bool) (A : Option Addr) (xs : List Int) (c a : Nat) (w : World) (h : RdrOf w B S bad A xs c) (ha : a + 4 ≤ xs.length) :
    Calls Try.prog 16 #[.pointer (some ⟨B, 0, none⟩), .int .i64 (a : Int)] w fun e w' => e = .returned (.int .u32 (numUp ((xs.drop a).take 4) 4)) ∧ w' = w := by
  have HN := Aside0.mk (number_atq B S bad A xs c a 4 w h.h h.hx h.hc h.hl h.hv ha (by decide) _ rfl)
  clear h
  go_enter Try.func16, Try.ntmps16
  go_wp2_with (go_at_call 29; refine HN.out.mono ?_; rintro e w' ⟨rfl, rfl⟩)
  go_ret
  exact ⟨rfl, rfl⟩
theorem word_atq (B S : Nat) (bad : Bool) (A : Option Addr) (xs : List Int) (c a : Nat) (w : World) (h : RdrOf w B S bad A xs c) (ha : a + 2 ≤ xs.length) (v : Int) (hv : v = numUp ((xs.drop a).take 2) 2) :
    Calls Try.prog 13 #[.pointer (some ⟨B, 0, none⟩), .int .i64 (a : Int)] w fun e w' => e = .returned (.int .u16 v) ∧ w' = w := by
  have hr := numUp_range _ (part_range h.hv a 2) 2
  rw [← hv] at hr
  have hm : v % 65536 = v := by omega
  have hn := number_atq B S bad A xs c a 2 w h.h h.hx h.hc h.hl h.hv ha (by decide) _ rfl
  rw [← hv] at hn
  have HN := Aside0.mk hn
  clear h hn hr hv
  go_enter Try.func13, Try.ntmps13
  go_wp2_with (go_at_call 29; refine HN.out.mono ?_; rintro e w' ⟨rfl, rfl⟩)
  go_ret
  exact ⟨rfl, rfl⟩
theorem int_atq (B S : Nat) (bad : Bool) (A : Option Addr) (xs : List Int) (c a : Nat) (w : World) (h : RdrOf w B S bad A xs c) (ha : a + 2 ≤ xs.length) (v : Int) (hv : v = numUp ((xs.drop a).take 2) 2) :
    Calls Try.prog 15 #[.pointer (some ⟨B, 0, none⟩), .int .i64 (a : Int)] w fun e w' => e = .returned (.int .i16 (IntKind.i16.wrap v)) ∧ w' = w := by
  have HN := Aside0.mk (word_atq B S bad A xs c a w h ha v hv)
  clear h hv
  go_enter Try.func15, Try.ntmps15
  go_wp2_with (go_at_call 13; refine HN.out.mono ?_; rintro e w' ⟨rfl, rfl⟩)
  go_ret
  exact ⟨rfl, rfl⟩
theorem word_atiq (ai : Int) (B S : Nat) (bad : Bool) (A : Option Addr) (xs : List Int) (c a : Nat) (w : World) (h : RdrOf w B S bad A xs c) (hai : ai = (a : Int)) (ha : a + 2 ≤ xs.length) (v : Int) (hv : v = numUp ((xs.drop a).take 2) 2) :
    Calls Try.prog 13 #[.pointer (some ⟨B, 0, none⟩), .int .i64 ai] w fun e w' => e = .returned (.int .u16 v) ∧ w' = w := by
  subst hai; exact word_atq B S bad A xs c a w h ha v hv
theorem int_atiq (ai : Int) (B S : Nat) (bad : Bool) (A : Option Addr) (xs : List Int) (c a : Nat) (w : World) (h : RdrOf w B S bad A xs c) (hai : ai = (a : Int)) (ha : a + 2 ≤ xs.length) (v u : Int) (hv : v = numUp ((xs.drop a).take 2) 2) (hu : u = IntKind.i16.wrap v) :
    Calls Try.prog 15 #[.pointer (some ⟨B, 0, none⟩), .int .i64 ai] w fun e w' => e = .returned (.int .i16 u) ∧ w' = w := by
  subst hai hu; exact int_atq B S bad A xs c a w h ha v hv
theorem long_atiq (ai : Int) (B S : Nat) (bad : Bool) (A : Option Addr) (xs : List Int) (c a : Nat) (w : World) (h : RdrOf w B S bad A xs c) (hai : ai = (a : Int)) (ha : a + 4 ≤ xs.length) (v : Int) (hv : v = numUp ((xs.drop a).take 4) 4) :
    Calls Try.prog 16 #[.pointer (some ⟨B, 0, none⟩), .int .i64 ai] w fun e w' => e = .returned (.int .u32 v) ∧ w' = w := by
  subst hai hv; exact long_atq B S bad A xs c a w h ha
end Go.Proofs.Ytmfgahhcpmbjjaa.WB
