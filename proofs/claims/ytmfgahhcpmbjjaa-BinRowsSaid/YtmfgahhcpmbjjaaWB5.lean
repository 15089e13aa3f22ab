/- The reader of package bin: Byte, Word, Long where the bytes are all there. Conditions: the reader is there. -/
import Derived.Test.YtmfgahhcpmbjjaaWB4
namespace Go.Proofs.Ytmfgahhcpmbjjaa.WB
open Go.RowKit Go.Proofs.YtmfgahhcpmbjjaaW.PrintWords
/-- A reader of these bytes. -/
structure RdrOf (w : World) (B S : Nat) (bad : Bool) (A : Option Addr) (xs : List Int) (c : Nat) : Prop where
  h : Rdr w B S bad A xs.length c
  hx : Kd.C (Kd.int .u8) w A xs.length xs
  hc : xs.length ≤ c
  hl : xs.length ≤ 1000000
  hv : ∀ x ∈ xs, 0 ≤ x ∧ x ≤ 255
theorem RdrOf.below {w w' : World} {B S : Nat} {bad : Bool} {A : Option Addr} {xs : List Int} {c : Nat} (h : RdrOf w B S bad A xs c) (hb : Below w.heap.size w w') : RdrOf w' B S bad A xs c :=
  ⟨h.h.below hb, Kd.C_below h.hx hb, h.hc, h.hl, h.hv⟩
theorem part_range {xs : List Int} (hv : ∀ x ∈ xs, 0 ≤ x ∧ x ≤ 255) (a m : Nat) : ∀ x ∈ (xs.drop a).take m, 0 ≤ x ∧ x ≤ 255 := fun x hx => hv x (List.mem_of_mem_drop (List.mem_of_mem_take hx))
theorem long_at (B S : Nat) (bad : Bool) (A : Option Addr) (xs : List Int) (c a : Nat) (w : World) (h : RdrOf w B S bad A xs c) (ha : a + 4 ≤ xs.length) :
    Calls Try.prog 16 #[.pointer (some ⟨B, 0, none⟩), .int .i64 (a : Int)] w fun e w' => e = .returned (.int .u32 (numUp ((xs.drop a).take 4) 4)) ∧ Below w.heap.size w w' := by
  have HN := Aside0.mk (number_at B S bad A xs c a 4 w h.h h.hx h.hc h.hl h.hv ha (by decide) _ rfl)
  clear h
  go_enter Try.func16, Try.ntmps16
  go_wp2_with (go_at_call 29; refine HN.out.mono ?_; rintro e w' ⟨rfl, hb⟩)
  go_ret
  exact ⟨rfl, hb⟩
theorem byte_at (B S : Nat) (bad : Bool) (A : Option Addr) (xs : List Int) (c a : Nat) (w : World) (h : RdrOf w B S bad A xs c) (ha : a + 1 ≤ xs.length) (v : Int) (hv : v = numUp ((xs.drop a).take 1) 1) :
    Calls Try.prog 14 #[.pointer (some ⟨B, 0, none⟩), .int .i64 (a : Int)] w fun e w' => e = .returned (.int .u8 v) ∧ Below w.heap.size w w' := by
  have hr := numUp_range _ (part_range h.hv a 1) 1
  rw [← hv] at hr
  have hm : v % 256 = v := by omega
  have hn := number_at B S bad A xs c a 1 w h.h h.hx h.hc h.hl h.hv ha (by decide) _ rfl
  rw [← hv] at hn
  have HN := Aside0.mk hn
  clear h hn hr hv
  go_enter Try.func14, Try.ntmps14
  go_wp2_with (go_at_call 29; refine HN.out.mono ?_; rintro e w' ⟨rfl, hb⟩)
  go_ret
  exact ⟨rfl, hb⟩
theorem word_at (B S : Nat) (bad : Bool) (A : Option Addr) (xs : List Int) (c a : Nat) (w : World) (h : RdrOf w B S bad A xs c) (ha : a + 2 ≤ xs.length) (v : Int) (hv : v = numUp ((xs.drop a).take 2) 2) :
    Calls Try.prog 13 #[.pointer (some ⟨B, 0, none⟩), .int .i64 (a : Int)] w fun e w' => e = .returned (.int .u16 v) ∧ Below w.heap.size w w' := by
  have hr := numUp_range _ (part_range h.hv a 2) 2
  rw [← hv] at hr
  have hm : v % 65536 = v := by omega
  have hn := number_at B S bad A xs c a 2 w h.h h.hx h.hc h.hl h.hv ha (by decide) _ rfl
  rw [← hv] at hn
  have HN := Aside0.mk hn
  clear h hn hr hv
  go_enter Try.func13, Try.ntmps13
  go_wp2_with (go_at_call 29; refine HN.out.mono ?_; rintro e w' ⟨rfl, hb⟩)
  go_ret
  exact ⟨rfl, hb⟩
end Go.Proofs.Ytmfgahhcpmbjjaa.WB
