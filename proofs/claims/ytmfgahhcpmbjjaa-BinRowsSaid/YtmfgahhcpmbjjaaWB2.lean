/- The reader of package bin: a row of its bytes. Conditions: the reader is there and the bytes are all there; or it is nil. -/
import Derived.Test.YtmfgahhcpmbjjaaWB1
namespace Go.Proofs.Ytmfgahhcpmbjjaa.WB
open Go.RowKit Go.Proofs.YtmfgahhcpmbjjaaW.PrintWords
theorem info5 : (Try.prog.info? 5).map (fun i => (i.zero, i.size, i.bytes)) = some (some (.int .u8 0), 1, 1) := by kernel_rfl
theorem row_nil (a m : Int) (w : World) : Calls Try.prog 27 #[.pointer none, .int .i64 a, .int .i64 m] w fun e w' => e = .returned (.tuple #[.slice none 0 0, .bool false]) ∧ Below w.heap.size w w' := by
  go_enter Try.func27, Try.ntmps27
  go_wp2
  go_ret2
  exact ⟨rfl, Below.refl _ _⟩
theorem row_calls (B S : Nat) (bad : Bool) (A : Option Addr) (xs : List Int) (c : Nat) (a m : Int) (w : World) (h : Rdr w B S bad A xs.length c) (hx : Kd.C (Kd.int .u8) w A xs.length xs) (hc : xs.length ≤ c) (hl : xs.length ≤ 1000000) (h0 : 0 ≤ a) (hm : 0 ≤ m) (ha : a + m ≤ xs.length) :
    Calls Try.prog 27 #[.pointer (some ⟨B, 0, none⟩), .int .i64 a, .int .i64 m] w fun e w' => (∃ A' : Option Addr, e = .returned (.tuple #[.slice A' ((a + m).toNat - a.toNat) (c - a.toNat), .bool true]) ∧ Kd.C (Kd.int .u8) w A' ((a + m).toNat - a.toNat) ((xs.take (a + m).toNat).drop a.toNat) ∧ ((a + m).toNat - a.toNat) ≤ c - a.toNat) ∧ Below w.heap.size w w' := by
  have hc1 := h.c1
  clear h
  have hu22 := Try.underlying22
  have hu53 := Try.underlying53
  obtain ⟨i0, hi0, _, hsz, _⟩ := info_parts info5
  obtain ⟨A', hcut, hA, hC⟩ := print_mid_of (P := Try.prog) (Value.int .u8) 0 22 5 .i64 .i64 Try.underlying22 hi0 hsz A c xs a (a + m) h0 (by omega) ha hc
  have hl2 : ((xs.take (a + m).toNat).drop a.toNat).length = (a + m).toNat - a.toNat := by rw [List.length_drop, List.length_take]; omega
  have hR := Kd.C_of_reads (h1 := fun _ => rfl) (hA _ (Kd.reads_of_C hx))
  rw [hl2] at hR hC
  have HR : Aside0 (Kd.C (Kd.int .u8) w A' ((a + m).toNat - a.toNat) ((xs.take (a + m).toNat).drop a.toNat)) := Aside0.mk hR
  have HC := Aside0.mk hC
  clear hl2 hR
  clear hA hC hx hi0 hsz
  have f1 : ¬ a < 0 := by omega
  have f2 : ¬ m < 0 := by omega
  have f3 : ¬ a > (xs.length : Int) := by omega
  have f4 : ¬ m > (xs.length : Int) - a := by omega
  have f3' : ¬ (xs.length : Int) < a := by omega
  have f4' : ¬ (xs.length : Int) - a < m := by omega
  have w1 : wrap64 ((xs.length : Int) - a) = (xs.length : Int) - a := by unfold wrap64; omega
  have w2 : wrap64 (a + m) = a + m := by unfold wrap64; omega
  unfold wrap64 at w1 w2
  go_enter Try.func27, Try.ntmps27
  go_wp2
  go_ret2
  exact ⟨⟨A', rfl, HR.out, by have := HC.out; omega⟩, Below.refl _ _⟩
/-- The same with whole numbers that are counted. -/
theorem row_at (B S : Nat) (bad : Bool) (A : Option Addr) (xs : List Int) (c : Nat) (a m : Nat) (w : World) (h : Rdr w B S bad A xs.length c) (hx : Kd.C (Kd.int .u8) w A xs.length xs) (hc : xs.length ≤ c) (hl : xs.length ≤ 1000000) (ha : a + m ≤ xs.length) :
    Calls Try.prog 27 #[.pointer (some ⟨B, 0, none⟩), .int .i64 (a : Int), .int .i64 (m : Int)] w fun e w' => ∃ A' : Option Addr, e = .returned (.tuple #[.slice A' m (c - a), .bool true]) ∧ Kd.C (Kd.int .u8) w A' m ((xs.drop a).take m) ∧ m ≤ c - a ∧ Below w.heap.size w w' := by
  have e1 : ((a : Int) + (m : Int)).toNat - (a : Int).toNat = m := by omega
  have e2 : (xs.take ((a : Int) + (m : Int)).toNat).drop (a : Int).toNat = (xs.drop a).take m := by rw [List.drop_take, e1, Int.toNat_natCast]
  refine (row_calls B S bad A xs c a m w h hx hc hl (by omega) (by omega) (by omega)).mono ?_
  rintro e w' ⟨⟨A', h1, h2, h3⟩, h4⟩
  rw [e1] at h1 h2 h3
  rw [e2] at h2
  rw [Int.toNat_natCast] at h1 h3
  exact ⟨A', h1, h2, h3, h4⟩
end Go.Proofs.Ytmfgahhcpmbjjaa.WB
