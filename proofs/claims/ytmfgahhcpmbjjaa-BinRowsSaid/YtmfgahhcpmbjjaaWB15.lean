/- The reader of package bin: Byte, told that the memory stays as it is. Conditions: the reader is there and the byte too. -/
import Derived.Test.YtmfgahhcpmbjjaaWB14
namespace Go.Proofs.Ytmfgahhcpmbjjaa.WB
open Go.RowKit Go.Proofs.YtmfgahhcpmbjjaaW.PrintWords
theorem row_callsq (B S : Nat) (bad : Bool) (A : Option Addr) (xs : List Int) (c : Nat) (a m : Int) (w : World) (h : Rdr w B S bad A xs.length c) (hx : Kd.C (Kd.int .u8) w A xs.length xs) (hc : xs.length ≤ c) (hl : xs.length ≤ 1000000) (h0 : 0 ≤ a) (hm : 0 ≤ m) (ha : a + m ≤ xs.length) :
    Calls Try.prog 27 #[.pointer (some ⟨B, 0, none⟩), .int .i64 a, .int .i64 m] w fun e w' => (∃ A' : Option Addr, e = .returned (.tuple #[.slice A' ((a + m).toNat - a.toNat) (c - a.toNat), .bool true]) ∧ Kd.C (Kd.int .u8) w A' ((a + m).toNat - a.toNat) ((xs.take (a + m).toNat).drop a.toNat) ∧ ((a + m).toNat - a.toNat) ≤ c - a.toNat) ∧ w' = w := by
  have hc1 := h.c1
  clear h
  have hu22 := Try.underlying22
  have hu53 := Try.underlying53
  obtain ⟨i0, hi0, _, hsz, _⟩ := info_parts info5
  obtain ⟨A', hcut, hA, hC⟩ := print_mid_of (P := Try.prog) (Value.int .u8) 0 22 5 .i64 .i64 Try.underlying22 hi0 hsz A c xs a (a + m) h0 (by omega) ha hc
  have hl2 : ((xs.take (a + m).toNat).drop a.toNat).length = (a + m).toNat - a.toNat := by rw [List.length_drop, List.length_take]; omega
  have hR := Kd.C_of_reads (h1 := fun _ => rfl) (hA _ (Kd.reads_of_C hx))
  rw [hl2] at hR hC
  have HR : Aside0 (Kd.C (Kd.int .u8) w A' ((a + m).toNat - a.toNat) ((xs.take (a + m).toNat).drop a.toNat)) := Aside0.mk hR
  have HC := Aside0.mk hC
  clear hl2 hR
  clear hA hC hx hi0 hsz
  have f1 : ¬ a < 0 := by omega
  have f2 : ¬ m < 0 := by omega
  have f3 : ¬ a > (xs.length : Int) := by omega
  have f4 : ¬ m > (xs.length : Int) - a := by omega
  have f3' : ¬ (xs.length : Int) < a := by omega
  have f4' : ¬ (xs.length : Int) - a < m := by omega
  have w1 : wrap64 ((xs.length : Int) - a) = (xs.length : Int) - a := by unfold wrap64; omega
  have w2 : wrap64 (a + m) = a + m := by unfold wrap64; omega
  unfold wrap64 at w1 w2
  go_enter Try.func27, Try.ntmps27
  go_wp2
  go_ret2
  exact ⟨⟨A', rfl, HR.out, by have := HC.out; omega⟩, rfl⟩
theorem row_atq (B S : Nat) (bad : Bool) (A : Option Addr) (xs : List Int) (c : Nat) (a m : Nat) (w : World) (h : Rdr w B S bad A xs.length c) (hx : Kd.C (Kd.int .u8) w A xs.length xs) (hc : xs.length ≤ c) (hl : xs.length ≤ 1000000) (ha : a + m ≤ xs.length) :
    Calls Try.prog 27 #[.pointer (some ⟨B, 0, none⟩), .int .i64 (a : Int), .int .i64 (m : Int)] w fun e w' => ∃ A' : Option Addr, e = .returned (.tuple #[.slice A' m (c - a), .bool true]) ∧ Kd.C (Kd.int .u8) w A' m ((xs.drop a).take m) ∧ m ≤ c - a ∧ w' = w := by
  have e1 : ((a : Int) + (m : Int)).toNat - (a : Int).toNat = m := by omega
  have e2 : (xs.take ((a : Int) + (m : Int)).toNat).drop (a : Int).toNat = (xs.drop a).take m := by rw [List.drop_take, e1, Int.toNat_natCast]
  refine (row_callsq B S bad A xs c a m w h hx hc hl (by omega) (by omega) (by omega)).mono ?_
  rintro e w' ⟨⟨A', h1, h2, h3⟩, h4⟩
  rw [e1] at h1 h2 h3
  rw [e2] at h2
  rw [Int.toNat_natCast] at h1 h3
  exact ⟨A', h1, h2, h3, h4⟩
theorem number_atq (B S : Nat) (bad : Bool) (A : Option Addr) (xs : List Int) (c : Nat) (a m : Nat) (w : World) (h : Rdr w B S bad A xs.length c) (hx : Kd.C (Kd.int .u8) w A xs.length xs) (hc : xs.length ≤ c) (hl : xs.length ≤ 1000000) (hv : ∀ x ∈ xs, 0 ≤ x ∧ x ≤ 255) (ha : a + m ≤ xs.length) (hm : m ≤ 4) (l : List Int) (hle : l = (xs.drop a).take m) :
    Calls Try.prog 29 #[.pointer (some ⟨B, 0, none⟩), .int .i64 (a : Int), .int .i64 (m : Int)] w fun e w' => e = .returned (.int .u32 (numUp l m)) ∧ w' = w := by
  have hvl : ∀ x ∈ l, 0 ≤ x ∧ x ≤ 255 := by
    rw [hle]
    exact fun x hx => hv x (List.mem_of_mem_drop (List.mem_of_mem_take hx))
  have hr := row_atq B S bad A xs c a m w h hx hc hl ha
  rw [← hle] at hr
  have HW := Aside0.mk hr
  clear hr
  clear h hx hc
  go_enter Try.func29, Try.ntmps29
  go_wp2_with (go_at_call 27; refine HW.out.mono ?_; rintro e w' ⟨A', rfl, hA, hC, rfl⟩)
  go_loopg [7, 11, 21] m (fun g s7 s11 s21 wx => ∃ k : Nat, k + g = m ∧ s7 = .int .u32 (numUp l k) ∧ s21 = .int .i64 (k : Int) ∧ wx = w')
  case atStart => exact ⟨0, by omega, rfl, rfl, rfl⟩
  case round =>
    obtain ⟨k, hkg, rfl, rfl, rfl⟩ := hrel
    cases gk with
    | zero =>
      have hk : ¬ ((k : Int) < (m : Int)) := by omega
      obtain rfl : k = m := by omega
      go_wp2
      go_ret
      exact ⟨rfl, rfl⟩
    | succ g =>
      have hk : (k : Int) < (m : Int) := by omega
      have hll : l.length = m := by rw [hle, List.length_take, List.length_drop]; omega
      obtain ⟨ad, rfl, hc0⟩ := Kd.at_int (hll.symm ▸ hA) (k : Int) (by omega) (by omega)
      rw [Int.toNat_natCast] at hc0
      obtain ⟨y, hy⟩ : ∃ y, y = rd l (k : Int) := ⟨_, rfl⟩
      obtain ⟨v, hvv⟩ : ∃ v, v = numUp l k := ⟨_, rfl⟩
      have hyr : 0 ≤ y ∧ y ≤ 255 := by
        rw [hy]
        have hk' : k < l.length := by omega
        have e : rd l (k : Int) = l[k] := by simp [rd, hk']
        rw [e]
        exact hvl _ (List.getElem_mem hk')
      have hvr : 0 ≤ v ∧ v < 16777216 := by
        rw [hvv]
        have hb := numUp_range l hvl k
        have := pow_le k (by omega)
        omega
      have hor : bits BinOp.or IntKind.u32 (v * 256 % 4294967296) (y % 4294967296) = v * 256 + y := or_byte v y hvr hyr
      have hnx : v * 256 + y = numUp l (k + 1) := by
        rw [hvv, hy]; simp [numUp, rd]
      have HNX := Aside0.mk hnx
      rw [← hy] at hc0
      rw [← hvv]
      clear hy hvv hyr hvr hnx hle hll hv hvl
      go_wp2
      go_roundg g
      case measure => omega
      case rel => exact ⟨k + 1, by omega, by rw [HNX.out], by go_num, rfl⟩
theorem byte_atq (B S : Nat) (bad : Bool) (A : Option Addr) (xs : List Int) (c a : Nat) (w : World) (h : RdrOf w B S bad A xs c) (ha : a + 1 ≤ xs.length) (v : Int) (hv : v = numUp ((xs.drop a).take 1) 1) :
    Calls Try.prog 14 #[.pointer (some ⟨B, 0, none⟩), .int .i64 (a : Int)] w fun e w' => e = .returned (.int .u8 v) ∧ w' = w := by
  have hr := numUp_range _ (part_range h.hv a 1) 1
  rw [← hv] at hr
  have hm : v % 256 = v := by omega
  have hn := number_atq B S bad A xs c a 1 w h.h h.hx h.hc h.hl h.hv ha (by decide) _ rfl
  rw [← hv] at hn
  have HN := Aside0.mk hn
  clear h hn hr hv
  go_enter Try.func14, Try.ntmps14
  go_wp2_with (go_at_call 29; refine HN.out.mono ?_; rintro e w' ⟨rfl, rfl⟩)
  go_ret
  exact ⟨rfl, rfl⟩
end Go.Proofs.Ytmfgahhcpmbjjaa.WB
