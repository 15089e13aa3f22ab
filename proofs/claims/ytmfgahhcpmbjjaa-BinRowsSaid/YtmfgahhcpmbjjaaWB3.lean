/- The reader of package bin: a number. Conditions: the reader is there and the bytes are all there; or it is nil. -/
import Derived.Test.YtmfgahhcpmbjjaaWB2
namespace Go.Proofs.Ytmfgahhcpmbjjaa.WB
open Go.RowKit Go.Proofs.YtmfgahhcpmbjjaaW.PrintWords
theorem number_nil (a m : Int) (w : World) : Calls Try.prog 29 #[.pointer none, .int .i64 a, .int .i64 m] w fun e w' => e = .returned (.int .u32 0) ∧ Below w.heap.size w w' := by
  go_enter Try.func29, Try.ntmps29
  go_wp2_with (go_at_call 27; refine (row_nil a m _).mono ?_; rintro e w' ⟨rfl, hb⟩)
  go_loopg [7, 11, 21] 0 (fun g s7 s11 s21 wx => s7 = .int .u32 0 ∧ s21 = .int .i64 0 ∧ Below w.heap.size w wx)
  case atStart => exact ⟨rfl, rfl, hb⟩
  case round =>
    obtain ⟨rfl, rfl, hB⟩ := hrel
    go_wp2
    go_ret
    exact ⟨rfl, hB⟩
def numUp (l : List Int) : Nat → Int
  | 0 => 0
  | k + 1 => numUp l k * 256 + l[k]?.getD 0
theorem numUp_range (l : List Int) (h : ∀ x ∈ l, 0 ≤ x ∧ x ≤ 255) : ∀ k, 0 ≤ numUp l k ∧ numUp l k < 256 ^ k
  | 0 => by simp [numUp]
  | k + 1 => by
    have ih := numUp_range l h k
    have hy : 0 ≤ l[k]?.getD 0 ∧ l[k]?.getD 0 ≤ 255 := by
      by_cases hk : k < l.length
      · rw [List.getElem?_eq_getElem hk]; exact h _ (List.getElem_mem hk)
      · rw [List.getElem?_eq_none (by omega)]; decide
    have e : (256 : Int) ^ (k + 1) = 256 ^ k * 256 := Int.pow_succ _ _
    rw [numUp, e]
    omega
theorem or_byte (v y : Int) (hv : 0 ≤ v ∧ v < 16777216) (hy : 0 ≤ y ∧ y ≤ 255) : bits BinOp.or IntKind.u32 (v * 256 % 4294967296) (y % 4294967296) = v * 256 + y := by
  obtain ⟨a, rfl⟩ : ∃ a : Nat, v = (a : Int) := ⟨v.toNat, by omega⟩
  obtain ⟨b, rfl⟩ : ∃ b : Nat, y = (b : Int) := ⟨y.toNat, by omega⟩
  have e1 : (a : Int) * 256 % 4294967296 = ((a * 256 : Nat) : Int) := by omega
  have e2 : (b : Int) % 4294967296 = (b : Int) := by omega
  rw [e1, e2]
  have h1 : (BitVec.ofInt 32 ((a * 256 : Nat) : Int)).toNat = a * 256 := by
    rw [BitVec.ofInt_natCast, BitVec.toNat_ofNat]; exact Nat.mod_eq_of_lt (by omega)
  have h2 : (BitVec.ofInt 32 (b : Int)).toNat = b := by
    rw [BitVec.ofInt_natCast, BitVec.toNat_ofNat]; exact Nat.mod_eq_of_lt (by omega)
  have h3 : a * 256 ||| b = a * 256 + b := by
    have := Nat.two_pow_add_eq_or_of_lt (i := 8) (b := b) (by omega) a
    rw [show a * 256 = 2 ^ 8 * a by omega]
    exact this.symm
  show IntKind.u32.wrap ((BitVec.ofInt 32 ((a * 256 : Nat) : Int) ||| BitVec.ofInt 32 (b : Int)).toNat : Int) = _
  rw [BitVec.toNat_or, h1, h2, h3, IntKind.wrap_u32]
  omega
theorem pow_le (k : Nat) (h : k ≤ 3) : (256 : Int) ^ k ≤ 16777216 := by
  have : k = 0 ∨ k = 1 ∨ k = 2 ∨ k = 3 := by omega
  rcases this with rfl | rfl | rfl | rfl <;> decide
theorem number_at (B S : Nat) (bad : Bool) (A : Option Addr) (xs : List Int) (c : Nat) (a m : Nat) (w : World) (h : Rdr w B S bad A xs.length c) (hx : Kd.C (Kd.int .u8) w A xs.length xs) (hc : xs.length ≤ c) (hl : xs.length ≤ 1000000) (hv : ∀ x ∈ xs, 0 ≤ x ∧ x ≤ 255) (ha : a + m ≤ xs.length) (hm : m ≤ 4) (l : List Int) (hle : l = (xs.drop a).take m) :
    Calls Try.prog 29 #[.pointer (some ⟨B, 0, none⟩), .int .i64 (a : Int), .int .i64 (m : Int)] w fun e w' => e = .returned (.int .u32 (numUp l m)) ∧ Below w.heap.size w w' := by
  have hvl : ∀ x ∈ l, 0 ≤ x ∧ x ≤ 255 := by
    rw [hle]
    exact fun x hx => hv x (List.mem_of_mem_drop (List.mem_of_mem_take hx))
  have hr := row_at B S bad A xs c a m w h hx hc hl ha
  rw [← hle] at hr
  have HW := Aside0.mk hr
  clear hr
  clear h hx hc
  go_enter Try.func29, Try.ntmps29
  go_wp2_with (go_at_call 27; refine HW.out.mono ?_; rintro e w' ⟨A', rfl, hA, hC, hb⟩)
  go_loopg [7, 11, 21] m (fun g s7 s11 s21 wx => ∃ k : Nat, k + g = m ∧ s7 = .int .u32 (numUp l k) ∧ s21 = .int .i64 (k : Int) ∧ Below w'.heap.size w' wx)
  case atStart => exact ⟨0, by omega, rfl, rfl, Below.refl _ _⟩
  case round =>
    obtain ⟨k, hkg, rfl, rfl, hB⟩ := hrel
    cases gk with
    | zero =>
      have hk : ¬ ((k : Int) < (m : Int)) := by omega
      obtain rfl : k = m := by omega
      go_wp2
      go_ret
      exact ⟨rfl, hb.trans (hB.mono hb.size)⟩
    | succ g =>
      have hk : (k : Int) < (m : Int) := by omega
      have hll : l.length = m := by rw [hle, List.length_take, List.length_drop]; omega
      obtain ⟨ad, rfl, hc0⟩ := Kd.at_int (Kd.C_below (hll.symm ▸ hA) (hb.trans (hB.mono hb.size))) (k : Int) (by omega) (by omega)
      rw [Int.toNat_natCast] at hc0
      obtain ⟨y, hy⟩ : ∃ y, y = rd l (k : Int) := ⟨_, rfl⟩
      obtain ⟨v, hvv⟩ : ∃ v, v = numUp l k := ⟨_, rfl⟩
      have hyr : 0 ≤ y ∧ y ≤ 255 := by
        rw [hy]
        have hk' : k < l.length := by omega
        have e : rd l (k : Int) = l[k] := by simp [rd, hk']
        rw [e]
        exact hvl _ (List.getElem_mem hk')
      have hvr : 0 ≤ v ∧ v < 16777216 := by
        rw [hvv]
        have hb := numUp_range l hvl k
        have := pow_le k (by omega)
        omega
      have hor : bits BinOp.or IntKind.u32 (v * 256 % 4294967296) (y % 4294967296) = v * 256 + y := or_byte v y hvr hyr
      have hnx : v * 256 + y = numUp l (k + 1) := by
        rw [hvv, hy]; simp [numUp, rd]
      have HNX := Aside0.mk hnx
      rw [← hy] at hc0
      rw [← hvv]
      clear hy hvv hyr hvr hnx hle hll hv hvl
      go_wp2
      go_roundg g
      case measure => omega
      case rel => exact ⟨k + 1, by omega, by rw [HNX.out], by go_num, hB⟩
end Go.Proofs.Ytmfgahhcpmbjjaa.WB
