/- Package bin: a number put behind a row of bytes. Conditions: the row is the call's own. -/
import Derived.Test.YtmfgahhcpmbjjaaWB11
namespace Go.Proofs.Ytmfgahhcpmbjjaa.WB
open Go.RowKit Go.Proofs.YtmfgahhcpmbjjaaW.PrintWords
/-- The bytes of a number, the highest first. -/
def putB (n : Int) : Nat → List Int
  | 0 => []
  | k + 1 => (n / 2 ^ (8 * k)) % 256 :: putB n k
theorem put1_no (v : Value) (low high size n : Int) (p q r : Nat) (w : World) (hh : Held w p q r low high size) (hn : n < low ∨ high < n) :
    Calls Try.prog 36 #[v, .int .i64 n, .pointer (some ⟨p, 0, none⟩), .pointer (some ⟨q, 0, none⟩), .pointer (some ⟨r, 0, none⟩)] w fun e w' => e = .returned (.tuple #[v, .bool false]) ∧ Below w.heap.size w w' := by
  have hp := hh.hp
  have hq := hh.hq
  clear hh
  by_cases hl : n < low
  · go_enter Try.func36, Try.ntmps36
    go_wp2
    go_ret2
    exact ⟨rfl, Below.refl _ _⟩
  · have hl2 : high < n := by omega
    go_enter Try.func36, Try.ntmps36
    go_wp2
    go_ret2
    exact ⟨rfl, Below.refl _ _⟩
theorem put1_calls (base : Nat) (v : Value) (ys : List Int) (low high n : Int) (s : Nat) (p q r : Nat) (w : World) (ho : Kd.R (Kd.int .u8) 5 w base (fun _ => True) v ys) (hbase : base ≤ w.heap.size) (hys : ys.length ≤ 1000000) (hh : Held w p q r low high (s : Int)) (hs : s ≤ 4) (h1 : low ≤ n) (h2 : n ≤ high) :
    Calls Try.prog 36 #[v, .int .i64 n, .pointer (some ⟨p, 0, none⟩), .pointer (some ⟨q, 0, none⟩), .pointer (some ⟨r, 0, none⟩)] w fun e w' => ∃ v', e = .returned (.tuple #[v', .bool true]) ∧ Kd.R (Kd.int .u8) 5 w' base (fun _ => True) v' (ys ++ putB n s) ∧ Below base w w' := by
  have hp := hh.hp
  have hq := hh.hq
  have hr := hh.hr
  have HO := Aside0.mk ho
  have HB := Aside0.mk hbase
  clear hh ho hbase
  have f1 : ¬ n < low := by omega
  have f2 : ¬ n > high := by omega
  have f2' : ¬ high < n := by omega
  have w1 : wrap64 ((s : Int) - 1) = (s : Int) - 1 := by unfold wrap64; omega
  unfold wrap64 at w1
  go_enter Try.func36, Try.ntmps36
  go_wp2
  go_loopg [0, 9] s (fun g s0 s9 wx => ∃ cur : List Int, Aside0 (Kd.R (Kd.int .u8) 5 wx base (fun _ => True) s0 cur) ∧ Aside0 (cur ++ putB n g = ys ++ putB n s) ∧ g ≤ 4 ∧ s9 = .int .i64 ((g : Int) - 1) ∧ Aside0 (Below base w wx))
  case atStart => exact ⟨ys, HO, ⟨rfl⟩, hs, rfl, ⟨Below.refl _ _⟩⟩
  case round =>
    obtain ⟨cur, HC, HE, hg, rfl, HW⟩ := hrel
    cases gk with
    | zero =>
      have hk : ¬ (0 : Int) ≤ ((0 : Nat) : Int) - 1 := by omega
      go_wp2
      go_ret2
      have := HE.out
      simp only [putB, List.append_nil] at this
      exact ⟨_, rfl, this ▸ HC.out, HW.out⟩
    | succ g =>
      have hk : (0 : Int) ≤ ((g + 1 : Nat) : Int) - 1 := by omega
      obtain ⟨x, hx⟩ : ∃ x, x = (n / 2 ^ (8 * g)) % 256 := ⟨_, rfl⟩
      have hE1 : Aside0 ((cur ++ [x]) ++ putB n g = ys ++ putB n s) := ⟨by rw [← HE.out, hx]; simp [putB]⟩
      have hlen : cur.length + 1 ≤ 2000000 := by
        have h := congrArg List.length HE.out
        have hz : ∀ k, (putB n k).length = k := fun k => by induction k with
          | zero => rfl
          | succ k ih => simp [putB, ih]
        simp only [List.length_append, hz] at h
        omega
      have HC1 := Aside0.mk (Kd.R_alloc HC.out (.cells (nums .u8 [x]).toArray 5))
      have HX1 := Aside0.mk ((Kd.R_reads' (R_lit wr wr.heap.size 5 .u8 [x] (Nat.le_refl _) (by simp))).2.2)
      have HW1 := Aside0.mk ((HW.out).alloc (Nat.le_trans HB.out HW.out.size) (.cells (nums .u8 [x]).toArray 5))
      have HS1 : Aside0 (base ≤ (wr.alloc (.cells (nums .u8 [x]).toArray 5)).heap.size) := ⟨Nat.le_trans HB.out (HW1.out).size⟩
      clear HE HC
      go_wp2_with (first | ((with_reducible refine gate_builtin (b := .append) (xs := #[.tmp 25, .tmp 31]) rfl ?_); at_builtin; rw [← hx]; refine Kd.R_append_rows (Kd.int .u8) (w0 := w) base rfl (.tmp 25) (.tmp 31) 22 5 (.int .u8 0) 1 rfl Try.underlying22 info5 rfl (by decide) (by omega) _ cur [x] (some ⟨wr.heap.size, 0, none⟩) 1 1 (fun _ => True) (fun k => some k ≠ _) rfl rfl HC1.out HX1.out (fun _ _ h => h) (fun _ h => ⟨trivial, h⟩) (fun _ _ => trivial) HW1.out HS1.out ?aL ?_; (case aL => omega); intro v1 w1 ho0 hb hg hat))
      go_roundg g
      case measure => omega
      case rel => exact ⟨cur ++ [x], ⟨ho0⟩, hE1, by omega, rfl, ⟨hb⟩⟩
end Go.Proofs.Ytmfgahhcpmbjjaa.WB
