/- Plain lemmas on the printed functions of the cluster laws: the reference's rule at a place is the program's. Conditions: rows of at most 1000000 characters. -/
import Derived.Test.YtffmdnckapalfaaDoorCx2
namespace Go.Proofs.YtffmdnckapalfaaDoor.PurC
open Go.RowKit Go.Proofs.YtffmdnckapalfaaDoor.C Go.Proofs.YtffmdnckapalfaaDoor.SpecJ Go.Proofs.YtffmdnckapalfaaDoor.SpecC Go.Proofs.YtffmdnckapalfaaDoor.ExtC Go.Proofs.YtffmdnckapalfaaDoor.T Go.Proofs.YtffmdnckapalfaaDoor.V Go.Proofs.YtffmdnckapalfaaDoorW.PrintWords

theorem pickT_range (o r : Int) : ∀ (l : List Sp), (∀ x ∈ l, 0 ≤ x.v ∧ x.v ≤ 13) → 0 ≤ o → o ≤ 13 → 0 ≤ pickT o r l ∧ pickT o r l ≤ 13
  | [], _, h0, h1 => ⟨h0, h1⟩
  | x :: l, h, h0, h1 => by
    have ih := pickT_range o r l (fun y hy => h y (List.mem_cons_of_mem _ hy)) h0 h1
    have hx := h x List.mem_cons_self
    unfold pickT
    split
    · split
      · exact hx
      · exact ih
    · exact ih
theorem ctab_range : ∀ x ∈ ctab, 0 ≤ x.v ∧ x.v ≤ 13 := by decide +kernel
theorem cn_range (r : Int) : 0 ≤ cn r ∧ cn r ≤ 13 := by
  unfold cn
  split
  · split <;> decide
  · split
    · decide
    · split
      · decide
      · exact pickT_range 0 r ctab ctab_range (by decide) (by decide)
theorem class_eq (r : Int) : calamusref03_class.f r = some (cn r) := by
  have := cn_range r
  unfold calamusref03_class.f
  simp only [calamusref02_Cluster.f, Option.bind_some]
  congr 1
  unfold wrap64; omega
theorem rd_cl (xs : List Int) (i : Nat) : cn (rd xs (i : Int)) = clAt xs i := by simp [rd, clAt]

/-- A Pict and Extends right ahead of the n-th. -/
def jd (f : Nat → Int) : Nat → Bool
  | 0 => false
  | n + 1 => if f n = 4 then jd f n else f n == 13
/-- How many RI right ahead of the n-th. -/
def od (f : Nat → Int) : Nat → Int
  | 0 => 0
  | n + 1 => if f n = 6 then od f n + 1 else 0
theorem od_range (f : Nat → Int) : ∀ n : Nat, 0 ≤ od f n ∧ od f n ≤ n
  | 0 => by simp [od]
  | n + 1 => by
    have := od_range f n
    unfold od
    split <;> omega
theorem stAt_succ (f : Nat → Int) : ∀ n, stAt f n = ⟨(stAt f n).c, od f n, jd f n, (stAt f n).j⟩
  | 0 => by simp [stAt, od, jd]
  | n + 1 => by
    have ih := stAt_succ f n
    rw [stAt, ih]
    simp only [St.next, od, jd]
    congr 1
    by_cases h4 : f n = 4
    · simp [h4]
    · by_cases h13 : f n = 13
      · simp [h13]
      · simp [h4, h13]
theorem st_next (f : Nat → Int) (m : Nat) : stAt f (m + 1) = ⟨f m, od f (m + 1), jd f (m + 1), if f m = 5 then jd f m else false⟩ := by
  rw [stAt_succ f (m + 1)]
  congr 1
  rw [stAt, St.next, stAt_succ f m]

theorem joined_loop (xs : List Int) (hn : xs.length ≤ 1000000) : ∀ (i k : Nat), i ≤ xs.length → i < k → calamusref03_joined.l0 k xs ((i : Int) - 1) = some (jd (clAt xs) i)
  | 0, k, _, hk => by
    obtain ⟨k, rfl⟩ : ∃ m, k = m + 1 := ⟨k - 1, by omega⟩
    rw [calamusref03_joined.l0, if_neg (by omega)]; rfl
  | i + 1, k, hi, hk => by
    obtain ⟨k, rfl⟩ : ∃ m, k = m + 1 := ⟨k - 1, by omega⟩
    have e : ((i + 1 : Nat) : Int) - 1 = (i : Int) := by omega
    have hw : wrap64 ((i : Int) - 1) = (i : Int) - 1 := by unfold wrap64; omega
    rw [e, calamusref03_joined.l0, if_pos (by omega), if_pos (by omega), if_pos (by omega)]
    simp only [class_eq, Option.bind_some, rd_cl, hw]
    unfold jd
    split
    · exact joined_loop xs hn i k (by omega) (by omega)
    · rfl
theorem joined_ok (xs : List Int) (hn : xs.length ≤ 1000000) (m k : Nat) (hm : m < xs.length) (hk : xs.length < k) : calamusref03_joined.f k xs ((m + 1 : Nat) : Int) = some (jd (clAt xs) m) := by
  unfold calamusref03_joined.f
  have hw : wrap64 (((m + 1 : Nat) : Int) - 2) = (m : Int) - 1 := by unfold wrap64; omega
  rw [hw]
  exact joined_loop xs hn m k (by omega) (by omega)
theorem odd_loop (xs : List Int) (hn : xs.length ≤ 1000000) : ∀ (i k : Nat) (c : Int), i ≤ xs.length → i < k → 0 ≤ c → c + i ≤ 2000000 → calamusref03_odd.l0 k xs c ((i : Int) - 1) = some ((c + od (clAt xs) i) % 2 == 1)
  | 0, k, c, _, hk, h0, hc => by
    obtain ⟨k, rfl⟩ : ∃ m, k = m + 1 := ⟨k - 1, by omega⟩
    rw [calamusref03_odd.l0, if_neg (by omega), Int.tmod_eq_emod_of_nonneg h0]; simp [od]
  | i + 1, k, c, hi, hk, h0, hc => by
    obtain ⟨k, rfl⟩ : ∃ m, k = m + 1 := ⟨k - 1, by omega⟩
    have e : ((i + 1 : Nat) : Int) - 1 = (i : Int) := by omega
    have hw : wrap64 ((i : Int) - 1) = (i : Int) - 1 := by unfold wrap64; omega
    have hw2 : wrap64 (c + 1) = c + 1 := by unfold wrap64; omega
    rw [e, calamusref03_odd.l0, if_pos (by omega), if_pos (by omega), if_pos (by omega)]
    simp only [class_eq, Option.bind_some, rd_cl, hw, hw2]
    unfold od
    split
    · rw [odd_loop xs hn i k (c + 1) (by omega) (by omega) (by omega) (by omega)]
      congr 2
      omega
    · rw [Int.tmod_eq_emod_of_nonneg h0]; simp
theorem odd_ok (xs : List Int) (hn : xs.length ≤ 1000000) (i k : Nat) (hi : i ≤ xs.length) (hk : xs.length < k) : calamusref03_odd.f k xs (i : Int) = some (od (clAt xs) i % 2 == 1) := by
  unfold calamusref03_odd.f
  have hw : wrap64 ((i : Int) - 1) = (i : Int) - 1 := by unfold wrap64; omega
  rw [hw, odd_loop xs hn i k 0 hi (by omega) (by omega) (by omega)]
  simp

theorem beq_dec (a n : Int) : (a == n) = decide (a = n) := by by_cases h : a = n <;> simp [h]
/-! ### the reference's rules, one by one -/
def P7 (a b : Int) (o x : Bool) : Bool := if x = true then false else if a = 6 then (if b = 6 then !o else true) else true
def P6 (a b : Int) (p o x : Bool) : Bool := if x = true then false else P7 a b o (decide (a = 5) && decide (b = 13) && p)
def P5 (a b : Int) (p o x : Bool) : Bool := if x = true then false else P6 a b p o (decide (b = 4) || decide (b = 5) || decide (a = 7))
def P4 (a b : Int) (p o x : Bool) : Bool := if x = true then false else P5 a b p o ((decide (a = 12) || decide (a = 10)) && decide (b = 10))
def P3 (a b : Int) (p o x : Bool) : Bool := if x = true then false else P4 a b p o ((decide (a = 11) || decide (a = 9)) && (decide (b = 9) || decide (b = 10)))
def P2 (a b : Int) (p o x : Bool) : Bool := if x = true then true else P3 a b p o (decide (a = 8) && (decide (b = 8) || decide (b = 9) || decide (b = 11) || decide (b = 12)))
def P1 (a b : Int) (p o x : Bool) : Bool := if x = true then false else P2 a b p o ((decide (a = 1) || decide (a = 2) || decide (a = 3)) || (decide (b = 1) || decide (b = 2) || decide (b = 3)))
section
variable (xs : List Int) (hn : xs.length ≤ 1000000) (m k : Nat) (hm : m + 1 < xs.length) (hk : xs.length + 10 < k) (a b : Int)
include hn hm hk
theorem j7_ok (x : Bool) : calamusref03_Parted.j7 (k + 1) xs ((m + 1 : Nat) : Int) a b x = some (P7 a b (od (clAt xs) (m + 1) % 2 == 1) x) := by
  rw [calamusref03_Parted.j7, odd_ok xs hn (m + 1) k (by omega) (by omega)]
  simp only [Option.bind_some, P7]
  cases x <;> by_cases h1 : a = 6 <;> by_cases h2 : b = 6 <;> cases (od (clAt xs) (m + 1) % 2 == 1) <;> simp [h1, h2]
theorem j6_ok (x : Bool) : calamusref03_Parted.j6 (k + 2) xs ((m + 1 : Nat) : Int) a b x = some (P6 a b (jd (clAt xs) m) (od (clAt xs) (m + 1) % 2 == 1) x) := by
  rw [calamusref03_Parted.j6, joined_ok xs hn m (k + 1) (by omega) (by omega)]
  simp only [Option.bind_some, P6, j7_ok xs hn m k hm hk]
  cases x <;> by_cases h1 : a = 5 <;> by_cases h2 : b = 13 <;> simp [beq_dec, h1, h2]
theorem j5_ok (x : Bool) : calamusref03_Parted.j5 (k + 3) xs ((m + 1 : Nat) : Int) a b x = some (P5 a b (jd (clAt xs) m) (od (clAt xs) (m + 1) % 2 == 1) x) := by
  rw [calamusref03_Parted.j5]
  simp only [P5, j6_ok xs hn m k hm hk]
  cases x <;> by_cases h1 : b = 4 <;> by_cases h2 : b = 5 <;> simp [beq_dec, h1, h2]
theorem j4_ok (x : Bool) : calamusref03_Parted.j4 (k + 4) xs ((m + 1 : Nat) : Int) a b x = some (P4 a b (jd (clAt xs) m) (od (clAt xs) (m + 1) % 2 == 1) x) := by
  rw [calamusref03_Parted.j4]
  simp only [P4, j5_ok xs hn m k hm hk]
  cases x <;> by_cases h1 : a = 12 <;> by_cases h2 : a = 10 <;> simp [beq_dec, h1, h2]
theorem j3_ok (x : Bool) : calamusref03_Parted.j3 (k + 5) xs ((m + 1 : Nat) : Int) a b x = some (P3 a b (jd (clAt xs) m) (od (clAt xs) (m + 1) % 2 == 1) x) := by
  rw [calamusref03_Parted.j3]
  simp only [P3, j4_ok xs hn m k hm hk]
  cases x <;> by_cases h1 : a = 11 <;> by_cases h2 : a = 9 <;> by_cases h3 : b = 9 <;> simp [beq_dec, h1, h2, h3]
theorem j2_ok (x : Bool) : calamusref03_Parted.j2 (k + 6) xs ((m + 1 : Nat) : Int) a b x = some (P2 a b (jd (clAt xs) m) (od (clAt xs) (m + 1) % 2 == 1) x) := by
  rw [calamusref03_Parted.j2]
  simp only [P2, j3_ok xs hn m k hm hk]
  cases x <;> by_cases h1 : a = 8 <;> by_cases h2 : b = 8 <;> by_cases h3 : b = 9 <;> by_cases h4 : b = 11 <;> simp [beq_dec, h1, h2, h3, h4]
theorem j1_ok (x : Bool) : calamusref03_Parted.j1 (k + 7) xs ((m + 1 : Nat) : Int) a b x = some (P1 a b (jd (clAt xs) m) (od (clAt xs) (m + 1) % 2 == 1) x) := by
  rw [calamusref03_Parted.j1]
  simp only [P1, j2_ok xs hn m k hm hk, calamusref03_ends.f]
  cases x <;> by_cases h1 : a = 1 <;> by_cases h2 : a = 2 <;> by_cases h3 : a = 3 <;> by_cases h4 : b = 1 <;> by_cases h5 : b = 2 <;> by_cases h6 : b = 3 <;> simp [beq_dec, h1, h2, h3, h4, h5, h6]
end
/-- The program's rules at these classes. -/
def own (a b : Int) (p o : Bool) : Bool := partedS ⟨a, if o = true then 1 else 0, false, decide (a = 5) && p⟩ b
theorem rules_same : ∀ (a b : Fin 14) (p o : Bool), (o = true → a.val = 6) → P1 (a.val : Int) (b.val : Int) p o (decide ((a.val : Int) = 1) && decide ((b.val : Int) = 2)) = own (a.val : Int) (b.val : Int) p o := by decide +kernel
end Go.Proofs.YtffmdnckapalfaaDoor.PurC
