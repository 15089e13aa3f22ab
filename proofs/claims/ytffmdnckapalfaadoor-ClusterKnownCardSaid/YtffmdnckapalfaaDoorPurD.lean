/- Plain lemmas of the cluster laws: the reference's answer at any place and in any row is the program's. Conditions: rows of at most 1000000 characters. -/
import Derived.Test.YtffmdnckapalfaaDoorPurC
import Derived.Test.YtffmdnckapalfaaDoorCx3
namespace Go.Proofs.YtffmdnckapalfaaDoor.PurD
open Go.RowKit Go.Proofs.YtffmdnckapalfaaDoor.C Go.Proofs.YtffmdnckapalfaaDoor.SpecJ Go.Proofs.YtffmdnckapalfaaDoor.SpecC Go.Proofs.YtffmdnckapalfaaDoor.ExtC Go.Proofs.YtffmdnckapalfaaDoor.PurC Go.Proofs.YtffmdnckapalfaaDoor.T Go.Proofs.YtffmdnckapalfaaDoor.V Go.Proofs.YtffmdnckapalfaaDoorW.PrintWords

theorem own_eq (a f : Int) (p j : Bool) (b : Int) (hf : 0 ≤ f) : partedS ⟨a, f, p, j⟩ b = partedS ⟨a, if (f % 2 == 1) = true then 1 else 0, false, j⟩ b := by
  have h8 : tl 8 ⟨a, f, p, j⟩ b = tl 8 ⟨a, if (f % 2 == 1) = true then 1 else 0, false, j⟩ b := by
    show (if Int.tmod f 2 = 1 then some (b == 6) else some false).getD false = (if Int.tmod (if (f % 2 == 1) = true then 1 else 0) 2 = 1 then some (b == 6) else some false).getD false
    rw [Int.tmod_eq_emod_of_nonneg hf]
    by_cases h : f % 2 = 1 <;> simp [h]
  unfold partedS
  rw [h8]
  rfl

/-- Is there a bound at this place? -/
def prt (xs : List Int) (i : Int) : Bool := if 1 ≤ i ∧ i < (xs.length : Int) then partedS (stAt (clAt xs) i.toNat) (clAt xs i.toNat) else false

theorem prt_in (xs : List Int) (m : Nat) (h0 : 0 < m) (h : m < xs.length) : prt xs (m : Int) = partedS (stAt (clAt xs) m) (clAt xs m) := by
  unfold prt
  rw [if_pos ⟨by omega, by omega⟩, Int.toNat_natCast]
theorem cl_range (xs : List Int) (m : Nat) : 0 ≤ clAt xs m ∧ clAt xs m ≤ 13 := cn_range _
theorem rules_any (a b : Int) (p o : Bool) (ha : 0 ≤ a ∧ a ≤ 13) (hb : 0 ≤ b ∧ b ≤ 13) (ho : o = true → a = 6) : P1 a b p o (decide (a = 1) && decide (b = 2)) = own a b p o := by
  have h := rules_same ⟨a.toNat, by omega⟩ ⟨b.toNat, by omega⟩ p o (fun h => by have := ho h; subst this; rfl)
  have ea : ((a.toNat : Nat) : Int) = a := by omega
  have eb : ((b.toNat : Nat) : Int) = b := by omega
  dsimp only at h
  rw [ea, eb] at h
  exact h
theorem Parted_ok (xs : List Int) (hn : xs.length ≤ 1000000) (i : Int) (k : Nat) (hk : xs.length + 20 < k) : calamusref03_Parted.f k xs i = some (prt xs i) := by
  by_cases h1 : i < 1
  · unfold calamusref03_Parted.f
    obtain ⟨k, rfl⟩ : ∃ q, k = q + 1 := ⟨k - 1, by omega⟩
    rw [if_pos h1, calamusref03_Parted.j0, if_pos rfl, prt, if_neg (by omega)]
  · by_cases h2 : i ≥ (xs.length : Int)
    · unfold calamusref03_Parted.f
      obtain ⟨k, rfl⟩ : ∃ q, k = q + 1 := ⟨k - 1, by omega⟩
      rw [if_neg h1, decide_eq_true h2, calamusref03_Parted.j0, if_pos rfl, prt, if_neg (by omega)]
    · obtain ⟨m, rfl⟩ : ∃ m : Nat, i = ((m + 1 : Nat) : Int) := ⟨(i - 1).toNat, by omega⟩
      obtain ⟨k, rfl⟩ : ∃ q, k = q + 8 := ⟨k - 8, by omega⟩
      have hw : wrap64 (((m + 1 : Nat) : Int) - 1) = (m : Int) := by unfold wrap64; omega
      have hm : m + 1 < xs.length := by omega
      unfold calamusref03_Parted.f
      rw [if_neg h1, decide_eq_false h2, calamusref03_Parted.j0, hw, if_neg (by simp), if_pos (by omega), if_pos (by omega)]
      simp only [class_eq, Option.bind_some, rd_cl]
      rw [if_pos (by omega), if_pos (by omega)]
      simp only [j1_ok xs hn m k hm (by omega)]
      have hst := st_next (clAt xs) m
      rw [prt_in xs (m + 1) (by omega) hm, hst, own_eq _ _ _ _ _ (od_range _ _).1]
      have ho : (od (clAt xs) (m + 1) % 2 == 1) = true → clAt xs m = 6 := by
        intro h
        by_cases h6 : clAt xs m = 6
        · exact h6
        · simp [od, h6] at h
      have hr := rules_any (clAt xs m) (clAt xs (m + 1)) (jd (clAt xs) m) _ (cl_range xs m) (cl_range xs (m + 1)) ho
      unfold own at hr
      have hj : (decide (clAt xs m = 5) && jd (clAt xs) m) = (if clAt xs m = 5 then jd (clAt xs) m else false) := by
        by_cases h5 : clAt xs m = 5 <;> simp [h5]
      rw [hj] at hr
      rw [← hr]
      by_cases h1 : clAt xs m = 1
      · rw [if_pos h1, decide_eq_true h1, Bool.true_and, beq_dec (clAt xs (m + 1)) 2]
      · rw [if_neg h1, decide_eq_false h1, Bool.false_and]

theorem outUp_lt (xs : List Int) : ∀ k, ∀ x ∈ outUp xs k, 0 ≤ x ∧ x < (k : Int)
  | 0 => by simp [outUp]
  | k + 1 => by
    intro x hx
    unfold outUp at hx
    split at hx
    · rcases List.mem_append.1 hx with h | h
      · have := outUp_lt xs k x h; omega
      · rw [List.mem_singleton] at h; omega
    · have := outUp_lt xs k x hx; omega
theorem outUp_ne (xs : List Int) : ∀ k, outUp xs (k + 1) ≠ []
  | 0 => by simp [outUp]
  | k + 1 => by
    have ih := outUp_ne xs k
    rw [outUp]
    split
    · simp
    · exact ih
theorem stAt_congr {f g : Nat → Int} : ∀ k, (∀ i, i < k → f i = g i) → stAt f k = stAt g k
  | 0, _ => rfl
  | k + 1, h => by rw [stAt, stAt, stAt_congr k (fun i hi => h i (by omega)), h k (by omega)]
theorem cl_take (xs : List Int) (n i : Nat) (h : i < n) : clAt (xs.take n) i = clAt xs i := by
  unfold clAt
  rw [List.getElem?_take_of_lt h]
theorem rd_last (t : List Int) (x : Int) : rd (t ++ [x]) (((t ++ [x]).length : Int) - 1) = x := by
  simp [rd]
theorem rd_mem (t : List Int) (h : t ≠ []) : rd t ((t.length : Int) - 1) ∈ t := by
  have hl : 0 < t.length := List.length_pos_iff.2 h
  have : rd t ((t.length : Int) - 1) = t[t.length - 1] := by
    unfold rd
    have e : ((t.length : Int) - 1).toNat = t.length - 1 := by omega
    simp [e, List.getElem?_eq_getElem (show t.length - 1 < t.length by omega)]
  rw [this]
  exact List.getElem_mem _
theorem cluster_Parted_ok (xs : List Int) (hn : xs.length ≤ 1000000) (i : Int) : cluster_Parted.f xs i = some (prt xs i) := by
  unfold cluster_Parted.f
  by_cases h1 : i < 1
  · rw [if_pos h1, prt, if_neg (by omega)]
  · by_cases h2 : i ≥ (xs.length : Int)
    · rw [if_neg h1, if_pos h2, prt, if_neg (by omega)]
    · obtain ⟨m, rfl⟩ : ∃ m : Nat, i = ((m + 1 : Nat) : Int) := ⟨(i - 1).toNat, by omega⟩
      have hw : wrap64 (((m + 1 : Nat) : Int) + 1) = ((m + 2 : Nat) : Int) := by unfold wrap64; omega
      have hl : (xs.take (m + 2)).length = m + 2 := by rw [List.length_take]; omega
      rw [if_neg h1, if_neg h2, hw, if_pos (by omega), if_pos (by omega), Int.toNat_natCast, cluster_Bounds.f, if_pos (by omega), hl]
      simp only [Option.bind_some]
      have hle := outUp_le (xs.take (m + 2)) (m + 2)
      have hne := outUp_ne (xs.take (m + 2)) (m + 1)
      have hpos : 0 < (outUp (xs.take (m + 2)) (m + 2)).length := List.length_pos_iff.2 hne
      have hw2 : wrap64 (((outUp (xs.take (m + 2)) (m + 2)).length : Int) - 1) = ((outUp (xs.take (m + 2)) (m + 2)).length : Int) - 1 := by unfold wrap64; omega
      rw [hw2, if_pos (by omega), if_pos (by omega)]
      congr 1
      have hp : partedS (stAt (clAt (xs.take (m + 2))) (m + 1)) (clAt (xs.take (m + 2)) (m + 1)) = prt xs ((m + 1 : Nat) : Int) := by
        rw [prt_in xs (m + 1) (by omega) (by omega), cl_take _ _ _ (by omega), stAt_congr (m + 1) (fun i hi => cl_take xs (m + 2) i (by omega))]
      rw [outUp]
      by_cases hc : prt xs ((m + 1 : Nat) : Int) = true
      · rw [if_pos (.inr (hp.trans hc)), rd_last, hc, beq_self_eq_true]
      · rw [if_neg (by rw [hp]; rintro (h | h); omega; exact hc h)]
        rw [eq_false_of_ne_true hc]
        have h := outUp_lt (xs.take (m + 2)) (m + 1) _ (rd_mem _ (outUp_ne (xs.take (m + 2)) m))
        exact beq_eq_false_iff_ne.2 (by omega)

theorem same_loop (t : List Int) (hn : t.length ≤ 1000000) : ∀ (d j k : Nat), j + d = t.length → d < k → calamuslaw03_same.l0 k t t (j : Int) = some true
  | 0, j, k, h, hk => by
    obtain ⟨k, rfl⟩ : ∃ q, k = q + 1 := ⟨k - 1, by omega⟩
    rw [calamuslaw03_same.l0, if_neg (by omega)]
  | d + 1, j, k, h, hk => by
    obtain ⟨k, rfl⟩ : ∃ q, k = q + 1 := ⟨k - 1, by omega⟩
    have hw : wrap64 ((j : Int) + 1) = ((j + 1 : Nat) : Int) := by unfold wrap64; omega
    rw [calamuslaw03_same.l0, if_pos (by omega), if_pos (by omega), if_pos (by omega), if_pos rfl, hw]
    exact same_loop t hn d (j + 1) k (by omega) (by omega)
theorem same_ok (t : List Int) (hn : t.length ≤ 1000000) (k : Nat) (hk : t.length < k) : calamuslaw03_same.f k t t = some true := by
  rw [calamuslaw03_same.f, if_pos rfl]
  exact same_loop t hn t.length 0 k (by omega) hk
theorem works_ok (k : Nat) (hk : 10 < k) : calamuslaw03_works.f k = some true := by
  have e1 : cluster_Bounds.f [97, 769, 98, 13, 10] = some [0, 2, 3] := by decide +kernel
  have e2 : cluster_Parted.f [97, 98] 1 = some true := by decide +kernel
  have e3 : cluster_Parted.f [97, 769] 1 = some false := by decide +kernel
  unfold calamuslaw03_works.f
  rw [e1, e2, e3]
  simp only [Option.bind_some]
  rw [same_ok [0, 2, 3] (by decide) k (by simp; omega)]
  rfl

theorem Bounds_loop (xs : List Int) (hn : xs.length ≤ 1000000) : ∀ (d j k : Nat), j + d = xs.length → d + xs.length + 30 < k → calamusref03_Bounds.l0 k xs (outUp xs j) (j : Int) = some (outUp xs xs.length)
  | 0, j, k, h, hk => by
    obtain ⟨k, rfl⟩ : ∃ q, k = q + 1 := ⟨k - 1, by omega⟩
    rw [calamusref03_Bounds.l0, if_neg (by omega), show j = xs.length by omega]
  | d + 1, j, k, h, hk => by
    obtain ⟨k, rfl⟩ : ∃ q, k = q + 1 := ⟨k - 1, by omega⟩
    have hw : wrap64 ((j : Int) + 1) = ((j + 1 : Nat) : Int) := by unfold wrap64; omega
    have hle := outUp_le xs j
    have ih := Bounds_loop xs hn d (j + 1) k (by omega) (by omega)
    rw [outUp] at ih
    rw [calamusref03_Bounds.l0, if_pos (by omega), hw, if_pos (show (outUp xs j).length < 17592186044416 by omega)]
    by_cases h0 : j = 0
    · rw [if_pos (by omega)]
      rw [if_pos (.inl h0)] at ih
      exact ih
    · rw [if_neg (by omega), Parted_ok xs hn j k (by omega)]
      simp only [Option.bind_some]
      have hp : prt xs (j : Int) = partedS (stAt (clAt xs) j) (clAt xs j) := prt_in xs j (by omega) (by omega)
      by_cases hc : prt xs (j : Int) = true
      · rw [if_pos hc]
        rw [if_pos (.inr (hp ▸ hc))] at ih
        exact ih
      · rw [if_neg hc]
        rw [if_neg (by rintro (h | h); exact h0 h; exact hc (hp.trans h))] at ih
        exact ih
theorem Bounds_ok (xs : List Int) (hn : xs.length ≤ 1000000) (k : Nat) (hk : 2 * xs.length + 30 < k) : calamusref03_Bounds.f k xs = some (outUp xs xs.length) :=
  Bounds_loop xs hn xs.length 0 k (by omega) (by omega)
end Go.Proofs.YtffmdnckapalfaaDoor.PurD
