/- Each cluster of any row, alone, is one cluster; a mark begins one only behind a control; a control stands alone. No conditions. -/
import Derived.Test.YtffmdnckapalfaaDoorCx4
import Derived.Test.YtffmdnckapalfaaDoorPurD
namespace Go.Proofs.YtffmdnckapalfaaDoor.Pure
open Go.RowKit Go.Proofs.YtffmdnckapalfaaDoor.C Go.Proofs.YtffmdnckapalfaaDoor.SpecJ Go.Proofs.YtffmdnckapalfaaDoor.SpecC Go.Proofs.YtffmdnckapalfaaDoor.PurC Go.Proofs.YtffmdnckapalfaaDoor.PurD Go.Proofs.YtffmdnckapalfaaDoor.ExtC Go.Proofs.YtffmdnckapalfaaDoor.T Go.Proofs.YtffmdnckapalfaaDoorW.PrintWords
def isS (xs : List Int) (q : Nat) : Prop := q = 0 ∨ partedS (stAt (clAt xs) q) (clAt xs q) = true
theorem out_succ (xs : List Int) (k : Nat) : (isS xs k ∧ outUp xs (k + 1) = outUp xs k ++ [(k : Int)]) ∨ (¬ isS xs k ∧ outUp xs (k + 1) = outUp xs k) := by
  by_cases h : isS xs k
  · exact .inl ⟨h, if_pos h⟩
  · exact .inr ⟨h, if_neg h⟩
theorem rd_left (l : List Int) (x : Int) (i : Nat) (h : i < l.length) : rd (l ++ [x]) (i : Int) = rd l (i : Int) := by
  simp [rd, List.getElem?_append_left h]
theorem rd_end (l : List Int) (x : Int) (i : Nat) (h : i = l.length) : rd (l ++ [x]) (i : Int) = x := by
  subst h; simp [rd]
theorem gap (xs : List Int) : ∀ (k i : Nat), i < (outUp xs k).length → ∃ m t : Nat, rd (outUp xs k) (i : Int) = (m : Int) ∧ (i + 1 < (outUp xs k).length → rd (outUp xs k) ((i + 1 : Nat) : Int) = (t : Int)) ∧ (i + 1 = (outUp xs k).length → t = k) ∧ m < t ∧ t ≤ k ∧ isS xs m ∧ (0 < i → 0 < m) ∧ ∀ q, m < q → q < t → ¬ isS xs q
  | 0, i, h => by simp [outUp] at h
  | k + 1, i, h => by
    have ih := gap xs k i
    rcases out_succ xs k with ⟨hs, he⟩ | ⟨hs, he⟩
    · rw [he] at h ⊢
      rw [List.length_append, List.length_singleton] at h ⊢
      by_cases hi : i < (outUp xs k).length
      · obtain ⟨m, t, h1, h2, h3, h4, h5, h6, h7, h8⟩ := ih hi
        refine ⟨m, t, by rw [rd_left _ _ _ hi, h1], fun _ => ?_, fun g => absurd g (by omega), h4, by omega, h6, h7, h8⟩
        by_cases hj : i + 1 < (outUp xs k).length
        · rw [rd_left _ _ _ hj, h2 hj]
        · rw [rd_end _ _ _ (by omega), h3 (by omega)]
      · have hi' : i = (outUp xs k).length := by omega
        refine ⟨k, k + 1, rd_end _ _ _ hi', fun g => absurd g (by omega), fun _ => rfl, by omega, by omega, hs, fun h0 => ?_, fun q h1 h2 => absurd h1 (by omega)⟩
        by_cases hk : k = 0
        · subst hk; simp [outUp] at hi'; omega
        · omega
    · rw [he] at h ⊢
      obtain ⟨m, t, h1, h2, h3, h4, h5, h6, h7, h8⟩ := ih h
      by_cases hj : i + 1 < (outUp xs k).length
      · exact ⟨m, t, h1, h2, fun g => absurd g (by omega), h4, by omega, h6, h7, h8⟩
      · have ht := h3 (by omega)
        subst ht
        refine ⟨m, t + 1, h1, fun g => absurd g hj, fun _ => rfl, by omega, by omega, h6, h7, fun q g1 g2 => ?_⟩
        by_cases hq : q = t
        · exact hq ▸ hs
        · exact h8 q g1 (by omega)
structure Rel (s s' : St) : Prop where
  c : s.c = s'.c
  f0 : 0 ≤ s.f
  f1 : 0 ≤ s'.f
  f : s.f % 2 = s'.f % 2
  p : s.p = s'.p
  j : s.j = s'.j
theorem Rel.next {s s' : St} (h : Rel s s') (c : Int) : Rel (s.next c) (s'.next c) := by
  have h0 := h.f0
  have h1 := h.f1
  have h2 := h.f
  refine ⟨rfl, ?_, ?_, ?_, ?_, ?_⟩
  · simp only [St.next]; split <;> omega
  · simp only [St.next]; split <;> omega
  · simp only [St.next]; split <;> omega
  · simp only [St.next, h.p]
  · simp only [St.next, h.p]
theorem Rel.parted {s s' : St} (h : Rel s s') (b : Int) : partedS s b = partedS s' b := by
  obtain ⟨c, f, p, j⟩ := s
  obtain ⟨c', f', p', j'⟩ := s'
  obtain ⟨h1, h2, h3, h4, h5, h6⟩ := h
  dsimp only at h1 h2 h3 h4 h5 h6
  rw [own_eq _ _ _ _ _ h2, own_eq _ _ _ _ _ h3, h1, h4, h6]
theorem d6 : ∀ (a : Fin 14) (j : Bool), partedS ⟨a.val, if true = true then 1 else 0, false, j⟩ 6 = true → a.val = 1 ∨ a.val = 2 ∨ a.val = 3 := by decide +kernel
theorem d45 : ∀ (a : Fin 14) (o j : Bool), (partedS ⟨a.val, if o = true then 1 else 0, false, j⟩ 4 = true → a.val = 1 ∨ a.val = 2 ∨ a.val = 3) ∧ (partedS ⟨a.val, if o = true then 1 else 0, false, j⟩ 5 = true → a.val = 1 ∨ a.val = 2 ∨ a.val = 3) := by decide +kernel
theorem dEnd : ∀ (a b : Fin 14) (o j : Bool), partedS ⟨a.val, if o = true then 1 else 0, false, j⟩ b.val = false → ((a.val = 1 ∨ a.val = 2 ∨ a.val = 3) ∨ (b.val = 1 ∨ b.val = 2 ∨ b.val = 3)) → a.val = 1 ∧ b.val = 2 := by decide +kernel
theorem fin_of {x : Int} (h : 0 ≤ x ∧ x ≤ 13) : ∃ a : Fin 14, (a.val : Int) = x := ⟨⟨x.toNat, by omega⟩, by show ((x.toNat : Nat) : Int) = x; omega⟩
theorem mark_behind (xs : List Int) (m : Nat) (h : partedS (stAt (clAt xs) (m + 1)) (clAt xs (m + 1)) = true) (hc : clAt xs (m + 1) = 4 ∨ clAt xs (m + 1) = 5) : clAt xs m = 1 ∨ clAt xs m = 2 ∨ clAt xs m = 3 := by
  rw [st_next, own_eq _ _ _ _ _ (od_range _ _).1] at h
  obtain ⟨a, ha⟩ := fin_of (cl_range xs m)
  rw [← ha] at h ⊢
  rcases hc with hc | hc
  · rw [hc] at h
    have := (d45 a _ _).1 h
    omega
  · rw [hc] at h
    have := (d45 a _ _).2 h
    omega
theorem pair_end (xs : List Int) (m : Nat) (h : ¬ isS xs (m + 1)) (he : (clAt xs m = 1 ∨ clAt xs m = 2 ∨ clAt xs m = 3) ∨ (clAt xs (m + 1) = 1 ∨ clAt xs (m + 1) = 2 ∨ clAt xs (m + 1) = 3)) : clAt xs m = 1 ∧ clAt xs (m + 1) = 2 := by
  have h' : partedS (stAt (clAt xs) (m + 1)) (clAt xs (m + 1)) = false := eq_false_of_ne_true fun g => h (.inr g)
  rw [st_next, own_eq _ _ _ _ _ (od_range _ _).1] at h'
  obtain ⟨a, ha⟩ := fin_of (cl_range xs m)
  obtain ⟨b, hb⟩ := fin_of (cl_range xs (m + 1))
  rw [← ha, ← hb] at h' he ⊢
  have := dEnd a b _ _ h' (by omega)
  omega
theorem rel_first (xs : List Int) (m : Nat) (h : isS xs m) : Rel ((stAt (clAt xs) m).next (clAt xs m)) ((⟨0, 0, false, false⟩ : St).next (clAt xs m)) := by
  cases m with
  | zero => exact ⟨rfl, by simp only [stAt, St.next]; split <;> omega, by simp only [St.next]; split <;> omega, rfl, rfl, rfl⟩
  | succ m =>
    have h' : partedS (stAt (clAt xs) (m + 1)) (clAt xs (m + 1)) = true := h.elim (fun g => absurd g (by omega)) id
    have hod := od_range (clAt xs) (m + 1)
    have hnn := (stAt_f (clAt xs) (m + 1)).1
    have hp45 : (clAt xs (m + 1) = 4 ∨ clAt xs (m + 1) = 5) → (stAt (clAt xs) (m + 1)).p = false := by
      intro hc
      have := mark_behind xs m h' hc
      rw [st_next]
      show jd (clAt xs) (m + 1) = false
      unfold jd
      rw [if_neg (by omega)]
      exact beq_eq_false_iff_ne.2 (by omega)
    have hf6 : clAt xs (m + 1) = 6 → (stAt (clAt xs) (m + 1)).f % 2 = 0 := by
      intro hc
      rw [st_next] at h' ⊢
      show od (clAt xs) (m + 1) % 2 = 0
      by_cases ho : od (clAt xs) (m + 1) % 2 = 1
      · rw [own_eq _ _ _ _ _ hod.1, hc, show (od (clAt xs) (m + 1) % 2 == 1) = true from beq_iff_eq.2 ho] at h'
        obtain ⟨a, ha⟩ := fin_of (cl_range xs m)
        rw [← ha] at h'
        have := d6 a _ h'
        have h0 : od (clAt xs) (m + 1) = 0 := by unfold od; rw [if_neg (by omega)]
        omega
      · omega
    refine ⟨rfl, ?_, ?_, ?_, ?_, ?_⟩
    · simp only [St.next]; split <;> omega
    · simp only [St.next]; split <;> omega
    · simp only [St.next]
      by_cases hc : clAt xs (m + 1) = 6
      · rw [if_pos hc, if_pos hc]
        have := hf6 hc
        omega
      · rw [if_neg hc, if_neg hc]
    · simp only [St.next]
      by_cases h13 : clAt xs (m + 1) = 13
      · rw [if_pos h13, if_pos h13]
      · by_cases h4 : clAt xs (m + 1) = 4
        · rw [if_neg h13, if_neg h13, if_pos h4, if_pos h4, hp45 (.inl h4)]
        · rw [if_neg h13, if_neg h13, if_neg h4, if_neg h4]
    · simp only [St.next]
      by_cases h5 : clAt xs (m + 1) = 5
      · rw [if_pos h5, if_pos h5, hp45 (.inr h5)]
      · rw [if_neg h5, if_neg h5]
theorem cl_part (xs : List Int) (m t i : Nat) (h : m + i < t) : clAt ((xs.take t).drop m) i = clAt xs (m + i) := by
  unfold clAt
  rw [List.getElem?_drop, List.getElem?_take_of_lt h]
theorem rel_part (xs : List Int) (m t : Nat) (h : isS xs m) : ∀ i, m + i < t → Rel (stAt (clAt xs) (m + i + 1)) (stAt (clAt ((xs.take t).drop m)) (i + 1))
  | 0, hi => by
    show Rel ((stAt (clAt xs) m).next (clAt xs m)) ((⟨0, 0, false, false⟩ : St).next (clAt ((xs.take t).drop m) 0))
    rw [cl_part xs m t 0 hi]
    exact rel_first xs m h
  | i + 1, hi => by
    have ih := rel_part xs m t h i (by omega)
    have := ih.next (clAt xs (m + i + 1))
    show Rel ((stAt (clAt xs) (m + i + 1)).next (clAt xs (m + i + 1))) ((stAt (clAt ((xs.take t).drop m)) (i + 1)).next (clAt ((xs.take t).drop m) (i + 1)))
    rw [cl_part xs m t (i + 1) hi]
    exact this
theorem out_part (xs : List Int) (m t : Nat) (h : isS xs m) (hq : ∀ q, m < q → q < t → ¬ isS xs q) : ∀ i, m + i < t → outUp ((xs.take t).drop m) (i + 1) = [0]
  | 0, _ => rfl
  | i + 1, hi => by
    have ih := out_part xs m t h hq i (by omega)
    rcases out_succ ((xs.take t).drop m) (i + 1) with ⟨hs, he⟩ | ⟨_, he⟩
    · have hp : partedS (stAt (clAt ((xs.take t).drop m)) (i + 1)) (clAt ((xs.take t).drop m) (i + 1)) = true := hs.elim (fun g => absurd g (by omega)) id
      rw [← (rel_part xs m t h i (by omega)).parted, cl_part xs m t (i + 1) hi] at hp
      exact absurd (.inr hp) (hq (m + i + 1) (by omega) (by omega))
    · rw [he, ih]

def endb (a : Int) : Prop := 1 ≤ a ∧ a ≤ 3
instance (a : Int) : Decidable (endb a) := inferInstanceAs (Decidable (1 ≤ a ∧ a ≤ 3))
theorem ends_f (a : Int) : calamuslaw03_ends.f a = some (decide (endb a)) := by
  unfold calamuslaw03_ends.f
  by_cases h : a ≥ 1
  · rw [if_pos h]
    by_cases h2 : a ≤ 3
    · rw [decide_eq_true h2, decide_eq_true (show endb a from ⟨h, h2⟩)]
    · rw [decide_eq_false h2, decide_eq_false (show ¬ endb a from fun g => h2 g.2)]
  · rw [if_neg h, decide_eq_false (show ¬ endb a from fun g => h g.1)]
theorem endb_of {a : Int} (h : a = 1 ∨ a = 2 ∨ a = 3) : endb a := by unfold endb; omega
theorem of_endb {a : Int} (h : endb a) : a = 1 ∨ a = 2 ∨ a = 3 := by unfold endb at h; omega
theorem ctrl_alone (f : Nat → Int) (m t j : Nat) (hp : ∀ q, m < q + 1 → q + 1 < t → endb (f q) ∨ endb (f (q + 1)) → f q = 1 ∧ f (q + 1) = 2) (hmj : m ≤ j) (hjt : j < t) (h1 : m + 1 < t) (he : endb (f j)) : t = m + 2 ∧ f m = 1 ∧ f (m + 1) = 2 := by
  have go : ∀ q, m < q + 1 → q + 1 < t → endb (f q) ∨ endb (f (q + 1)) → t = m + 2 ∧ q = m := by
    intro q g1 g2 g3
    have p1 := hp q g1 g2 g3
    have e1 : endb (f q) := endb_of (.inl p1.1)
    have e2 : endb (f (q + 1)) := endb_of (.inr (.inl p1.2))
    have hqm : q = m := by
      by_cases g : q = m
      · exact g
      · obtain ⟨r, rfl⟩ : ∃ r, q = r + 1 := ⟨q - 1, by omega⟩
        have p2 := hp r (by omega) (by omega) (.inr e1)
        exact absurd (p2.2.symm.trans p1.1) (by decide)
    refine ⟨?_, hqm⟩
    by_cases h3 : q + 2 < t
    · have p2 := hp (q + 1) (by omega) (by omega) (.inl e2)
      exact absurd (p1.2.symm.trans p2.1) (by decide)
    · omega
  by_cases hjm : j = m
  · subst hjm
    obtain ⟨g1, _⟩ := go j (by omega) h1 (.inl he)
    exact ⟨g1, hp j (by omega) h1 (.inl he)⟩
  · obtain ⟨q, rfl⟩ : ∃ q, j = q + 1 := ⟨j - 1, by omega⟩
    obtain ⟨g1, g2⟩ := go q (by omega) hjt (.inr he)
    subst g2
    exact ⟨g1, hp q (by omega) hjt (.inr he)⟩
/-- The round over the characters of one cluster. -/
theorem ca_l1 (xs bs : List Int) (i m t : Nat) (hn : xs.length ≤ 300) (hi : i < bs.length) (hm : rd bs (i : Int) = (m : Int)) (htn : t ≤ xs.length) (hq : ∀ q, m < q → q < t → ¬ isS xs q) :
    ∀ (d j k : Nat), j + d = t → m ≤ j → calamuslaw03_ClusterAlone.l1 (k + d + 1) xs bs (i : Int) (t : Int) (j : Int) = calamuslaw03_ClusterAlone.l0 k xs bs (wrap64 ((i : Int) + 1))
  | 0, j, k, h, _ => by
    rw [calamuslaw03_ClusterAlone.l1, if_neg (by omega)]
  | d + 1, j, k, h, hj => by
    have ih := ca_l1 xs bs i m t hn hi hm htn hq d (j + 1) k (by omega) (by omega)
    have hw : wrap64 ((j : Int) + 1) = ((j + 1 : Nat) : Int) := by unfold wrap64; omega
    have hw2 : wrap64 ((t : Int) - (m : Int)) = (t : Int) - (m : Int) := by unfold wrap64; omega
    have hw3 : wrap64 ((t : Int) - 1) = ((t - 1 : Nat) : Int) := by unfold wrap64; omega
    rw [show k + (d + 1) + 1 = (k + d + 1) + 1 from rfl, calamuslaw03_ClusterAlone.l1, if_pos (by omega), if_pos (by omega), if_pos (by omega)]
    simp only [calamusref02_Cluster.f, Option.bind_some, ends_f, rd_cl, hw, ih]
    by_cases he : endb (clAt xs j)
    · rw [if_pos (decide_eq_true he), if_pos (by omega), if_pos (by omega), hm, hw2]
      by_cases h1 : (t : Int) - (m : Int) > 1
      · rw [if_pos h1]
        obtain ⟨k1, k2, k3⟩ := ctrl_alone (clAt xs) m t j (fun q g1 g2 g3 => pair_end xs q (hq (q + 1) g1 g2) (g3.imp of_endb of_endb)) hj (by omega) (by omega) he
        have k4 : (t : Int) - (m : Int) = 2 := by clear k2 k3; omega
        have k5 : t - 1 = m + 1 := by clear k2 k3; omega
        have k6 : (m : Int) < (xs.length : Int) := by clear k2 k3; omega
        have k7 : ((m + 1 : Nat) : Int) < (xs.length : Int) := by clear k2 k3; omega
        rw [if_pos k4, if_pos (Int.natCast_nonneg m), if_pos k6]
        simp only [rd_cl]
        rw [if_pos k2, hw3, k5, if_pos (Int.natCast_nonneg _), if_pos k7]
        simp only [rd_cl]
        rw [if_pos k3]
      · rw [if_neg h1]
    · rw [if_neg (by rw [decide_eq_false he]; decide)]
def big (d : Nat) : Nat := d * 400 + 1000
theorem big_succ (d k : Nat) (h : big (d + 1) ≤ k) : big d + 400 ≤ k := by unfold big at *; omega
theorem ca_l0 (xs : List Int) (hn : xs.length ≤ 300) (d i k : Nat) (h : i + d = (outUp xs xs.length).length) (hk : big d ≤ k) : calamuslaw03_ClusterAlone.l0 k xs (outUp xs xs.length) (i : Int) = some true := by
  induction d generalizing i k with
  | zero =>
    unfold big at hk
    obtain ⟨k, rfl⟩ : ∃ q, k = q + 1 := ⟨k - 1, by omega⟩
    rw [calamuslaw03_ClusterAlone.l0, if_neg (by omega), works_ok k (by omega)]; rfl
  | succ d IH =>
    obtain ⟨e, he⟩ : ∃ e, e = big d := ⟨_, rfl⟩
    replace hk : e + 400 ≤ k := he ▸ big_succ d k hk
    have hle := outUp_le xs xs.length
    have hi : i < (outUp xs xs.length).length := by omega
    obtain ⟨m, t, h1, h2, h3, h4, h5, h6, h7, h8⟩ := gap xs xs.length i hi
    have hw : wrap64 ((i : Int) + 1) = ((i + 1 : Nat) : Int) := by unfold wrap64; omega
    obtain ⟨k, rfl⟩ : ∃ q, k = (((q + (t - m) + 1) + 1) + 1) + 1 + 1 := ⟨k - (t - m) - 5, by omega⟩
    have hk2 : e ≤ k := by omega
    have ih := IH (i + 1) k (by omega) (he ▸ hk2)
    clear hk2 hk
    have hi1 : (0 : Int) ≤ (i : Int) := Int.natCast_nonneg i
    have hi2 : (i : Int) < ((outUp xs xs.length).length : Int) := by omega
    have hm1 : (0 : Int) ≤ (m : Int) := Int.natCast_nonneg m
    have hm2 : (m : Int) < (xs.length : Int) := by omega
    have hmt : (m : Int) ≤ (t : Int) := by omega
    have hmt2 : ¬ (t : Int) ≤ (m : Int) := by omega
    have htx : (t : Int) ≤ (xs.length : Int) := by omega
    have htx2 : ¬ (t : Int) > (xs.length : Int) := by omega
    have hj4 : calamuslaw03_ClusterAlone.j4 ((k + (t - m) + 1) + 1) xs (outUp xs xs.length) (i : Int) (t : Int) false = some true := by
      rw [calamuslaw03_ClusterAlone.j4, if_neg (by decide), if_pos hi1, if_pos hi2, h1, ca_l1 xs _ i m t hn hi h1 h5 h8 (t - m) m k (by omega) (Nat.le_refl _), hw]
      exact ih
    have hj3 : calamuslaw03_ClusterAlone.j3 (((k + (t - m) + 1) + 1) + 1) xs (outUp xs xs.length) (i : Int) (t : Int) false = some true := by
      have hend : (clAt xs m = 4 ∨ clAt xs m = 5) → ∀ hi0 : (i : Int) > 0, (!decide (endb (cn (rd xs (wrap64 ((m : Int) - 1)))))) = false ∧ 0 ≤ wrap64 ((m : Int) - 1) ∧ wrap64 ((m : Int) - 1) < (xs.length : Int) := by
        intro hc hi0
        have hm0 := h7 (by omega)
        obtain ⟨q, rfl⟩ : ∃ q, m = q + 1 := ⟨m - 1, by clear hc; omega⟩
        have hwq : wrap64 (((q + 1 : Nat) : Int) - 1) = (q : Int) := by clear hc; unfold wrap64; omega
        have hp : partedS (stAt (clAt xs) (q + 1)) (clAt xs (q + 1)) = true := h6.elim (fun g => absurd g (by omega)) id
        have := endb_of (mark_behind xs q hp hc)
        rw [hwq, rd_cl, decide_eq_true this]
        exact ⟨rfl, Int.natCast_nonneg q, by clear hc; omega⟩
      rw [calamuslaw03_ClusterAlone.j3, if_neg (by decide), if_pos hi1, if_pos hi2, h1, if_pos hm1, if_pos hm2]
      simp only [calamusref02_Cluster.f, Option.bind_some, ends_f]
      by_cases hc4 : clAt xs m = 4
      · rw [rd_cl, if_pos hc4]
        by_cases hi0 : (i : Int) > 0
        · obtain ⟨g1, g2, g3⟩ := hend (.inl hc4) hi0
          rw [if_pos hi0, if_pos g2, if_pos g3, g1]
          exact hj4
        · rw [if_neg hi0]
          exact hj4
      · rw [rd_cl, if_neg hc4]
        by_cases hc5 : clAt xs m = 5
        · rw [if_pos hc5]
          by_cases hi0 : (i : Int) > 0
          · obtain ⟨g1, g2, g3⟩ := hend (.inr hc5) hi0
            rw [if_pos hi0, if_pos g2, if_pos g3, g1]
            exact hj4
          · rw [if_neg hi0]
            exact hj4
        · rw [if_neg hc5]
          exact hj4
    have hj2 : calamuslaw03_ClusterAlone.j2 ((((k + (t - m) + 1) + 1) + 1) + 1) xs (outUp xs xs.length) (i : Int) (t : Int) = some true := by
      have hl : ((xs.take t).drop m).length = t - m := by rw [List.length_drop, List.length_take]; omega
      have ho := out_part xs m t h6 h8 (t - m - 1) (by omega)
      rw [show t - m - 1 + 1 = t - m by omega] at ho
      rw [calamuslaw03_ClusterAlone.j2, if_pos hi1, if_pos hi2, h1, if_neg hmt2, if_neg htx2, if_pos hm1, if_pos hmt, if_pos htx, Int.toNat_natCast, Int.toNat_natCast, cluster_Bounds.f, if_pos (by omega), hl, ho]
      simp only [Option.bind_some]
      rw [same_ok [0] (by decide) _ (by simp)]
      exact hj3
    rw [calamuslaw03_ClusterAlone.l0, if_pos hi2, hw]
    by_cases hlast : i + 1 < (outUp xs xs.length).length
    · rw [if_pos (by omega), if_pos (Int.natCast_nonneg _), h2 hlast]
      exact hj2
    · have e : (xs.length : Int) = (t : Int) := by rw [h3 (by omega)]
      rw [if_neg (by omega)]
      exact (congrArg (fun z : Int => calamuslaw03_ClusterAlone.j2 (k + (t - m) + 4) xs (outUp xs xs.length) (i : Int) z) e).trans hj2
theorem out_first (xs : List Int) : ∀ k, rd (outUp xs (k + 1)) 0 = 0
  | 0 => rfl
  | k + 1 => by
    have ih := out_first xs k
    have hpos : 0 < (outUp xs (k + 1)).length := List.length_pos_iff.2 (outUp_ne xs k)
    rcases out_succ xs (k + 1) with ⟨_, he⟩ | ⟨_, he⟩
    · rw [he]; exact (rd_left (outUp xs (k + 1)) _ 0 hpos).trans ih
    · rw [he]; exact ih
theorem ClusterAlone : calamuslaw03_ClusterAlone.Pure := by
  intro xs _ _ _
  by_cases hc : (xs.length : Int) > 300
  · refine ⟨20, ?_⟩
    unfold calamuslaw03_ClusterAlone.f
    rw [if_pos hc, works_ok 20 (by omega)]; rfl
  · have hle := outUp_le xs xs.length
    have hl := ca_l0 xs (by omega) (outUp xs xs.length).length 0 (big 300) (by omega) (by unfold big; omega)
    refine ⟨big 300 + 1, ?_⟩
    unfold calamuslaw03_ClusterAlone.f
    rw [if_neg hc, cluster_Bounds.f, if_pos (by omega)]
    simp only [Option.bind_some]
    have hj0 : calamuslaw03_ClusterAlone.j0 (big 300 + 1) xs (outUp xs xs.length) false = some true := by
      rw [calamuslaw03_ClusterAlone.j0, if_neg (by decide)]
      exact hl
    by_cases h0 : (xs.length : Int) > 0
    · obtain ⟨n, hnn⟩ : ∃ n, xs.length = n + 1 := ⟨xs.length - 1, by omega⟩
      have hpos : 0 < (outUp xs xs.length).length := by rw [hnn]; exact List.length_pos_iff.2 (outUp_ne xs n)
      have hz : rd (outUp xs xs.length) 0 = 0 := by rw [hnn]; exact out_first xs n
      rw [if_pos h0, if_neg (by omega), if_pos (by omega), hz]
      exact hj0
    · rw [if_neg h0]
      exact hj0
end Go.Proofs.YtffmdnckapalfaaDoor.Pure
