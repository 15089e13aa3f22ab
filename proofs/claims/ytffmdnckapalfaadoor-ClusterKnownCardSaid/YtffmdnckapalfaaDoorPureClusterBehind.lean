/- Behind an LF, and behind a letter, the bounds are those of the parts alone. No conditions. -/
import Derived.Test.YtffmdnckapalfaaDoorCx5
import Derived.Test.YtffmdnckapalfaaDoorPurD
namespace Go.Proofs.YtffmdnckapalfaaDoor.Pure
open Go.RowKit Go.Proofs.YtffmdnckapalfaaDoor.C Go.Proofs.YtffmdnckapalfaaDoor.SpecJ Go.Proofs.YtffmdnckapalfaaDoor.SpecC Go.Proofs.YtffmdnckapalfaaDoor.PurC Go.Proofs.YtffmdnckapalfaaDoor.PurD Go.Proofs.YtffmdnckapalfaaDoor.ExtC Go.Proofs.YtffmdnckapalfaaDoor.T Go.Proofs.YtffmdnckapalfaaDoorW.PrintWords
theorem outUp_congr {xs ys : List Int} : ∀ k, (∀ i, i < k → clAt xs i = clAt ys i) → outUp xs k = outUp ys k
  | 0, _ => rfl
  | k + 1, h => by
    rw [outUp, outUp, outUp_congr k (fun i hi => h i (by omega)), stAt_congr k (fun i hi => h i (by omega)), h k (by omega)]
theorem cl_left (a t : List Int) (i : Nat) (h : i < a.length) : clAt (a ++ t) i = clAt a i := by
  unfold clAt
  rw [List.getElem?_append_left h]
theorem cl_right (a t : List Int) (i : Nat) : clAt (a ++ t) (a.length + i) = clAt t i := by
  unfold clAt
  rw [List.getElem?_append_right (by omega), Nat.add_sub_cancel_left]
theorem cl_head (c : Int) (b : List Int) : clAt (c :: b) 0 = cn c := rfl
theorem cl_tail (c : Int) (b : List Int) (i : Nat) : clAt (c :: b) (i + 1) = clAt b i := by simp [clAt]
theorem st_after (f g : Nat → Int) (n : Nat) (c : Int) (h0 : f n = c) (hc : c = 0 ∨ c = 2) (h : ∀ i, f (n + 1 + i) = g i) : ∀ i, stAt f (n + 1 + (i + 1)) = stAt g (i + 1)
  | 0 => by
    show ((stAt f n).next (f n)).next (f (n + 1 + 0)) = (⟨0, 0, false, false⟩ : St).next (g 0)
    rw [h0, h 0]
    rcases hc with rfl | rfl <;> simp [St.next]
  | i + 1 => by
    show (stAt f (n + 1 + (i + 1))).next (f (n + 1 + (i + 1))) = (stAt g (i + 1)).next (g (i + 1))
    rw [st_after f g n c h0 hc h i, h (i + 1)]
theorem outUp_mid (a b : List Int) (c : Int) : outUp (a ++ c :: b) (a.length + 1) = if a.length = 0 ∨ partedS (stAt (clAt a) a.length) (cn c) = true then outUp a a.length ++ [(a.length : Int)] else outUp a a.length := by
  rw [outUp, outUp_congr a.length (cl_left a (c :: b)), stAt_congr a.length (cl_left a (c :: b))]
  have := cl_right a (c :: b) 0
  rw [Nat.add_zero] at this
  rw [this, cl_head]
theorem outUp_behind (a b : List Int) (c : Int) (hc : cn c = 0 ∨ cn c = 2) (hb : b ≠ [] → partedS ⟨cn c, 0, false, false⟩ (clAt b 0) = true) : ∀ i, i ≤ b.length → outUp (a ++ c :: b) (a.length + 1 + i) = outUp (a ++ c :: b) (a.length + 1) ++ (outUp b i).map (fun v => v + (a.length : Int) + 1)
  | 0, _ => by
    show _ = _ ++ List.map _ []
    rw [List.map_nil, List.append_nil, Nat.add_zero]
  | i + 1, hi => by
    have ih := outUp_behind a b c hc hb i (by omega)
    have hf0 : clAt (a ++ c :: b) a.length = cn c := by
      have := cl_right a (c :: b) 0
      rw [Nat.add_zero] at this
      rw [this, cl_head]
    have hf : ∀ i, clAt (a ++ c :: b) (a.length + 1 + i) = clAt b i := by
      intro i
      rw [Nat.add_assoc, Nat.add_comm 1 i, cl_right, cl_tail]
    have hx : (a.length + 1 + i = 0 ∨ partedS (stAt (clAt (a ++ c :: b)) (a.length + 1 + i)) (clAt (a ++ c :: b) (a.length + 1 + i)) = true) ↔ (i = 0 ∨ partedS (stAt (clAt b) i) (clAt b i) = true) := by
      rw [hf i]
      cases i with
      | zero =>
        refine ⟨fun _ => .inl rfl, fun _ => .inr ?_⟩
        have e : stAt (clAt (a ++ c :: b)) (a.length + 1 + 0) = ⟨cn c, 0, false, false⟩ := by
          show (stAt _ a.length).next _ = _
          rw [hf0]
          rcases hc with h | h <;> rw [h] <;> simp [St.next]
        rw [e]
        exact hb (by rintro rfl; simp at hi)
      | succ i =>
        rw [st_after (clAt (a ++ c :: b)) (clAt b) a.length (cn c) hf0 hc hf i]
        exact ⟨fun h => h.elim (fun h => absurd h (by omega)) .inr, fun h => h.elim (fun h => absurd h (by omega)) .inr⟩
    have e1 : outUp (a ++ c :: b) (a.length + 1 + (i + 1)) = if (a.length + 1 + i = 0 ∨ partedS (stAt (clAt (a ++ c :: b)) (a.length + 1 + i)) (clAt (a ++ c :: b) (a.length + 1 + i)) = true) then outUp (a ++ c :: b) (a.length + 1 + i) ++ [((a.length + 1 + i : Nat) : Int)] else outUp (a ++ c :: b) (a.length + 1 + i) := rfl
    have e2 : outUp b (i + 1) = if (i = 0 ∨ partedS (stAt (clAt b) i) (clAt b i) = true) then outUp b i ++ [(i : Int)] else outUp b i := rfl
    rw [e1, e2, ih]
    by_cases h : (i = 0 ∨ partedS (stAt (clAt b) i) (clAt b i) = true)
    · rw [if_pos (hx.2 h), if_pos h, List.map_append, List.append_assoc]
      congr 2
      simp only [List.map_cons, List.map_nil, List.cons.injEq, and_true]
      omega
    · rw [if_neg (fun g => h (hx.1 g)), if_neg h]
theorem p_lf : ∀ (a : Fin 14) (o j : Bool), partedS ⟨a.val, if o = true then 1 else 0, false, j⟩ 2 = !decide ((a.val : Int) = 1) := by decide +kernel
theorem p_x : ∀ (a : Fin 14) (o j : Bool), partedS ⟨a.val, if o = true then 1 else 0, false, j⟩ 0 = !decide ((a.val : Int) = 7) := by decide +kernel
theorem q_lf : ∀ b : Fin 14, partedS ⟨2, 0, false, false⟩ b.val = true := by decide +kernel
theorem q_x : ∀ b : Fin 14, b.val ≠ 4 → b.val ≠ 5 → partedS ⟨0, 0, false, false⟩ b.val = true := by decide +kernel
theorem cn10 : cn 10 = 2 := by decide +kernel
theorem cn120 : cn 120 = 0 := by decide +kernel
theorem fin_int {x : Int} (h : 0 ≤ x ∧ x ≤ 13) : ∃ a : Fin 14, (a.val : Int) = x := ⟨⟨x.toNat, by omega⟩, by show ((x.toNat : Nat) : Int) = x; omega⟩
theorem mid_lf (a : List Int) (m : Nat) : partedS (stAt (clAt a) (m + 1)) 2 = !decide (clAt a m = 1) := by
  rw [st_next, own_eq _ _ _ _ _ (od_range _ _).1]
  obtain ⟨x, hx⟩ := fin_int (cl_range a m)
  rw [← hx]
  exact p_lf x _ _
theorem mid_x (a : List Int) (m : Nat) : partedS (stAt (clAt a) (m + 1)) 0 = !decide (clAt a m = 7) := by
  rw [st_next, own_eq _ _ _ _ _ (od_range _ _).1]
  obtain ⟨x, hx⟩ := fin_int (cl_range a m)
  rw [← hx]
  exact p_x x _ _
theorem pickT_one (o r : Int) : ∀ (l : List Sp), pickT o r l = 1 → o = 1 ∨ ∃ x ∈ l, x.v = 1 ∧ x.a ≤ r ∧ r ≤ x.b
  | [], h => .inl h
  | x :: l, h => by
    unfold pickT at h
    have ih := pickT_one o r l
    split at h
    · rename_i h1
      split at h
      · rename_i h2
        exact .inr ⟨x, List.mem_cons_self, h, by omega, by omega⟩
      · exact (ih h).imp id (fun ⟨y, hy, hp⟩ => ⟨y, List.mem_cons_of_mem _ hy, hp⟩)
    · exact (ih h).imp id (fun ⟨y, hy, hp⟩ => ⟨y, List.mem_cons_of_mem _ hy, hp⟩)
theorem ctab_one : ∀ x ∈ ctab, x.v = 1 → x.a = 13 ∧ x.b = 13 := by decide +kernel
theorem cn_one (r : Int) : cn r = 1 ↔ r = 13 := by
  constructor
  · intro h
    unfold cn at h
    split at h
    · split at h <;> exact absurd h (by decide)
    · split at h
      · exact absurd h (by decide)
      · split at h
        · exact absurd h (by decide)
        · rcases pickT_one 0 r ctab h with h | ⟨x, hx, h1, h2, h3⟩
          · exact absurd h (by decide)
          · have := ctab_one x hx h1
            omega
  · rintro rfl
    decide +kernel

theorem cbh_l1 (a b x7 x9 x20 : List Int) (x21 x22 : Int) (K : Nat) (hn : a.length ≤ 200) (h9 : ∀ x ∈ x9, 0 ≤ x ∧ x ≤ 200) (hl9 : x9.length ≤ 200) :
    ∀ (d j : Nat) (x8 : List Int), j + d = x9.length → x8.length + d ≤ 1000 → calamuslaw03_ClusterBehind.l1 (K + d) a b x7 x8 x9 (j : Int) x20 x21 x22 = calamuslaw03_ClusterBehind.l1 K a b x7 (x8 ++ (x9.drop j).map (fun v => v + (a.length : Int) + 1)) x9 (x9.length : Int) x20 x21 x22
  | 0, j, x8, h, _ => by
    rw [show j = x9.length by omega, List.drop_length, List.map_nil, List.append_nil]; rfl
  | d + 1, j, x8, h, h8 => by
    have hj : j < x9.length := by omega
    have hw : wrap64 ((j : Int) + 1) = ((j + 1 : Nat) : Int) := by unfold wrap64; omega
    have hr : rd x9 (j : Int) = x9[j] := by simp [rd, hj]
    have hv := h9 x9[j] (List.getElem_mem hj)
    have hw1 : wrap64 (x9[j] + (a.length : Int)) = x9[j] + (a.length : Int) := by unfold wrap64; omega
    have hw2 : wrap64 (x9[j] + (a.length : Int) + 1) = x9[j] + (a.length : Int) + 1 := by unfold wrap64; omega
    rw [show K + (d + 1) = (K + d) + 1 from rfl, calamuslaw03_ClusterBehind.l1, if_pos (by omega), if_pos (by omega), if_pos (by omega), hw, hr, hw1, hw2, cbh_l1 a b x7 x9 x20 x21 x22 K hn h9 hl9 d (j + 1) _ (by omega) (by rw [List.length_append]; simp; omega), List.drop_eq_getElem_cons hj, List.map_cons, List.append_assoc]
    rfl
/-- One round that is not skipped. -/
theorem cbh_j2 (a b : List Int) (ha : a.length ≤ 200) (hbl : b.length ≤ 200) (c : Int) (hc : c = 10 ∨ c = 120) (h7 : c = 120 → ∀ m, m + 1 = a.length → clAt a m ≠ 7) (h45 : c = 120 → b ≠ [] → clAt b 0 ≠ 4 ∧ clAt b 0 ≠ 5) (x20 : List Int) (x21 x22 : Int) (K : Nat) (hK : 500 ≤ K) :
    calamuslaw03_ClusterBehind.j2 (K + (outUp b b.length).length + 4) a b c x20 x21 x22 false = calamuslaw03_ClusterBehind.l0 K a b x20 x21 (wrap64 (x22 + 1)) := by
  have hcn : cn c = 0 ∨ cn c = 2 := hc.elim (fun h => .inr (h ▸ cn10)) (fun h => .inl (h ▸ cn120))
  have hpb : b ≠ [] → partedS ⟨cn c, 0, false, false⟩ (clAt b 0) = true := by
    intro hne
    obtain ⟨x, hx⟩ := fin_int (cl_range b 0)
    rcases hc with rfl | rfl
    · rw [cn10, ← hx]; exact q_lf x
    · have := h45 rfl hne
      rw [cn120, ← hx]; exact q_x x (by omega) (by omega)
  have hall := outUp_behind a b c hcn hpb b.length (Nat.le_refl _)
  have hlen : (a ++ c :: b).length = a.length + 1 + b.length := by simp; omega
  have hle := outUp_le a a.length
  have hleb := outUp_le b b.length
  have hlex := outUp_le (a ++ c :: b) (a.length + 1 + b.length)
  have hmle := outUp_le (a ++ c :: b) (a.length + 1)
  -- the rest, from the bound at the middle on
  have rest : calamuslaw03_ClusterBehind.j4 (K + (outUp b b.length).length + 2) a b (a ++ c :: b) (outUp (a ++ c :: b) (a.length + 1)) x20 x21 x22 = calamuslaw03_ClusterBehind.l0 K a b x20 x21 (wrap64 (x22 + 1)) := by
    rw [calamuslaw03_ClusterBehind.j4, cluster_Bounds.f, if_pos (by omega)]
    simp only [Option.bind_some]
    have h1 := cbh_l1 a b (a ++ c :: b) (outUp b b.length) x20 x21 x22 (K + 1) ha (fun x hx => by have := outUp_lt b b.length x hx; omega) (by omega) (outUp b b.length).length 0 (outUp (a ++ c :: b) (a.length + 1)) (by omega) (by omega)
    rw [show K + (outUp b b.length).length + 1 = (K + 1) + (outUp b b.length).length by omega]
    refine h1.trans ?_
    rw [calamuslaw03_ClusterBehind.l1, if_neg (by omega), List.drop_zero, ← hall, cluster_Bounds.f, if_pos (by omega), hlen]
    simp only [Option.bind_some]
    rw [same_ok _ (by omega) _ (by omega)]
    rfl
  have mid : ∀ fl : Bool, fl = decide (a.length = 0 ∨ partedS (stAt (clAt a) a.length) (cn c) = true) → calamuslaw03_ClusterBehind.j3 (K + (outUp b b.length).length + 3) a b (a ++ c :: b) (outUp a a.length) x20 x21 x22 fl = calamuslaw03_ClusterBehind.l0 K a b x20 x21 (wrap64 (x22 + 1)) := by
    intro fl hfl
    rw [outUp_mid] at rest
    rw [calamuslaw03_ClusterBehind.j3]
    by_cases h : (a.length = 0 ∨ partedS (stAt (clAt a) a.length) (cn c) = true)
    · rw [if_pos h] at rest
      rw [hfl, decide_eq_true h, if_pos rfl, if_pos (by omega)]
      exact rest
    · rw [if_neg h] at rest
      rw [hfl, decide_eq_false h, if_neg (by decide)]
      exact rest
  rw [calamuslaw03_ClusterBehind.j2, if_neg (by decide), if_pos (by simp; omega)]
  simp only [Option.bind_some]
  rw [if_pos (by simp; omega), if_pos (by simp; omega), cluster_Bounds.f, if_pos (by omega)]
  simp only [Option.bind_some, List.nil_append, List.append_assoc, List.singleton_append]
  rcases hc with rfl | rfl
  · rw [if_pos rfl]
    by_cases h0 : (a.length : Int) > 0
    · obtain ⟨m, hm⟩ : ∃ m, m + 1 = a.length := ⟨a.length - 1, by omega⟩
      have hw : wrap64 ((a.length : Int) - 1) = (m : Int) := by unfold wrap64; omega
      rw [if_pos h0, hw, if_pos (by omega), if_pos (by omega)]
      refine mid _ ?_
      rw [← hm, cn10, mid_lf]
      have e : (clAt a m = 1) ↔ rd a (m : Int) = 13 := by rw [← rd_cl]; exact cn_one _
      by_cases h : rd a (m : Int) = 13
      · simp [h, e.2 h]
      · simp [h, show ¬ clAt a m = 1 from fun g => h (e.1 g)]
    · rw [if_neg h0]
      exact mid _ (by rw [decide_eq_true (.inl (by omega))]; rfl)
  · rw [if_neg (by decide)]
    refine mid _ ?_
    by_cases h0 : a.length = 0
    · rw [decide_eq_true (.inl h0)]; rfl
    · obtain ⟨m, hm⟩ : ∃ m, m + 1 = a.length := ⟨a.length - 1, by omega⟩
      have h7' := h7 rfl m hm
      rw [decide_eq_true (.inr (by rw [← hm, cn120, mid_x, decide_eq_false h7']; rfl))]; rfl
theorem cbh_flag (a b : List Int) (ha : a.length ≤ 200) (k : Nat) : ∃ fl : Bool, calamuslaw03_ClusterBehind.l0 (k + 1) a b [10, 120] 2 1 = calamuslaw03_ClusterBehind.j2 k a b 120 [10, 120] 2 1 fl ∧ (fl = false → (∀ m, m + 1 = a.length → clAt a m ≠ 7) ∧ (b ≠ [] → clAt b 0 ≠ 4 ∧ clAt b 0 ≠ 5)) := by
  have hr : rd [10, 120] 1 = 120 := rfl
  have hb0 : cn (rd b 0) = clAt b 0 := rd_cl b 0
  have tail : ∃ fl : Bool, (if (b.length : Int) > 0 then (if 0 < (b.length : Int) then ((calamusref02_Cluster.f (rd b 0)).bind fun t217 => (if t217 = 4 then (calamuslaw03_ClusterBehind.j2 k a b 120 [10, 120] 2 1 true) else ((calamusref02_Cluster.f (rd b 0)).bind fun t219 => (calamuslaw03_ClusterBehind.j2 k a b 120 [10, 120] 2 1 (t219 == 5))))) else none) else (calamuslaw03_ClusterBehind.j2 k a b 120 [10, 120] 2 1 false)) = calamuslaw03_ClusterBehind.j2 k a b 120 [10, 120] 2 1 fl ∧ (fl = false → (b ≠ [] → clAt b 0 ≠ 4 ∧ clAt b 0 ≠ 5)) := by
    by_cases h0 : (b.length : Int) > 0
    · simp only [if_pos h0, calamusref02_Cluster.f, Option.bind_some, hb0]
      by_cases h4 : clAt b 0 = 4
      · exact ⟨true, if_pos h4, fun h => by cases h⟩
      · exact ⟨clAt b 0 == 5, if_neg h4, fun h _ => ⟨h4, beq_eq_false_iff_ne.1 h⟩⟩
    · exact ⟨false, if_neg h0, fun _ hne => absurd (List.length_pos_iff.2 hne) (by omega)⟩
  obtain ⟨fl, he, hfl⟩ := tail
  rw [calamuslaw03_ClusterBehind.l0, if_pos (by decide), if_pos (by decide), if_pos (by decide), hr, if_pos rfl]
  by_cases h0 : (a.length : Int) > 0
  · obtain ⟨m, hm⟩ : ∃ m, m + 1 = a.length := ⟨a.length - 1, by omega⟩
    have hw : wrap64 ((a.length : Int) - 1) = (m : Int) := by unfold wrap64; omega
    rw [if_pos h0, hw, if_pos (by omega), if_pos (by omega)]
    simp only [calamusref02_Cluster.f, Option.bind_some, rd_cl]
    by_cases h7 : clAt a m = 7
    · exact ⟨true, if_pos h7, fun h => by cases h⟩
    · rw [if_neg h7]
      simp only [calamusref02_Cluster.f, Option.bind_some] at he
      exact ⟨fl, he, fun h => ⟨fun m' hm' => by rw [show m' = m by omega]; exact h7, hfl h⟩⟩
  · rw [if_neg h0]
    exact ⟨fl, he, fun h => ⟨fun m' hm' => absurd h0 (by omega), hfl h⟩⟩
theorem ClusterBehind : calamuslaw03_ClusterBehind.Pure := by
  intro a b _ _ _ _ _ _
  by_cases hc : (a.length : Int) > 200
  · refine ⟨20, ?_⟩
    unfold calamuslaw03_ClusterBehind.f
    rw [if_pos hc, calamuslaw03_ClusterBehind.j0, if_pos rfl, works_ok 19 (by omega)]; rfl
  · by_cases hd : (b.length : Int) > 200
    · refine ⟨20, ?_⟩
      unfold calamuslaw03_ClusterBehind.f
      rw [if_neg hc, decide_eq_true hd, calamuslaw03_ClusterBehind.j0, if_pos rfl, works_ok 19 (by omega)]; rfl
    · have w1 : wrap64 (0 + 1) = 1 := by decide +kernel
      have w2 : wrap64 (1 + 1) = 2 := by decide +kernel
      have last : ∀ K, 20 ≤ K → calamuslaw03_ClusterBehind.l0 K a b [10, 120] 2 2 = some true := by
        intro K hK
        obtain ⟨K, rfl⟩ : ∃ q, K = q + 1 := ⟨K - 1, by omega⟩
        rw [calamuslaw03_ClusterBehind.l0, if_neg (by decide), works_ok K (by omega)]; rfl
      have one : ∃ K, 500 ≤ K ∧ calamuslaw03_ClusterBehind.l0 K a b [10, 120] 2 1 = some true := by
        obtain ⟨fl, he, hfl⟩ := cbh_flag a b (by omega) (500 + (outUp b b.length).length + 4)
        refine ⟨(500 + (outUp b b.length).length + 4) + 1, by omega, he.trans ?_⟩
        cases fl
        · obtain ⟨g1, g2⟩ := hfl rfl
          rw [cbh_j2 a b (by omega) (by omega) 120 (.inr rfl) (fun _ => g1) (fun _ => g2) [10, 120] 2 1 500 (by omega), w2]
          exact last 500 (by omega)
        · rw [show 500 + (outUp b b.length).length + 4 = (503 + (outUp b b.length).length) + 1 by omega, calamuslaw03_ClusterBehind.j2, if_pos rfl, w2]
          exact last _ (by omega)
      obtain ⟨K, hK, h1⟩ := one
      have zero : calamuslaw03_ClusterBehind.l0 ((K + (outUp b b.length).length + 4) + 1) a b [10, 120] 2 0 = some true := by
        have hr : rd [10, 120] 0 = 10 := rfl
        rw [calamuslaw03_ClusterBehind.l0, if_pos (by decide), if_pos (by decide), if_pos (by decide), hr, if_neg (by decide)]
        rw [cbh_j2 a b (by omega) (by omega) 10 (.inl rfl) (fun h => absurd h (by decide)) (fun h => absurd h (by decide)) [10, 120] 2 0 K hK, w1]
        exact h1
      refine ⟨((K + (outUp b b.length).length + 4) + 1) + 1, ?_⟩
      unfold calamuslaw03_ClusterBehind.f
      rw [if_neg hc, decide_eq_false hd, calamuslaw03_ClusterBehind.j0, if_neg (by decide)]
      simp only [Option.bind_some]
      exact zero
end Go.Proofs.YtffmdnckapalfaaDoor.Pure
