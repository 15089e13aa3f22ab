/- Plain lists: the marks that the program makes of neighbours tell the forms. No conditions. -/
import Derived.Test.YtffmdnckapalfaaDoorSpecJ
namespace Go.Proofs.YtffmdnckapalfaaDoor.ExtJ
open Go.Proofs.YtffmdnckapalfaaDoor.SpecJ
/-- The last place ahead of k that is not passed over. -/
def lastUp (f : Nat → Int) : Nat → Option Nat
  | 0 => none
  | k + 1 => if f k = 4 then lastUp f k else some k
/-- The pairs of neighbours, the second of each ahead of k. -/
def prsUp (f : Nat → Int) : Nat → List (Nat × Nat)
  | 0 => []
  | k + 1 => if f k = 4 then prsUp f k else match lastUp f k with | none => prsUp f k | some a => prsUp f k ++ [(a, k)]
theorem lastUp_lt (f : Nat → Int) : ∀ (k a : Nat), lastUp f k = some a → a < k
  | 0, _, h => by simp [lastUp] at h
  | k + 1, a, h => by
    simp only [lastUp] at h
    split at h
    · have := lastUp_lt f k a h; omega
    · have := Option.some.inj h; omega
theorem prsUp_length (f : Nat → Int) : ∀ k, (prsUp f k).length ≤ k
  | 0 => by simp [prsUp]
  | k + 1 => by
    have := prsUp_length f k
    simp only [prsUp]
    split
    · omega
    · split
      · omega
      · simp; omega
/-- The joining type of the k-th character. -/
def tyAt (xs : List Int) (k : Nat) : Int := jn (xs[k]?.getD 0)

/-- One pair of neighbours is marked, if they join. -/
def jstep (f : Nat → Int) (cs : List Int) (x : Nat × Nat) : List Int := if jb (f x.1) (f x.2) then (cs.set (x.1 * 2 + 1) 1).set (x.2 * 2) 1 else cs
def jall (f : Nat → Int) (n : Nat) (l : List (Nat × Nat)) : List Int := l.foldl (jstep f) (List.replicate (n * 2) 0)
theorem jstep_length (f : Nat → Int) (cs : List Int) (x : Nat × Nat) : (jstep f cs x).length = cs.length := by unfold jstep; split <;> simp
theorem jall_snoc (f : Nat → Int) (n : Nat) (l : List (Nat × Nat)) (x : Nat × Nat) : jall f n (l ++ [x]) = jstep f (jall f n l) x := by simp [jall]
theorem foldl_jstep_length (f : Nat → Int) : ∀ (l : List (Nat × Nat)) (cs : List Int), (l.foldl (jstep f) cs).length = cs.length
  | [], _ => rfl
  | x :: l, cs => by rw [List.foldl_cons, foldl_jstep_length f l, jstep_length]
theorem jall_length (f : Nat → Int) (n : Nat) (l : List (Nat × Nat)) : (jall f n l).length = n * 2 := by simp [jall, foldl_jstep_length]

theorem foldl_01 (f : Nat → Int) : ∀ (l : List (Nat × Nat)) (cs : List Int), (∀ x ∈ cs, x = 0 ∨ x = 1) → ∀ x ∈ l.foldl (jstep f) cs, x = 0 ∨ x = 1
  | [], _, h => h
  | p :: l, cs, h => by
    rw [List.foldl_cons]
    refine foldl_01 f l _ ?_
    intro x hx
    unfold jstep at hx
    split at hx
    · rcases List.mem_or_eq_of_mem_set hx with hx | rfl
      · rcases List.mem_or_eq_of_mem_set hx with hx | rfl
        · exact h x hx
        · exact .inr rfl
      · exact .inr rfl
    · exact h x hx
theorem jall_01 (f : Nat → Int) (n : Nat) (l : List (Nat × Nat)) (i : Nat) : (jall f n l).getD i 0 = 0 ∨ (jall f n l).getD i 0 = 1 := by
  rw [List.getD_eq_getElem?_getD]
  cases h : (jall f n l)[i]? with
  | none => exact .inl rfl
  | some x => exact foldl_01 f l _ (by intro x hx; exact .inl (List.eq_of_mem_replicate hx)) x (List.mem_of_getElem? h)
/-- The form at a place, by the marks. -/
def gAt (xs : List Int) (jl : List Int) (i : Nat) : Int := frm (jl.getD (i * 2) 0 == 1) (jl.getD (i * 2 + 1) 0 == 1) (tyAt xs i)
def outUp (g : Nat → Int) (n k : Nat) : List Int := (List.range k).map g ++ List.replicate (n - k) 0
theorem outUp_zero (g : Nat → Int) (n : Nat) : outUp g n 0 = List.replicate n 0 := by simp [outUp]
theorem outUp_length (g : Nat → Int) (n k : Nat) (h : k ≤ n) : (outUp g n k).length = n := by simp [outUp]; omega
theorem outUp_succ (g : Nat → Int) (n k : Nat) (h : k < n) : outUp g n (k + 1) = (outUp g n k).set k (g k) := by
  unfold outUp
  rw [show n - k = (n - (k + 1)) + 1 by omega, List.replicate_succ, List.range_succ, List.map_append, List.append_assoc, List.set_append]
  simp
theorem outUp_same (g : Nat → Int) (n k : Nat) (h : k < n) (h0 : g k = 0) : outUp g n (k + 1) = outUp g n k := by
  rw [outUp_succ g n k h, h0]
  unfold outUp
  rw [show n - k = (n - (k + 1)) + 1 by omega, List.replicate_succ, List.set_append]
  simp
theorem outUp_all (g : Nat → Int) (n : Nat) : outUp g n n = (List.range n).map g := by simp [outUp]


theorem lastUp_spec (f : Nat → Int) : ∀ (k a : Nat), lastUp f k = some a → f a ≠ 4
  | 0, _, h => by simp [lastUp] at h
  | k + 1, a, h => by
    simp only [lastUp] at h
    split at h
    · exact lastUp_spec f k a h
    · obtain rfl := Option.some.inj h; assumption
theorem mem_prsUp (f : Nat → Int) (a b : Nat) : ∀ k, (a, b) ∈ prsUp f k ↔ b < k ∧ f b ≠ 4 ∧ lastUp f b = some a
  | 0 => by simp [prsUp]
  | k + 1 => by
    have ih := mem_prsUp f a b k
    simp only [prsUp]
    by_cases h4 : f k = 4
    · rw [if_pos h4, ih]
      constructor
      · rintro ⟨h1, h2⟩; exact ⟨by omega, h2⟩
      · rintro ⟨h1, h2, h3⟩
        have : b ≠ k := by rintro rfl; exact h2 h4
        exact ⟨by omega, h2, h3⟩
    · rw [if_neg h4]
      cases hl : lastUp f k with
      | none =>
        simp only
        rw [ih]
        constructor
        · rintro ⟨h1, h2⟩; exact ⟨by omega, h2⟩
        · rintro ⟨h1, h2, h3⟩
          have : b ≠ k := by rintro rfl; rw [hl] at h3; cases h3
          exact ⟨by omega, h2, h3⟩
      | some x =>
        simp only [List.mem_append, List.mem_singleton, Prod.mk.injEq]
        rw [ih]
        constructor
        · rintro (⟨h1, h2⟩ | ⟨rfl, rfl⟩)
          · exact ⟨by omega, h2⟩
          · exact ⟨by omega, h4, hl⟩
        · rintro ⟨h1, h2, h3⟩
          by_cases hb : b = k
          · subst hb; rw [hl] at h3; exact .inr ⟨(Option.some.inj h3).symm, rfl⟩
          · exact .inl ⟨by omega, h2, h3⟩
theorem foldl_mark (f : Nat → Int) (j : Nat) : ∀ (l : List (Nat × Nat)) (cs : List Int), j < cs.length →
    ((l.foldl (jstep f) cs).getD j 0 = 1 ↔ cs.getD j 0 = 1 ∨ ∃ p ∈ l, jb (f p.1) (f p.2) = true ∧ (j = p.1 * 2 + 1 ∨ j = p.2 * 2))
  | [], cs, _ => by simp
  | p :: l, cs, hj => by
    rw [List.foldl_cons, foldl_mark f j l _ (by rw [jstep_length]; exact hj)]
    have h1 : (jstep f cs p).getD j 0 = 1 ↔ cs.getD j 0 = 1 ∨ (jb (f p.1) (f p.2) = true ∧ (j = p.1 * 2 + 1 ∨ j = p.2 * 2)) := by
      unfold jstep
      split
      · rename_i hjb
        simp only [List.getD_eq_getElem?_getD, List.getElem?_set, List.length_set]
        by_cases h2 : p.2 * 2 = j
        · simp [h2, hj, hjb]
        · by_cases h3 : p.1 * 2 + 1 = j
          · simp [h2, h3, hj, hjb]
          · have h2' : ¬ j = p.2 * 2 := fun e => h2 e.symm
            have h3' : ¬ j = p.1 * 2 + 1 := fun e => h3 e.symm
            simp [h2, h3, h2', h3']
      · rename_i hjb
        simp [hjb]
    rw [h1]
    constructor
    · rintro ((h | h) | ⟨q, hq, h⟩)
      · exact .inl h
      · exact .inr ⟨p, List.mem_cons_self, h⟩
      · exact .inr ⟨q, List.mem_cons_of_mem _ hq, h⟩
    · rintro (h | ⟨q, hq, h⟩)
      · exact .inl (.inl h)
      · rcases List.mem_cons.1 hq with rfl | hq
        · exact .inl (.inr h)
        · exact .inr ⟨q, hq, h⟩
theorem jall_mark (f : Nat → Int) (n j : Nat) (l : List (Nat × Nat)) (hj : j < n * 2) : (jall f n l).getD j 0 = 1 ↔ ∃ p ∈ l, jb (f p.1) (f p.2) = true ∧ (j = p.1 * 2 + 1 ∨ j = p.2 * 2) := by
  unfold jall
  rw [foldl_mark f j l _ (by simpa using hj)]
  constructor
  · rintro (h | h)
    · rw [List.getD_eq_getElem?_getD, List.getElem?_replicate_of_lt hj] at h; cases h
    · exact h
  · exact .inr

/-- The neighbour ahead of the i-th, p being the one ahead of all. -/
def pv : Option Int → List Int → Nat → Option Int
  | p, _, 0 => p
  | p, [], _ + 1 => p
  | p, c :: l, i + 1 => pv (if c = 4 then p else some c) l i
theorem fl_at : ∀ (l : List Int) (p : Option Int) (i : Nat) (c : Int), l[i]? = some c → (fl p l)[i]? = some (frm (jp (pv p l i) c) (js c (nx (l.drop (i + 1)))) c)
  | [], _, i, c, h => by simp at h
  | x :: l, p, 0, c, h => by
    obtain rfl : x = c := by simpa using h
    simp [fl, pv]
  | x :: l, p, i + 1, c, h => by
    have := fl_at l (if x = 4 then p else some x) i c (by simpa using h)
    simpa [fl, pv] using this
theorem pv_succ : ∀ (l : List Int) (p : Option Int) (i : Nat) (c : Int), l[i]? = some c → pv p l (i + 1) = if c = 4 then pv p l i else some c
  | [], _, i, c, h => by simp at h
  | x :: l, p, 0, c, h => by
    obtain rfl : x = c := by simpa using h
    simp [pv]
  | x :: l, p, i + 1, c, h => by
    have := pv_succ l (if x = 4 then p else some x) i c (by simpa using h)
    simpa [pv] using this
theorem pv_last (l : List Int) (f : Nat → Int) (hf : ∀ i c, l[i]? = some c → f i = c) : ∀ i, i ≤ l.length → pv none l i = (lastUp f i).map f
  | 0, _ => by cases l <;> rfl
  | i + 1, h => by
    have hi : l[i]? = some l[i] := List.getElem?_eq_getElem (by omega)
    rw [pv_succ l none i _ hi, pv_last l f hf i (by omega), lastUp, hf i _ hi]
    split
    · rfl
    · simp [hf i _ hi]
theorem nx_spec : ∀ (l : List Int), match nx l with | none => ∀ (j : Nat) (c : Int), l[j]? = some c → c = 4 | some c => ∃ j : Nat, l[j]? = some c ∧ c ≠ 4 ∧ ∀ i : Nat, i < j → l[i]? = some 4
  | [] => by simp [nx]
  | x :: l => by
    have ih := nx_spec l
    simp only [nx]
    by_cases h : x = 4
    · rw [if_pos h]
      cases hn : nx l with
      | none =>
        rw [hn] at ih
        simp only at ih ⊢
        intro j c hj
        cases j with
        | zero => simp at hj; omega
        | succ j => exact ih j c (by simpa using hj)
      | some c =>
        rw [hn] at ih
        simp only at ih ⊢
        obtain ⟨j, h1, h2, h3⟩ := ih
        refine ⟨j + 1, by simpa using h1, h2, fun i hi => ?_⟩
        cases i with
        | zero => simp [h]
        | succ i => simpa using h3 i (by omega)
    · rw [if_neg h]
      exact ⟨0, by simp, h, fun i hi => by omega⟩
theorem lastUp_gap (f : Nat → Int) (a : Nat) (ha : f a ≠ 4) : ∀ d, (∀ i, a < i → i < a + 1 + d → f i = 4) → lastUp f (a + 1 + d) = some a
  | 0, _ => by simp [lastUp, ha]
  | d + 1, h => by
    have : f (a + 1 + d) = 4 := h _ (by omega) (by omega)
    rw [show a + 1 + (d + 1) = (a + 1 + d) + 1 by omega, lastUp, if_pos this]
    exact lastUp_gap f a ha d (fun i h1 h2 => h i h1 (by omega))
theorem lastUp_all4 (f : Nat → Int) : ∀ (k a : Nat), lastUp f k = some a → ∀ i, a < i → i < k → f i = 4
  | 0, _, h, _, _, _ => by simp [lastUp] at h
  | k + 1, a, h, i, h1, h2 => by
    simp only [lastUp] at h
    split at h
    · rename_i h4
      by_cases hik : i = k
      · rw [hik]; exact h4
      · exact lastUp_all4 f k a h i h1 (by omega)
    · have := Option.some.inj h; omega

theorem marks_forms (xs : List Int) : (List.range xs.length).map (gAt xs (jall (tyAt xs) xs.length (prsUp (tyAt xs) xs.length))) = forms xs := by
  apply List.ext_getElem?
  intro i
  by_cases hi : i < xs.length
  · have hl : (xs.map jn)[i]? = some (tyAt xs i) := by simp [tyAt, hi]
    have hf : ∀ j c, (xs.map jn)[j]? = some c → tyAt xs j = c := by
      intro j c h
      rw [List.getElem?_map, Option.map_eq_some_iff] at h
      obtain ⟨x, hx, rfl⟩ := h
      simp [tyAt, hx]
    have hat : ∀ j, j < xs.length → (xs.map jn)[j]? = some (tyAt xs j) := fun j hj => by simp [tyAt, hj]
    unfold forms
    rw [fl_at _ none i _ hl, pv_last _ (tyAt xs) hf i (by simp; omega)]
    rw [List.getElem?_map, List.getElem?_range hi]
    simp only [Option.map_some, gAt]
    by_cases h4 : tyAt xs i = 4
    · simp [frm, h4]
    · congr 2
      · -- ahead
        rw [Bool.eq_iff_iff, beq_iff_eq, jall_mark _ _ _ _ (by omega)]
        constructor
        · rintro ⟨⟨a, b⟩, hm, hjb, h | h⟩
          · dsimp only at h; omega
          · dsimp only at h hjb
            obtain rfl : b = i := by omega
            obtain ⟨_, _, hl⟩ := (mem_prsUp _ _ _ _).1 hm
            rw [hl]; exact hjb
        · intro h
          cases hlu : lastUp (tyAt xs) i with
          | none => rw [hlu] at h; simp [jp] at h
          | some a =>
            rw [hlu] at h
            exact ⟨(a, i), (mem_prsUp _ _ _ _).2 ⟨hi, h4, hlu⟩, h, .inr rfl⟩
      · -- behind
        rw [Bool.eq_iff_iff, beq_iff_eq, jall_mark _ _ _ _ (by omega)]
        have hn := nx_spec ((xs.map jn).drop (i + 1))
        constructor
        · rintro ⟨⟨a, b⟩, hm, hjb, h | h⟩
          · dsimp only at h hjb
            obtain rfl : a = i := by omega
            obtain ⟨hbn, hb4, hlu⟩ := (mem_prsUp _ _ _ _).1 hm
            have hab := lastUp_lt _ _ _ hlu
            have hb : ((xs.map jn).drop (a + 1))[b - (a + 1)]? = some (tyAt xs b) := by
              rw [List.getElem?_drop, show a + 1 + (b - (a + 1)) = b by omega]; exact hat b hbn
            cases hx : nx ((xs.map jn).drop (a + 1)) with
            | none =>
              rw [hx] at hn
              exact absurd (hn _ _ hb) hb4
            | some c =>
              rw [hx] at hn
              obtain ⟨j, h1, h2, h3⟩ := hn
              have hj : a + 1 + j < xs.length := by
                have := (List.getElem?_eq_some_iff.1 h1).1
                simp at this; omega
              have hc : tyAt xs (a + 1 + j) = c := by
                rw [List.getElem?_drop] at h1
                exact hf _ _ h1
              have : a + 1 + j = b := by
                rcases Nat.lt_trichotomy (a + 1 + j) b with hlt | he | hgt
                · have := lastUp_all4 _ _ _ hlu (a + 1 + j) (by omega) hlt
                  rw [hc] at this; exact absurd this h2
                · exact he
                · have := h3 (b - (a + 1)) (by omega)
                  rw [hb] at this
                  exact absurd (Option.some.inj this) hb4
              rw [← hc, this]; exact hjb
          · dsimp only at h; omega
        · intro h
          cases hx : nx ((xs.map jn).drop (i + 1)) with
          | none => rw [hx] at h; simp [js] at h
          | some c =>
            rw [hx] at hn h
            obtain ⟨j, h1, h2, h3⟩ := hn
            have hj : i + 1 + j < xs.length := by
              have := (List.getElem?_eq_some_iff.1 h1).1
              simp at this; omega
            have hc : tyAt xs (i + 1 + j) = c := by
              rw [List.getElem?_drop] at h1
              exact hf _ _ h1
            refine ⟨(i, i + 1 + j), (mem_prsUp _ _ _ _).2 ⟨hj, by rw [hc]; exact h2, lastUp_gap _ i h4 j (fun q h5 h6 => ?_)⟩, ?_, .inl rfl⟩
            · have := h3 (q - (i + 1)) (by omega)
              rw [List.getElem?_drop, show i + 1 + (q - (i + 1)) = q by omega] at this
              exact hf _ _ this
            · dsimp only; rw [hc]; exact h
  · have h1 : (forms xs)[i]? = none := List.getElem?_eq_none_iff.2 (by rw [forms_length]; omega)
    rw [h1, List.getElem?_eq_none_iff]
    simp; omega
end Go.Proofs.YtffmdnckapalfaaDoor.ExtJ
