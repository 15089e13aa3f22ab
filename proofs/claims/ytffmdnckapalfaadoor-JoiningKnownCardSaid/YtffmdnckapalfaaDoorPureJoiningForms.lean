/- The document's forms of characters (calamusref15.Forms as printed) are the plain ones. Conditions: at most 1000000 characters. -/
import Derived.Test.YtffmdnckapalfaaDoorJx2
import Derived.Test.YtffmdnckapalfaaDoorPurJ
namespace Go.Proofs.YtffmdnckapalfaaDoor.PurJ
open Go.RowKit Go.Proofs.YtffmdnckapalfaaDoor.J Go.Proofs.YtffmdnckapalfaaDoor.SpecJ Go.Proofs.YtffmdnckapalfaaDoor.ExtJ Go.Proofs.YtffmdnckapalfaaDoor.T Go.Proofs.YtffmdnckapalfaaDoorW.PrintWords
theorem ahead_run (xs : List Int) (i : Nat) (hi : i < xs.length) (hl : xs.length ≤ 1000000) : ∀ (m k : Nat), m ≤ i → m + 1 ≤ k →
    calamusref15_ahead.l0 k xs (i : Int) ((m : Int) - 1) = some (jp ((lastUp (tyAt xs) m).map (tyAt xs)) (tyAt xs i))
  | 0, k, _, hk => by
    obtain ⟨k', rfl⟩ : ∃ k', k = k' + 1 := ⟨k - 1, by omega⟩
    rw [calamusref15_ahead.l0, if_neg (by omega)]
    rfl
  | m + 1, k, hm, hk => by
    obtain ⟨k', rfl⟩ : ∃ k', k = k' + 1 := ⟨k - 1, by omega⟩
    have e : (((m + 1 : Nat) : Int) - 1) = (m : Int) := by omega
    rw [e, calamusref15_ahead.l0, if_pos (by omega), if_pos (by omega), if_pos (by omega)]
    simp only [calamusref02_Joining.f, Option.bind_some, joins_ref, rd_jn]
    by_cases h4 : tyAt xs m = 4
    · rw [if_pos h4, show wrap64 ((m : Int) - 1) = (m : Int) - 1 by unfold wrap64; omega, ahead_run xs i hi hl m k' (by omega) (by omega)]
      simp [lastUp, h4]
    · rw [if_neg h4, if_pos (by omega), if_pos (by omega)]
      simp [lastUp, h4, jp]
theorem drop_cons (xs : List Int) (m : Nat) (hm : m < xs.length) : (xs.map jn).drop m = tyAt xs m :: (xs.map jn).drop (m + 1) := by
  rw [List.drop_eq_getElem_cons (by simpa using hm)]
  simp [tyAt, hm]
theorem behind_run (xs : List Int) (i : Nat) (hi : i < xs.length) (hl : xs.length ≤ 1000000) : ∀ (d m k : Nat), m + d = xs.length → d + 1 ≤ k →
    calamusref15_behind.l0 k xs (i : Int) (m : Int) = some (js (tyAt xs i) (nx ((xs.map jn).drop m)))
  | 0, m, k, hm, hk => by
    obtain ⟨k', rfl⟩ : ∃ k', k = k' + 1 := ⟨k - 1, by omega⟩
    rw [calamusref15_behind.l0, if_neg (by omega), List.drop_eq_nil_of_le (by simp; omega)]
    rfl
  | d + 1, m, k, hm, hk => by
    obtain ⟨k', rfl⟩ : ∃ k', k = k' + 1 := ⟨k - 1, by omega⟩
    rw [calamusref15_behind.l0, if_pos (by omega), if_pos (by omega), drop_cons xs m (by omega)]
    simp only [calamusref02_Joining.f, Option.bind_some, joins_ref, rd_jn, nx]
    by_cases h4 : tyAt xs m = 4
    · rw [if_pos h4, if_pos h4, show wrap64 ((m : Int) + 1) = ((m + 1 : Nat) : Int) by unfold wrap64; omega, behind_run xs i hi hl d (m + 1) k' (by omega) (by omega)]
    · rw [if_neg h4, if_neg h4, if_pos (by omega), if_pos (by omega)]
      simp [js]
theorem forms_cons (xs : List Int) (i : Nat) (hi : i < xs.length) : (forms xs).drop i = rd (forms xs) (i : Int) :: (forms xs).drop (i + 1) := by
  rw [List.drop_eq_getElem_cons (by rw [forms_length]; exact hi)]
  simp [rd, forms_length, hi]
theorem ref_run (xs : List Int) (hl : xs.length ≤ 1000000) : ∀ (g i k : Nat) (cur : List Int), g + i = xs.length → 2 * g + xs.length + 5 ≤ k → cur.length ≤ 1000000 + i →
    calamusref15_Forms.l0 k xs cur (i : Int) = some (cur ++ (forms xs).drop i)
  | 0, i, k, cur, hi, hk, hc => by
    obtain ⟨k', rfl⟩ : ∃ k', k = k' + 1 := ⟨k - 1, by omega⟩
    rw [calamusref15_Forms.l0, if_neg (by omega), List.drop_eq_nil_of_le (by rw [forms_length]; omega), List.append_nil]
  | g + 1, i, k, cur, hi, hk, hc => by
    obtain ⟨k', rfl⟩ : ∃ k', k = k' + 2 := ⟨k - 2, by omega⟩
    have h1 : calamusref15_ahead.f (k' + 1) xs (i : Int) = some (jp ((lastUp (tyAt xs) i).map (tyAt xs)) (tyAt xs i)) := by
      unfold calamusref15_ahead.f
      rw [show wrap64 ((i : Int) - 1) = (i : Int) - 1 by unfold wrap64; omega]
      exact ahead_run xs i (by omega) hl i (k' + 1) (Nat.le_refl _) (by omega)
    have h2 : calamusref15_behind.f (k' + 1) xs (i : Int) = some (js (tyAt xs i) (nx ((xs.map jn).drop (i + 1)))) := by
      unfold calamusref15_behind.f
      rw [show wrap64 ((i : Int) + 1) = ((i + 1 : Nat) : Int) by unfold wrap64; omega]
      exact behind_run xs i (by omega) hl g (i + 1) (k' + 1) (by omega) (by omega)
    have hs : wrap64 ((i : Int) + 1) = ((i + 1 : Nat) : Int) := by unfold wrap64; omega
    have ih : ∀ (k : Nat) (v : Int), k' ≤ k → calamusref15_Forms.l0 k xs (cur ++ [v]) ((i + 1 : Nat) : Int) = some ((cur ++ [v]) ++ (forms xs).drop (i + 1)) := fun k v hk' =>
      ref_run xs hl g (i + 1) k (cur ++ [v]) (by omega) (by omega) (by rw [List.length_append, List.length_singleton]; omega)
    rw [forms_cons xs i (by omega), form_at xs i (by omega), show k' + 2 = (k' + 1) + 1 by omega, calamusref15_Forms.l0, if_pos (by omega), h1, Option.bind_some, h2, Option.bind_some, if_pos (by omega)]
    simp only [calamusref02_Joining.f, Option.bind_some, rd_jn, if_pos (show cur.length < 140737488355328 by omega), hs, calamusref15_Forms.j1, ih _ _ (Nat.le_refl k'), ih _ _ (Nat.le_succ k'), frm]
    generalize jp ((lastUp (tyAt xs) i).map (tyAt xs)) (tyAt xs i) = a
    generalize js (tyAt xs i) (nx ((xs.map jn).drop (i + 1))) = b
    cases a <;> cases b <;> simp <;> (repeat' split) <;> simp_all
theorem ref_forms (xs : List Int) (hl : xs.length ≤ 1000000) : calamusref15_Forms.f (3 * xs.length + 5) xs = some (forms xs) := by
  have := ref_run xs hl xs.length 0 (3 * xs.length + 5) [] rfl (by omega) (by simp)
  simpa [calamusref15_Forms.f] using this
end Go.Proofs.YtffmdnckapalfaaDoor.PurJ
