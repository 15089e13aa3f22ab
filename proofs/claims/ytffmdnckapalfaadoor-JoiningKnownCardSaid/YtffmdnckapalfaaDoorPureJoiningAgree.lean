/- Neighbours' forms agree, at every row of at most 600 characters. No conditions. -/
import Derived.Test.YtffmdnckapalfaaDoorJx5
import Derived.Test.YtffmdnckapalfaaDoorPurJ
namespace Go.Proofs.YtffmdnckapalfaaDoor.Pure
open Go.RowKit Go.Proofs.YtffmdnckapalfaaDoor.J Go.Proofs.YtffmdnckapalfaaDoor.PurJ Go.Proofs.YtffmdnckapalfaaDoor.SpecJ Go.Proofs.YtffmdnckapalfaaDoor.ExtJ Go.Proofs.YtffmdnckapalfaaDoor.T Go.Proofs.YtffmdnckapalfaaDoorW.PrintWords

def lastJ : Option Nat → Int
  | none => -1
  | some a => a
theorem frm_false (b : Bool) (t : Int) : frm false b t ≠ 3 ∧ frm false b t ≠ 4 := by
  cases b <;> (unfold frm; repeat' split) <;> simp_all
theorem frm_false2 (a : Bool) (t : Int) : frm a false t ≠ 2 := by
  cases a <;> (unfold frm; repeat' split) <;> simp_all
theorem agree_loop (xs : List Int) (hn : xs.length ≤ 1000000) (d : Nat) : ∀ (k i : Nat), i + d = xs.length → 3 * d + 2 ≤ k →
    calamuslaw15_JoiningAgree.l0 k xs (forms xs) (lastJ (lastUp (tyAt xs) i)) (i : Int) = some true := by
  induction d with
  | zero =>
    intro k i h hk
    obtain ⟨k, rfl⟩ : ∃ m, k = m + 1 + 1 := ⟨k - 2, by omega⟩
    rw [calamuslaw15_JoiningAgree.l0, if_neg (by omega), works_ok]
    rfl
  | succ d ih =>
    intro k i h hk
    obtain ⟨k, rfl⟩ : ∃ m, k = m + 1 + 1 + 1 := ⟨k - 3, by omega⟩
    have hi : i < xs.length := by omega
    have hlen := forms_length xs
    have hw : wrap64 ((i : Int) + 1) = ((i + 1 : Nat) : Int) := by unfold wrap64; omega
    rw [calamuslaw15_JoiningAgree.l0, if_pos (by omega), if_pos (by omega)]
    simp only [calamusref02_Joining.f, Option.bind_some, rd_jn]
    by_cases h4 : tyAt xs i = 4
    · rw [if_pos h4, hw]
      have hl : lastUp (tyAt xs) (i + 1) = lastUp (tyAt xs) i := by simp [lastUp, h4]
      rw [← hl]
      exact ih _ _ (by omega) (by omega)
    · rw [if_neg h4, if_pos (by omega)]
      have hl : lastUp (tyAt xs) (i + 1) = some i := by simp [lastUp, h4]
      have next := ih k (i + 1) (by omega) (by omega)
      rw [hl, ← hw] at next
      replace next : calamuslaw15_JoiningAgree.l0 k xs (forms xs) (i : Int) (wrap64 ((i : Int) + 1)) = some true := next
      have hf := form_at xs i hi
      cases hlu : lastUp (tyAt xs) i with
      | none =>
        rw [hlu] at hf
        simp only [Option.map_none, jp] at hf
        have h3 : rd (forms xs) (i : Int) ≠ 3 := by rw [hf]; exact (frm_false _ _).1
        have h4' : (rd (forms xs) (i : Int) == 4) = false := by rw [hf]; simpa using (frm_false _ _).2
        rw [if_neg h3, h4']
        simp only [lastJ, calamuslaw15_JoiningAgree.j1, calamuslaw15_JoiningAgree.j2]
        simpa using next
      | some a =>
        have hai := lastUp_lt _ _ _ hlu
        have hfa := form_at xs a (by omega)
        rw [nx_next xs i a hi hlu h4] at hfa
        rw [hlu] at hf
        simp only [Option.map_some, jp] at hf
        simp only [js] at hfa
        have ha4 := lastUp_spec _ _ _ hlu
        simp only [lastJ]
        have hneg : ¬ ((a : Int) < 0) := by omega
        have hge : (a : Int) ≥ 0 := by omega
        have hge' : (0 : Int) ≤ (a : Int) := by omega
        have hla : (a : Int) < ((forms xs).length : Int) := by omega
        have hlx : (a : Int) < (xs.length : Int) := by omega
        have hi0 : (0 : Int) ≤ (i : Int) := by omega
        have hlxi : (i : Int) < (xs.length : Int) := by omega
        obtain ⟨fi, hfi⟩ : ∃ fi, fi = rd (forms xs) (i : Int) := ⟨_, rfl⟩
        obtain ⟨fa, hfa'⟩ : ∃ fa, fa = rd (forms xs) (a : Int) := ⟨_, rfl⟩
        rw [← hfi] at hf ⊢
        rw [← hfa'] at hfa
        obtain ⟨x, hx⟩ : ∃ x, x = tyAt xs a := ⟨_, rfl⟩
        obtain ⟨y, hy⟩ : ∃ y, y = tyAt xs i := ⟨_, rfl⟩
        rw [← hx, ← hy] at hf hfa
        obtain ⟨p, hp⟩ : ∃ p, p = jp ((lastUp (tyAt xs) a).map (tyAt xs)) x := ⟨_, rfl⟩
        rw [← hp] at hfa
        obtain ⟨q, hq⟩ : ∃ q, q = js y (nx ((xs.map jn).drop (i + 1))) := ⟨_, rfl⟩
        rw [← hq] at hf
        have goal : ∀ j : Bool, j = (fi == 3 || fi == 4) → calamuslaw15_JoiningAgree.j1 (k + 1 + 1) xs (forms xs) (a : Int) (i : Int) j = some true := by
          intro j hj
          simp only [calamuslaw15_JoiningAgree.j1, calamuslaw15_JoiningAgree.j2]
          rw [if_neg hneg, if_neg Bool.false_ne_true, if_pos hge, if_pos hge', if_pos hla, ← hfa']
          simp only [if_pos hi0, if_pos hlxi, if_pos hlx, calamusref02_Joining.f, Option.bind_some, rd_jn, ← hx, ← hy, next]
          have key : (j = true → fa = 3 ∨ fa = 2 ∨ x = 3) ∧ (fa = 2 → y ≠ 3 → j = true) := by
            subst hj
            have hjb : jb x y = ((x == 2 || x == 3 || x == 5) && (y == 1 || y == 2 || y == 3)) := rfl
            cases hb : jb x y with
            | true =>
              rw [hb] at hf hfa hjb
              have hxs : x = 2 ∨ x = 3 ∨ x = 5 := by
                have := hjb.symm
                simp at this; omega
              have hys : y = 1 ∨ y = 2 ∨ y = 3 := by
                have := hjb.symm
                simp at this; omega
              refine ⟨fun _ => ?_, fun _ hy3 => ?_⟩
              · rcases hxs with rfl | rfl | rfl
                · simp [frm] at hfa; cases p <;> simp at hfa <;> omega
                · exact .inr (.inr rfl)
                · simp [frm] at hfa; omega
              · rcases hys with rfl | rfl | rfl
                · simp [frm] at hf; simp [hf]
                · simp [frm] at hf; cases q <;> simp at hf <;> simp [hf]
                · exact absurd rfl hy3
            | false =>
              rw [hb] at hf hfa
              refine ⟨fun h => ?_, fun h2 => ?_⟩
              · exfalso
                have : fi ≠ 3 ∧ fi ≠ 4 := by rw [hf]; exact frm_false _ _
                simp [this.1, this.2] at h
              · exfalso
                have : fa ≠ 2 := by rw [hfa]; exact frm_false2 _ _
                exact this h2
          obtain ⟨k1, k2⟩ := key
          by_cases e3 : fa = 3
          · rw [if_pos e3]
            cases j
            · have : fa ≠ 2 := by omega
              simp [this]
            · simp
          · rw [if_neg e3]
            by_cases e2 : fa = 2
            · rw [if_pos e2]
              by_cases ey : y = 3
              · simp [ey]
              · have := k2 e2 ey
                simp [this]
            · rw [if_neg e2]
              cases j
              · simp
              · rcases k1 rfl with h | h | h
                · exact absurd h e3
                · exact absurd h e2
                · simp [h]
        by_cases e3 : fi = 3
        · rw [if_pos e3]; exact goal true (by simp [e3])
        · rw [if_neg e3]; exact goal _ (by simp [e3])
theorem JoiningAgree : calamuslaw15_JoiningAgree.Pure := by
  intro xs _ _ _
  refine ⟨3 * xs.length + 2, ?_⟩
  unfold calamuslaw15_JoiningAgree.f
  by_cases h : (xs.length : Int) > 600
  · rw [if_pos h, works_ok]; rfl
  · rw [if_neg h]
    have hl : xs.length ≤ 1000000 := by omega
    simp only [joining_Forms.f, if_pos hl, Option.bind_some, forms_length, if_true]
    exact agree_loop xs hl xs.length _ 0 (by omega) (by omega)
end Go.Proofs.YtffmdnckapalfaaDoor.Pure
