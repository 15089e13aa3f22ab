/- What is passed over changes nothing: plain lemmas on the forms. Conditions: none. -/
import Derived.Test.YtffmdnckapalfaaDoorJF
import Derived.Test.YtffmdnckapalfaaDoorJx3
namespace Go.Proofs.YtffmdnckapalfaaDoor.JF
open Go.RowKit Go.Proofs.YtffmdnckapalfaaDoorW.PrintWords Go.Proofs.YtffmdnckapalfaaDoor.ExtJ Go.Proofs.YtffmdnckapalfaaDoor.T Go.Proofs.YtffmdnckapalfaaDoor.J Go.Proofs.YtffmdnckapalfaaDoor.SpecJ Go.Proofs.YtffmdnckapalfaaDoor.PurJ
/-- The characters that are not passed over. -/
def less (l : List Int) : List Int := l.filter (fun x => decide (jn x ≠ 4))
/-- Their forms, out of all forms. -/
def sel : List Int → List Int → List Int
  | c :: l, f :: fs => if jn c = 4 then sel l fs else f :: sel l fs
  | _, _ => []
theorem less_cons (c : Int) (l : List Int) : less (c :: l) = if jn c = 4 then less l else c :: less l := by
  unfold less
  by_cases h : jn c = 4 <;> simp [h]
theorem nx_less : ∀ l : List Int, nx (l.map jn) = nx ((less l).map jn)
  | [] => rfl
  | c :: l => by
    rw [List.map_cons, nx, less_cons]
    by_cases h : jn c = 4
    · rw [if_pos h, if_pos h, nx_less l]
    · rw [if_neg h, if_neg h, List.map_cons, nx, if_neg h]
theorem sel_fl : ∀ (l : List Int) (p : Option Int), sel l (fl p (l.map jn)) = fl p ((less l).map jn)
  | [], _ => rfl
  | c :: l, p => by
    rw [List.map_cons, fl, sel, less_cons]
    by_cases h : jn c = 4
    · rw [if_pos h, if_pos h, if_pos h, sel_fl l p]
    · rw [if_neg h, if_neg h, if_neg h, sel_fl l _, List.map_cons, fl, if_neg h, nx_less l]
theorem sel_forms (l : List Int) : sel l (forms l) = forms (less l) := sel_fl l none
theorem less_ok (l : List Int) : ∀ x ∈ less l, jn x ≠ 4 := fun x hx => by
  have := (List.mem_filter.1 hx).2
  simpa using this
theorem less_len (l : List Int) : (less l).length ≤ l.length := List.length_filter_le _ _
/-- A neighbour ahead that does not join the first character is none. -/
theorem fl_none (x : Int) (l : List Int) (h : ∀ y, l.head? = some y → jb x y = false ∧ y ≠ 4) : fl (some x) l = fl none l := by
  cases l with
  | nil => rfl
  | cons y l =>
    obtain ⟨h1, h2⟩ := h y rfl
    simp only [fl, jp, h1, if_neg h2]
theorem fl_app : ∀ (a b : List Int) (p : Option Int), a ≠ [] → (∀ x ∈ a, x ≠ 4) → (∀ y ∈ b, y ≠ 4) → (∀ x y, a.getLast? = some x → b.head? = some y → jb x y = false) →
    fl p (a ++ b) = fl p a ++ fl none b
  | [], _, _, h, _, _, _ => absurd rfl h
  | [x], b, p, _, ha, hb, hj => by
    have hx : x ≠ 4 := ha x (by simp)
    have h1 : js x (nx b) = js x (nx []) := by
      cases b with
      | nil => rfl
      | cons y b =>
        have hy : y ≠ 4 := hb y (by simp)
        simp only [nx, if_neg hy, js]
        exact hj x y rfl rfl
    have h2 := fl_none x b (fun y hy => ⟨hj x y rfl hy, hb y (List.mem_of_head? hy)⟩)
    simp only [List.cons_append, List.nil_append, fl, if_neg hx, h1, h2]
  | x :: x2 :: a, b, p, _, ha, hb, hj => by
    have hx : x ≠ 4 := ha x (by simp)
    have hx2 : x2 ≠ 4 := ha x2 (by simp)
    have ih := fl_app (x2 :: a) b (some x) (by simp) (fun z hz => ha z (List.mem_cons_of_mem _ hz)) hb (fun u y hu hy => hj u y (by rw [List.getLast?_cons_cons]; exact hu) hy)
    have e : ∀ (p : Option Int) (rest : List Int), fl p (x :: x2 :: rest) = frm (jp p x) (js x (some x2)) x :: fl (some x) (x2 :: rest) := fun p rest => by
      conv => lhs; rw [fl]
      simp only [nx, if_neg hx, if_neg hx2]
    show fl p (x :: x2 :: (a ++ b)) = _
    rw [e, e, List.cons_append, ← ih]
    rfl
/-- Where two neighbours do not join, each side has its forms as if it stood alone. -/
theorem forms_cut (t : List Int) (h4 : ∀ x ∈ t, jn x ≠ 4) (k : Nat) (hk : k ≤ t.length) (hj : ∀ (h0 : 0 < k) (h1 : k < t.length), jb (jn (t[k - 1]'(by omega))) (jn t[k]) = false) :
    forms (t.take k) = (forms t).take k ∧ forms (t.drop k) = (forms t).drop k := by
  have key : forms t = forms (t.take k) ++ forms (t.drop k) := by
    rcases Nat.eq_zero_or_pos k with rfl | h0
    · simp [forms, fl]
    · unfold forms
      rw [← fl_app _ _ none (by intro h; have := congrArg List.length h; rw [List.length_map, List.length_take, List.length_nil] at this; omega) (by simp only [List.mem_map]; rintro _ ⟨x, hx, rfl⟩; exact h4 x (List.mem_of_mem_take hx)) (by simp only [List.mem_map]; rintro _ ⟨x, hx, rfl⟩; exact h4 x (List.mem_of_mem_drop hx)) ?_, ← List.map_append, List.take_append_drop]
      intro x y hx hy
      by_cases h1 : k < t.length
      · have e1 : ((t.take k).map jn).getLast? = some (jn (t[k - 1]'(by omega))) := by
          rw [List.getLast?_eq_getElem?, List.getElem?_map, List.length_map, List.length_take, List.getElem?_take, Nat.min_eq_left hk, if_pos (by omega), List.getElem?_eq_getElem (by omega)]
          rfl
        have e2 : ((t.drop k).map jn).head? = some (jn t[k]) := by
          rw [List.drop_eq_getElem_cons h1]; rfl
        rw [e1] at hx
        rw [e2] at hy
        cases hx; cases hy
        exact hj h0 h1
      · rw [List.drop_eq_nil_of_le (by omega)] at hy
        cases hy
  have hl : (forms (t.take k)).length = k := by rw [forms_length, List.length_take]; omega
  rw [key]
  exact ⟨(List.take_left' hl).symm, (List.drop_left' hl).symm⟩
theorem pass_none (l : List Int) (i : Nat) (hi : i < l.length) (h : jn (rd l (i : Int)) = 4) : rd (forms l) (i : Int) = 0 := by
  rw [form_at l i hi, ← rd_jn, h]
  rfl
theorem pick_ok (n : Int) (m : Nat) (hm : m ≤ 1000000) : ∃ k : Nat, k ≤ m ∧ calamuskit_Pick.f n ((m : Int) + 1) = some (k : Int) := by
  have h1 : -((m : Int) + 1) < Int.tmod n ((m : Int) + 1) := by
    have := Int.lt_tmod_of_pos n (show (0 : Int) < (m : Int) + 1 by omega)
    omega
  have h2 : Int.tmod n ((m : Int) + 1) < (m : Int) + 1 := Int.tmod_lt_of_pos n (by omega)
  have h3 : 0 ≤ Int.tmod (wrap64 (Int.tmod n ((m : Int) + 1) + ((m : Int) + 1))) ((m : Int) + 1) := Int.tmod_nonneg _ (by unfold wrap64; omega)
  have h4 : Int.tmod (wrap64 (Int.tmod n ((m : Int) + 1) + ((m : Int) + 1))) ((m : Int) + 1) < (m : Int) + 1 := Int.tmod_lt_of_pos _ (by omega)
  refine ⟨(Int.tmod (wrap64 (Int.tmod n ((m : Int) + 1) + ((m : Int) + 1))) ((m : Int) + 1)).toNat, by omega, ?_⟩
  unfold calamuskit_Pick.f
  rw [if_neg (by omega), if_neg (by omega)]
  congr 1
  omega
end Go.Proofs.YtffmdnckapalfaaDoor.JF
