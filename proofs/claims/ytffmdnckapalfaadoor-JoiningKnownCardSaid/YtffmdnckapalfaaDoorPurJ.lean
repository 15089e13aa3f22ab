/- Plain lemmas on the printed functions of the joining laws: what joins, the examples, the forms at a place. No conditions. -/
import Derived.Test.YtffmdnckapalfaaDoorJx1
import Derived.Test.YtffmdnckapalfaaDoorMarksJ
namespace Go.Proofs.YtffmdnckapalfaaDoor.PurJ
open Go.RowKit Go.Proofs.YtffmdnckapalfaaDoor.J Go.Proofs.YtffmdnckapalfaaDoor.SpecJ Go.Proofs.YtffmdnckapalfaaDoor.ExtJ Go.Proofs.YtffmdnckapalfaaDoor.T Go.Proofs.YtffmdnckapalfaaDoorW.PrintWords

theorem same_self (l : List Int) : calamuskit_SameBytes.f l l = some true := by simp [calamuskit_SameBytes.f]
theorem joins_own (k : Nat) (a b : Int) : joining_Joins.f (k + 1) a b = some (jb (jn a) (jn b)) := by
  simp only [joining_Joins.f, joining_Joins.j0, ucd_Joining.f, Option.bind_some, jb]
  repeat' split
  all_goals simp_all
theorem joins_ref (a b : Int) : calamusref15_Joins.f a b = some (jb (jn a) (jn b)) := by
  simp only [calamusref15_Joins.f, calamusref02_Joining.f, Option.bind_some, jb]
  repeat' split
  all_goals simp_all
theorem forms_ex1 : forms [1576, 1576, 1576] = [2, 3, 4] := by decide +kernel
theorem forms_ex2 : forms [1576, 1614, 1575, 1576] = [2, 0, 4, 1] := by decide +kernel
theorem joins_ex1 : jb (jn 1576) (jn 1575) = true := by decide +kernel
theorem joins_ex2 : jb (jn 1575) (jn 1576) = false := by decide +kernel
theorem works_ok (k : Nat) : calamuslaw15_works.f (k + 1) = some true := by
  simp only [calamuslaw15_works.f, joining_Forms.f, List.length_cons, List.length_nil, if_pos (show 0 + 1 + 1 + 1 ≤ 1000000 by decide), if_pos (show 0 + 1 + 1 + 1 + 1 ≤ 1000000 by decide), Option.bind_some, forms_ex1, forms_ex2, same_self, joins_own, joins_ex1, joins_ex2]
  simp
theorem rd_jn (xs : List Int) (i : Nat) : jn (rd xs (i : Int)) = tyAt xs i := by simp [rd, tyAt]

theorem hf_ (xs : List Int) : ∀ (j : Nat) (c : Int), (xs.map jn)[j]? = some c → tyAt xs j = c := by
  intro j c h
  rw [List.getElem?_map, Option.map_eq_some_iff] at h
  obtain ⟨x, hx, rfl⟩ := h
  simp [tyAt, hx]
theorem hat_ (xs : List Int) (j : Nat) (hj : j < xs.length) : (xs.map jn)[j]? = some (tyAt xs j) := by simp [tyAt, hj]
/-- The form at a place. -/
theorem form_at (xs : List Int) (i : Nat) (hi : i < xs.length) :
    rd (forms xs) (i : Int) = frm (jp ((lastUp (tyAt xs) i).map (tyAt xs)) (tyAt xs i)) (js (tyAt xs i) (nx ((xs.map jn).drop (i + 1)))) (tyAt xs i) := by
  have h := fl_at (xs.map jn) none i _ (hat_ xs i hi)
  rw [pv_last _ (tyAt xs) (hf_ xs) i (by simp; omega)] at h
  unfold forms rd
  rw [List.getD_eq_getElem?_getD, Int.toNat_natCast, h]; rfl
theorem nx_gap : ∀ (l : List Int) (d : Nat) (c : Int), (∀ i, i < d → l[i]? = some 4) → l[d]? = some c → c ≠ 4 → nx l = some c
  | [], d, c, _, h, _ => by simp at h
  | x :: l, 0, c, _, h, h4 => by
    obtain rfl : x = c := by simpa using h
    simp [nx, h4]
  | x :: l, d + 1, c, h0, h, h4 => by
    have hx : x = 4 := by simpa using h0 0 (by omega)
    have := nx_gap l d c (fun i hi => by simpa using h0 (i + 1) (by omega)) (by simpa using h) h4
    simp [nx, hx, this]
theorem nx_next (xs : List Int) (i a : Nat) (hi : i < xs.length) (h : lastUp (tyAt xs) i = some a) (h4 : tyAt xs i ≠ 4) : nx ((xs.map jn).drop (a + 1)) = some (tyAt xs i) := by
  have hai := lastUp_lt _ _ _ h
  refine nx_gap _ (i - (a + 1)) _ (fun j hj => ?_) ?_ h4
  · rw [List.getElem?_drop, hat_ xs _ (by omega)]
    rw [lastUp_all4 _ _ _ h (a + 1 + j) (by omega) (by omega)]
  · rw [List.getElem?_drop, show a + 1 + (i - (a + 1)) = i by omega]
    exact hat_ xs i hi
end Go.Proofs.YtffmdnckapalfaaDoor.PurJ
