import Derived.Test.YtffmdnckapalfaaDoorSpecC
import Derived.Test.YtffmdnckapalfaaDoorUx1
import Derived.Test.YtffmdnckapalfaaDoorLit
namespace Go.Proofs.YtffmdnckapalfaaDoor.T
open Go.RowKit Go.Proofs.YtffmdnckapalfaaDoor.U Go.Proofs.YtffmdnckapalfaaDoor.SpecJ Go.Proofs.YtffmdnckapalfaaDoor.SpecC Go.Proofs.YtffmdnckapalfaaDoorW.PrintWords Go.Proofs.YtffmdnckapalfaaDoor.Lit

/-! ### the tables' search, of the program and of the reference -/
def toS (x : Sp) : S64 := ⟨x.a, x.b, x.v⟩

theorem look_loop (r o : Int) (l : List Sp) (hl : l.length ≤ 1000) (d : Nat) : ∀ (k i : Nat), i + d = l.length → d < k →
    ucd_of.l0 k r o (l.map toS) (l.length : Int) (i : Int) = some (pickT o r (l.drop i)) := by
  induction d with
  | zero =>
    intro k i h hk
    obtain ⟨k, rfl⟩ : ∃ m, k = m + 1 := ⟨k - 1, by omega⟩
    simp only [ucd_of.l0]
    rw [if_neg (by omega), List.drop_eq_nil_of_le (by omega)]; rfl
  | succ d ih =>
    intro k i h hk
    obtain ⟨k, rfl⟩ : ∃ m, k = m + 1 := ⟨k - 1, by omega⟩
    have hi : i < l.length := by omega
    have hw : wrap64 ((i : Int) + 1) = ((i + 1 : Nat) : Int) := by unfold wrap64; omega
    have hrd : rd_T64 (l.map toS) (i : Int) = toS l[i] := by
      simp [rd_T64, List.getD_eq_getElem?_getD, hi]
    simp only [ucd_of.l0]
    rw [if_pos (by omega), if_pos (by omega), if_pos (by simp; omega), hrd, hw, ih k (i + 1) (by omega) (by omega), List.drop_eq_getElem_cons hi]
    simp only [pickT, toS]
    by_cases h1 : r ≥ l[i].a
    · by_cases h2 : r ≤ l[i].b
      · simp [h1, h2]
      · simp [h1, h2]
    · simp [h1]


def toR (x : Sp) : S67 := ⟨x.a, x.b, x.v⟩
theorem find_loop (r o : Int) (l : List Sp) (hl : l.length ≤ 1000) (d : Nat) : ∀ (k i : Nat), i + d = l.length → d < k →
    calamusref02_find.l0 k (l.map toR) r o (i : Int) = some (pickT o r (l.drop i)) := by
  induction d with
  | zero =>
    intro k i h hk
    obtain ⟨k, rfl⟩ : ∃ m, k = m + 1 := ⟨k - 1, by omega⟩
    simp only [calamusref02_find.l0]
    rw [if_neg (by simp; omega), List.drop_eq_nil_of_le (by omega)]; rfl
  | succ d ih =>
    intro k i h hk
    obtain ⟨k, rfl⟩ : ∃ m, k = m + 1 := ⟨k - 1, by omega⟩
    have hi : i < l.length := by omega
    have hw : wrap64 ((i : Int) + 1) = ((i + 1 : Nat) : Int) := by unfold wrap64; omega
    have hrd : rd_T67 (l.map toR) (i : Int) = toR l[i] := by
      simp [rd_T67, List.getD_eq_getElem?_getD, hi]
    have hn := ih k (i + 1) (by omega) (by omega)
    simp only [calamusref02_find.l0]
    rw [if_pos (by simp; omega), hrd, hw, hn, List.drop_eq_getElem_cons hi]
    by_cases h1 : r ≥ l[i].a
    · by_cases h2 : r ≤ l[i].b
      · simp [h1, h2, pickT, toR]
      · simp [h1, h2, pickT, toR]
    · simp [h1, pickT, toR]

/-- A table's cells, one behind the other. -/
def flat (l : List Sp) : List Value := l.flatMap fun x => [.int .i32 x.a, .int .i32 x.b, .int .u8 x.v]
theorem flat_at : ∀ (l : List Sp) (i : Nat) (x : Sp), l[i]? = some x → (flat l)[i * 3]? = some (.int .i32 x.a) ∧ (flat l)[i * 3 + 1]? = some (.int .i32 x.b) ∧ (flat l)[i * 3 + 2]? = some (.int .u8 x.v)
  | [], i, x, h => by simp at h
  | y :: l, 0, x, h => by
    obtain rfl : y = x := by simpa using h
    simp [flat]
  | y :: l, i + 1, x, h => by
    obtain ⟨h1, h2, h3⟩ := flat_at l i x (by simpa using h)
    have e : flat (y :: l) = .int .i32 y.a :: .int .i32 y.b :: .int .u8 y.v :: flat l := by simp [flat]
    rw [e, show (i + 1) * 3 = i * 3 + 3 by omega]
    exact ⟨h1, h2, h3⟩
theorem flat35 : cells35 = (flat jtab).toArray := by kernel_rfl
theorem flat44 : cells44 = (flat ctab).toArray := by kernel_rfl
theorem reads_flat (W : World) (b T : Nat) (l : List Sp) (hl : l.length ≤ 1000) (h : W.heap[b]? = some (.cells (flat l).toArray T (0, 0))) : Kd.C k67 W (some ⟨b, 0, none⟩) l.length (l.map toR) := by
  refine ⟨by rw [List.length_map], by omega, fun _ => ⟨_, rfl, fun j' p hj => ?_⟩⟩
  rw [List.getElem?_map, Option.map_eq_some_iff] at hj
  obtain ⟨x, hx, rfl⟩ := hj
  obtain ⟨h1, h2, h3⟩ := flat_at l j' x hx
  refine ⟨_, rfl, k67_mk _ (toR x), ?_⟩
  intro i u hu
  have hsz : k67.sz = 3 := rfl
  have hcell : ∀ q, W.cell? ⟨b, q, none⟩ = (flat l)[q]? := fun q => by
    rw [cell_of_row _ _ _ _ _ _ h]; simp
  rw [hsz, add_plain, hcell]
  rcases i with _ | _ | _ | i
  · simp at hu; subst hu; exact h1
  · simp at hu; subst hu; exact h2
  · simp at hu; subst hu; exact h3
  · simp at hu

/-! ### a letter -/
def letB (r : Int) : Bool := decide (65 ≤ r ∧ r ≤ 90) || decide (97 ≤ r ∧ r ≤ 122)
theorem letter_eq (r : Int) : calamusref02_letter.f r = some (letB r) := by
  unfold calamusref02_letter.f letB
  repeat' split
  all_goals (congr 1; rw [Bool.eq_iff_iff]; simp; omega)
set_option maxRecDepth 10000 in
theorem pick_j0 (r : Int) (h : letB r = true ∨ r < 0 ∨ r ≥ 1114112) : pickT 0 r jtab = 0 := by
  have h' : r < 0 ∨ r ≥ 1114112 ∨ (65 ≤ r ∧ r ≤ 122) := by simp [letB] at h; omega
  clear h
  simp only [jtab, pickT]
  rcases h' with h | h | h <;> (repeat (first | rfl | rw [if_neg (by omega)] | (rw [if_pos (by omega)]; rw [if_neg (by omega)])))
set_option maxRecDepth 10000 in
theorem pick_c0 (r : Int) (h : letB r = true ∨ r < 0 ∨ r ≥ 1114112) : pickT 0 r ctab = 0 := by
  have h' : r < 0 ∨ r ≥ 1114112 ∨ (65 ≤ r ∧ r ≤ 122) := by simp [letB] at h; omega
  clear h
  simp only [ctab, pickT]
  rcases h' with h | h | h <;> (repeat (first | rfl | rw [if_neg (by omega)] | (rw [if_pos (by omega)]; rw [if_neg (by omega)])))
theorem jn_pick (r : Int) : jn r = pickT 0 r jtab := by
  unfold jn
  split
  · exact (pick_j0 r (by omega)).symm
  · split
    · exact (pick_j0 r (by omega)).symm
    · rfl

end Go.Proofs.YtffmdnckapalfaaDoor.T
