import Derived.Test.YtffmdnckapalfaaDoorStillIn
import Derived.Test.YtffmdnckapalfaaDoorWalkJ3
set_option linter.unusedSimpArgs false
namespace Go.Proofs.YtffmdnckapalfaaDoor.StillIn
open Go Go.RowKit Go.Proofs.YtffmdnckapalfaaDoor.ExtJ Go.Proofs.YtffmdnckapalfaaDoorW.PrintWords

variable {P : Program} {ops : Array Oper} {md : Region.Mode} {w : World} {l n : Nat}

/-- How many are not listed yet. -/
def open_ (listed : Array Bool) : Nat := (listed.toList.filter (fun b => !b)).length
theorem open_set {listed : Array Bool} {i : Nat} (h : listed.getD i true = false) : open_ (listed.setIfInBounds i true) + 1 = open_ listed := by
  obtain ⟨L⟩ := listed
  have hi : i < L.length := by
    rcases Nat.lt_or_ge i L.length with h' | h'
    · exact h'
    · simp [Array.getD] at h
      obtain ⟨h, _⟩ := h
      omega
  have hv : L[i] = false := by simpa [Array.getD, hi] using h
  simp only [open_, List.setIfInBounds_toArray]
  clear h
  induction L generalizing i with
  | nil => simp at hi
  | cons x L ih =>
    cases i with
    | zero => simp at hv; subst hv; simp
    | succ i =>
      have := ih (by simpa using hi) (by simpa using hv)
      cases x <;> simp at this ⊢ <;> omega
/-- An invariant over what has been carried out serves a region in whatever order. -/
theorem wpAnyIn_inv {F : Fence} {Q : Exit → Act → World → Prop} (Inv : Array Bool → Act → World → Prop)
    (step : ∀ listed a w i, Inv listed a w → i ∈ Region.ready md ops listed → wpOpIn F n P ops Q i (Inv (listed.setIfInBounds i true)) a w)
    (fin : ∀ listed a w, Inv listed a w → Region.ready md ops listed = [] → Q .normal a w) :
    ∀ (fuel : Nat) (listed : Array Bool) (a : Act) (w : World), open_ listed ≤ fuel → (∀ i ∈ Region.ready md ops listed, listed.getD i true = false) → Inv listed a w → wpAnyIn F n P md ops Q fuel listed a w
  | 0, listed, a, w, hf, hr, hI => by
    have hnil : Region.ready md ops listed = [] := by
      cases hl : Region.ready md ops listed with
      | nil => rfl
      | cons i t =>
        have := open_set (hr i (by rw [hl]; exact List.mem_cons_self))
        omega
    exact ⟨hnil, fin _ _ _ hI hnil⟩
  | fuel + 1, listed, a, w, hf, hr, hI => by
    refine ⟨fun h => fin _ _ _ hI h, fun i hi => ?_⟩
    refine wpOpIn_mono (fun a' w' h' => wpAnyIn_inv Inv step fin fuel _ a' w' ?_ (fun j hj => (mem_ready.1 hj).1) h') (step _ _ _ i hI hi)
    have := open_set (hr i hi)
    omega


/-- Slot k of a frame holds v. -/
def Tm (a : Act) (k : Nat) (v : Value) : Prop := a.tmps[k]? = some v
theorem Tm.eval {a : Act} {k : Nat} {v : Value} (h : Tm a k v) : a.eval (.tmp k) = v := by
  show a.tmps.getD k undef = v
  rw [Array.getD_eq_getD_getElem?, show a.tmps[k]? = some v from h]; rfl
theorem Tm.put {a : Act} {k d : Nat} {v u : Value} (h : Tm a k v) (hd : d ≠ k) : Tm (a.put (some d) u) k v := by
  show (a.tmps.setIfInBounds d u)[k]? = some v
  rw [Array.getElem?_setIfInBounds_ne hd]; exact h
theorem Tm.putNone {a : Act} {k : Nat} {v u : Value} (h : Tm a k v) : Tm (a.put none u) k v := h
theorem Tm.new {a : Act} {d : Nat} {u : Value} (hs : d < a.tmps.size) : Tm (a.put (some d) u) d u := by
  show (a.tmps.setIfInBounds d u)[d]? = some u
  rw [Array.getElem?_setIfInBounds_self_of_lt hs]
theorem size_put (a : Act) (d : Option Nat) (u : Value) : (a.put d u).tmps.size = a.tmps.size := by
  cases d with
  | none => rfl
  | some d => show (a.tmps.setIfInBounds d u).size = _; simp
theorem getD_set_eq {listed : Array Bool} {i j : Nat} : (listed.setIfInBounds i true).getD j false = true → j = i ∨ listed.getD j false = true := by
  intro h
  by_cases hij : i = j
  · exact .inl hij.symm
  · right
    rw [← h, Array.getD_eq_getD_getElem?, Array.getD_eq_getD_getElem?, Array.getElem?_setIfInBounds_ne hij]
theorem getD_set_self {listed : Array Bool} {i : Nat} (h : listed.getD i true = false) : (listed.setIfInBounds i true).getD i false = true := by
  have hi : i < listed.size := by
    rcases Nat.lt_or_ge i listed.size with h' | h'
    · exact h'
    · simp [Array.getD] at h
      obtain ⟨h, _⟩ := h
      omega
  rw [Array.getD_eq_getD_getElem?, Array.getElem?_setIfInBounds_self_of_lt hi]; rfl
theorem getD_set_stays {listed : Array Bool} {i j : Nat} (h : listed.getD j false = true) : (listed.setIfInBounds i true).getD j false = true := by
  by_cases hij : i = j
  · subst hij
    have hi : i < listed.size := by
      rcases Nat.lt_or_ge i listed.size with h' | h'
      · exact h'
      · simp [Array.getD] at h
        obtain ⟨h, _⟩ := h
        omega
    rw [Array.getD_eq_getD_getElem?, Array.getElem?_setIfInBounds_self_of_lt hi]; rfl
  · rw [Array.getD_eq_getD_getElem?, Array.getElem?_setIfInBounds_ne hij, ← Array.getD_eq_getD_getElem?]; exact h

/-- A plain operation in a round: it yields a value. -/
theorem wpOp_value {Q : Exit → Act → World → Prop} {K : Act → World → Prop} {i : Nat} {o : Oper} {a : Act} {w w' : World} {v : Value} (ho : ops[i]? = some o) (hg : o.guard = none) (hnd : ∀ c, o.op ≠ .defer c)
    (hr : (execOp a.eval o).run P w = .ok (.value v) w') (h : K (a.put o.dst v) w') : wpOpIn (Fence.wide.inRound l) n P ops Q i K a w := by
  unfold wpOpIn
  simp only [ho]
  rw [if_pos (by simp [Region.wanted, hg])]
  refine ⟨fun _ _ => trivial, ?_⟩
  rw [Oper.semAt_eq _ _ _ hnd, hr]
  exact h
theorem wpOp_skip {Q : Exit → Act → World → Prop} {K : Act → World → Prop} {i : Nat} {o : Oper} {a : Act} {w w' : World} (ho : ops[i]? = some o) (hg : o.guard = none) (hnd : ∀ c, o.op ≠ .defer c)
    (hr : (execOp a.eval o).run P w = .ok .skip w') (h : K (a.put o.dst undef) w') : wpOpIn (Fence.wide.inRound l) n P ops Q i K a w := by
  unfold wpOpIn
  simp only [ho]
  rw [if_pos (by simp [Region.wanted, hg])]
  refine ⟨fun _ _ => trivial, ?_⟩
  rw [Oper.semAt_eq _ _ _ hnd, hr]
  exact h

theorem run_move (ρ : Operand → Value) (o : Oper) (t : Nat) (v : Value) (W : World) (h : o.op = .move (.tmp t)) (hv : ρ (.tmp t) = v) : (execOp ρ o).run P W = .ok (.value v) W := by
  simp [execOp, h, hv, go_sem]
theorem run_load_box (ρ : Operand → Value) (o : Oper) (t : Nat) (b : Nat) (A : Option Addr) (len cap : Nat) (W : World) (h : o.op = .load 37 (.tmp t)) (hv : ρ (.tmp t) = .pointer (some ⟨b, 0, none⟩)) (hc : W.cell? ⟨b, 0, none⟩ = some (.slice A len cap)) : (execOp ρ o).run Tryd.prog W = .ok (.value (.slice A len cap)) W := by
  simp [execOp, h, hv, go_sem, hc]
theorem run_idx_row (ρ : Operand → Value) (o : Oper) (s t : Nat) (b len cap i : Nat) (W : World) (h : o.op = .indexAddr 37 (.tmp s) (.tmp t)) (hv : ρ (.tmp s) = .slice (some ⟨b, 0, none⟩) len cap) (hi : ρ (.tmp t) = .int .i64 (i : Int)) (hlt : i < len) :
    (execOp ρ o).run Tryd.prog W = .ok (.value (.pointer (some ⟨b, i * 2, none⟩))) W := by
  have h1 : (i : Int) < (len : Int) := by omega
  simp [execOp, h, hv, hi, go_sem, h1, hlt]
theorem run_idx_arr (ρ : Operand → Value) (o : Oper) (s : Nat) (b off k : Nat) (W : World) (hk : k < 2) (h : o.op = .indexAddr 41 (.tmp s) (.const (.int .i64 (k : Int)))) (hv : ρ (.tmp s) = .pointer (some ⟨b, off, none⟩)) (hc : ∀ v, ρ (.const v) = v) :
    (execOp ρ o).run Tryd.prog W = .ok (.value (.pointer (some ⟨b, off + k, none⟩))) W := by
  rcases k with _ | _ | k
  · simp [execOp, h, hv, hc, go_sem]
  · simp [execOp, h, hv, hc, go_sem]
  · omega
theorem run_store1 (ρ : Operand → Value) (o : Oper) (s : Nat) (b off : Nat) (x : Int) (W : World) (h : o.op = .store 3 (.tmp s) (.const (.int .i64 1))) (hv : ρ (.tmp s) = .pointer (some ⟨b, off, none⟩)) (hk : ∀ v, ρ (.const v) = v)
    (hc : W.cell? ⟨b, off, none⟩ = some (.int .i64 x)) (hf : W.frozen? ⟨b, off, none⟩ = false) :
    (execOp ρ o).run Tryd.prog W = .ok .skip (W.setCell ⟨b, off, none⟩ (.int .i64 1)) := by
  simp [execOp, h, hv, hk, go_sem, hc, hf]

/-! ### the region that marks a pair: joined[a][1], joined[b][0] = 1, 1 -/
structure I6 (ops : Array Oper) (W0 : World) (bx B m a b : Nat) (listed : Array Bool) (x : Act) (w : World) : Prop where
  ls : listed.size = ops.size
  sz : x.tmps.size = 84
  t3 : Tm x 3 (.pointer (some ⟨bx, 0, none⟩))
  t4 : Tm x 4 (.int .i64 (a : Int))
  t5 : Tm x 5 (.int .i64 (b : Int))
  l0 : listed.getD 0 false = true → Tm x 26 (.slice (some ⟨B, 0, none⟩) m m)
  l1 : listed.getD 1 false = true → Tm x 27 (.int .i64 (a : Int))
  l2 : listed.getD 2 false = true → Tm x 28 (.slice (some ⟨B, 0, none⟩) m m)
  l3 : listed.getD 3 false = true → Tm x 29 (.int .i64 (b : Int))
  l4 : listed.getD 4 false = true → Tm x 30 (.pointer (some ⟨B, a * 2, none⟩))
  l5 : listed.getD 5 false = true → Tm x 31 (.pointer (some ⟨B, a * 2 + 1, none⟩))
  l7 : listed.getD 7 false = true → Tm x 32 (.pointer (some ⟨B, b * 2, none⟩))
  l8 : listed.getD 8 false = true → Tm x 33 (.pointer (some ⟨B, b * 2 + 0, none⟩))
  wd : w = if listed.getD 9 false then (W0.setCell ⟨B, a * 2 + 1, none⟩ (.int .i64 1)).setCell ⟨B, b * 2 + 0, none⟩ (.int .i64 1) else if listed.getD 6 false then W0.setCell ⟨B, a * 2 + 1, none⟩ (.int .i64 1) else W0
  l96 : listed.getD 9 false = true → listed.getD 6 false = true

theorem I6.cell {W0 : World} {bx B m a b : Nat} {listed : Array Bool} {x : Act} {w : World} (h : I6 ops W0 bx B m a b listed x w) (hne : bx ≠ B) {A : Option Addr} {u v : Nat} (hc : W0.cell? ⟨bx, 0, none⟩ = some (.slice A u v)) : w.cell? ⟨bx, 0, none⟩ = some (.slice A u v) := by
  have h1 : ∀ (W : World) (o : Nat), (W.setCell ⟨B, o, none⟩ (.int .i64 1)).cell? ⟨bx, 0, none⟩ = W.cell? ⟨bx, 0, none⟩ := fun W o =>
    World.cell?_of_block (Below.heap_setCell _ _ _ _ hne)
  rw [h.wd]
  split
  · rw [h1, h1]; exact hc
  · split
    · rw [h1]; exact hc
    · exact hc
theorem off_ {listed : Array Bool} {i j : Nat} (hj : i ≠ j) : (listed.setIfInBounds i true).getD j false = listed.getD j false := by
  rw [Array.getD_eq_getD_getElem?, Array.getD_eq_getD_getElem?, Array.getElem?_setIfInBounds_ne hj]
section
variable {W0 : World} {bx B m a b : Nat} {listed : Array Bool} {x : Act} {w : World}
theorem I6.put0 (h : I6 ops W0 bx B m a b listed x w) : I6 ops W0 bx B m a b (listed.setIfInBounds 0 true) (x.put (some 26) (.slice (some ⟨B, 0, none⟩) m m)) w :=
  ⟨by rw [Array.size_setIfInBounds]; exact h.ls, by rw [size_put]; exact h.sz, h.t3.put (by decide), h.t4.put (by decide), h.t5.put (by decide),
   fun _ => Tm.new (by rw [h.sz]; decide),
   fun hj => (h.l1 ((off_ (by decide)).symm.trans hj)).put (by decide),
   fun hj => (h.l2 ((off_ (by decide)).symm.trans hj)).put (by decide),
   fun hj => (h.l3 ((off_ (by decide)).symm.trans hj)).put (by decide),
   fun hj => (h.l4 ((off_ (by decide)).symm.trans hj)).put (by decide),
   fun hj => (h.l5 ((off_ (by decide)).symm.trans hj)).put (by decide),
   fun hj => (h.l7 ((off_ (by decide)).symm.trans hj)).put (by decide),
   fun hj => (h.l8 ((off_ (by decide)).symm.trans hj)).put (by decide),
   by rw [off_ (by decide), off_ (by decide)]; exact h.wd, fun hj => (off_ (by decide)).trans (h.l96 ((off_ (by decide)).symm.trans hj))⟩
theorem I6.put1 (h : I6 ops W0 bx B m a b listed x w) : I6 ops W0 bx B m a b (listed.setIfInBounds 1 true) (x.put (some 27) (.int .i64 (a : Int))) w :=
  ⟨by rw [Array.size_setIfInBounds]; exact h.ls, by rw [size_put]; exact h.sz, h.t3.put (by decide), h.t4.put (by decide), h.t5.put (by decide),
   fun hj => (h.l0 ((off_ (by decide)).symm.trans hj)).put (by decide),
   fun _ => Tm.new (by rw [h.sz]; decide),
   fun hj => (h.l2 ((off_ (by decide)).symm.trans hj)).put (by decide),
   fun hj => (h.l3 ((off_ (by decide)).symm.trans hj)).put (by decide),
   fun hj => (h.l4 ((off_ (by decide)).symm.trans hj)).put (by decide),
   fun hj => (h.l5 ((off_ (by decide)).symm.trans hj)).put (by decide),
   fun hj => (h.l7 ((off_ (by decide)).symm.trans hj)).put (by decide),
   fun hj => (h.l8 ((off_ (by decide)).symm.trans hj)).put (by decide),
   by rw [off_ (by decide), off_ (by decide)]; exact h.wd, fun hj => (off_ (by decide)).trans (h.l96 ((off_ (by decide)).symm.trans hj))⟩
theorem I6.put2 (h : I6 ops W0 bx B m a b listed x w) : I6 ops W0 bx B m a b (listed.setIfInBounds 2 true) (x.put (some 28) (.slice (some ⟨B, 0, none⟩) m m)) w :=
  ⟨by rw [Array.size_setIfInBounds]; exact h.ls, by rw [size_put]; exact h.sz, h.t3.put (by decide), h.t4.put (by decide), h.t5.put (by decide),
   fun hj => (h.l0 ((off_ (by decide)).symm.trans hj)).put (by decide),
   fun hj => (h.l1 ((off_ (by decide)).symm.trans hj)).put (by decide),
   fun _ => Tm.new (by rw [h.sz]; decide),
   fun hj => (h.l3 ((off_ (by decide)).symm.trans hj)).put (by decide),
   fun hj => (h.l4 ((off_ (by decide)).symm.trans hj)).put (by decide),
   fun hj => (h.l5 ((off_ (by decide)).symm.trans hj)).put (by decide),
   fun hj => (h.l7 ((off_ (by decide)).symm.trans hj)).put (by decide),
   fun hj => (h.l8 ((off_ (by decide)).symm.trans hj)).put (by decide),
   by rw [off_ (by decide), off_ (by decide)]; exact h.wd, fun hj => (off_ (by decide)).trans (h.l96 ((off_ (by decide)).symm.trans hj))⟩
theorem I6.put3 (h : I6 ops W0 bx B m a b listed x w) : I6 ops W0 bx B m a b (listed.setIfInBounds 3 true) (x.put (some 29) (.int .i64 (b : Int))) w :=
  ⟨by rw [Array.size_setIfInBounds]; exact h.ls, by rw [size_put]; exact h.sz, h.t3.put (by decide), h.t4.put (by decide), h.t5.put (by decide),
   fun hj => (h.l0 ((off_ (by decide)).symm.trans hj)).put (by decide),
   fun hj => (h.l1 ((off_ (by decide)).symm.trans hj)).put (by decide),
   fun hj => (h.l2 ((off_ (by decide)).symm.trans hj)).put (by decide),
   fun _ => Tm.new (by rw [h.sz]; decide),
   fun hj => (h.l4 ((off_ (by decide)).symm.trans hj)).put (by decide),
   fun hj => (h.l5 ((off_ (by decide)).symm.trans hj)).put (by decide),
   fun hj => (h.l7 ((off_ (by decide)).symm.trans hj)).put (by decide),
   fun hj => (h.l8 ((off_ (by decide)).symm.trans hj)).put (by decide),
   by rw [off_ (by decide), off_ (by decide)]; exact h.wd, fun hj => (off_ (by decide)).trans (h.l96 ((off_ (by decide)).symm.trans hj))⟩
theorem I6.put4 (h : I6 ops W0 bx B m a b listed x w) : I6 ops W0 bx B m a b (listed.setIfInBounds 4 true) (x.put (some 30) (.pointer (some ⟨B, a * 2, none⟩))) w :=
  ⟨by rw [Array.size_setIfInBounds]; exact h.ls, by rw [size_put]; exact h.sz, h.t3.put (by decide), h.t4.put (by decide), h.t5.put (by decide),
   fun hj => (h.l0 ((off_ (by decide)).symm.trans hj)).put (by decide),
   fun hj => (h.l1 ((off_ (by decide)).symm.trans hj)).put (by decide),
   fun hj => (h.l2 ((off_ (by decide)).symm.trans hj)).put (by decide),
   fun hj => (h.l3 ((off_ (by decide)).symm.trans hj)).put (by decide),
   fun _ => Tm.new (by rw [h.sz]; decide),
   fun hj => (h.l5 ((off_ (by decide)).symm.trans hj)).put (by decide),
   fun hj => (h.l7 ((off_ (by decide)).symm.trans hj)).put (by decide),
   fun hj => (h.l8 ((off_ (by decide)).symm.trans hj)).put (by decide),
   by rw [off_ (by decide), off_ (by decide)]; exact h.wd, fun hj => (off_ (by decide)).trans (h.l96 ((off_ (by decide)).symm.trans hj))⟩
theorem I6.put5 (h : I6 ops W0 bx B m a b listed x w) : I6 ops W0 bx B m a b (listed.setIfInBounds 5 true) (x.put (some 31) (.pointer (some ⟨B, a * 2 + 1, none⟩))) w :=
  ⟨by rw [Array.size_setIfInBounds]; exact h.ls, by rw [size_put]; exact h.sz, h.t3.put (by decide), h.t4.put (by decide), h.t5.put (by decide),
   fun hj => (h.l0 ((off_ (by decide)).symm.trans hj)).put (by decide),
   fun hj => (h.l1 ((off_ (by decide)).symm.trans hj)).put (by decide),
   fun hj => (h.l2 ((off_ (by decide)).symm.trans hj)).put (by decide),
   fun hj => (h.l3 ((off_ (by decide)).symm.trans hj)).put (by decide),
   fun hj => (h.l4 ((off_ (by decide)).symm.trans hj)).put (by decide),
   fun _ => Tm.new (by rw [h.sz]; decide),
   fun hj => (h.l7 ((off_ (by decide)).symm.trans hj)).put (by decide),
   fun hj => (h.l8 ((off_ (by decide)).symm.trans hj)).put (by decide),
   by rw [off_ (by decide), off_ (by decide)]; exact h.wd, fun hj => (off_ (by decide)).trans (h.l96 ((off_ (by decide)).symm.trans hj))⟩
theorem I6.put7 (h : I6 ops W0 bx B m a b listed x w) : I6 ops W0 bx B m a b (listed.setIfInBounds 7 true) (x.put (some 32) (.pointer (some ⟨B, b * 2, none⟩))) w :=
  ⟨by rw [Array.size_setIfInBounds]; exact h.ls, by rw [size_put]; exact h.sz, h.t3.put (by decide), h.t4.put (by decide), h.t5.put (by decide),
   fun hj => (h.l0 ((off_ (by decide)).symm.trans hj)).put (by decide),
   fun hj => (h.l1 ((off_ (by decide)).symm.trans hj)).put (by decide),
   fun hj => (h.l2 ((off_ (by decide)).symm.trans hj)).put (by decide),
   fun hj => (h.l3 ((off_ (by decide)).symm.trans hj)).put (by decide),
   fun hj => (h.l4 ((off_ (by decide)).symm.trans hj)).put (by decide),
   fun hj => (h.l5 ((off_ (by decide)).symm.trans hj)).put (by decide),
   fun _ => Tm.new (by rw [h.sz]; decide),
   fun hj => (h.l8 ((off_ (by decide)).symm.trans hj)).put (by decide),
   by rw [off_ (by decide), off_ (by decide)]; exact h.wd, fun hj => (off_ (by decide)).trans (h.l96 ((off_ (by decide)).symm.trans hj))⟩
theorem I6.put8 (h : I6 ops W0 bx B m a b listed x w) : I6 ops W0 bx B m a b (listed.setIfInBounds 8 true) (x.put (some 33) (.pointer (some ⟨B, b * 2 + 0, none⟩))) w :=
  ⟨by rw [Array.size_setIfInBounds]; exact h.ls, by rw [size_put]; exact h.sz, h.t3.put (by decide), h.t4.put (by decide), h.t5.put (by decide),
   fun hj => (h.l0 ((off_ (by decide)).symm.trans hj)).put (by decide),
   fun hj => (h.l1 ((off_ (by decide)).symm.trans hj)).put (by decide),
   fun hj => (h.l2 ((off_ (by decide)).symm.trans hj)).put (by decide),
   fun hj => (h.l3 ((off_ (by decide)).symm.trans hj)).put (by decide),
   fun hj => (h.l4 ((off_ (by decide)).symm.trans hj)).put (by decide),
   fun hj => (h.l5 ((off_ (by decide)).symm.trans hj)).put (by decide),
   fun hj => (h.l7 ((off_ (by decide)).symm.trans hj)).put (by decide),
   fun _ => Tm.new (by rw [h.sz]; decide),
   by rw [off_ (by decide), off_ (by decide)]; exact h.wd, fun hj => (off_ (by decide)).trans (h.l96 ((off_ (by decide)).symm.trans hj))⟩
theorem I6.put6 (h : I6 ops W0 bx B m a b listed x w) (h6 : listed.getD 6 true = false) (h9 : listed.getD 9 false = false) : I6 ops W0 bx B m a b (listed.setIfInBounds 6 true) (x.put none undef) (w.setCell ⟨B, a * 2 + 1, none⟩ (.int .i64 1)) :=
  ⟨by rw [Array.size_setIfInBounds]; exact h.ls, h.sz, h.t3, h.t4, h.t5,
   fun hj => h.l0 ((off_ (by decide)).symm.trans hj),
   fun hj => h.l1 ((off_ (by decide)).symm.trans hj),
   fun hj => h.l2 ((off_ (by decide)).symm.trans hj),
   fun hj => h.l3 ((off_ (by decide)).symm.trans hj),
   fun hj => h.l4 ((off_ (by decide)).symm.trans hj),
   fun hj => h.l5 ((off_ (by decide)).symm.trans hj),
   fun hj => h.l7 ((off_ (by decide)).symm.trans hj),
   fun hj => h.l8 ((off_ (by decide)).symm.trans hj),
   by rw [off_ (by decide), h9, getD_set_self h6]; have := h.wd; rw [h9, getD_both h6] at this; rw [this]; rfl, fun _ => getD_set_self h6⟩
theorem I6.put9 (h : I6 ops W0 bx B m a b listed x w) (h6 : listed.getD 6 false = true) (h9 : listed.getD 9 true = false) : I6 ops W0 bx B m a b (listed.setIfInBounds 9 true) (x.put none undef) (w.setCell ⟨B, b * 2 + 0, none⟩ (.int .i64 1)) :=
  ⟨by rw [Array.size_setIfInBounds]; exact h.ls, h.sz, h.t3, h.t4, h.t5,
   fun hj => h.l0 ((off_ (by decide)).symm.trans hj),
   fun hj => h.l1 ((off_ (by decide)).symm.trans hj),
   fun hj => h.l2 ((off_ (by decide)).symm.trans hj),
   fun hj => h.l3 ((off_ (by decide)).symm.trans hj),
   fun hj => h.l4 ((off_ (by decide)).symm.trans hj),
   fun hj => h.l5 ((off_ (by decide)).symm.trans hj),
   fun hj => h.l7 ((off_ (by decide)).symm.trans hj),
   fun hj => h.l8 ((off_ (by decide)).symm.trans hj),
   by rw [getD_set_self h9, if_pos rfl]; have := h.wd; rw [getD_both h9, h6] at this; rw [this]; rfl, fun _ => (off_ (by decide)).trans h6⟩
end

/-- The i-th operation of a region, unguarded. -/
def OpIs (ops : Array Oper) (i : Nat) (p : Op) (d : Option Tmp) : Prop := ∃ o, ops[i]? = some o ∧ o.op = p ∧ o.dst = d ∧ o.guard = none
/-- Whom each operation waits for. -/
def waits6 (ops : Array Oper) : Bool := [(4, 0), (4, 1), (5, 4), (6, 5), (7, 2), (7, 3), (8, 7), (8, 6), (9, 8), (9, 6)].all fun p => Region.waitsFor .any ops p.1 p.2
/-- What the operations of a region are. -/
def what (ops : Array Oper) : List (Op × Option Tmp × Bool) := ops.toList.map fun o => (o.op, o.dst, o.guard.isNone)
def six : List (Op × Option Tmp × Bool) := [(.load 37 (.tmp 3), some 26, true), (.move (.tmp 4), some 27, true), (.load 37 (.tmp 3), some 28, true), (.move (.tmp 5), some 29, true), (.indexAddr 37 (.tmp 26) (.tmp 27), some 30, true), (.indexAddr 41 (.tmp 30) (.const (.int .i64 1)), some 31, true), (.store 3 (.tmp 31) (.const (.int .i64 1)), none, true), (.indexAddr 37 (.tmp 28) (.tmp 29), some 32, true), (.indexAddr 41 (.tmp 32) (.const (.int .i64 0)), some 33, true), (.store 3 (.tmp 33) (.const (.int .i64 1)), none, true)]
theorem what_at {ops : Array Oper} {L : List (Op × Option Tmp × Bool)} (h : what ops = L) {i : Nat} {p : Op} {d : Option Tmp} (hi : L[i]? = some (p, d, true)) : OpIs ops i p d := by
  rw [← h] at hi
  unfold what at hi
  rw [List.getElem?_map, Option.map_eq_some_iff] at hi
  obtain ⟨o, ho, e⟩ := hi
  simp only [Prod.mk.injEq] at e
  exact ⟨o, by simpa using ho, e.1, e.2.1, by simpa using e.2.2⟩
def ordered (ops : Array Oper) : Bool := (List.range ops.size).all fun i => match ops[i]? with | none => true | some o => o.after.all fun e => !(Region.binds .any e) || decide (e.on < i)
theorem ordered_spec {ops : Array Oper} (h : ordered ops = true) (i : Nat) (o : Oper) (ho : ops[i]? = some o) : ∀ e ∈ o.after, Region.binds .any e = true → e.on < i := by
  intro e he hb
  have hi : i < ops.size := (Array.getElem?_eq_some_iff.1 ho).1
  have h1 := List.all_eq_true.1 h i (List.mem_range.2 hi)
  simp only [ho] at h1
  have h2 := Array.all_eq_true'.1 h1 e he
  simpa [hb] using h2
theorem region6 {id l n bx B m a b : Nat} {Q : Exit → Act → World → Prop} {x : Act} {W : World} (hm : Tryd.prog.follows .mixedOrders = true)
    (hops : what ops = six)
    (hsz : ops.size = 10)
    (hw : waits6 ops = true)
    (hord : ordered ops = true)
    (hx : x.tmps.size = 84) (t3 : Tm x 3 (.pointer (some ⟨bx, 0, none⟩))) (t4 : Tm x 4 (.int .i64 (a : Int))) (t5 : Tm x 5 (.int .i64 (b : Int)))
    (hne : bx ≠ B) (hc : W.cell? ⟨bx, 0, none⟩ = some (.slice (some ⟨B, 0, none⟩) m m)) (ha : a < m) (hb : b < m)
    (va vb : Int) (hca : W.cell? ⟨B, a * 2 + 1, none⟩ = some (.int .i64 va)) (hcb : (W.drew.setCell ⟨B, a * 2 + 1, none⟩ (.int .i64 1)).cell? ⟨B, b * 2 + 0, none⟩ = some (.int .i64 vb))
    (hfr : ∀ o, W.frozen? ⟨B, o, none⟩ = false)
    (fin : ∀ x', Q .normal x' ((W.drew.setCell ⟨B, a * 2 + 1, none⟩ (.int .i64 1)).setCell ⟨B, b * 2 + 0, none⟩ (.int .i64 1))) :
    (Code.region id ops true).wpIn (Fence.wide.inRound l) n Tryd.prog Q x W := by
  have h0 : OpIs ops 0 (.load 37 (.tmp 3)) (some 26) := what_at hops rfl
  have h1 : OpIs ops 1 (.move (.tmp 4)) (some 27) := what_at hops rfl
  have h2 : OpIs ops 2 (.load 37 (.tmp 3)) (some 28) := what_at hops rfl
  have h3 : OpIs ops 3 (.move (.tmp 5)) (some 29) := what_at hops rfl
  have h4 : OpIs ops 4 (.indexAddr 37 (.tmp 26) (.tmp 27)) (some 30) := what_at hops rfl
  have h5 : OpIs ops 5 (.indexAddr 41 (.tmp 30) (.const (.int .i64 1))) (some 31) := what_at hops rfl
  have h6 : OpIs ops 6 (.store 3 (.tmp 31) (.const (.int .i64 1))) (none) := what_at hops rfl
  have h7 : OpIs ops 7 (.indexAddr 37 (.tmp 28) (.tmp 29)) (some 32) := what_at hops rfl
  have h8 : OpIs ops 8 (.indexAddr 41 (.tmp 32) (.const (.int .i64 0))) (some 33) := what_at hops rfl
  have h9 : OpIs ops 9 (.store 3 (.tmp 33) (.const (.int .i64 1))) (none) := what_at hops rfl
  have wt : ∀ j i, (j, i) ∈ [(4, 0), (4, 1), (5, 4), (6, 5), (7, 2), (7, 3), (8, 7), (8, 6), (9, 8), (9, 6)] → ∀ listed, j ∈ Region.ready .any ops listed → listed.getD i false = true := by
    intro j i hm' listed hj
    obtain ⟨oj, hoj, e, he, hb', hon⟩ := Region.waitsFor_spec (List.all_eq_true.1 hw (j, i) hm')
    obtain ⟨_, o, ho, hall⟩ := mem_ready.1 hj
    obtain rfl := Option.some.inj (hoj.symm.trans ho)
    have hon' : e.on = i := hon
    rw [← hon']; exact hall e he hb'
  have start : I6 ops W.drew bx B m a b (Array.replicate ops.size false) x W.drew := by
    have hf : ∀ j, (Array.replicate ops.size false).getD j false = false := fun j => getD_replicate_false _ _
    refine ⟨by simp, hx, t3, t4, t5, ?_, ?_, ?_, ?_, ?_, ?_, ?_, ?_, ?_, ?_⟩
    all_goals first | (intro h; rw [hf] at h; cases h) | (rw [hf, hf]; rfl)
  have fin' : ∀ listed y w, I6 ops W.drew bx B m a b listed y w → Region.ready .any ops listed = [] → Q .normal y w := by
    intro listed y w hI hr
    have hall : ∀ k j, j < k → j < 10 → listed.getD j false = true := by
      intro k
      induction k with
      | zero => intro j hj; omega
      | succ k ih =>
        intro j hj hj10
        cases hl : listed.getD j true with
        | true =>
          rw [Array.getD_eq_getD_getElem?] at hl ⊢
          cases hg : listed[j]? with
          | some v => rw [hg] at hl; exact hl
          | none =>
            exfalso
            have h1 : listed.size = 10 := hI.ls.trans hsz
            have := Array.getElem?_eq_none_iff.1 hg
            omega
        | false =>
          exfalso
          have : j ∈ Region.ready .any ops listed := by
            have hjo : j < ops.size := by omega
            refine mem_ready.2 ⟨hl, ops[j], Array.getElem?_eq_getElem hjo, fun e he hb' => ?_⟩
            have := ordered_spec hord j _ (Array.getElem?_eq_getElem hjo) e he hb'
            exact ih e.on (by omega) (by omega)
          rw [hr] at this
          cases this
    have := hI.wd
    rw [hall 10 9 (by omega) (by omega), if_pos rfl] at this
    rw [this]; exact fin y
  have step : ∀ listed y w i, I6 ops W.drew bx B m a b listed y w → i ∈ Region.ready .any ops listed → wpOpIn (Fence.wide.inRound l) n Tryd.prog ops Q i (I6 ops W.drew bx B m a b (listed.setIfInBounds i true)) y w := by
    intro listed y w i hI hi
    have hun := (mem_ready.1 hi).1
    have hi10 : i < 10 := by
      obtain ⟨_, o, ho, _⟩ := mem_ready.1 hi
      have := (Array.getElem?_eq_some_iff.1 ho).1
      omega
    match i, hi10, hi, hun with
    | 0, _, hi, hun =>
      obtain ⟨o, hoo, ho, hd, hg⟩ := h0
      have hnd : ∀ c, o.op ≠ .defer c := fun c e => by rw [ho] at e; cases e
      refine wpOp_value hoo hg hnd (run_load_box _ o 3 bx _ _ _ _ ho hI.t3.eval (hI.cell hne hc)) ?_
      rw [hd]; exact hI.put0
    | 1, _, hi, hun =>
      obtain ⟨o, hoo, ho, hd, hg⟩ := h1
      have hnd : ∀ c, o.op ≠ .defer c := fun c e => by rw [ho] at e; cases e
      refine wpOp_value hoo hg hnd (run_move _ o 4 _ _ ho hI.t4.eval) ?_
      rw [hd]; exact hI.put1
    | 2, _, hi, hun =>
      obtain ⟨o, hoo, ho, hd, hg⟩ := h2
      have hnd : ∀ c, o.op ≠ .defer c := fun c e => by rw [ho] at e; cases e
      refine wpOp_value hoo hg hnd (run_load_box _ o 3 bx _ _ _ _ ho hI.t3.eval (hI.cell hne hc)) ?_
      rw [hd]; exact hI.put2
    | 3, _, hi, hun =>
      obtain ⟨o, hoo, ho, hd, hg⟩ := h3
      have hnd : ∀ c, o.op ≠ .defer c := fun c e => by rw [ho] at e; cases e
      refine wpOp_value hoo hg hnd (run_move _ o 5 _ _ ho hI.t5.eval) ?_
      rw [hd]; exact hI.put3
    | 4, _, hi, hun =>
      obtain ⟨o, hoo, ho, hd, hg⟩ := h4
      have hnd : ∀ c, o.op ≠ .defer c := fun c e => by rw [ho] at e; cases e
      refine wpOp_value hoo hg hnd (run_idx_row _ o 26 27 B m m a _ ho (hI.l0 (wt 4 0 (by decide) _ hi)).eval (hI.l1 (wt 4 1 (by decide) _ hi)).eval ha) ?_
      rw [hd]; exact hI.put4
    | 5, _, hi, hun =>
      obtain ⟨o, hoo, ho, hd, hg⟩ := h5
      have hnd : ∀ c, o.op ≠ .defer c := fun c e => by rw [ho] at e; cases e
      refine wpOp_value hoo hg hnd (run_idx_arr _ o 30 B (a * 2) 1 _ (by decide) ho (hI.l4 (wt 5 4 (by decide) _ hi)).eval (fun _ => rfl)) ?_
      rw [hd]; exact hI.put5
    | 6, _, hi, hun =>
      obtain ⟨o, hoo, ho, hd, hg⟩ := h6
      have hnd : ∀ c, o.op ≠ .defer c := fun c e => by rw [ho] at e; cases e
      have h9f : listed.getD 9 false = false := by
        cases h9c : listed.getD 9 false with
        | false => rfl
        | true => have h6t := hI.l96 h9c; rw [getD_both hun] at h6t; cases h6t
      have hwd := hI.wd
      rw [h9f, getD_both hun] at hwd
      have hwd' : w = W.drew := hwd
      subst hwd'
      refine wpOp_skip hoo hg hnd (run_store1 _ o 31 B (a * 2 + 1) va _ ho (hI.l5 (wt 6 5 (by decide) _ hi)).eval (fun _ => rfl) hca (hfr _)) ?_
      rw [hd]; exact hI.put6 hun h9f
    | 7, _, hi, hun =>
      obtain ⟨o, hoo, ho, hd, hg⟩ := h7
      have hnd : ∀ c, o.op ≠ .defer c := fun c e => by rw [ho] at e; cases e
      refine wpOp_value hoo hg hnd (run_idx_row _ o 28 29 B m m b _ ho (hI.l2 (wt 7 2 (by decide) _ hi)).eval (hI.l3 (wt 7 3 (by decide) _ hi)).eval hb) ?_
      rw [hd]; exact hI.put7
    | 8, _, hi, hun =>
      obtain ⟨o, hoo, ho, hd, hg⟩ := h8
      have hnd : ∀ c, o.op ≠ .defer c := fun c e => by rw [ho] at e; cases e
      refine wpOp_value hoo hg hnd (run_idx_arr _ o 32 B (b * 2) 0 _ (by decide) ho (hI.l7 (wt 8 7 (by decide) _ hi)).eval (fun _ => rfl)) ?_
      rw [hd]; exact hI.put8
    | 9, _, hi, hun =>
      obtain ⟨o, hoo, ho, hd, hg⟩ := h9
      have hnd : ∀ c, o.op ≠ .defer c := fun c e => by rw [ho] at e; cases e
      have h6t := wt 9 6 (by decide) _ hi
      have hwd := hI.wd
      rw [getD_both hun, h6t] at hwd
      have hwd' : w = W.drew.setCell ⟨B, a * 2 + 1, none⟩ (.int .i64 1) := hwd
      subst hwd'
      refine wpOp_skip hoo hg hnd (run_store1 _ o 33 B (b * 2 + 0) vb _ ho (hI.l8 (wt 9 8 (by decide) _ hi)).eval (fun _ => rfl) hcb ((World.frozen?_setCell _ _ _ _).trans (hfr _))) ?_
      rw [hd]; exact hI.put9 h6t hun
    | i + 10, h, _, _ => omega
  refine wpIn_region_any hm ?_
  exact wpAnyIn_inv (I6 ops W.drew bx B m a b) step fin' ops.size _ x W.drew (by simp [open_]) (fun i hi => (mem_ready.1 hi).1) start
end Go.Proofs.YtffmdnckapalfaaDoor.StillIn
