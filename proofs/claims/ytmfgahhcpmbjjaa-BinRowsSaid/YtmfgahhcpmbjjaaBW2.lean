/- The reader of package bin: Words where the bytes are all there. Conditions: the reader is there. -/
import Derived.Test.YtmfgahhcpmbjjaaBW1
import Derived.Test.YtmfgahhcpmbjjaaBW0
import Derived.Deep.RegionHeld3
namespace Go.Proofs.Ytmfgahhcpmbjjaa.WB
open Go.RowKit Go.Shelf Go.Proofs.YtmfgahhcpmbjjaaW.PrintWords
attribute [local go_sem] Oper.semAt_some
/-- Block B holds these whole numbers, one a cell. -/
def Blk (k : IntKind) (T : Nat) (W : World) (B : Nat) (cs : List Int) : Prop := W.heap[B]? = some (.cells (nums k cs).toArray T (0, 0))
theorem Blk.lt {k : IntKind} {T : Nat} {W : World} {B : Nat} {cs : List Int} (h : Blk k T W B cs) : B < W.heap.size := (Array.getElem?_eq_some_iff.1 h).1
theorem Blk.cell {k : IntKind} {T : Nat} {W : World} {B : Nat} {cs : List Int} (h : Blk k T W B cs) (j : Nat) (hj : j < cs.length) : W.cell? ⟨B, j, none⟩ = some (.int k (cs.getD j 0)) := by
  rw [cell_of_row _ _ _ _ _ _ h]
  simp [nums, List.getElem?_eq_getElem hj, List.getD_eq_getElem?_getD]
theorem Blk.frozen {k : IntKind} {T : Nat} {W : World} {B : Nat} {cs : List Int} (h : Blk k T W B cs) (j : Nat) : W.frozen? ⟨B, j, none⟩ = false := by simp [World.frozen?, show W.heap[B]? = _ from h]
theorem Blk.kept {k : IntKind} {T : Nat} {W W' : World} {row : Option Nat} {B : Nat} {cs : List Int} (h : Blk k T W B cs) (hg : W.grownBy W' row) (hne : some B ≠ row) : Blk k T W' B cs := (hg.block B h.lt hne).trans h
theorem Blk.below {k : IntKind} {T : Nat} {W W' : World} {B : Nat} {cs : List Int} (h : Blk k T W B cs) (hb : Below W.heap.size W W') : Blk k T W' B cs := (hb.block B h.lt).trans h
theorem Blk.set {k : IntKind} {T : Nat} {W : World} {B : Nat} {cs : List Int} (h : Blk k T W B cs) (j : Nat) (x : Int) : Blk k T (W.setCell ⟨B, j, none⟩ (.int k x)) B (cs.set j x) := by
  obtain ⟨hlt, hk⟩ := Array.getElem?_eq_some_iff.1 h
  show (W.heap.modify B _)[B]? = _
  rw [Array.getElem?_eq_getElem (by rw [Array.size_modify]; exact hlt), Array.getElem_modify_self, hk]
  simp [nums, List.map_set]
theorem Blk.own {k : IntKind} {T : Nat} {β : Type} (B : Nat) (f : β → List Int) : Own (fun s W => Blk k T W B (f s)) := by
  rintro s X Y row h hg hrow
  refine h.kept hg (fun e' => ?_)
  obtain ⟨o, ho, hc⟩ := hrow B e'.symm
  rw [show X.heap[B]? = _ from h] at ho; cases ho; cases hc
theorem info29 : (Try.prog.info? 29).map (fun i => (i.zero, i.size, i.bytes)) = some (some (.int .u16 0), 1, 2) := by kernel_rfl
theorem madeCells_u16 (n : Nat) : madeCells (Value.int .u16 0).cells (n * 1) = (nums .u16 (List.replicate n 0)).toArray := by
  apply Array.ext
  · simp [madeCells, nums]
  · intro i h1 h2
    simp [madeCells, nums, Value.cells, Nat.mod_one]
theorem make29 (n : Nat) (hn : n ≤ 1000000) (W : World) : (Instr.makeSlice 27 (.int .i64 0) (.int .i64 (n : Int))).run Try.prog W =
    .ok (.slice (some ⟨W.heap.size, 0, none⟩) 0 n) (W.alloc (.cells (nums .u16 (List.replicate n 0)).toArray 29)) := by
  obtain ⟨i, hi, hz1, hz2, hz3⟩ := info_parts info29
  have := run_make (P := Try.prog) W 27 29 i _ Try.underlying27 hi hz1 .i64 .i64 0 n (by omega) (by omega) (by rw [hz3]; omega) (by omega)
  rw [hz2, Int.toNat_natCast, madeCells_u16] at this
  exact this
/-- The first places are filled, out of n. -/
def fillP (f : Nat → Int) (n : Nat) (l : List Nat) : List Int := l.map f ++ List.replicate (n - l.length) 0
theorem fillP_len (f : Nat → Int) (n : Nat) (l : List Nat) (h : l.length ≤ n) : (fillP f n l).length = n := by simp [fillP]; omega
theorem fillP_set (f : Nat → Int) (n : Nat) (l : List Nat) (x : Nat) (h : l.length < n) : (fillP f n l).set l.length (f x) = fillP f n (l ++ [x]) := by
  unfold fillP
  rw [show n - l.length = (n - (l ++ [x]).length) + 1 by simp; omega, List.replicate_succ, List.set_append_right _ _ (by simp)]
  simp
/-- The word at a place. -/
def wd (xs : List Int) (j : Nat) : Int := rd xs ((2 * j : Nat) : Int) * 256 + rd xs ((2 * j + 1 : Nat) : Int)
theorem row_atqi (ai mi : Int) (B S : Nat) (bad : Bool) (A : Option Addr) (xs : List Int) (c : Nat) (a m : Nat) (w : World) (hai : ai = (a : Int)) (hmi : mi = (m : Int)) (h : Rdr w B S bad A xs.length c) (hx : Kd.C (Kd.int .u8) w A xs.length xs) (hc : xs.length ≤ c) (hl : xs.length ≤ 1000000) (ha : a + m ≤ xs.length) :
    Calls Try.prog 27 #[.pointer (some ⟨B, 0, none⟩), .int .i64 ai, .int .i64 mi] w fun e w' => ∃ A' : Option Addr, e = .returned (.tuple #[.slice A' m (c - a), .bool true]) ∧ Kd.C (Kd.int .u8) w A' m ((xs.drop a).take m) ∧ m ≤ c - a ∧ w' = w := by
  subst hai hmi; exact row_atq B S bad A xs c a m w h hx hc hl ha
theorem or_word (y z : Int) (hy : 0 ≤ y ∧ y ≤ 255) (hz : 0 ≤ z ∧ z ≤ 255) : bits BinOp.or IntKind.u16 (IntKind.u16.wrap (IntKind.u16.wrap y * 256)) (IntKind.u16.wrap z) = y * 256 + z := by
  obtain ⟨a, rfl⟩ : ∃ a : Nat, y = (a : Int) := ⟨y.toNat, by omega⟩
  obtain ⟨b, rfl⟩ : ∃ b : Nat, z = (b : Int) := ⟨z.toNat, by omega⟩
  have wr : ∀ m : Nat, m < 65536 → IntKind.u16.wrap (m : Int) = (m : Int) := fun m hm => by
    rw [IntKind.wrap_u16]; omega
  have e1 : ((a : Int) * 256) = ((a * 256 : Nat) : Int) := by omega
  rw [wr a (by omega), e1, wr (a * 256) (by omega), wr b (by omega)]
  have h1 : (BitVec.ofInt 16 ((a * 256 : Nat) : Int)).toNat = a * 256 := by
    rw [BitVec.ofInt_natCast, BitVec.toNat_ofNat]; exact Nat.mod_eq_of_lt (by omega)
  have h2 : (BitVec.ofInt 16 (b : Int)).toNat = b := by
    rw [BitVec.ofInt_natCast, BitVec.toNat_ofNat]; exact Nat.mod_eq_of_lt (by omega)
  have h3 : a * 256 ||| b = a * 256 + b := by
    have := Nat.two_pow_add_eq_or_of_lt (i := 8) (b := b) (by omega) a
    rw [show a * 256 = 2 ^ 8 * a by omega]
    exact this.symm
  show IntKind.u16.wrap ((BitVec.ofInt 16 ((a * 256 : Nat) : Int) ||| BitVec.ofInt 16 (b : Int)).toNat : Int) = _
  rw [BitVec.toNat_or, h1, h2, h3, wr _ (by omega)]
  omega
theorem rd_byte (xs : List Int) (h : ∀ x ∈ xs, 0 ≤ x ∧ x ≤ 255) (j : Nat) : 0 ≤ rd xs (j : Int) ∧ rd xs (j : Int) ≤ 255 := by
  by_cases hj : j < xs.length
  · have e : rd xs (j : Int) = xs[j] := by simp [rd, List.getD_eq_getElem?_getD, List.getElem?_eq_getElem hj]
    rw [e]; exact h _ (List.getElem_mem hj)
  · have : rd xs (j : Int) = 0 := by simp [rd, List.getD_eq_getElem?_getD, List.getElem?_eq_none (show xs.length ≤ j by omega)]
    rw [this]; decide
/-- The words' row, its box, and what the caller had; the iterator's boxes lie in the heap. -/
def WInv (xs : List Int) (n : Nat) (w : World) (pre : List (Fin n)) (W : World) : Prop :=
  ((Blk .u16 29 W w.heap.size (fillP (wd xs) n (pre.map Fin.val)) ∧ Boxed W (w.heap.size + 1) 27 (.slice (some ⟨w.heap.size, 0, none⟩) pre.length n)) ∧ Below w.heap.size w W) ∧ w.heap.size + 1 + 1 + 1 < W.heap.size
theorem round_end (xs : List Int) (n b : Nat) (w : World) (pre : List (Fin n)) (x : Fin n) (W : World) (V : Value) (p : Nat) (o : Obj) (h : WInv xs n w pre W) (hp : p = pre.length) (hpn : p < n) (hV : V = .int .u16 (wd xs x.1)) :
    KeepsFrom b W ((((W.setCell ⟨w.heap.size, p, none⟩ V).setCell ⟨w.heap.size + 1, 0, none⟩ (.slice (some ⟨w.heap.size, 0, none⟩) (p + 1) n)).alloc o).drew) ∧
    KS w.heap.size (w.heap.size + 1 + 1) (w.heap.size + 1 + 1 + 1) W ((((W.setCell ⟨w.heap.size, p, none⟩ V).setCell ⟨w.heap.size + 1, 0, none⟩ (.slice (some ⟨w.heap.size, 0, none⟩) (p + 1) n)).alloc o).drew) ∧
    WInv xs n w (pre ++ [x]) ((((W.setCell ⟨w.heap.size, p, none⟩ V).setCell ⟨w.heap.size + 1, 0, none⟩ (.slice (some ⟨w.heap.size, 0, none⟩) (p + 1) n)).alloc o).drew) := by
  obtain ⟨⟨⟨hW, hO⟩, hB⟩, hg⟩ := h
  subst hV hp
  have hl := hW.lt
  have s1 : (W.setCell ⟨w.heap.size, pre.length, none⟩ (.int .u16 (wd xs x.1))).heap.size = W.heap.size := by simp [World.setCell]
  have s2 : ((W.setCell ⟨w.heap.size, pre.length, none⟩ (.int .u16 (wd xs x.1))).setCell ⟨w.heap.size + 1, 0, none⟩ (.slice (some ⟨w.heap.size, 0, none⟩) (pre.length + 1) n)).heap.size = W.heap.size := by simp [World.setCell]
  have hbl : ∀ (k : Nat), k ≠ w.heap.size → k ≠ w.heap.size + 1 → k < W.heap.size → (((W.setCell ⟨w.heap.size, pre.length, none⟩ (.int .u16 (wd xs x.1))).setCell ⟨w.heap.size + 1, 0, none⟩ (.slice (some ⟨w.heap.size, 0, none⟩) (pre.length + 1) n)).alloc o).heap[k]? = W.heap[k]? := by
    intro k h0 h1 hk
    rw [Below.heap_alloc _ _ _ (by rw [s2]; exact hk), Below.heap_setCell _ _ _ _ h1, Below.heap_setCell _ _ _ _ h0]
  have hb : Below w.heap.size W ((((W.setCell ⟨w.heap.size, pre.length, none⟩ (.int .u16 (wd xs x.1))).setCell ⟨w.heap.size + 1, 0, none⟩ (.slice (some ⟨w.heap.size, 0, none⟩) (pre.length + 1) n)).alloc o).drew) :=
    ((((Below.refl _ _).setCell (p := ⟨w.heap.size, pre.length, none⟩) (Nat.le_refl _) _).setCell (p := ⟨w.heap.size + 1, 0, none⟩) (Nat.le_succ _) _).alloc (show w.heap.size ≤ _ by rw [s2]; exact Nat.le_of_lt hl) _).drew
  refine ⟨((((KeepsOthers.setCell _ _ _).trans (KeepsOthers.setCell _ _ _)).trans (KeepsOthers.alloc _ _)).trans (KeepsOthers.drew _)).from _, ⟨hb, ?_, ?_⟩, ⟨⟨⟨?_, ?_⟩, hB.trans hb⟩, ?_⟩⟩
  · exact World.cell?_of_block (hbl _ (by dsimp only; omega) (by dsimp only; omega) (by dsimp only; omega))
  · exact World.cell?_of_block (hbl _ (by dsimp only; omega) (by dsimp only; omega) (by dsimp only; omega))
  · have h1 := hW.set pre.length (wd xs x.1)
    have h2 := fillP_set (wd xs) n (pre.map Fin.val) x.1 (by simpa using hpn)
    rw [List.length_map] at h2
    rw [h2] at h1
    rw [List.map_append]
    show (World.alloc _ o).heap[w.heap.size]? = _
    rw [Below.heap_alloc _ _ _ (by rw [s2]; exact hl), Below.heap_setCell _ _ _ _ (by simp)]
    exact h1
  · have h0 : Boxed (W.setCell ⟨w.heap.size, pre.length, none⟩ (.int .u16 (wd xs x.1))) (w.heap.size + 1) 27 (.slice (some ⟨w.heap.size, 0, none⟩) pre.length n) := (Below.heap_setCell _ _ _ _ (by simp)).trans hO
    rw [List.length_append]
    exact (h0.set _).alloc o
  · show _ < (World.alloc _ o).heap.size
    rw [World.size_alloc, s2]; omega
set_option maxRecDepth 100000 in
set_option maxHeartbeats 8000000 in
theorem words_in (B S : Nat) (bad : Bool) (A : Option Addr) (ys : List Int) (c a n : Nat) (w : World) (h : RdrOf w B S bad A ys c) (ha : a + 2 * n ≤ ys.length) (hn : n ≤ 1000) (xs : List Int) (hxs : xs = (ys.drop a).take (2 * n)) :
    CallsIn Fence.wide 3 Try.prog 12 #[.pointer (some ⟨B, 0, none⟩), .int .i64 (a : Int), .int .i64 (n : Int)] w fun e w' => ∃ A' c', e = .returned (.slice A' n c') ∧ n ≤ c' ∧ Kd.C (Kd.int .u16) w' A' n ((List.range n).map (wd xs)) ∧ Below w.heap.size w w' := by
  refine callsIn_of_wp_marks Try.func12 rfl trivial ?_ rfl
  simp only [Try.ntmps12, List.size_toArray, List.length_cons, List.length_nil, Nat.reduceAdd, Nat.reduceSub, Array.replicate_succ, Array.replicate_zero, List.push_toArray, List.append_toArray, List.nil_append, List.cons_append]
  have hmk := make29 n (by omega)
  have HH := Aside0.mk h
  have hyl := h.hl
  have f1 : ¬ (n : Int) < 0 := by omega
  have f2 : ¬ (ys.length : Int) < (n : Int) := by omega
  have HXS := Aside0.mk hxs
  have hm1 : Try.prog.follows .mixedOrders = true := by kernel_rfl
  clear h hxs
  gi_wp2_with (first
    | (refine ⟨trivial, ?_⟩; gi_at_call 18; refine (callsIn_wide.2 (len_calls B S bad A _ c w HH.out.h)).mono ?_; rintro e w1 ⟨rfl, hb1⟩)
    | (refine ⟨trivial, ?_⟩; gi_at_call 27; refine (callsIn_wide.2 (row_atqi _ _ B S bad A ys c a (2 * n) w1 rfl (by omega) (HH.out.below hb1).h (HH.out.below hb1).hx HH.out.hc HH.out.hl (by omega))).mono ?_; rintro e w2 ⟨A', rfl, hA, hC, rfl⟩)
    | (refine ⟨trivial, ?_⟩; gi_at_call 28; refine (chunk_in _ _ _ _ _).mono ?_; rintro e w' ⟨rfl, rfl⟩))
  obtain ⟨ad, hAd⟩ : ∃ ad : Addr, 0 < n → A' = some ad := by
    cases A' with
    | none => exact ⟨⟨0, 0, none⟩, fun h => by
        obtain ⟨ad, e, _⟩ := Kd.at_int (xs := (ys.drop a).take (2 * n)) (n := 2 * n) hA 0 (by omega) (by omega)
        cases e⟩
    | some ad => exact ⟨ad, fun _ => rfl⟩
  have bW : Blk .u16 29 (w2.alloc (.cells (nums .u16 (List.replicate n 0)).toArray 29)) w2.heap.size (fillP (wd xs) n []) := heap_alloc_new w2 _
  have bO := Boxed.new (w2.alloc (.cells (nums .u16 (List.replicate n 0)).toArray 29)) 27 (.slice (some ⟨w2.heap.size, 0, none⟩) 0 n)
  have bS := Boxed.new ((w2.alloc (.cells (nums .u16 (List.replicate n 0)).toArray 29)).alloc (.cells #[.slice (some ⟨w2.heap.size, 0, none⟩) 0 n] 27)) 22 (.slice A' (2 * n) (c - a))
  have bN := Boxed.new (((w2.alloc (.cells (nums .u16 (List.replicate n 0)).toArray 29)).alloc (.cells #[.slice (some ⟨w2.heap.size, 0, none⟩) 0 n] 27)).alloc (.cells #[.slice A' (2 * n) (c - a)] 22)) 3 (.int .i64 2)
  simp only [World.size_alloc] at bO bS bN
  have hB0 : Below w2.heap.size w2 ((((w2.alloc (.cells (nums .u16 (List.replicate n 0)).toArray 29)).alloc (.cells #[.slice (some ⟨w2.heap.size, 0, none⟩) 0 n] 27)).alloc (.cells #[.slice A' (2 * n) (c - a)] 22)).alloc (.cells #[.int .i64 2] 3)) := below_alloc (below_alloc (below_alloc (below_alloc (Below.refl _ w2) _) _) _) _
  have hW1 := ((bW.below (below_alloc (Below.refl _ _) (.cells #[.slice (some ⟨w2.heap.size, 0, none⟩) 0 n] 27))).below (below_alloc (Below.refl _ _) (.cells #[.slice A' (2 * n) (c - a)] 22))).below (below_alloc (Below.refl _ _) (.cells #[.int .i64 2] 3))
  have hO1 := (bO.alloc (.cells #[.slice A' (2 * n) (c - a)] 22)).alloc (.cells #[.int .i64 2] 3)
  have hS1 := (bS.alloc (.cells #[.int .i64 2] 3)).cell
  have hN1 := bN.cell
  clear bW bO bS bN hmk
  refine wpIn_rangeFunc_ownG rfl (by omega) (gf := 34) (lb := #[.pointer (some ⟨w2.heap.size + 1 + 1, 0, none⟩), .pointer (some ⟨w2.heap.size + 1 + 1 + 1, 0, none⟩)]) rfl trivial (enters_of Try.func34 (by kernel_rfl) rfl)
    (chunk_stops n _ (by omega) (w2.heap.size + 1 + 1) (w2.heap.size + 1 + 1 + 1) w2 A' ad hAd (c - a) hC (by omega) _ hB0 hS1 hN1) KS.trans ?hKb (Below.refl _ _) (fun _ => rfl)
    (WInv xs n w2)
    (fun _ _ _ => False)
    (OwnFrom.and (OwnFrom.and (Own.from (fun s A B row hs hg hr => ⟨Blk.own w2.heap.size (fun pre : List (Fin n) => fillP (wd xs) n (pre.map Fin.val)) s A B row hs.1 hg hr, boxed_own (w2.heap.size + 1) 27 (fun pre : List (Fin n) => Value.slice (some ⟨w2.heap.size, 0, none⟩) pre.length n) s A B row hs.2 hg hr⟩) _) (ownFrom_below (Nat.le_refl _) (by simp; omega))) (fun _ _ _ _ hs hg _ => Nat.lt_of_lt_of_le hs hg.size))
    (fun _ _ _ _ _ hs _ _ => hs)
    ⟨⟨⟨hW1, hO1⟩, hB0⟩, by simp only [World.size_alloc]; omega⟩
    (fun x => { tmps := #[.pointer (some ⟨B, 0, none⟩), .int .i64 (a : Int), .int .i64 (n : Int), undef, undef, undef, .slice none 0 0, .slice A' (2 * n) (c - a), .bool true, .pointer (some ⟨w2.heap.size + 1, 0, none⟩), cutAt ad x.1, .int .i64 (n : Int), .bool false, .bool false, .int .i64 (n : Int), .pointer (some ⟨B, 0, none⟩), .int .i64 (ys.length : Int), .bool false, .bool false, .tuple #[.slice A' (2 * n) (c - a), .bool true], .pointer (some ⟨B, 0, none⟩), .int .i64 (a : Int), .int .i64 (n : Int), .int .i64 (2 * (n : Int)), .tuple #[.slice A' (2 * n) (c - a), .bool true], .slice A' (2 * n) (c - a), .bool true, .bool true, .bool false, .int .i64 (n : Int), .slice (some ⟨w2.heap.size, 0, none⟩) 0 n, .slice A' (2 * n) (c - a), .func (.func 34) #[] #[.pointer (some ⟨w2.heap.size + 1 + 1, 0, none⟩), .pointer (some ⟨w2.heap.size + 1 + 1 + 1, 0, none⟩)], cutAt ad x.1, undef, undef, undef, undef, undef, undef, undef, undef, undef, undef, undef, undef, undef, undef], defers := [] }) ?assign ?body ?done ?stop
  case hKb =>
    intro W l o o' hl ho hc hw
    refine ⟨belowK_b (by simp; omega) W l o o' hl ho hc hw, ?_, ?_⟩
    · exact World.cell?_of_block ((grownBy_putObj' W l o').block _ (by have := (Array.getElem?_eq_some_iff.1 ho).1; simp at hl ⊢; omega) (by simp at hl ⊢; omega))
    · exact World.cell?_of_block ((grownBy_putObj' W l o').block _ (by have := (Array.getElem?_eq_some_iff.1 ho).1; simp at hl ⊢; omega) (by simp at hl ⊢; omega))
  case assign =>
    intro l x W K hK
    gi_wp2
    exact hK
  case body =>
    clear hB0 hW1 hO1 hS1 hN1
    rintro l pre ⟨x, hx⟩ W hI hlen
    obtain ⟨⟨⟨hW, hO⟩, hB⟩, hgg⟩ := id hI
    have HI := Aside0.mk hI
    clear hI hgg
    dsimp only at hlen ⊢
    obtain rfl := hAd (by omega)
    obtain ⟨ad', e', hc0⟩ := Kd.at_int (xs := (ys.drop a).take (2 * n)) (n := 2 * n) (Kd.C_below hA hB) ((2 * x : Nat) : Int) (by omega) (by omega)
    cases e'
    obtain ⟨ad', e', hc1⟩ := Kd.at_int (xs := (ys.drop a).take (2 * n)) (n := 2 * n) (Kd.C_below hA hB) ((2 * x + 1 : Nat) : Int) (by omega) (by omega)
    cases e'
    rw [Int.toNat_natCast, ← HXS.out] at hc0 hc1
    have hbx := hO.cell
    have hwl : pre.length < (fillP (wd xs) n (pre.map Fin.val)).length := by rw [fillP_len _ _ _ (by simp; omega)]; exact hlen
    have hwc := hW.cell pre.length hwl
    have hwf := hW.frozen pre.length
    unfold cutAt
    have hu27 := Try.underlying27
    obtain ⟨y0, hy0⟩ : ∃ y, y = rd xs ((2 * x : Nat) : Int) := ⟨_, rfl⟩
    obtain ⟨y1, hy1⟩ : ∃ y, y = rd xs ((2 * x + 1 : Nat) : Int) := ⟨_, rfl⟩
    rw [← hy0] at hc0
    rw [← hy1] at hc1
    obtain ⟨z, hz⟩ : ∃ z, z = (fillP (wd xs) n (pre.map Fin.val)).getD pre.length 0 := ⟨_, rfl⟩
    rw [← hz] at hwc
    obtain ⟨p, hp⟩ : ∃ p, p = pre.length := ⟨_, rfl⟩
    rw [← hp] at hwc hwf hbx hlen
    have HW := Aside0.mk hW
    have HO := Aside0.mk hO
    have HB := Aside0.mk hB
    have HP := Aside0.mk hp
    have HWL := Aside0.mk hwl
    have HAA := Aside0.mk hA
    have HY0 := Aside0.mk hy0
    have HY1 := Aside0.mk hy1
    clear hz hW hO hB hwl hp hA hy0 hy1
    have key : W.cell? ((ad.add (2 * x)).add 1) = some (.int .u8 y1) := by
      have e : (ad.add (2 * x)).add 1 = ad.add (2 * x + 1) := by
        unfold Addr.add
        by_cases h0 : 2 * x = 0
        · simp [h0]
        · simp [h0, Nat.add_assoc]
      rw [e]; exact hc1
    have key2 : W.cell? { block := (ad.add (2 * x)).block, off := (ad.add (2 * x)).off + 1 } = some (.int .u8 y1) := by
      first | exact key | simpa [Addr.add] using key
    clear key hc1
    have g0 : w2.heap.size < W.heap.size := HW.out.lt
    have g1 : w2.heap.size + 1 < W.heap.size := HO.out.lt
    have g2 : ¬ (w2.heap.size = W.heap.size) := by omega
    have g3 : ¬ (W.heap.size = w2.heap.size) := by omega
    have g4 : p + 1 ≤ n := hlen
    have g5 : ¬ n < p + 1 := by omega
    have g6 : ¬ (w2.heap.size + 1 = W.heap.size) := by omega
    have g7 : ¬ (W.heap.size = w2.heap.size + 1) := by omega
    have hbf : W.frozen? ⟨w2.heap.size + 1, 0, none⟩ = false := by simp [World.frozen?, show W.heap[w2.heap.size + 1]? = _ from HO.out]
    have hinf := info29
    obtain ⟨i29, hi29, hz29, hs29, hb29⟩ := info_parts info29
    clear hinf
    gi_wp2
    have HSC : Aside0 (∀ w', Below w2.heap.size w2 w' → (fun w' : World => w'.cell? (ad.add (2 * x)) = some (.int .u8 y0) ∧ w'.cell? { block := (ad.add (2 * x)).block, off := (ad.add (2 * x)).off + 1 } = some (.int .u8 y1)) w') := ⟨fun w' hb => by
      obtain ⟨ad', e', h0⟩ := Kd.at_int (xs := (ys.drop a).take (2 * n)) (n := 2 * n) (Kd.C_below HAA.out hb) ((2 * x : Nat) : Int) (by omega) (by omega)
      cases e'
      obtain ⟨ad', e', h1⟩ := Kd.at_int (xs := (ys.drop a).take (2 * n)) (n := 2 * n) (Kd.C_below HAA.out hb) ((2 * x + 1 : Nat) : Int) (by omega) (by omega)
      cases e'
      rw [Int.toNat_natCast, ← HXS.out, ← HY0.out] at h0
      rw [Int.toNat_natCast, ← HXS.out, ← HY1.out] at h1
      have e : (ad.add (2 * x)).add 1 = ad.add (2 * x + 1) := by
        unfold Addr.add
        by_cases h0 : 2 * x = 0
        · simp [h0]
        · simp [h0, Nat.add_assoc]
      rw [← e] at h1
      refine ⟨h0, ?_⟩
      first | exact h1 | simpa [Addr.add] using h1⟩
    have HSW : (fun w' : World => w'.cell? (ad.add (2 * x)) = some (.int .u8 y0) ∧ w'.cell? { block := (ad.add (2 * x)).block, off := (ad.add (2 * x)).off + 1 } = some (.int .u8 y1)) W.drew := HSC.out _ (below_drew1 HB.out)
    refine RoundRegion.region_round (S := (fun w' : World => w'.cell? (ad.add (2 * x)) = some (.int .u8 y0) ∧ w'.cell? { block := (ad.add (2 * x)).block, off := (ad.add (2 * x)).off + 1 } = some (.int .u8 y1))) (by kernel_rfl) ?hnd (fun _ _ h => h) ?_
    case hnd =>
      intro o ho c
      simp at ho
      rcases ho with rfl | rfl | rfl | rfl | rfl | rfl | rfl | rfl | rfl | rfl | rfl | rfl | rfl | rfl <;> simp
    simp only [List.size_toArray, List.length_cons, List.length_nil, Nat.reduceAdd, Array.replicate_succ, Array.replicate_zero, List.push_toArray, List.append_toArray, List.nil_append, List.cons_append]
    refine wpAnyH_take (i := 1) (v := ?v1) rfl (by kernel_rfl) (by kernel_rfl) (by kernel_rfl) (fun _ _ _ h => h) (Or.inl ⟨by rfl, ?hy1⟩) (by assumption) ?r1
    case hy1 =>
      intro w hSw
      (try dsimp only at hSw)
      go_simp
      try with_reducible rfl
    try simp only [Act.put, List.setIfInBounds_toArray, List.set_cons_zero, List.set_cons_succ]
    refine wpAnyH_take (i := 2) (v := ?v2) rfl (by kernel_rfl) (by kernel_rfl) (by kernel_rfl) (fun _ _ _ h => h) (Or.inl ⟨by rfl, ?hy2⟩) (by assumption) ?r2
    case hy2 =>
      intro w hSw
      (try dsimp only at hSw)
      go_simp
      try with_reducible rfl
    try simp only [Act.put, List.setIfInBounds_toArray, List.set_cons_zero, List.set_cons_succ]
    refine wpAnyH_take (i := 3) (v := ?v3) rfl (by kernel_rfl) (by kernel_rfl) (by kernel_rfl) (fun _ _ _ h => h) (Or.inl ⟨by rfl, ?hy3⟩) (by assumption) ?r3
    case hy3 =>
      intro w hSw
      (try dsimp only at hSw)
      go_simp
      try with_reducible rfl
    try simp only [Act.put, List.setIfInBounds_toArray, List.set_cons_zero, List.set_cons_succ]
    refine wpAnyH_take (i := 4) (v := ?v4) rfl (by kernel_rfl) (by kernel_rfl) (by kernel_rfl) (fun _ _ _ h => h) (Or.inl ⟨by rfl, ?hy4⟩) (by assumption) ?r4
    case hy4 =>
      intro w hSw
      (try dsimp only at hSw)
      go_simp
      try with_reducible rfl
    try simp only [Act.put, List.setIfInBounds_toArray, List.set_cons_zero, List.set_cons_succ]
    refine wpAnyH_take (i := 5) (v := ?v5) rfl (by kernel_rfl) (by kernel_rfl) (by kernel_rfl) (fun _ _ _ h => h) (Or.inl ⟨by rfl, ?hy5⟩) (by assumption) ?r5
    case hy5 =>
      intro w hSw
      (try dsimp only at hSw)
      go_simp
      try with_reducible rfl
    try simp only [Act.put, List.setIfInBounds_toArray, List.set_cons_zero, List.set_cons_succ]
    refine wpAnyH_take (i := 6) (v := ?v6) rfl (by kernel_rfl) (by kernel_rfl) (by kernel_rfl) (fun _ _ _ h => h) (Or.inl ⟨by rfl, ?hy6⟩) (by assumption) ?r6
    case hy6 =>
      intro w hSw
      (try dsimp only at hSw)
      go_simp
      try with_reducible rfl
    try simp only [Act.put, List.setIfInBounds_toArray, List.set_cons_zero, List.set_cons_succ]
    refine wpAnyH_take (i := 7) (v := ?v7) rfl (by kernel_rfl) (by kernel_rfl) (by kernel_rfl) (fun _ _ _ h => h) (Or.inl ⟨by rfl, ?hy7⟩) (by assumption) ?r7
    case hy7 =>
      intro w hSw
      (try dsimp only at hSw)
      go_simp
      try with_reducible rfl
    try simp only [Act.put, List.setIfInBounds_toArray, List.set_cons_zero, List.set_cons_succ]
    refine wpAnyH_take (i := 8) (v := ?v8) rfl (by kernel_rfl) (by kernel_rfl) (by kernel_rfl) (fun _ _ _ h => h) (Or.inl ⟨by rfl, ?hy8⟩) (by assumption) ?r8
    case hy8 =>
      intro w hSw
      (try dsimp only at hSw)
      go_simp
      try with_reducible rfl
    try simp only [Act.put, List.setIfInBounds_toArray, List.set_cons_zero, List.set_cons_succ]
    refine wpAnyH_take (i := 9) (v := ?v9) rfl (by kernel_rfl) (by kernel_rfl) (by kernel_rfl) (fun _ _ _ h => h) (Or.inl ⟨by rfl, ?hy9⟩) (by assumption) ?r9
    case hy9 =>
      intro w hSw
      (try dsimp only at hSw)
      go_simp
      try with_reducible rfl
    try simp only [Act.put, List.setIfInBounds_toArray, List.set_cons_zero, List.set_cons_succ]
    refine wpAnyH_take (i := 10) (v := ?v10) rfl (by kernel_rfl) (by kernel_rfl) (by kernel_rfl) (fun _ _ _ h => h) (Or.inl ⟨by rfl, ?hy10⟩) (by assumption) ?r10
    case hy10 =>
      intro w hSw
      (try dsimp only at hSw)
      go_simp
      try with_reducible rfl
    try simp only [Act.put, List.setIfInBounds_toArray, List.set_cons_zero, List.set_cons_succ]
    refine wpAnyH_ready (rs := [0, 11]) (by kernel_rfl) (by simp) ?_
    refine AllReadyH.cons (o := _) rfl (fun K hK => ?p0) (AllReadyH.cons (o := _) rfl (fun K hK => ?p1) AllReadyH.nil)
    case p0 =>
      go_simp
      refine hK.out _ _ ?_ (fun hHeld => ?_)
      · exact HSC.out _ (by repeat (first | exact HB.out | exact below_drew1 HB.out | (refine below_set ?_ (by simp; done)) | apply below_drew1 | apply below_alloc))
      clear hK K
      try simp only [Act.put, List.setIfInBounds_toArray, List.set_cons_zero, List.set_cons_succ]
      refine wpAnyH_ready (rs := [11]) (by kernel_rfl) (by simp) ?_
      refine AllReadyH.cons (o := _) rfl (fun K hK => ?_) AllReadyH.nil
      go_simp
      refine hK.out _ _ ?_ (fun hHeld => ?_)
      · exact HSC.out _ (by repeat (first | exact HB.out | exact below_drew1 HB.out | (refine below_set ?_ (by simp; done)) | apply below_drew1 | apply below_alloc))
      clear hK K
      try simp only [Act.put, List.setIfInBounds_toArray, List.set_cons_zero, List.set_cons_succ]
      refine wpAnyH_ready (rs := [12]) (by kernel_rfl) (by simp) ?_
      refine AllReadyH.cons (o := _) rfl (fun K hK => ?_) AllReadyH.nil
      go_simp
      refine hK.out _ _ ?_ (fun hHeld => ?_)
      · exact HSC.out _ (by repeat (first | exact HB.out | exact below_drew1 HB.out | (refine below_set ?_ (by simp; done)) | apply below_drew1 | apply below_alloc))
      clear hK K
      try simp only [Act.put, List.setIfInBounds_toArray, List.set_cons_zero, List.set_cons_succ]
      refine wpAnyH_ready (rs := [13]) (by kernel_rfl) (by simp) ?_
      refine AllReadyH.cons (o := _) rfl (fun K hK => ?_) AllReadyH.nil
      go_simp
      refine hK.out _ _ ?_ (fun hHeld => ?_)
      · exact HSC.out _ (by repeat (first | exact HB.out | exact below_drew1 HB.out | (refine below_set ?_ (by simp; done)) | apply below_drew1 | apply below_alloc))
      clear hK K
      try simp only [Act.put, List.setIfInBounds_toArray, List.set_cons_zero, List.set_cons_succ]
      refine wpAnyH_done (by kernel_rfl) ?_ _
      have hv : ∀ x ∈ xs, 0 ≤ x ∧ x ≤ 255 := by
        rw [HXS.out]
        exact fun x hx => HH.out.hv x (List.mem_of_mem_drop (List.mem_of_mem_take hx))
      exact round_end xs n _ w2 pre ⟨x, hx⟩ W _ p _ HI.out HP.out hlen (by
        rw [or_word _ _ (by rw [HY0.out]; exact rd_byte xs hv _) (by rw [HY1.out]; exact rd_byte xs hv _), HY0.out, HY1.out]; rfl)
    case p1 =>
      go_simp
      refine hK.out _ _ ?_ (fun hHeld => ?_)
      · exact HSC.out _ (by repeat (first | exact HB.out | exact below_drew1 HB.out | (refine below_set ?_ (by simp; done)) | apply below_drew1 | apply below_alloc))
      clear hK K
      try simp only [Act.put, List.setIfInBounds_toArray, List.set_cons_zero, List.set_cons_succ]
      refine wpAnyH_ready (rs := [0]) (by kernel_rfl) (by simp) ?_
      refine AllReadyH.cons (o := _) rfl (fun K hK => ?_) AllReadyH.nil
      go_simp
      refine hK.out _ _ ?_ (fun hHeld => ?_)
      · exact HSC.out _ (by repeat (first | exact HB.out | exact below_drew1 HB.out | (refine below_set ?_ (by simp; done)) | apply below_drew1 | apply below_alloc))
      clear hK K
      try simp only [Act.put, List.setIfInBounds_toArray, List.set_cons_zero, List.set_cons_succ]
      refine wpAnyH_ready (rs := [12]) (by kernel_rfl) (by simp) ?_
      refine AllReadyH.cons (o := _) rfl (fun K hK => ?_) AllReadyH.nil
      go_simp
      refine hK.out _ _ ?_ (fun hHeld => ?_)
      · exact HSC.out _ (by repeat (first | exact HB.out | exact below_drew1 HB.out | (refine below_set ?_ (by simp; done)) | apply below_drew1 | apply below_alloc))
      clear hK K
      try simp only [Act.put, List.setIfInBounds_toArray, List.set_cons_zero, List.set_cons_succ]
      refine wpAnyH_ready (rs := [13]) (by kernel_rfl) (by simp) ?_
      refine AllReadyH.cons (o := _) rfl (fun K hK => ?_) AllReadyH.nil
      go_simp
      refine hK.out _ _ ?_ (fun hHeld => ?_)
      · exact HSC.out _ (by repeat (first | exact HB.out | exact below_drew1 HB.out | (refine below_set ?_ (by simp; done)) | apply below_drew1 | apply below_alloc))
      clear hK K
      try simp only [Act.put, List.setIfInBounds_toArray, List.set_cons_zero, List.set_cons_succ]
      refine wpAnyH_done (by kernel_rfl) ?_ _
      have hv : ∀ x ∈ xs, 0 ≤ x ∧ x ≤ 255 := by
        rw [HXS.out]
        exact fun x hx => HH.out.hv x (List.mem_of_mem_drop (List.mem_of_mem_take hx))
      exact round_end xs n _ w2 pre ⟨x, hx⟩ W _ p _ HI.out HP.out hlen (by
        rw [or_word _ _ (by rw [HY0.out]; exact rd_byte xs hv _) (by rw [HY1.out]; exact rd_byte xs hv _), HY0.out, HY1.out]; rfl)
  case done =>
    rintro D zs W hD hzs ⟨⟨⟨hW, hO⟩, hB⟩, hg⟩ hK
    rename_i K HK
    clear hB0 hW1 hO1 hS1 hN1
    dsimp only
    refine HK _ _ (wpIn_wide.2 ?_)
    clear HK K
    have hlen : zs.length = n := by have := congrArg List.length hzs; simpa using this
    rw [hlen] at hO
    have hbx := hO.cell
    have hDn : w2.heap.size + 1 + 1 + 1 < D := by simp at hD; omega
    have HW := Aside0.mk hW
    have HO := Aside0.mk hO
    have HB := Aside0.mk hB
    have HD := Aside0.mk hK
    have HZ := Aside0.mk hzs
    have HAA := Aside0.mk hA
    clear hW hO hB hK hzs hlen hA
    go_wp2
    refine ⟨by simp, .inl ⟨_, _, rfl, run_takeDeferred HD.out, ?_⟩⟩
    refine ⟨_, results_tmp rfl _ _ _, _, _, rfl, Nat.le_refl _, ?_, ?_⟩
    · have hO2 := HW.out.kept (grownBy_putObj' W D (.deferred none)) (by simp; omega)
      rw [HZ.out] at hO2
      have hf : fillP (wd xs) n (List.range n) = (List.range n).map (wd xs) := by simp [fillP]
      rw [hf] at hO2
      refine Kd.C_of_reads (d := (0 : Int)) (h1 := fun _ => rfl) ⟨by simp, by omega, fun _ => ⟨_, rfl, fun j hj => ?_⟩⟩
      have := hO2.cell j (by simpa using hj)
      have ea : (⟨w2.heap.size, 0, none⟩ : Addr).add j = ⟨w2.heap.size, j, none⟩ := by
        unfold Addr.add
        by_cases h0 : j = 0 <;> simp [h0]
      rw [ea]
      exact this
    · exact hb1.trans ((HB.out.mono hb1.size).trans (belowK_b (w := w) (Nat.le_refl _) W D _ _ (by have := hb1.size; omega) HD.out rfl rfl))
  case stop =>
    rintro D c pre W _ _ h _
    exact h.elim
theorem words_calls (B S : Nat) (bad : Bool) (A : Option Addr) (ys : List Int) (c a n : Nat) (w : World) (h : RdrOf w B S bad A ys c) (ha : a + 2 * n ≤ ys.length) (hn : n ≤ 1000) (xs : List Int) (hxs : xs = (ys.drop a).take (2 * n)) :
    Calls Try.prog 12 #[.pointer (some ⟨B, 0, none⟩), .int .i64 (a : Int), .int .i64 (n : Int)] w fun e w' => ∃ A' c', e = .returned (.slice A' n c') ∧ n ≤ c' ∧ Kd.C (Kd.int .u16) w' A' n ((List.range n).map (wd xs)) ∧ Below w.heap.size w w' :=
  callsIn_wide.1 (words_in B S bad A ys c a n w h ha hn xs hxs)
end Go.Proofs.Ytmfgahhcpmbjjaa.WB
