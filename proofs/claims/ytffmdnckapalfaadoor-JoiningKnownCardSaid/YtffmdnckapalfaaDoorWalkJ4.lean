import Derived.Test.YtffmdnckapalfaaDoorWalkJ3
import Derived.Test.YtffmdnckapalfaaDoorRegJ
namespace Go.Proofs.YtffmdnckapalfaaDoor.ExtJ
open Go.RowKit Go.Shelf Go.Proofs.YtffmdnckapalfaaDoor.SpecJ Go.Proofs.YtffmdnckapalfaaDoorW.PrintWords
attribute [local go_sem] Oper.semAt_some

theorem nb_stops (n : Nat) (hn : 1 ≤ n) (Bs : Nat) (w₀ : World) (A : Option Addr) (c : Nat) (xs : List Int) (hxs : Kd.C (Kd.int .i32) w₀ A xs.length xs) (hG : Glob w₀) (hreach : xs.length ≤ 1000000)
    (w : World) (hw : Below w₀.heap.size w₀ w) (hB : Bs < w.heap.size) (hc : w.cell? ⟨Bs, 0, none⟩ = some (.slice A xs.length c)) :
    SeqStopsK Fence.wide n Tryd.prog 45 #[.pointer (some ⟨Bs, 0, none⟩)] (fun x : Pr xs.length => #[Value.int .i64 (x.1.1 : Int), Value.int .i64 (x.1.2 : Int)]) (Below w₀.heap.size)
      (fun ys => ys.map Subtype.val = prsUp (tyAt xs) xs.length) (fun _ => True) xs.length w := fun l J Jx W hW hJ _ hY h0 =>
  nb1_in n hn l Bs w₀ A c xs hxs hG hreach J Jx W (hw.trans (hW.mono hw.size)) hJ hY ((hW.cell (p := ⟨Bs, 0, none⟩) hB).trans hc) h0

/-- Block B holds these whole numbers, one a cell. -/
def Blk (k : IntKind) (T : Nat) (W : World) (B : Nat) (cs : List Int) : Prop := W.heap[B]? = some (.cells (nums k cs).toArray T (0, 0))
theorem Blk.lt {k : IntKind} {T : Nat} {W : World} {B : Nat} {cs : List Int} (h : Blk k T W B cs) : B < W.heap.size := (Array.getElem?_eq_some_iff.1 h).1
theorem Blk.cell {k : IntKind} {T : Nat} {W : World} {B : Nat} {cs : List Int} (h : Blk k T W B cs) (j : Nat) (hj : j < cs.length) : W.cell? ⟨B, j, none⟩ = some (.int k (cs.getD j 0)) := by
  rw [cell_of_row _ _ _ _ _ _ h]
  simp [nums, List.getElem?_eq_getElem hj, List.getD_eq_getElem?_getD]
theorem Blk.frozen {k : IntKind} {T : Nat} {W : World} {B : Nat} {cs : List Int} (h : Blk k T W B cs) (j : Nat) : W.frozen? ⟨B, j, none⟩ = false := by simp [World.frozen?, show W.heap[B]? = _ from h]
theorem Blk.kept {k : IntKind} {T : Nat} {W W' : World} {row : Option Nat} {B : Nat} {cs : List Int} (h : Blk k T W B cs) (hg : W.grownBy W' row) (hne : some B ≠ row) : Blk k T W' B cs := (hg.block B h.lt hne).trans h
theorem Blk.below {k : IntKind} {T : Nat} {W W' : World} {B : Nat} {cs : List Int} (h : Blk k T W B cs) (hb : Below W.heap.size W W') : Blk k T W' B cs := (hb.block B h.lt).trans h
theorem Blk.set {k : IntKind} {T : Nat} {W : World} {B : Nat} {cs : List Int} (h : Blk k T W B cs) (j : Nat) (x : Int) : Blk k T (W.setCell ⟨B, j, none⟩ (.int k x)) B (cs.set j x) := by
  obtain ⟨hlt, hk⟩ := Array.getElem?_eq_some_iff.1 h
  show (W.heap.modify B _)[B]? = _
  rw [Array.getElem?_eq_getElem (by rw [Array.size_modify]; exact hlt), Array.getElem_modify_self, hk]
  simp [nums, List.map_set]
theorem Blk.own {k : IntKind} {T : Nat} {β : Type} (B : Nat) (f : β → List Int) : Own (fun s W => Blk k T W B (f s)) := by
  rintro s X Y row h hg hrow
  refine h.kept hg (fun e' => ?_)
  obtain ⟨o, ho, hc⟩ := hrow B e'.symm
  rw [show X.heap[B]? = _ from h] at ho; cases ho; cases hc

theorem info41 : (Tryd.prog.info? 41).map (fun i => (i.zero, i.size, i.bytes)) = some (some (.agg #[.int .i64 0, .int .i64 0]), 2, 16) := by kernel_rfl
theorem info5 : (Tryd.prog.info? 5).map (fun i => (i.zero, i.size, i.bytes)) = some (some (.int .u8 0), 1, 1) := by kernel_rfl
theorem madeCells_pairs (n : Nat) : madeCells (Value.agg #[.int .i64 0, .int .i64 0]).cells (n * 2) = (nums .i64 (List.replicate (n * 2) 0)).toArray := by
  apply Array.ext
  · simp [madeCells, nums]
  · intro i h1 h2
    have : i % 2 = 0 ∨ i % 2 = 1 := by omega
    rcases this with h | h <;> simp [madeCells, nums, Value.cells, h]
theorem make41 (n : Nat) (hn : n ≤ 1000000) (W : World) : (Instr.makeSlice 37 (.int .i64 (n : Int)) (.int .i64 (n : Int))).run Tryd.prog W =
    .ok (.slice (some ⟨W.heap.size, 0, none⟩) n n) (W.alloc (.cells (nums .i64 (List.replicate (n * 2) 0)).toArray 41)) := by
  obtain ⟨i, hi, hz1, hz2, hz3⟩ := info_parts info41
  have := run_make (P := Tryd.prog) W 37 41 i _ Tryd.underlying37 hi hz1 .i64 .i64 n n (by omega) (Int.le_refl _) (by rw [hz3]; omega) (by omega)
  rw [hz2, Int.toNat_natCast, madeCells_pairs] at this
  exact this

theorem madeCells_zeros (n : Nat) : madeCells (Value.int .u8 0).cells (n * 1) = (nums .u8 (List.replicate n 0)).toArray := by
  apply Array.ext
  · simp [madeCells, nums]
  · intro i h1 h2
    simp [madeCells, nums, Value.cells, Nat.mod_one]
theorem make5 (n : Nat) (hn : n ≤ 1000000) (W : World) : (Instr.makeSlice 24 (.int .i64 (n : Int)) (.int .i64 (n : Int))).run Tryd.prog W =
    .ok (.slice (some ⟨W.heap.size, 0, none⟩) n n) (W.alloc (.cells (nums .u8 (List.replicate n 0)).toArray 5)) := by
  obtain ⟨i, hi, hz1, hz2, hz3⟩ := info_parts info5
  have := run_make (P := Tryd.prog) W 24 5 i _ Tryd.underlying24 hi hz1 .i64 .i64 n n (by omega) (Int.le_refl _) (by rw [hz3]; omega) (by omega)
  rw [hz2, Int.toNat_natCast, madeCells_zeros] at this
  exact this

set_option maxRecDepth 100000 in
set_option maxHeartbeats 4000000 in
theorem Forms_any (A0 : Option Addr) (c : Nat) (xs : List Int) (w : World) (hxs : Kd.C (Kd.int .i32) w A0 xs.length xs) (hG : Glob w) (hr : xs.length ≤ 1000000) :
    CallsIn Fence.wide 3 Tryd.prog 14 #[.slice A0 xs.length c] w fun e w' => ∃ v0_ : Value, e = .returned (v0_) ∧ Kd.R (Kd.int .u8) 5 w' w.heap.size (fun _ => True) v0_ (forms xs) ∧ Below w.heap.size w w' := by
  refine callsIn_of_wp_marks Tryd.func14 rfl trivial ?_ rfl
  simp only [Tryd.ntmps14, List.size_toArray, List.length_cons, List.length_nil, Nat.reduceAdd, Nat.reduceSub, Array.replicate_succ, Array.replicate_zero, List.push_toArray, List.append_toArray, List.nil_append, List.cons_append]
  have hmk := make41 xs.length hr
  have HX := Aside0.mk hxs
  have HG := Aside0.mk hG
  clear hxs hG
  gi_wp2_with (refine ⟨trivial, ?_⟩; gi_at_call 29; refine (neighbours_in _ _ _ _ _).mono ?_; rintro e w' ⟨rfl, rfl⟩)
  have bL := Boxed.new w 22 (.slice A0 xs.length c)
  have bJ : Blk .i64 41 ((w.alloc (.cells #[.slice A0 xs.length c] 22)).alloc (.cells (nums .i64 (List.replicate (xs.length * 2) 0)).toArray 41)) (w.heap.size + 1) (List.replicate (xs.length * 2) 0) := by
    have := heap_alloc_new (w.alloc (.cells #[.slice A0 xs.length c] 22)) (.cells (nums .i64 (List.replicate (xs.length * 2) 0)).toArray 41)
    rwa [World.size_alloc] at this
  have bS := Boxed.new ((w.alloc (.cells #[.slice A0 xs.length c] 22)).alloc (.cells (nums .i64 (List.replicate (xs.length * 2) 0)).toArray 41)) 37 (.slice (some ⟨w.heap.size + 1, 0, none⟩) xs.length xs.length)
  have bN := Boxed.new (((w.alloc (.cells #[.slice A0 xs.length c] 22)).alloc (.cells (nums .i64 (List.replicate (xs.length * 2) 0)).toArray 41)).alloc (.cells #[.slice (some ⟨w.heap.size + 1, 0, none⟩) xs.length xs.length] 37)) 22 (.slice A0 xs.length c)
  simp only [World.size_alloc] at bS bN
  have hB0 : Below w.heap.size w ((((w.alloc (.cells #[.slice A0 xs.length c] 22)).alloc (.cells (nums .i64 (List.replicate (xs.length * 2) 0)).toArray 41)).alloc (.cells #[.slice (some ⟨w.heap.size + 1, 0, none⟩) xs.length xs.length] 37)).alloc (.cells #[.slice A0 xs.length c] 22)) := below_alloc (below_alloc (below_alloc (below_alloc (Below.refl _ w) _) _) _) _
  have hJ0 := (bJ.below (below_alloc (Below.refl _ _) (.cells #[.slice (some ⟨w.heap.size + 1, 0, none⟩) xs.length xs.length] 37)))
  have hJ1 := hJ0.below (below_alloc (Below.refl _ _) (.cells #[.slice A0 xs.length c] 22))
  have hL1 := ((bL.alloc (.cells (nums .i64 (List.replicate (xs.length * 2) 0)).toArray 41)).alloc (.cells #[.slice (some ⟨w.heap.size + 1, 0, none⟩) xs.length xs.length] 37)).alloc (.cells #[.slice A0 xs.length c] 22)
  have hS1 := bS.alloc (.cells #[.slice A0 xs.length c] 22)
  clear hmk bL bJ bS hJ0
  refine wpIn_rangeFunc_ownG rfl (by omega) (gf := 45) (lb := #[.pointer (some ⟨w.heap.size + 1 + 1 + 1, 0, none⟩)]) rfl trivial (enters_of Tryd.func45 (by kernel_rfl) rfl)
    (nb_stops _ (by omega) (w.heap.size + 1 + 1 + 1) w A0 c xs HX.out HG.out hr _ hB0 (by simp) bN.cell) belowK_t (belowK_b (by simp; omega)) (Below.refl _ _) (fun _ => rfl)
    (fun pre W => (Blk .i64 41 W (w.heap.size + 1) (jall (tyAt xs) xs.length (pre.map Subtype.val)) ∧ Boxed W (w.heap.size + 1 + 1) 37 (.slice (some ⟨w.heap.size + 1, 0, none⟩) xs.length xs.length) ∧ Boxed W w.heap.size 22 (.slice A0 xs.length c)) ∧ Below w.heap.size w W)
    (fun _ _ _ => False)
    (OwnFrom.and (Own.from (fun s A B row hs hg hr => ⟨Blk.own (w.heap.size + 1) (fun pre : List (Pr xs.length) => jall (tyAt xs) xs.length (pre.map Subtype.val)) s A B row hs.1 hg hr, boxed_own (w.heap.size + 1 + 1) 37 (fun _ : List (Pr xs.length) => Value.slice (some ⟨w.heap.size + 1, 0, none⟩) xs.length xs.length) s A B row hs.2.1 hg hr, boxed_own w.heap.size 22 (fun _ : List (Pr xs.length) => Value.slice A0 xs.length c) s A B row hs.2.2 hg hr⟩) _) (ownFrom_below (Nat.le_refl _) (by simp; omega)))
    (fun _ _ _ _ _ hs _ _ => hs)
    ⟨⟨hJ1, hS1, hL1⟩, hB0⟩
    (fun x => { tmps := #[.slice A0 xs.length c, .pointer (some ⟨w.heap.size, 0, none⟩), .slice none 0 0, .pointer (some ⟨w.heap.size + 1 + 1, 0, none⟩), .int .i64 (x.1.1 : Int), .int .i64 (x.1.2 : Int), undef, undef, undef, undef, .slice A0 xs.length c, .int .i64 xs.length, .slice (some ⟨w.heap.size + 1, 0, none⟩) xs.length xs.length, .slice A0 xs.length c, .func (.func 45) #[] #[.pointer (some ⟨w.heap.size + 1 + 1 + 1, 0, none⟩)], .int .i64 (x.1.1 : Int), .int .i64 (x.1.2 : Int), undef, undef, undef, undef, undef, undef, undef, undef, undef, undef, undef, undef, undef, undef, undef, undef, undef, undef, undef, undef, undef, undef, undef, undef, undef, undef, undef, undef, undef, undef, undef, undef, undef, undef, undef, undef, undef, undef, undef, undef, undef, undef, undef, undef, undef, undef, undef, undef, undef, undef, undef, undef, undef, undef, undef, undef, undef, undef, undef, undef, undef, undef, undef, undef, undef, undef, undef], defers := [] }) ?assign ?body ?done ?stop
  case assign =>
    intro l x W K hK
    gi_wp2
    exact hK
  case body =>
    clear hB0 bN hJ1 hL1 hS1
    rintro l pre ⟨⟨a, b⟩, hab, hbn⟩ W ⟨⟨hJ, hS, hL⟩, hB⟩ _
    dsimp only at hab hbn ⊢
    have hmx : Tryd.prog.follows .mixedOrders = true := by kernel_rfl
    obtain ⟨ad, rfl, hca⟩ := Kd.at_int (Kd.C_below HX.out hB) (a : Int) (by omega) (by omega)
    obtain ⟨ad', e', hcb⟩ := Kd.at_int (Kd.C_below HX.out hB) (b : Int) (by omega) (by omega)
    obtain rfl := Option.some.inj e'
    clear e'
    obtain ⟨ca, hca'⟩ : ∃ ca, ca = rd xs (a : Int) := ⟨_, rfl⟩
    obtain ⟨cb, hcb'⟩ : ∃ cb, cb = rd xs (b : Int) := ⟨_, rfl⟩
    rw [← hca', Int.toNat_natCast] at hca
    rw [← hcb', Int.toNat_natCast] at hcb
    have hta : tyAt xs a = jn ca := by rw [hca']; simp [tyAt, rd]
    have htb : tyAt xs b = jn cb := by rw [hcb']; simp [tyAt, rd]
    clear hca' hcb'
    have HGW := Aside0.mk (HG.out.below (hB.drew))
    have HTA := Aside0.mk hta
    have HTB := Aside0.mk htb
    have hsc := hS.cell
    have hlc := hL.cell
    clear hta htb
    gi_wp2
    have han : a < xs.length := by omega
    have hia : (a : Int) < (xs.length : Int) := by omega
    have hib : (b : Int) < (xs.length : Int) := by omega
    have hia0 : (0 : Int) ≤ (a : Int) := by omega
    have hib0 : (0 : Int) ≤ (b : Int) := by omega
    refine StillIn.wpIn_region_still_tail 8 hmx (by kernel_rfl) (by kernel_rfl) ?_
    simp only [List.take_succ_cons, List.take_zero, List.drop_succ_cons, List.drop_zero]
    repeat still_step
    refine wpStill_nil ?_
    cases hj : jb (jn ca) (jn cb) with
    | true =>
      have HC := Aside0.mk (hj ▸ Joins_calls ca cb _ HGW.out)
      have HJB := Aside0.mk hj
      clear hj
      gi_wp2_with (refine ⟨trivial, ?_⟩; gi_at_call 17; refine (CallsIn.inRound l (callsIn_wide.2 HC.out)).mono ?_; rintro e w' ⟨rfl, hb1⟩)
      have hb : Below W.heap.size W w' := ((Below.refl W.heap.size W).drew).trans hb1
      have hJ' := hJ.below hb
      have hS' : Boxed w' (w.heap.size + 1 + 1) 37 (.slice (some ⟨w.heap.size + 1, 0, none⟩) xs.length xs.length) := (hb.block _ hS.lt).trans hS
      have hL' : Boxed w' w.heap.size 22 (.slice (some ad) xs.length c) := (hb.block _ hL.lt).trans hL
      have hsc' := hS'.cell
      have hfa := hJ'.frozen (a * 2 + 1)
      have hfb := hJ'.frozen (b * 2)
      have hca2 := hJ'.cell (a * 2 + 1) (by rw [jall_length]; omega)
      have hcb2 := hJ'.cell (b * 2) (by rw [jall_length]; omega)
      obtain ⟨va, hva⟩ : ∃ va, va = (jall (tyAt xs) xs.length (List.map Subtype.val pre)).getD (a * 2 + 1) 0 := ⟨_, rfl⟩
      obtain ⟨vb, hvb⟩ : ∃ vb, vb = (jall (tyAt xs) xs.length (List.map Subtype.val pre)).getD (b * 2) 0 := ⟨_, rfl⟩
      rw [← hva] at hca2
      rw [← hvb] at hcb2
      have HJ := Aside0.mk hJ'
      have HL := Aside0.mk hL'
      have HS := Aside0.mk hS'
      have HB := Aside0.mk hB
      have HBB := Aside0.mk hb
      have HJ0 := Aside0.mk hJ
      have hne : ¬ (a * 2 + 1 = b * 2) := by omega
      have hne' : ¬ (b * 2 = a * 2 + 1) := by omega
      clear hva hJ' hS' hL' hB hb hJ hS hL
      have hcbn : (w'.drew.setCell ⟨w.heap.size + 1, a * 2 + 1, none⟩ (.int .i64 1)).cell? ⟨w.heap.size + 1, b * 2 + 0, none⟩ = some (.int .i64 vb) := by
        have h1 : Blk .i64 41 w'.drew (w.heap.size + 1) (jall (tyAt xs) xs.length (List.map Subtype.val pre)) := HJ.out
        have h2 := (h1.set (a * 2 + 1) 1).cell (b * 2 + 0) (by rw [List.length_set, jall_length]; omega)
        rw [h2, hvb]
        simp [List.getD_eq_getElem?_getD, hne]
      refine StillIn.region6 (bx := w.heap.size + 1 + 1) (B := w.heap.size + 1) (m := xs.length) (a := a) (b := b) hmx (by kernel_rfl) (by kernel_rfl) (by kernel_rfl) (by kernel_rfl) rfl rfl rfl rfl (by omega) hsc' (by omega) hbn va vb hca2 hcbn (fun o => HJ.out.frozen o) ?_
      intro x'
      have hst : jall (tyAt xs) xs.length ((pre ++ [(⟨(a, b), hab, hbn⟩ : Pr xs.length)]).map Subtype.val) = ((jall (tyAt xs) xs.length (pre.map Subtype.val)).set (a * 2 + 1) 1).set (b * 2 + 0) 1 := by
        rw [List.map_append, List.map_cons, List.map_nil, jall_snoc]
        unfold jstep
        rw [if_pos (by dsimp only; rw [HTA.out, HTB.out, HJB.out])]; rfl
      have h1 : Blk .i64 41 w'.drew (w.heap.size + 1) (jall (tyAt xs) xs.length (List.map Subtype.val pre)) := HJ.out
      have hg1 : w'.drew.grownBy (w'.drew.setCell ⟨w.heap.size + 1, a * 2 + 1, none⟩ (.int .i64 1)) (some (w.heap.size + 1)) := ⟨rfl, rfl, rfl, by simp, fun k _ hk => Below.heap_setCell _ _ _ k (fun e => hk (by rw [e]))⟩
      have hg2 : (w'.drew.setCell ⟨w.heap.size + 1, a * 2 + 1, none⟩ (.int .i64 1)).grownBy ((w'.drew.setCell ⟨w.heap.size + 1, a * 2 + 1, none⟩ (.int .i64 1)).setCell ⟨w.heap.size + 1, b * 2 + 0, none⟩ (.int .i64 1)) (some (w.heap.size + 1)) := ⟨rfl, rfl, rfl, by simp, fun k _ hk => Below.heap_setCell _ _ _ k (fun e => hk (by rw [e]))⟩
      have hbW : Below w.heap.size W ((w'.drew.setCell ⟨w.heap.size + 1, a * 2 + 1, none⟩ (.int .i64 1)).setCell ⟨w.heap.size + 1, b * 2 + 0, none⟩ (.int .i64 1)) :=
        (((HBB.out.mono HB.out.size).drew.setCell (p := ⟨w.heap.size + 1, a * 2 + 1, none⟩) (by simp) _).setCell (p := ⟨w.heap.size + 1, b * 2 + 0, none⟩) (by simp) _)
      exact ⟨(((KeepsFrom.of_grownBy (grown_of_below HBB.out none) (fun j e => by cases e)).trans ((KeepsOthers.drew _).from _)).trans ((KeepsOthers.setCell _ _ _).from _)).trans ((KeepsOthers.setCell _ _ _).from _), hbW,
        ⟨by rw [hst]; exact (h1.set _ 1).set _ 1, (HS.out.kept (W' := w'.drew) ⟨rfl, rfl, rfl, Nat.le_refl _, fun _ _ _ => rfl⟩ (row := none) (by simp)).kept hg1 (by simp) |>.kept hg2 (by simp), (HL.out.kept (W' := w'.drew) ⟨rfl, rfl, rfl, Nat.le_refl _, fun _ _ _ => rfl⟩ (row := none) (by simp)).kept hg1 (by simp) |>.kept hg2 (by simp)⟩, HB.out.trans hbW⟩
    | false =>
      have HC := Aside0.mk (hj ▸ Joins_calls ca cb _ HGW.out)
      have HJB := Aside0.mk hj
      clear hj
      gi_wp2_with (refine ⟨trivial, ?_⟩; gi_at_call 17; refine (CallsIn.inRound l (callsIn_wide.2 HC.out)).mono ?_; rintro e w' ⟨rfl, hb1⟩)
      have hb : Below W.heap.size W w' := ((Below.refl W.heap.size W).drew).trans hb1
      have hst : jall (tyAt xs) xs.length ((pre ++ [(⟨(a, b), hab, hbn⟩ : Pr xs.length)]).map Subtype.val) = jall (tyAt xs) xs.length (pre.map Subtype.val) := by
        rw [List.map_append, List.map_cons, List.map_nil, jall_snoc]
        unfold jstep
        rw [if_neg (by dsimp only; rw [HTA.out, HTB.out, HJB.out]; exact Bool.false_ne_true)]
      exact ⟨KeepsFrom.of_grownBy (grown_of_below hb none) (fun j e => by cases e), hb.mono hB.size, ⟨by rw [hst]; exact hJ.below hb, (hb.block _ hS.lt).trans hS, (hb.block _ hL.lt).trans hL⟩, hB.trans (hb.mono hB.size)⟩
  case done =>
    rintro D ys W hD hys ⟨⟨hJ, hS, hL⟩, hB⟩ hK
    rename_i K HK
    clear hB0 bN hJ1 hL1 hS1
    dsimp only
    refine HK _ _ (wpIn_wide.2 ?_)
    clear HK K
    have hmk5 := make5 xs.length hr
    have hlc := hL.cell
    have hsc := hS.cell
    have hlt0 : w.heap.size < W.heap.size := hL.lt
    have hlt2 : w.heap.size + 1 + 1 < W.heap.size := hS.lt
    have hlt1 : w.heap.size + 1 < W.heap.size := hJ.lt
    have hne0 : ¬ (w.heap.size = W.heap.size) := by omega
    have HJ := Aside0.mk hJ
    have HS := Aside0.mk hS
    have HL := Aside0.mk hL
    have HB := Aside0.mk hB
    have HD := Aside0.mk hK
    clear hJ hS hL hB hK
    go_wp2
    have HM := Aside0.mk (show Blk .u8 5 (W.alloc (.cells (nums .u8 (List.replicate xs.length 0)).toArray 5)) W.heap.size (List.replicate xs.length 0) from heap_alloc_new W _)
    clear hmk5 hlc hsc hne0
    go_loopw [39] (fun i wr => ∃ k : Nat, k ≤ xs.length ∧ i = .int .i64 k ∧ Blk .u8 5 wr W.heap.size (outUp (gAt xs (jall (tyAt xs) xs.length (ys.map Subtype.val))) xs.length k) ∧ Below W.heap.size W wr)
      (fun i _ => xs.length - (intOf i).toNat)
    case atStart => exact ⟨0, Nat.zero_le _, rfl, by rw [outUp_zero]; exact HM.out, below_alloc (Below.refl _ _) _⟩
    case round =>
      obtain ⟨k, hk, rfl, hO, hbW⟩ := hrel
      by_cases hlt : k < xs.length
      · have hBr := HB.out.trans (hbW.mono HB.out.size)
        obtain ⟨ad, rfl, hc0⟩ := Kd.at_int (Kd.C_below HX.out hBr) (k : Int) (by omega) (by omega)
        obtain ⟨y, hy⟩ : ∃ y, y = xs[k]?.getD 0 := ⟨_, rfl⟩
        have hc : wr.cell? (ad.add k) = some (.int .i32 y) := by rw [hy]; simpa [rd] using hc0
        have hty : tyAt xs k = jn y := by rw [hy]; rfl
        clear hc0 hy
        have hbx : wr.cell? ⟨w.heap.size + 1 + 1, 0, none⟩ = some (.slice (some ⟨w.heap.size + 1, 0, none⟩) xs.length xs.length) := (hbW.cell (p := ⟨w.heap.size + 1 + 1, 0, none⟩) hlt2).trans HS.out.cell
        have hj0 := (hbW.cell (p := ⟨w.heap.size + 1, k * 2, none⟩) hlt1).trans (HJ.out.cell (k * 2) (by rw [jall_length]; omega))
        have hj1 := (hbW.cell (p := ⟨w.heap.size + 1, k * 2 + 1, none⟩) hlt1).trans (HJ.out.cell (k * 2 + 1) (by rw [jall_length]; omega))
        obtain ⟨j0, hj0e⟩ : ∃ j0, j0 = (jall (tyAt xs) xs.length (ys.map Subtype.val)).getD (k * 2) 0 := ⟨_, rfl⟩
        obtain ⟨j1, hj1e⟩ : ∃ j1, j1 = (jall (tyAt xs) xs.length (ys.map Subtype.val)).getD (k * 2 + 1) 0 := ⟨_, rfl⟩
        rw [← hj0e] at hj0
        rw [← hj1e] at hj1
        have HGr := Aside0.mk (HG.out.below hBr)
        have hu41 := Tryd.underlying41
        have h01 : j0 = 0 ∨ j0 = 1 := by rw [hj0e]; exact jall_01 _ _ _ _
        have h11 : j1 = 0 ∨ j1 = 1 := by rw [hj1e]; exact jall_01 _ _ _ _
        have HCALL := Aside0.mk (fun (W1 : World) (hb : Below wr.heap.size wr W1) => ucd_Joining.calls y (jn y) W1 (HGr.out.below hb) rfl)
        have hOc := hO.cell k (by rw [outUp_length _ _ _ hk]; exact hlt)
        obtain ⟨ov, hov⟩ : ∃ ov, ov = (outUp (gAt xs (jall (tyAt xs) xs.length (ys.map Subtype.val))) xs.length k).getD k 0 := ⟨_, rfl⟩
        rw [← hov] at hOc
        have HOC := Aside0.mk hOc
        have HOF := Aside0.mk (hO.frozen k)
        have HO := Aside0.mk hO
        have HBW := Aside0.mk hbW
        have hWr : W.heap.size < wr.heap.size := hO.lt
        have HG8 : Aside0 (gAt xs (jall (tyAt xs) xs.length (ys.map Subtype.val)) k = frm (j0 == 1) (j1 == 1) (jn y)) := ⟨by unfold gAt; rw [← hj0e, ← hj1e, hty]⟩
        clear hOc hov hO hbW hBr hj0e hj1e hty hD hys
        obtain ⟨ty, hty⟩ : ∃ ty, ty = jn y := ⟨_, rfl⟩
        rw [← hty] at HG8 HCALL
        clear hty
        have hmx : Tryd.prog.follows .mixedOrders = true := by kernel_rfl
        -- what is known behind the call
        have after : ∀ w', Below (wr.alloc (.cells #[.int .i64 j0, .int .i64 j1] 41)).heap.size (wr.alloc (.cells #[.int .i64 j0, .int .i64 j1] 41)) w' →
            (w'.cell? ⟨wr.heap.size, 0, none⟩ = some (.int .i64 j0) ∧ w'.cell? ⟨wr.heap.size, 1, none⟩ = some (.int .i64 j1)) ∧ (w'.cell? ⟨W.heap.size, k, none⟩ = some (.int .u8 ov) ∧ w'.frozen? ⟨W.heap.size, k, none⟩ = false) ∧
            (w'.cell? ⟨0, 0, none⟩ = some (.int .u8 1) ∧ w'.cell? ⟨0, 1, none⟩ = some (.int .u8 2) ∧ w'.cell? ⟨0, 2, none⟩ = some (.int .u8 4) ∧ w'.cell? ⟨0, 3, none⟩ = some (.int .u8 3)) ∧ Below wr.heap.size wr w' := by
          intro w' hb
          have hb2 : Below wr.heap.size wr w' := (below_alloc (Below.refl _ wr) _).trans (hb.mono (by simp))
          have hG2 := HGr.out.below hb2
          have hnew := heap_alloc_new wr (.cells #[.int .i64 j0, .int .i64 j1] 41)
          have hn2 : w'.heap[wr.heap.size]? = some (.cells #[.int .i64 j0, .int .i64 j1] 41 (0, 0)) := (hb.block _ (by simp)).trans hnew
          exact ⟨⟨by rw [cell_of_row _ _ _ _ _ _ hn2]; rfl, by rw [cell_of_row _ _ _ _ _ _ hn2]; rfl⟩, ⟨pw_cell_below hb2 HOC.out, (hb2.frozen (p := ⟨W.heap.size, k, none⟩) hWr).trans HOF.out⟩, ⟨hG2.f0, hG2.f1, hG2.f2, hG2.f3⟩, hb2⟩
        have AFT := Aside0.mk after
        clear after
        -- the round's end
        have fin : ∀ (w' : World) (v : Int), Below wr.heap.size wr w' → v = frm (j0 == 1) (j1 == 1) ty →
            Blk .u8 5 (w'.setCell ⟨W.heap.size, k, none⟩ (.int .u8 v)) W.heap.size (outUp (gAt xs (jall (tyAt xs) xs.length (ys.map Subtype.val))) xs.length (k + 1)) ∧ Below W.heap.size W (w'.setCell ⟨W.heap.size, k, none⟩ (.int .u8 v)) := by
          intro w' v hb hv
          have h1 := (HO.out.below hb).set k v
          rw [hv, ← HG8.out, ← outUp_succ _ _ _ hlt] at h1
          rw [hv, ← HG8.out]
          exact ⟨h1, (HBW.out.trans (hb.mono HBW.out.size)).setCell (p := ⟨W.heap.size, k, none⟩) (Nat.le_refl _) _⟩
        have FIN := Aside0.mk fin
        clear fin
        by_cases t1 : ty = 1
        · subst t1
          rcases h01 with rfl | rfl
          all_goals
            go_wp2_with (go_at_call 30; refine (HCALL.out _ (below_alloc (Below.refl _ _) _)).mono ?_; rintro e w' ⟨rfl, hb⟩; obtain ⟨⟨hb0, hb1⟩, ⟨hoc, hof⟩, ⟨hf0, hf1, hf2, hf3⟩, hbb⟩ := AFT.out w' hb)
            go_roundw
            case rel => exact ⟨k + 1, by omega, by go_num, FIN.out _ _ hbb rfl⟩
            case measure => simp [intOf]; omega
        · by_cases t5 : ty = 5
          · subst t5
            rcases h11 with rfl | rfl
            all_goals
              go_wp2_with (go_at_call 30; refine (HCALL.out _ (below_alloc (Below.refl _ _) _)).mono ?_; rintro e w' ⟨rfl, hb⟩; obtain ⟨⟨hb0, hb1⟩, ⟨hoc, hof⟩, ⟨hf0, hf1, hf2, hf3⟩, hbb⟩ := AFT.out w' hb)
              go_roundw
              case rel => exact ⟨k + 1, by omega, by go_num, FIN.out _ _ hbb rfl⟩
              case measure => simp [intOf]; omega
          · by_cases t2 : ty = 2
            · subst t2
              have hki : (k : Int) < (xs.length : Int) := by omega
              have hk0 : (0 : Int) ≤ (k : Int) := by omega
              rcases h01 with rfl | rfl
              all_goals
                rcases h11 with rfl | rfl
                all_goals
                  go_wp2_with (go_at_call 30; refine (HCALL.out _ (below_alloc (Below.refl _ _) _)).mono ?_; rintro e w' ⟨rfl, hb⟩; obtain ⟨⟨hb0, hb1⟩, ⟨hoc, hof⟩, ⟨hf0, hf1, hf2, hf3⟩, hbb⟩ := AFT.out w' hb)
                  go_still_tail 10, hmx
                  go_wp2
                  go_roundw
                  case rel => exact ⟨k + 1, by omega, by go_num, FIN.out w'.drew _ hbb.drew rfl⟩
                  case measure => simp [intOf]; omega
            · have e1 : (ty == 1) = false := by simp [t1]
              have e5 : (ty == 5) = false := by simp [t5]
              have e2 : (ty == 2) = false := by simp [t2]
              have hz : gAt xs (jall (tyAt xs) xs.length (ys.map Subtype.val)) k = 0 := by rw [HG8.out]; simp [frm, t1, t2, t5]
              have HZ := Aside0.mk (outUp_same _ _ _ hlt hz)
              clear hz t1 t2 t5
              go_wp2_with (go_at_call 30; refine (HCALL.out _ (below_alloc (Below.refl _ _) _)).mono ?_; rintro e w' ⟨rfl, hb⟩; obtain ⟨⟨hb0, hb1⟩, ⟨hoc, hof⟩, ⟨hf0, hf1, hf2, hf3⟩, hbb⟩ := AFT.out w' hb)
              go_roundw
              case rel => exact ⟨k + 1, by omega, by go_num, by rw [HZ.out]; exact HO.out.below hbb, HBW.out.trans (hbb.mono HBW.out.size)⟩
              case measure => simp [intOf]; omega
      · obtain rfl : k = xs.length := by omega
        have HO := Aside0.mk hO
        have HBW := Aside0.mk hbW
        have hDl : D < W.heap.size := (Array.getElem?_eq_some_iff.1 HD.out).1
        have hK' : wr.heap[D]? = some (.deferred (some [])) := (hbW.block D hDl).trans HD.out
        have HK' := Aside0.mk hK'
        have HY := Aside0.mk hys
        clear hO hbW hK' hys
        go_wp2
        refine ⟨by simp, .inl ⟨_, _, rfl, run_takeDeferred HK'.out, ?_⟩⟩
        refine ⟨_, results_tmp rfl _ _ _, _, rfl, ?_, ?_⟩
        · have hO2 : Blk .u8 5 (wr.putObj D (.deferred none)) W.heap.size (forms xs) := by
            have h1 := HO.out.kept (grownBy_putObj' wr D (.deferred none)) (by simp; omega)
            rw [outUp_all, HY.out, marks_forms] at h1
            exact h1
          refine Kd.R_of_own (enc := Value.int .u8) ?_ (fun _ _ => trivial)
          have hl := forms_length xs
          refine ⟨by simp [encs], .inr ⟨W.heap.size, xs.length, _, by rw [hl]; rfl, by omega, hO2, by omega, by unfold maxLen; omega, by simp [nums, hl], ?_⟩⟩
          simp only [nums, encs, Nat.mul_one]
          exact List.take_of_length_le (by simp)
        · have hB3 := HB.out.trans (HBW.out.mono HB.out.size)
          exact hB3.trans (belowK_b (w := w) (Nat.le_refl _) wr D _ _ (by simp at hD; omega) HK'.out rfl rfl)
  case stop =>
    rintro D c pre W _ _ h _
    exact h.elim

def joining_Forms.f (l0 : List Int) : Option (List Int) := if l0.length ≤ 1000000 then some (forms l0) else none
theorem joining_Forms.calls (A0 : Option Addr) (c0 : Nat) (l0 : List Int) (r : List Int) (w : World) (hr0 : Kd.C (Kd.int .i32) w A0 l0.length l0) (hc0 : l0.length ≤ c0) (hG : Glob w) (h : joining_Forms.f l0 = some r) :
    Calls Tryd.prog 14 #[.slice A0 l0.length c0] w fun e w' => ∃ v0_ : Value, e = .returned (v0_) ∧ Kd.R (Kd.int .u8) 5 w' w.heap.size (fun _ => True) v0_ r ∧ Below w.heap.size w w' := by
  unfold joining_Forms.f at h
  split at h
  · rename_i hl
    obtain rfl := Option.some.inj h
    exact callsIn_wide.1 (Forms_any A0 c0 l0 w hr0 hG hl)
  · cases h
end Go.Proofs.YtffmdnckapalfaaDoor.ExtJ
