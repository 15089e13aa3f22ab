import Derived.Test.YtffmdnckapalfaaDoorWalkC2
import Derived.Test.YtffmdnckapalfaaDoorLit
import Derived.Laws.EntriesVeiled
namespace Go.Proofs.YtffmdnckapalfaaDoor.ExtC
open Go.RowKit Go.Proofs.YtffmdnckapalfaaDoor.SpecC Go.Proofs.YtffmdnckapalfaaDoor.Lit Go.Proofs.YtffmdnckapalfaaDoorW.PrintWords

def rcells : Array Value := #[.func (.func 47) #[] #[], .bool false, .func (.func 48) #[] #[], .bool true, .func (.func 50) #[] #[], .bool false, .func (.func 51) #[] #[], .bool false, .func (.func 52) #[] #[], .bool false, .func (.func 53) #[] #[], .bool false, .func (.func 54) #[] #[], .bool false, .func (.func 55) #[] #[], .bool false, .func (.func 56) #[] #[], .bool false]
set_option maxRecDepth 100000 in
theorem rules36 (w : World) : Calls Tryd.prog 36 #[] w fun e w' => e = .returned (.slice (some ⟨w.heap.size, 0, none⟩) 9 9) ∧ w' = w.alloc (.cells rcells 55) := by
  go_enter Tryd.func36, Tryd.ntmps36
  go_upto_region 1 with (fail)
  refine wp_region_list ?_
  refine wpList_evalOps _ _ { tmps := #[.slice (some ⟨w.heap.size, 0, none⟩) 9 9, .agg #[.func (.func 47) #[] #[], .bool false], .agg #[.func (.func 48) #[] #[], .bool true], .agg #[.func (.func 50) #[] #[], .bool false], .agg #[.func (.func 51) #[] #[], .bool false], .agg #[.func (.func 52) #[] #[], .bool false], .agg #[.func (.func 53) #[] #[], .bool false], .agg #[.func (.func 54) #[] #[], .bool false], .agg #[.func (.func 55) #[] #[], .bool false], .agg #[.func (.func 56) #[] #[], .bool false], .slice (some ⟨w.heap.size, 0, none⟩) 9 9], defers := [] } _ (w.alloc (.cells rcells 55)) (by kernel_rfl) ?_
  go_wp2
  go_ret
  exact ⟨rfl, rfl⟩

theorem wp_gen {P : Program} {c : Code} {Q : Exit → Act → World → Prop} {a : Act} {w : World} (h : ∀ W, W = w → c.wp P Q a W) : c.wp P Q a w := h w rfl

/-- The state ahead of the k-th character. -/
def stAt (f : Nat → Int) : Nat → St
  | 0 => ⟨0, 0, false, false⟩
  | k + 1 => (stAt f k).next (f k)
theorem stAt_f (f : Nat → Int) : ∀ k, 0 ≤ (stAt f k).f ∧ (stAt f k).f ≤ k
  | 0 => by simp [stAt]
  | k + 1 => by
    have := stAt_f f k
    simp only [stAt, St.next]
    split <;> omega
/-- The class of the k-th character. -/
def clAt (xs : List Int) (k : Nat) : Int := cn (xs[k]?.getD 0)
def SBlk (W : World) (B : Nat) (s : St) : Prop := W.heap[B]? = some (.cells #[.int .u8 s.c, .int .i64 s.f, .bool s.p, .bool s.j] 49 (0, 0))
def RBlk (W : World) (B : Nat) : Prop := W.heap[B]? = some (.cells rcells 55 (0, 0))

theorem SBlk.lt_ {W : World} {B : Nat} {s : St} (h : SBlk W B s) : B < W.heap.size := (Array.getElem?_eq_some_iff.1 h).1
open Go.Proofs.YtffmdnckapalfaaDoor.V in
/-- Does the j-th rule tell? -/
def tl (j : Nat) (s : St) (b : Int) : Bool :=
  match j with
  | 0 => (cluster_rules_1.f s.c s.f s.p s.j b).getD false
  | 1 => (cluster_rules_2.f s.c s.f s.p s.j b).getD false
  | 2 => (cluster_rules_3.f s.c s.f s.p s.j b).getD false
  | 3 => (cluster_rules_4.f s.c s.f s.p s.j b).getD false
  | 4 => (cluster_rules_5.f s.c s.f s.p s.j b).getD false
  | 5 => (cluster_rules_6.f s.c s.f s.p s.j b).getD false
  | 6 => (cluster_rules_7.f s.c s.f s.p s.j b).getD false
  | 7 => (cluster_rules_8.f s.c s.f s.p s.j b).getD false
  | 8 => (cluster_rules_9.f s.c s.f s.p s.j b).getD false
  | _ => false
open Go.Proofs.YtffmdnckapalfaaDoor.V in
theorem rule0 (s : St) (b : Int) (t : Bool) (ht : tl 0 s b = t) (W : World) : Calls Tryd.prog 47 #[.agg #[.int .u8 s.c, .int .i64 s.f, .bool s.p, .bool s.j], .int .u8 b] W fun e w' => e = .returned (.bool t) ∧ Below W.heap.size W w' := by
  refine cluster_rules_1.calls s.c s.f s.p s.j b t W ?_
  rw [← ht]
  simp only [tl, cluster_rules_1.f]
  repeat' split
  all_goals simp_all
open Go.Proofs.YtffmdnckapalfaaDoor.V in
theorem rule1 (s : St) (b : Int) (t : Bool) (ht : tl 1 s b = t) (W : World) : Calls Tryd.prog 48 #[.agg #[.int .u8 s.c, .int .i64 s.f, .bool s.p, .bool s.j], .int .u8 b] W fun e w' => e = .returned (.bool t) ∧ Below W.heap.size W w' := by
  refine cluster_rules_2.calls s.c s.f s.p s.j b t W ?_
  rw [← ht]
  simp only [tl, cluster_rules_2.f, cluster_ends.f]
  by_cases h1 : s.c ≥ 1 <;> by_cases h2 : s.c ≤ 3 <;> by_cases h3 : b ≥ 1 <;> simp [h1, h2, h3]
open Go.Proofs.YtffmdnckapalfaaDoor.V in
theorem rule2 (s : St) (b : Int) (t : Bool) (ht : tl 2 s b = t) (W : World) : Calls Tryd.prog 50 #[.agg #[.int .u8 s.c, .int .i64 s.f, .bool s.p, .bool s.j], .int .u8 b] W fun e w' => e = .returned (.bool t) ∧ Below W.heap.size W w' := by
  refine cluster_rules_3.calls s.c s.f s.p s.j b t W ?_
  rw [← ht]
  simp only [tl, cluster_rules_3.f]
  repeat' split
  all_goals simp_all
open Go.Proofs.YtffmdnckapalfaaDoor.V in
theorem rule3 (s : St) (b : Int) (t : Bool) (ht : tl 3 s b = t) (W : World) : Calls Tryd.prog 51 #[.agg #[.int .u8 s.c, .int .i64 s.f, .bool s.p, .bool s.j], .int .u8 b] W fun e w' => e = .returned (.bool t) ∧ Below W.heap.size W w' := by
  refine cluster_rules_4.calls s.c s.f s.p s.j b t W ?_
  rw [← ht]
  simp only [tl, cluster_rules_4.f]
  repeat' split
  all_goals simp_all
open Go.Proofs.YtffmdnckapalfaaDoor.V in
theorem rule4 (s : St) (b : Int) (t : Bool) (ht : tl 4 s b = t) (W : World) : Calls Tryd.prog 52 #[.agg #[.int .u8 s.c, .int .i64 s.f, .bool s.p, .bool s.j], .int .u8 b] W fun e w' => e = .returned (.bool t) ∧ Below W.heap.size W w' := by
  refine cluster_rules_5.calls s.c s.f s.p s.j b t W ?_
  rw [← ht]
  simp only [tl, cluster_rules_5.f]
  repeat' split
  all_goals simp_all
open Go.Proofs.YtffmdnckapalfaaDoor.V in
theorem rule5 (s : St) (b : Int) (t : Bool) (ht : tl 5 s b = t) (W : World) : Calls Tryd.prog 53 #[.agg #[.int .u8 s.c, .int .i64 s.f, .bool s.p, .bool s.j], .int .u8 b] W fun e w' => e = .returned (.bool t) ∧ Below W.heap.size W w' := by
  refine cluster_rules_6.calls s.c s.f s.p s.j b t W ?_
  rw [← ht]
  simp only [tl, cluster_rules_6.f]
  repeat' split
  all_goals simp_all
open Go.Proofs.YtffmdnckapalfaaDoor.V in
theorem rule6 (s : St) (b : Int) (t : Bool) (ht : tl 6 s b = t) (W : World) : Calls Tryd.prog 54 #[.agg #[.int .u8 s.c, .int .i64 s.f, .bool s.p, .bool s.j], .int .u8 b] W fun e w' => e = .returned (.bool t) ∧ Below W.heap.size W w' := by
  refine cluster_rules_7.calls s.c s.f s.p s.j b t W ?_
  rw [← ht]
  simp only [tl, cluster_rules_7.f]
  repeat' split
  all_goals simp_all
open Go.Proofs.YtffmdnckapalfaaDoor.V in
theorem rule7 (s : St) (b : Int) (t : Bool) (ht : tl 7 s b = t) (W : World) : Calls Tryd.prog 55 #[.agg #[.int .u8 s.c, .int .i64 s.f, .bool s.p, .bool s.j], .int .u8 b] W fun e w' => e = .returned (.bool t) ∧ Below W.heap.size W w' := by
  refine cluster_rules_8.calls s.c s.f s.p s.j b t W ?_
  rw [← ht]
  simp only [tl, cluster_rules_8.f]
  repeat' split
  all_goals simp_all
open Go.Proofs.YtffmdnckapalfaaDoor.V in
theorem rule8 (s : St) (b : Int) (t : Bool) (ht : tl 8 s b = t) (W : World) : Calls Tryd.prog 56 #[.agg #[.int .u8 s.c, .int .i64 s.f, .bool s.p, .bool s.j], .int .u8 b] W fun e w' => e = .returned (.bool t) ∧ Below W.heap.size W w' := by
  refine cluster_rules_9.calls s.c s.f s.p s.j b t W ?_
  rw [← ht]
  simp only [tl, cluster_rules_9.f]
  repeat' split
  all_goals simp_all
def partedS (s : St) (b : Int) : Bool := !tl 0 s b && (tl 1 s b || !(tl 2 s b || tl 3 s b || tl 4 s b || tl 5 s b || tl 6 s b || tl 7 s b || tl 8 s b))
theorem parted_at (s : St) (b : Int) (j : Nat) (hj : j < 9) (h : ∀ i, i < j → tl i s b = false) (ht : tl j s b = true) : partedS s b = decide (j = 1) := by
  unfold partedS
  have : j = 0 ∨ j = 1 ∨ j = 2 ∨ j = 3 ∨ j = 4 ∨ j = 5 ∨ j = 6 ∨ j = 7 ∨ j = 8 := by omega
  rcases this with rfl | rfl | rfl | rfl | rfl | rfl | rfl | rfl | rfl
  all_goals (have h0 := h 0; have h1 := h 1; simp_all)
theorem parted_none (s : St) (b : Int) (h : ∀ i, i < 9 → tl i s b = false) : partedS s b = true := by
  unfold partedS
  simp [h 0 (by decide), h 1 (by decide), h 2 (by decide), h 3 (by decide), h 4 (by decide), h 5 (by decide), h 6 (by decide), h 7 (by decide), h 8 (by decide)]
theorem set4 (W : World) (B : Nat) (a b c d a' b' c' d' : Value) (h : W.heap[B]? = some (.cells #[a, b, c, d] 49 (0, 0))) :
    ((((W.setCell ⟨B, 0, none⟩ a').setCell ⟨B, 1, none⟩ b').setCell ⟨B, 2, none⟩ c').setCell ⟨B, 3, none⟩ d').heap[B]? = some (.cells #[a', b', c', d'] 49 (0, 0)) := by
  have one : ∀ (W : World) (cs : Array Value) (j : Nat) (u : Value), W.heap[B]? = some (.cells cs 49 (0, 0)) → (W.setCell ⟨B, j, none⟩ u).heap[B]? = some (.cells (cs.setIfInBounds j u) 49 (0, 0)) := by
    intro W cs j u h
    obtain ⟨hlt, hk⟩ := Array.getElem?_eq_some_iff.1 h
    show (W.heap.modify B _)[B]? = _
    rw [Array.getElem?_eq_getElem (by rw [Array.size_modify]; exact hlt), Array.getElem_modify_self, hk]
    rfl
  have h1 := one _ _ 0 a' h
  have h2 := one _ _ 1 b' h1
  have h3 := one _ _ 2 c' h2
  have h4 := one _ _ 3 d' h3
  simpa using h4
theorem set4_other (W : World) (B k : Nat) (hk : k ≠ B) (a' b' c' d' : Value) :
    ((((W.setCell ⟨B, 0, none⟩ a').setCell ⟨B, 1, none⟩ b').setCell ⟨B, 2, none⟩ c').setCell ⟨B, 3, none⟩ d').heap[k]? = W.heap[k]? := by
  rw [Below.heap_setCell _ _ _ _ hk, Below.heap_setCell _ _ _ _ hk, Below.heap_setCell _ _ _ _ hk, Below.heap_setCell _ _ _ _ hk]
theorem set4_grown (W : World) (B : Nat) (a' b' c' d' : Value) : W.grownBy ((((W.setCell ⟨B, 0, none⟩ a').setCell ⟨B, 1, none⟩ b').setCell ⟨B, 2, none⟩ c').setCell ⟨B, 3, none⟩ d') (some B) :=
  ⟨rfl, rfl, rfl, by simp, fun k _ hk => set4_other W B k (fun e => hk (by rw [e])) _ _ _ _⟩
theorem info3 : (Tryd.prog.info? 3).map (fun i => (i.zero, i.size, i.bytes)) = some (some (.int .i64 0), 1, 8) := by kernel_rfl
/-- Where clusters begin, ahead of the k-th place. -/
def outUp (xs : List Int) : Nat → List Int
  | 0 => []
  | k + 1 => if k = 0 ∨ partedS (stAt (clAt xs) k) (clAt xs k) = true then outUp xs k ++ [(k : Int)] else outUp xs k
theorem outUp_le (xs : List Int) : ∀ k, (outUp xs k).length ≤ k
  | 0 => by simp [outUp]
  | k + 1 => by
    have := outUp_le xs k
    unfold outUp
    split
    · simp; omega
    · omega
set_option maxRecDepth 100000 in
set_option maxHeartbeats 4000000 in
theorem Bounds_any (A0 : Option Addr) (c : Nat) (xs : List Int) (w : World) (hxs : Kd.C (Kd.int .i32) w A0 xs.length xs) (hG : Glob w) (hr : xs.length ≤ 1000000) :
    Calls Tryd.prog 23 #[.slice A0 xs.length c] w fun e w' => ∃ v0_ : Value, e = .returned (v0_) ∧ Kd.R (Kd.int .i64) 3 w' w.heap.size (fun _ => True) v0_ (outUp xs xs.length) ∧ Below w.heap.size w w' := by
  have HX := Aside0.mk hxs
  have HG := Aside0.mk hG
  clear hxs hG
  have hu49 := Tryd.underlying49
  have hu55 := Tryd.underlying55
  go_enter Tryd.func23, Tryd.ntmps23
  go_wp2
  go_step3
  go_wp2_with (go_at_call 36; refine (rules36 _).mono ?_; rintro e w' ⟨rfl, rfl⟩)
  go_step3
  go_wp2
  have hS0 : SBlk ((w.alloc (.cells #[.int .u8 0, .int .i64 0, .bool false, .bool false] 49)).alloc (.cells rcells 55)) w.heap.size (stAt (clAt xs) 0) :=
    (below_alloc (Below.refl _ _) (.cells rcells 55)).block _ (by simp) |>.trans (heap_alloc_new w (.cells #[.int .u8 0, .int .i64 0, .bool false, .bool false] 49))
  have hR0 : RBlk ((w.alloc (.cells #[.int .u8 0, .int .i64 0, .bool false, .bool false] 49)).alloc (.cells rcells 55)) (w.heap.size + 1) := by
    have := heap_alloc_new (w.alloc (.cells #[.int .u8 0, .int .i64 0, .bool false, .bool false] 49)) (.cells rcells 55)
    rwa [World.size_alloc] at this
  have HS0 := Aside0.mk hS0
  have HR0 := Aside0.mk hR0
  clear hS0 hR0
  go_loopg [3, 15] xs.length (fun g s3 s15 wx => ∃ k : Nat, k + g = xs.length ∧ s15 = .int .i64 k ∧ wx.ownsRow w.heap.size 3 1 s3 (outUp xs k).length (nums .i64 (outUp xs k)) ∧ SBlk wx w.heap.size (stAt (clAt xs) k) ∧ RBlk wx (w.heap.size + 1) ∧ Below w.heap.size w wx)
  case atStart => exact ⟨0, by omega, rfl, World.ownsRow_nil _ _ _ _, HS0.out, HR0.out, below_alloc (below_alloc (Below.refl _ _) _) _⟩
  case round =>
    obtain ⟨k, hkg, rfl, hown, hS, hR, hB⟩ := hrel
    cases gk with
    | zero =>
      have hkz : ¬ ((k : Int) < (xs.length : Int)) := by omega
      obtain rfl : k = xs.length := by omega
      have HO := Aside0.mk hown
      have HB := Aside0.mk hB
      clear hown hB hS hR
      go_wp2
      try rw [Exit.noGoto_ret]
      go_ret
      refine ⟨_, rfl, ?_, HB.out⟩
      exact Kd.R_of_own (enc := Value.int .i64) HO.out (fun _ _ => trivial)
    | succ g =>
      have hkz : (k : Int) < (xs.length : Int) := by omega
      obtain ⟨ad, rfl, hc0⟩ := Kd.at_int (Kd.C_below HX.out hB) (k : Int) (by omega) (by omega)
      obtain ⟨y, hy⟩ : ∃ y, y = xs[k]?.getD 0 := ⟨_, rfl⟩
      have hc : wr.cell? (ad.add k) = some (.int .i32 y) := by rw [hy]; simpa [rd] using hc0
      have hcl : clAt xs k = cn y := by rw [hy]; rfl
      clear hc0 hy
      obtain ⟨cl, hcle⟩ : ∃ cl, cl = cn y := ⟨_, rfl⟩
      have HC := Aside0.mk (hcle ▸ ucd_Cluster.calls y (cn y) wr (HG.out.below hB) rfl)
      obtain ⟨s, hs⟩ : ∃ s, s = stAt (clAt xs) k := ⟨_, rfl⟩
      have hsf := stAt_f (clAt xs) k
      rw [← hs] at hS hsf
      have hsf0 : 0 ≤ s.f := hsf.1
      have hsf1 : s.f ≤ 1000000 := by omega
      obtain ⟨n, hn⟩ : ∃ n, n = s.next cl := ⟨_, rfl⟩
      have HN : Aside0 (∀ W, Calls Tryd.prog 38 #[.agg #[.int .u8 s.c, .int .i64 s.f, .bool s.p, .bool s.j], .int .u8 cl] W fun e w' => e = .returned (.agg #[.int .u8 n.c, .int .i64 n.f, .bool n.p, .bool n.j]) ∧ Below W.heap.size W w') := ⟨fun W => by rw [hn]; exact next_calls s cl W hsf0 hsf1⟩
      have HNE := Aside0.mk hn
      clear hn
      have HS := Aside0.mk hS
      have HR := Aside0.mk hR
      have HO := Aside0.mk hown
      have HB := Aside0.mk hB
      have HSE := Aside0.mk hs
      have HCL := Aside0.mk (hcl.trans hcle.symm)
      clear hS hR hown hB hs hcl hcle hsf
      -- what is known behind the first call
      have A1 : ∀ w', Below wr.heap.size wr w' → (w'.cell? ⟨w.heap.size, 0, none⟩ = some (.int .u8 s.c) ∧ w'.cell? ⟨w.heap.size, 1, none⟩ = some (.int .i64 s.f) ∧ w'.cell? ⟨w.heap.size, 2, none⟩ = some (.bool s.p) ∧ w'.cell? ⟨w.heap.size, 3, none⟩ = some (.bool s.j)) ∧ w.heap.size < w'.heap.size := by
        intro w' hb
        have h1 : w'.heap[w.heap.size]? = _ := (hb.block _ HS.out.lt_).trans HS.out
        refine ⟨⟨by rw [cell_of_row _ _ _ _ _ _ h1]; rfl, by rw [cell_of_row _ _ _ _ _ _ h1]; rfl, by rw [cell_of_row _ _ _ _ _ _ h1]; rfl, by rw [cell_of_row _ _ _ _ _ _ h1]; rfl⟩, (Array.getElem?_eq_some_iff.1 h1).1⟩
      have A1' := Aside0.mk A1
      clear A1
      -- what is known behind the second call
      have A2 : ∀ w1 w2, Below wr.heap.size wr w1 → Below (w1.alloc (.cells #[.int .u8 s.c, .int .i64 s.f, .bool s.p, .bool s.j] 49)).heap.size (w1.alloc (.cells #[.int .u8 s.c, .int .i64 s.f, .bool s.p, .bool s.j] 49)) w2 →
          (w2.cell? ⟨w.heap.size, 0, none⟩ = some (.int .u8 s.c) ∧ w2.cell? ⟨w.heap.size, 1, none⟩ = some (.int .i64 s.f) ∧ w2.cell? ⟨w.heap.size, 2, none⟩ = some (.bool s.p) ∧ w2.cell? ⟨w.heap.size, 3, none⟩ = some (.bool s.j)) ∧
          (w2.frozen? ⟨w.heap.size, 0, none⟩ = false ∧ w2.frozen? ⟨w.heap.size, 1, none⟩ = false ∧ w2.frozen? ⟨w.heap.size, 2, none⟩ = false ∧ w2.frozen? ⟨w.heap.size, 3, none⟩ = false) ∧ Below wr.heap.size wr w2 := by
        intro w1 w2 hb1 hb2
        have hb : Below wr.heap.size wr w2 := (below_alloc hb1 _).trans (hb2.mono (by have := hb1.size; simp; omega))
        have h1 : w2.heap[w.heap.size]? = some (.cells #[.int .u8 s.c, .int .i64 s.f, .bool s.p, .bool s.j] 49 (0, 0)) := (hb.block _ HS.out.lt_).trans HS.out
        exact ⟨⟨by rw [cell_of_row _ _ _ _ _ _ h1]; rfl, by rw [cell_of_row _ _ _ _ _ _ h1]; rfl, by rw [cell_of_row _ _ _ _ _ _ h1]; rfl, by rw [cell_of_row _ _ _ _ _ _ h1]; rfl⟩, ⟨by simp [World.frozen?, h1], by simp [World.frozen?, h1], by simp [World.frozen?, h1], by simp [World.frozen?, h1]⟩, hb⟩
      have A2' := Aside0.mk A2
      clear A2
      go_upto_region 10 with (first | (go_at_call 37; refine HC.out.mono ?_; rintro e w1 ⟨rfl, hb1⟩; obtain ⟨⟨hq0, hq1, hq2, hq3⟩, hlt1⟩ := A1'.out w1 hb1) | (go_at_call 38; refine (HN.out _).mono ?_; rintro e w2 ⟨rfl, hb2⟩; obtain ⟨⟨hp0, hp1, hp2, hp3⟩, ⟨hf0, hf1, hf2, hf3⟩, hbb⟩ := A2'.out w1 w2 hb1 hb2))
      refine wp_gen ?_
      intro W3 hW3
      have hS2 : w2.heap[w.heap.size]? = some (.cells #[.int .u8 s.c, .int .i64 s.f, .bool s.p, .bool s.j] 49 (0, 0)) := (hbb.block _ HS.out.lt_).trans HS.out
      have hlt1' : w1.heap.size < w2.heap.size := by have := hb2.size; simp at this; omega
      have hb9 : w2.heap[w1.heap.size]? = some (.cells #[.int .u8 s.c, .int .i64 s.f, .bool s.p, .bool s.j] 49 (0, 0)) := (hb2.block _ (by simp)).trans (heap_alloc_new w1 _)
      have hne9 : w1.heap.size ≠ w.heap.size := by omega
      have hg3 := set4_grown w2 w.heap.size (.int .u8 n.c) (.int .i64 n.f) (.bool n.p) (.bool n.j)
      have hS3 := set4 w2 w.heap.size _ _ _ _ (.int .u8 n.c) (.int .i64 n.f) (.bool n.p) (.bool n.j) hS2
      rw [← hW3] at hg3 hS3
      have hO3 := (pw_own_below HO.out hbb).kept hg3 (by
        cases hv : Value.ownBlock u3 with
        | none => exact .inl rfl
        | some q => exact .inr (fun e => own_ne (pw_own_below HO.out hbb) hS2 (by decide) (by rw [hv]; exact e.symm)))
      have hR3 : RBlk W3 (w.heap.size + 1) := (hg3.block _ (Array.getElem?_eq_some_iff.1 ((hbb.block _ (Array.getElem?_eq_some_iff.1 HR.out).1).trans HR.out)).1 (by simp)).trans ((hbb.block _ (Array.getElem?_eq_some_iff.1 HR.out).1).trans HR.out)
      have h93 : W3.heap[w1.heap.size]? = some (.cells #[.int .u8 s.c, .int .i64 s.f, .bool s.p, .bool s.j] 49 (0, 0)) := (hg3.block _ hlt1' (by simpa using hne9)).trans hb9
      have hB3 : Below w.heap.size w W3 := (HB.out.trans (hbb.mono HB.out.size)).grown hg3 (by have := HB.out.size; have := hbb.size; omega) (fun q e => by cases e; exact Nat.le_refl _)
      obtain ⟨b9, hb9e⟩ : ∃ b9, b9 = w1.heap.size := ⟨_, rfl⟩
      rw [← hb9e] at h93 ⊢
      have H93 := Aside0.mk h93
      have HO3 := Aside0.mk hO3
      have HR3 := Aside0.mk hR3
      have HS3 := Aside0.mk hS3
      have HB3 := Aside0.mk hB3
      clear hW3 hS2 hlt1' hb9 hne9 hg3 hS3 hO3 hR3 h93 hB3 hb9e hq0 hq1 hq2 hq3 hlt1 hp0 hp1 hp2 hp3 hf0 hf1 hf2 hf3 hbb hb2 hb1 A1' A2' HN HC hc hu49 HS0 HR0
      have hstk : stAt (clAt xs) (k + 1) = n := by rw [stAt, ← HSE.out, HCL.out, HNE.out]
      have HK1 := Aside0.mk hstk
      have hpk : partedS (stAt (clAt xs) k) (clAt xs k) = partedS s cl := by rw [← HSE.out, HCL.out]
      have HPK := Aside0.mk hpk
      clear hstk hpk
      have hlenk := outUp_le xs k
      -- the round's two ends
      have FN : ∀ W4, Below W3.heap.size W3 W4 → (k ≠ 0 ∧ partedS s cl = false) → W4.ownsRow w.heap.size 3 1 u3 (outUp xs (k + 1)).length (nums .i64 (outUp xs (k + 1))) ∧ SBlk W4 w.heap.size (stAt (clAt xs) (k + 1)) ∧ RBlk W4 (w.heap.size + 1) ∧ Below w.heap.size w W4 := by
        intro W4 hb ⟨h0, hp⟩
        have e : outUp xs (k + 1) = outUp xs k := by rw [outUp, if_neg]; rw [HPK.out, hp]; simpa using h0
        rw [e, HK1.out]
        exact ⟨pw_own_below HO3.out hb, (hb.block _ (Array.getElem?_eq_some_iff.1 HS3.out).1).trans HS3.out, (hb.block _ (Array.getElem?_eq_some_iff.1 HR3.out).1).trans HR3.out, HB3.out.trans (hb.mono HB3.out.size)⟩
      have FA : ∀ W4 v1 w5, Below W3.heap.size W3 W4 → (k = 0 ∨ partedS s cl = true) → w5.ownsRow w.heap.size 3 1 v1 (outUp xs k ++ [(k : Int)]).length (nums .i64 (outUp xs k ++ [(k : Int)])) → Below w.heap.size w w5 → W4.grownBy w5 (Value.ownBlock u3) →
          w5.ownsRow w.heap.size 3 1 v1 (outUp xs (k + 1)).length (nums .i64 (outUp xs (k + 1))) ∧ SBlk w5 w.heap.size (stAt (clAt xs) (k + 1)) ∧ RBlk w5 (w.heap.size + 1) ∧ Below w.heap.size w w5 := by
        intro W4 v1 w5 hb h0 ho hB5 hg
        have e : outUp xs (k + 1) = outUp xs k ++ [(k : Int)] := by rw [outUp, if_pos]; rw [HPK.out]; exact h0
        have hS4 : W4.heap[w.heap.size]? = _ := (hb.block _ (Array.getElem?_eq_some_iff.1 HS3.out).1).trans HS3.out
        have hR4 : W4.heap[w.heap.size + 1]? = _ := (hb.block _ (Array.getElem?_eq_some_iff.1 HR3.out).1).trans HR3.out
        have hO4 := pw_own_below HO3.out hb
        rw [e, HK1.out]
        exact ⟨ho, (hg.block _ (Array.getElem?_eq_some_iff.1 hS4).1 (own_ne hO4 hS4 (by decide))).trans hS4, (hg.block _ (Array.getElem?_eq_some_iff.1 hR4).1 (own_ne hO4 hR4 (by decide))).trans hR4, hB5⟩
      have HFN := Aside0.mk FN
      have HFA := Aside0.mk FA
      clear FN FA
      have HOB : Aside0 (∀ W4, Below W3.heap.size W3 W4 → W4.ownsRow w.heap.size 3 1 u3 (outUp xs k).length (nums .i64 (outUp xs k)) ∧ Below w.heap.size w W4 ∧ w.heap.size ≤ W4.heap.size) := ⟨fun W4 hb => ⟨pw_own_below HO3.out hb, HB3.out.trans (hb.mono HB3.out.size), (HB3.out.trans (hb.mono HB3.out.size)).size⟩⟩
      by_cases hk0 : k = 0
      · subst hk0
        have HW := Aside0.mk (HOB.out W3 (Below.refl _ _))
        go_wp2_with (at_builtin; refine print_append_num (w0 := w) w.heap.size rfl _ _ 32 3 .i64 8 rfl Tryd.underlying32 info3 (by decide) u3 (outUp xs 0) _ rfl rfl HW.out.1 HW.out.2.1 HW.out.2.2 (by simp [outUp]) ?_; intro v1 w5 hown5 hB5 hg5 _)
        go_roundg g
        case measure => omega
        case rel => exact ⟨0 + 1, by omega, by go_num, HFA.out W3 v1 w5 (Below.refl _ _) (by simp) hown5 hB5 hg5⟩
      · have hkp : (k : Int) > 0 := by omega
        have hk0' : (0 : Int) < (k : Int) := by omega
        have hkn : 0 < k := by omega
        -- what is known of a world in the inner loop
        have W4f : ∀ W4, Below W3.heap.size W3 W4 → (W4.cell? ⟨b9, 0, none⟩ = some (.int .u8 s.c) ∧ W4.cell? ⟨b9, 1, none⟩ = some (.int .i64 s.f) ∧ W4.cell? ⟨b9, 2, none⟩ = some (.bool s.p) ∧ W4.cell? ⟨b9, 3, none⟩ = some (.bool s.j)) ∧ b9 < W4.heap.size ∧ (∀ j u, rcells[j]? = some u → W4.cell? ⟨w.heap.size + 1, j, none⟩ = some u) := by
          intro W4 hb
          have h1 : W4.heap[b9]? = _ := (hb.block _ (Array.getElem?_eq_some_iff.1 H93.out).1).trans H93.out
          have h2 : W4.heap[w.heap.size + 1]? = _ := (hb.block _ (Array.getElem?_eq_some_iff.1 HR3.out).1).trans HR3.out
          refine ⟨⟨by rw [cell_of_row _ _ _ _ _ _ h1]; rfl, by rw [cell_of_row _ _ _ _ _ _ h1]; rfl, by rw [cell_of_row _ _ _ _ _ _ h1]; rfl, by rw [cell_of_row _ _ _ _ _ _ h1]; rfl⟩, (Array.getElem?_eq_some_iff.1 h1).1, fun j u hu => by rw [cell_of_row _ _ _ _ _ _ h2]; exact hu⟩
        have HW4 := Aside0.mk W4f
        clear W4f
        go_wp2
        go_loopg [30] 9 (fun g2 s30 wy => ∃ j : Nat, j + g2 = 9 ∧ s30 = .int .i64 j ∧ Aside0 (∀ i, i < j → tl i s cl = false) ∧ Below W3.heap.size W3 wy)
        case atStart => exact ⟨0, by omega, rfl, ⟨fun i hi => by omega⟩, Below.refl _ _⟩
        case round =>
          obtain ⟨j, hj9, rfl, HT, hby⟩ := hrel
          cases gk with
          | zero =>
            obtain rfl : j = 9 := by omega
            have hpt := Aside0.mk (parted_none s cl HT.out)
            have HW := Aside0.mk (HOB.out wr hby)
            have HBY := Aside0.mk hby
            clear hby
            go_wp2_with (at_builtin; refine print_append_num (w0 := w) w.heap.size rfl _ _ 32 3 .i64 8 rfl Tryd.underlying32 info3 (by decide) u3 (outUp xs k) _ rfl rfl HW.out.1 HW.out.2.1 HW.out.2.2 (by omega) ?_; intro v1 w5 hown5 hB5 hg5 _)
            go_roundg g
            case measure => omega
            case rel => exact ⟨k + 1, by omega, by go_num, HFA.out _ v1 w5 HBY.out (.inr hpt.out) hown5 hB5 hg5⟩
          | succ g2 =>
            have hjs : j = 0 ∨ j = 1 ∨ j = 2 ∨ j = 3 ∨ j = 4 ∨ j = 5 ∨ j = 6 ∨ j = 7 ∨ j = 8 := by omega
            obtain ⟨⟨hd0, hd1, hd2, hd3⟩, hlt9, hru⟩ := HW4.out _ hby
            have hne9 : ¬ (b9 = wr.heap.size) := by omega
            have HBY := Aside0.mk hby
            have HRU := Aside0.mk hru
            clear hby hru
            rcases hjs with rfl | rfl | rfl | rfl | rfl | rfl | rfl | rfl | rfl
            · have hr0 := HRU.out 0 (.func (.func 47) #[] #[]) rfl
              have hr1 := HRU.out 1 (.bool false) rfl
              have A6 : Aside0 (∀ w6, Below (wr.alloc (.cells #[.func (.func 47) #[] #[], .bool false] 55)).heap.size (wr.alloc (.cells #[.func (.func 47) #[] #[], .bool false] 55)) w6 → w6.cell? ⟨wr.heap.size, 1, none⟩ = some (.bool false) ∧ Below W3.heap.size W3 w6) := ⟨fun w6 hb => by
                have h1 : w6.heap[wr.heap.size]? = some (.cells #[.func (.func 47) #[] #[], .bool false] 55 (0, 0)) := (hb.block _ (by simp)).trans (heap_alloc_new wr _)
                exact ⟨by rw [cell_of_row _ _ _ _ _ _ h1]; rfl, HBY.out.trans (((below_alloc (Below.refl _ wr) _).trans (hb.mono (by simp))).mono HBY.out.size)⟩⟩
              cases ht : tl 0 s cl with
              | false =>
                have HC := Aside0.mk (rule0 s cl false ht)
                have HT' : Aside0 (∀ i, i < 0 + 1 → tl i s cl = false) := ⟨fun i hi => by
                  by_cases e : i = 0
                  · rw [e]; exact ht
                  · exact HT.out i (by omega)⟩
                clear ht HT
                go_wp2_with (go_at_call 47; refine (HC.out _).mono ?_; rintro e w6 ⟨rfl, hb6⟩; obtain ⟨hc6, hb7⟩ := A6.out w6 hb6)
                go_roundg g2
                case measure => omega
                case rel => exact ⟨0 + 1, by omega, by go_num, HT', hb7⟩
              | true =>
                have HC := Aside0.mk (rule0 s cl true ht)
                have HPT := Aside0.mk (parted_at s cl 0 (by decide) HT.out ht)
                clear ht HT
                go_wp2_with (go_at_call 47; refine (HC.out _).mono ?_; rintro e w6 ⟨rfl, hb6⟩; obtain ⟨hc6, hb7⟩ := A6.out w6 hb6)
                go_roundg g
                case measure => omega
                case rel => exact ⟨k + 1, by omega, by go_num, HFN.out _ hb7 ⟨hk0, HPT.out⟩⟩
            · have hr0 := HRU.out 2 (.func (.func 48) #[] #[]) rfl
              have hr1 := HRU.out 3 (.bool true) rfl
              have A6 : Aside0 (∀ w6, Below (wr.alloc (.cells #[.func (.func 48) #[] #[], .bool true] 55)).heap.size (wr.alloc (.cells #[.func (.func 48) #[] #[], .bool true] 55)) w6 → w6.cell? ⟨wr.heap.size, 1, none⟩ = some (.bool true) ∧ Below W3.heap.size W3 w6) := ⟨fun w6 hb => by
                have h1 : w6.heap[wr.heap.size]? = some (.cells #[.func (.func 48) #[] #[], .bool true] 55 (0, 0)) := (hb.block _ (by simp)).trans (heap_alloc_new wr _)
                exact ⟨by rw [cell_of_row _ _ _ _ _ _ h1]; rfl, HBY.out.trans (((below_alloc (Below.refl _ wr) _).trans (hb.mono (by simp))).mono HBY.out.size)⟩⟩
              cases ht : tl 1 s cl with
              | false =>
                have HC := Aside0.mk (rule1 s cl false ht)
                have HT' : Aside0 (∀ i, i < 1 + 1 → tl i s cl = false) := ⟨fun i hi => by
                  by_cases e : i = 1
                  · rw [e]; exact ht
                  · exact HT.out i (by omega)⟩
                clear ht HT
                go_wp2_with (go_at_call 48; refine (HC.out _).mono ?_; rintro e w6 ⟨rfl, hb6⟩; obtain ⟨hc6, hb7⟩ := A6.out w6 hb6)
                go_roundg g2
                case measure => omega
                case rel => exact ⟨1 + 1, by omega, by go_num, HT', hb7⟩
              | true =>
                have HC := Aside0.mk (rule1 s cl true ht)
                have HPT := Aside0.mk (parted_at s cl 1 (by decide) HT.out ht)
                clear ht HT
                go_wp2_with (first | (go_at_call 48; refine (HC.out _).mono ?_; rintro e w6 ⟨rfl, hb6⟩; obtain ⟨hc6, hb7⟩ := A6.out w6 hb6; have HW := Aside0.mk (HOB.out w6 hb7)) | (at_builtin; refine print_append_num (w0 := w) w.heap.size rfl _ _ 32 3 .i64 8 rfl Tryd.underlying32 info3 (by decide) u3 (outUp xs k) _ rfl rfl HW.out.1 HW.out.2.1 HW.out.2.2 (by omega) ?_; intro v1 w5 hown5 hB5 hg5 _))
                go_roundg g
                case measure => omega
                case rel => exact ⟨k + 1, by omega, by go_num, HFA.out _ v1 w5 hb7 (.inr HPT.out) hown5 hB5 hg5⟩
            · have hr0 := HRU.out 4 (.func (.func 50) #[] #[]) rfl
              have hr1 := HRU.out 5 (.bool false) rfl
              have A6 : Aside0 (∀ w6, Below (wr.alloc (.cells #[.func (.func 50) #[] #[], .bool false] 55)).heap.size (wr.alloc (.cells #[.func (.func 50) #[] #[], .bool false] 55)) w6 → w6.cell? ⟨wr.heap.size, 1, none⟩ = some (.bool false) ∧ Below W3.heap.size W3 w6) := ⟨fun w6 hb => by
                have h1 : w6.heap[wr.heap.size]? = some (.cells #[.func (.func 50) #[] #[], .bool false] 55 (0, 0)) := (hb.block _ (by simp)).trans (heap_alloc_new wr _)
                exact ⟨by rw [cell_of_row _ _ _ _ _ _ h1]; rfl, HBY.out.trans (((below_alloc (Below.refl _ wr) _).trans (hb.mono (by simp))).mono HBY.out.size)⟩⟩
              cases ht : tl 2 s cl with
              | false =>
                have HC := Aside0.mk (rule2 s cl false ht)
                have HT' : Aside0 (∀ i, i < 2 + 1 → tl i s cl = false) := ⟨fun i hi => by
                  by_cases e : i = 2
                  · rw [e]; exact ht
                  · exact HT.out i (by omega)⟩
                clear ht HT
                go_wp2_with (go_at_call 50; refine (HC.out _).mono ?_; rintro e w6 ⟨rfl, hb6⟩; obtain ⟨hc6, hb7⟩ := A6.out w6 hb6)
                go_roundg g2
                case measure => omega
                case rel => exact ⟨2 + 1, by omega, by go_num, HT', hb7⟩
              | true =>
                have HC := Aside0.mk (rule2 s cl true ht)
                have HPT := Aside0.mk (parted_at s cl 2 (by decide) HT.out ht)
                clear ht HT
                go_wp2_with (go_at_call 50; refine (HC.out _).mono ?_; rintro e w6 ⟨rfl, hb6⟩; obtain ⟨hc6, hb7⟩ := A6.out w6 hb6)
                go_roundg g
                case measure => omega
                case rel => exact ⟨k + 1, by omega, by go_num, HFN.out _ hb7 ⟨hk0, HPT.out⟩⟩
            · have hr0 := HRU.out 6 (.func (.func 51) #[] #[]) rfl
              have hr1 := HRU.out 7 (.bool false) rfl
              have A6 : Aside0 (∀ w6, Below (wr.alloc (.cells #[.func (.func 51) #[] #[], .bool false] 55)).heap.size (wr.alloc (.cells #[.func (.func 51) #[] #[], .bool false] 55)) w6 → w6.cell? ⟨wr.heap.size, 1, none⟩ = some (.bool false) ∧ Below W3.heap.size W3 w6) := ⟨fun w6 hb => by
                have h1 : w6.heap[wr.heap.size]? = some (.cells #[.func (.func 51) #[] #[], .bool false] 55 (0, 0)) := (hb.block _ (by simp)).trans (heap_alloc_new wr _)
                exact ⟨by rw [cell_of_row _ _ _ _ _ _ h1]; rfl, HBY.out.trans (((below_alloc (Below.refl _ wr) _).trans (hb.mono (by simp))).mono HBY.out.size)⟩⟩
              cases ht : tl 3 s cl with
              | false =>
                have HC := Aside0.mk (rule3 s cl false ht)
                have HT' : Aside0 (∀ i, i < 3 + 1 → tl i s cl = false) := ⟨fun i hi => by
                  by_cases e : i = 3
                  · rw [e]; exact ht
                  · exact HT.out i (by omega)⟩
                clear ht HT
                go_wp2_with (go_at_call 51; refine (HC.out _).mono ?_; rintro e w6 ⟨rfl, hb6⟩; obtain ⟨hc6, hb7⟩ := A6.out w6 hb6)
                go_roundg g2
                case measure => omega
                case rel => exact ⟨3 + 1, by omega, by go_num, HT', hb7⟩
              | true =>
                have HC := Aside0.mk (rule3 s cl true ht)
                have HPT := Aside0.mk (parted_at s cl 3 (by decide) HT.out ht)
                clear ht HT
                go_wp2_with (go_at_call 51; refine (HC.out _).mono ?_; rintro e w6 ⟨rfl, hb6⟩; obtain ⟨hc6, hb7⟩ := A6.out w6 hb6)
                go_roundg g
                case measure => omega
                case rel => exact ⟨k + 1, by omega, by go_num, HFN.out _ hb7 ⟨hk0, HPT.out⟩⟩
            · have hr0 := HRU.out 8 (.func (.func 52) #[] #[]) rfl
              have hr1 := HRU.out 9 (.bool false) rfl
              have A6 : Aside0 (∀ w6, Below (wr.alloc (.cells #[.func (.func 52) #[] #[], .bool false] 55)).heap.size (wr.alloc (.cells #[.func (.func 52) #[] #[], .bool false] 55)) w6 → w6.cell? ⟨wr.heap.size, 1, none⟩ = some (.bool false) ∧ Below W3.heap.size W3 w6) := ⟨fun w6 hb => by
                have h1 : w6.heap[wr.heap.size]? = some (.cells #[.func (.func 52) #[] #[], .bool false] 55 (0, 0)) := (hb.block _ (by simp)).trans (heap_alloc_new wr _)
                exact ⟨by rw [cell_of_row _ _ _ _ _ _ h1]; rfl, HBY.out.trans (((below_alloc (Below.refl _ wr) _).trans (hb.mono (by simp))).mono HBY.out.size)⟩⟩
              cases ht : tl 4 s cl with
              | false =>
                have HC := Aside0.mk (rule4 s cl false ht)
                have HT' : Aside0 (∀ i, i < 4 + 1 → tl i s cl = false) := ⟨fun i hi => by
                  by_cases e : i = 4
                  · rw [e]; exact ht
                  · exact HT.out i (by omega)⟩
                clear ht HT
                go_wp2_with (go_at_call 52; refine (HC.out _).mono ?_; rintro e w6 ⟨rfl, hb6⟩; obtain ⟨hc6, hb7⟩ := A6.out w6 hb6)
                go_roundg g2
                case measure => omega
                case rel => exact ⟨4 + 1, by omega, by go_num, HT', hb7⟩
              | true =>
                have HC := Aside0.mk (rule4 s cl true ht)
                have HPT := Aside0.mk (parted_at s cl 4 (by decide) HT.out ht)
                clear ht HT
                go_wp2_with (go_at_call 52; refine (HC.out _).mono ?_; rintro e w6 ⟨rfl, hb6⟩; obtain ⟨hc6, hb7⟩ := A6.out w6 hb6)
                go_roundg g
                case measure => omega
                case rel => exact ⟨k + 1, by omega, by go_num, HFN.out _ hb7 ⟨hk0, HPT.out⟩⟩
            · have hr0 := HRU.out 10 (.func (.func 53) #[] #[]) rfl
              have hr1 := HRU.out 11 (.bool false) rfl
              have A6 : Aside0 (∀ w6, Below (wr.alloc (.cells #[.func (.func 53) #[] #[], .bool false] 55)).heap.size (wr.alloc (.cells #[.func (.func 53) #[] #[], .bool false] 55)) w6 → w6.cell? ⟨wr.heap.size, 1, none⟩ = some (.bool false) ∧ Below W3.heap.size W3 w6) := ⟨fun w6 hb => by
                have h1 : w6.heap[wr.heap.size]? = some (.cells #[.func (.func 53) #[] #[], .bool false] 55 (0, 0)) := (hb.block _ (by simp)).trans (heap_alloc_new wr _)
                exact ⟨by rw [cell_of_row _ _ _ _ _ _ h1]; rfl, HBY.out.trans (((below_alloc (Below.refl _ wr) _).trans (hb.mono (by simp))).mono HBY.out.size)⟩⟩
              cases ht : tl 5 s cl with
              | false =>
                have HC := Aside0.mk (rule5 s cl false ht)
                have HT' : Aside0 (∀ i, i < 5 + 1 → tl i s cl = false) := ⟨fun i hi => by
                  by_cases e : i = 5
                  · rw [e]; exact ht
                  · exact HT.out i (by omega)⟩
                clear ht HT
                go_wp2_with (go_at_call 53; refine (HC.out _).mono ?_; rintro e w6 ⟨rfl, hb6⟩; obtain ⟨hc6, hb7⟩ := A6.out w6 hb6)
                go_roundg g2
                case measure => omega
                case rel => exact ⟨5 + 1, by omega, by go_num, HT', hb7⟩
              | true =>
                have HC := Aside0.mk (rule5 s cl true ht)
                have HPT := Aside0.mk (parted_at s cl 5 (by decide) HT.out ht)
                clear ht HT
                go_wp2_with (go_at_call 53; refine (HC.out _).mono ?_; rintro e w6 ⟨rfl, hb6⟩; obtain ⟨hc6, hb7⟩ := A6.out w6 hb6)
                go_roundg g
                case measure => omega
                case rel => exact ⟨k + 1, by omega, by go_num, HFN.out _ hb7 ⟨hk0, HPT.out⟩⟩
            · have hr0 := HRU.out 12 (.func (.func 54) #[] #[]) rfl
              have hr1 := HRU.out 13 (.bool false) rfl
              have A6 : Aside0 (∀ w6, Below (wr.alloc (.cells #[.func (.func 54) #[] #[], .bool false] 55)).heap.size (wr.alloc (.cells #[.func (.func 54) #[] #[], .bool false] 55)) w6 → w6.cell? ⟨wr.heap.size, 1, none⟩ = some (.bool false) ∧ Below W3.heap.size W3 w6) := ⟨fun w6 hb => by
                have h1 : w6.heap[wr.heap.size]? = some (.cells #[.func (.func 54) #[] #[], .bool false] 55 (0, 0)) := (hb.block _ (by simp)).trans (heap_alloc_new wr _)
                exact ⟨by rw [cell_of_row _ _ _ _ _ _ h1]; rfl, HBY.out.trans (((below_alloc (Below.refl _ wr) _).trans (hb.mono (by simp))).mono HBY.out.size)⟩⟩
              cases ht : tl 6 s cl with
              | false =>
                have HC := Aside0.mk (rule6 s cl false ht)
                have HT' : Aside0 (∀ i, i < 6 + 1 → tl i s cl = false) := ⟨fun i hi => by
                  by_cases e : i = 6
                  · rw [e]; exact ht
                  · exact HT.out i (by omega)⟩
                clear ht HT
                go_wp2_with (go_at_call 54; refine (HC.out _).mono ?_; rintro e w6 ⟨rfl, hb6⟩; obtain ⟨hc6, hb7⟩ := A6.out w6 hb6)
                go_roundg g2
                case measure => omega
                case rel => exact ⟨6 + 1, by omega, by go_num, HT', hb7⟩
              | true =>
                have HC := Aside0.mk (rule6 s cl true ht)
                have HPT := Aside0.mk (parted_at s cl 6 (by decide) HT.out ht)
                clear ht HT
                go_wp2_with (go_at_call 54; refine (HC.out _).mono ?_; rintro e w6 ⟨rfl, hb6⟩; obtain ⟨hc6, hb7⟩ := A6.out w6 hb6)
                go_roundg g
                case measure => omega
                case rel => exact ⟨k + 1, by omega, by go_num, HFN.out _ hb7 ⟨hk0, HPT.out⟩⟩
            · have hr0 := HRU.out 14 (.func (.func 55) #[] #[]) rfl
              have hr1 := HRU.out 15 (.bool false) rfl
              have A6 : Aside0 (∀ w6, Below (wr.alloc (.cells #[.func (.func 55) #[] #[], .bool false] 55)).heap.size (wr.alloc (.cells #[.func (.func 55) #[] #[], .bool false] 55)) w6 → w6.cell? ⟨wr.heap.size, 1, none⟩ = some (.bool false) ∧ Below W3.heap.size W3 w6) := ⟨fun w6 hb => by
                have h1 : w6.heap[wr.heap.size]? = some (.cells #[.func (.func 55) #[] #[], .bool false] 55 (0, 0)) := (hb.block _ (by simp)).trans (heap_alloc_new wr _)
                exact ⟨by rw [cell_of_row _ _ _ _ _ _ h1]; rfl, HBY.out.trans (((below_alloc (Below.refl _ wr) _).trans (hb.mono (by simp))).mono HBY.out.size)⟩⟩
              cases ht : tl 7 s cl with
              | false =>
                have HC := Aside0.mk (rule7 s cl false ht)
                have HT' : Aside0 (∀ i, i < 7 + 1 → tl i s cl = false) := ⟨fun i hi => by
                  by_cases e : i = 7
                  · rw [e]; exact ht
                  · exact HT.out i (by omega)⟩
                clear ht HT
                go_wp2_with (go_at_call 55; refine (HC.out _).mono ?_; rintro e w6 ⟨rfl, hb6⟩; obtain ⟨hc6, hb7⟩ := A6.out w6 hb6)
                go_roundg g2
                case measure => omega
                case rel => exact ⟨7 + 1, by omega, by go_num, HT', hb7⟩
              | true =>
                have HC := Aside0.mk (rule7 s cl true ht)
                have HPT := Aside0.mk (parted_at s cl 7 (by decide) HT.out ht)
                clear ht HT
                go_wp2_with (go_at_call 55; refine (HC.out _).mono ?_; rintro e w6 ⟨rfl, hb6⟩; obtain ⟨hc6, hb7⟩ := A6.out w6 hb6)
                go_roundg g
                case measure => omega
                case rel => exact ⟨k + 1, by omega, by go_num, HFN.out _ hb7 ⟨hk0, HPT.out⟩⟩
            · have hr0 := HRU.out 16 (.func (.func 56) #[] #[]) rfl
              have hr1 := HRU.out 17 (.bool false) rfl
              have A6 : Aside0 (∀ w6, Below (wr.alloc (.cells #[.func (.func 56) #[] #[], .bool false] 55)).heap.size (wr.alloc (.cells #[.func (.func 56) #[] #[], .bool false] 55)) w6 → w6.cell? ⟨wr.heap.size, 1, none⟩ = some (.bool false) ∧ Below W3.heap.size W3 w6) := ⟨fun w6 hb => by
                have h1 : w6.heap[wr.heap.size]? = some (.cells #[.func (.func 56) #[] #[], .bool false] 55 (0, 0)) := (hb.block _ (by simp)).trans (heap_alloc_new wr _)
                exact ⟨by rw [cell_of_row _ _ _ _ _ _ h1]; rfl, HBY.out.trans (((below_alloc (Below.refl _ wr) _).trans (hb.mono (by simp))).mono HBY.out.size)⟩⟩
              cases ht : tl 8 s cl with
              | false =>
                have HC := Aside0.mk (rule8 s cl false ht)
                have HT' : Aside0 (∀ i, i < 8 + 1 → tl i s cl = false) := ⟨fun i hi => by
                  by_cases e : i = 8
                  · rw [e]; exact ht
                  · exact HT.out i (by omega)⟩
                clear ht HT
                go_wp2_with (go_at_call 56; refine (HC.out _).mono ?_; rintro e w6 ⟨rfl, hb6⟩; obtain ⟨hc6, hb7⟩ := A6.out w6 hb6)
                go_roundg g2
                case measure => omega
                case rel => exact ⟨8 + 1, by omega, by go_num, HT', hb7⟩
              | true =>
                have HC := Aside0.mk (rule8 s cl true ht)
                have HPT := Aside0.mk (parted_at s cl 8 (by decide) HT.out ht)
                clear ht HT
                go_wp2_with (go_at_call 56; refine (HC.out _).mono ?_; rintro e w6 ⟨rfl, hb6⟩; obtain ⟨hc6, hb7⟩ := A6.out w6 hb6)
                go_roundg g
                case measure => omega
                case rel => exact ⟨k + 1, by omega, by go_num, HFN.out _ hb7 ⟨hk0, HPT.out⟩⟩
end Go.Proofs.YtffmdnckapalfaaDoor.ExtC
