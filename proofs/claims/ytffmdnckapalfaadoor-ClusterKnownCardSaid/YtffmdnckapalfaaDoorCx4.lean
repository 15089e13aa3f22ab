-- Printed by a turned copy of the kit's print (turnprint.py, pp.sh: this session's). Lean checks it.
import Derived.Test.YtffmdnckapalfaaDoorCx0
import Derived.Test.YtffmdnckapalfaaDoorCx1
import Derived.Test.YtffmdnckapalfaaDoorCx3
namespace Go.Proofs.YtffmdnckapalfaaDoor.C
open Go.RowKit Go.Proofs.YtffmdnckapalfaaDoorW.PrintWords Go.Proofs.YtffmdnckapalfaaDoorW.PrintLast Go.Proofs.YtffmdnckapalfaaDoorW.PrintMore Go.Proofs.YtffmdnckapalfaaDoor.ExtC Go.Proofs.YtffmdnckapalfaaDoor.T
attribute [local go_sem] max2_int min2_int max_two min_two max_three min_three max_four min_four   -- for this text's walks alone
set_option linter.unusedVariables false
set_option linter.unusedSimpArgs false

/-! ### calamuslaw03_ClusterAlone: function 10 -/
mutual
def calamuslaw03_ClusterAlone.j0 : Nat → List Int → List Int → Bool → Option (Bool)
  | 0, _, _, _ => none
  | k + 1, x0, x3, x27 => if x27 = true then (some false) else (calamuslaw03_ClusterAlone.l0 k x0 x3 0)
def calamuslaw03_ClusterAlone.l0 : Nat → List Int → List Int → Int → Option (Bool)
  | 0, _, _, _ => none
  | k + 1, x0, x3, x4 => if x4 < (x3.length : Int) then (if (wrap64 (x4 + 1)) < (x3.length : Int) then (if 0 ≤ (wrap64 (x4 + 1)) then (calamuslaw03_ClusterAlone.j2 k x0 x3 x4 (rd x3 (wrap64 (x4 + 1)))) else (none)) else (calamuslaw03_ClusterAlone.j2 k x0 x3 x4 (x0.length : Int))) else ((calamuslaw03_works.f k).bind fun t174 => (some t174))
def calamuslaw03_ClusterAlone.j2 : Nat → List Int → List Int → Int → Int → Option (Bool)
  | 0, _, _, _, _ => none
  | k + 1, x0, x3, x4, x5 => if 0 ≤ x4 then (if x4 < (x3.length : Int) then (if x5 ≤ (rd x3 x4) then (calamuslaw03_ClusterAlone.j3 k x0 x3 x4 x5 true) else (if x5 > (x0.length : Int) then (calamuslaw03_ClusterAlone.j3 k x0 x3 x4 x5 true) else (if 0 ≤ (rd x3 x4) then (if (rd x3 x4) ≤ x5 then (if x5 ≤ (x0.length : Int) then ((cluster_Bounds.f ((x0.take (x5 : Int).toNat).drop ((rd x3 x4) : Int).toNat)).bind fun t179 => ((calamuslaw03_same.f k t179 (([0] : List Int))).bind fun t185 => (calamuslaw03_ClusterAlone.j3 k x0 x3 x4 x5 (!t185)))) else (none)) else (none)) else (none)))) else (none)) else (none)
def calamuslaw03_ClusterAlone.j3 : Nat → List Int → List Int → Int → Int → Bool → Option (Bool)
  | 0, _, _, _, _, _ => none
  | k + 1, x0, x3, x4, x5, x70 => if x70 = true then (some false) else (if 0 ≤ x4 then (if x4 < (x3.length : Int) then (if 0 ≤ (rd x3 x4) then (if (rd x3 x4) < (x0.length : Int) then ((calamusref02_Cluster.f (rd x0 (rd x3 x4))).bind fun t188 => (if t188 = 4 then (if x4 > 0 then (if 0 ≤ (wrap64 ((rd x3 x4) - 1)) then (if (wrap64 ((rd x3 x4) - 1)) < (x0.length : Int) then ((calamusref02_Cluster.f (rd x0 (wrap64 ((rd x3 x4) - 1)))).bind fun t191 => ((calamuslaw03_ends.f t191).bind fun t192 => (calamuslaw03_ClusterAlone.j4 k x0 x3 x4 x5 (!t192)))) else (none)) else (none)) else (calamuslaw03_ClusterAlone.j4 k x0 x3 x4 x5 false)) else (if t188 = 5 then (if x4 > 0 then (if 0 ≤ (wrap64 ((rd x3 x4) - 1)) then (if (wrap64 ((rd x3 x4) - 1)) < (x0.length : Int) then ((calamusref02_Cluster.f (rd x0 (wrap64 ((rd x3 x4) - 1)))).bind fun t195 => ((calamuslaw03_ends.f t195).bind fun t196 => (calamuslaw03_ClusterAlone.j4 k x0 x3 x4 x5 (!t196)))) else (none)) else (none)) else (calamuslaw03_ClusterAlone.j4 k x0 x3 x4 x5 false)) else (calamuslaw03_ClusterAlone.j4 k x0 x3 x4 x5 false)))) else (none)) else (none)) else (none)) else (none))
def calamuslaw03_ClusterAlone.j4 : Nat → List Int → List Int → Int → Int → Bool → Option (Bool)
  | 0, _, _, _, _, _ => none
  | k + 1, x0, x3, x4, x5, x101 => if x101 = true then (some false) else (if 0 ≤ x4 then (if x4 < (x3.length : Int) then (calamuslaw03_ClusterAlone.l1 k x0 x3 x4 x5 (rd x3 x4)) else (none)) else (none))
def calamuslaw03_ClusterAlone.l1 : Nat → List Int → List Int → Int → Int → Int → Option (Bool)
  | 0, _, _, _, _, _ => none
  | k + 1, x0, x3, x4, x5, x7 => if x7 < x5 then (if 0 ≤ x7 then (if x7 < (x0.length : Int) then ((calamusref02_Cluster.f (rd x0 x7)).bind fun t199 => ((calamuslaw03_ends.f t199).bind fun t200 => (if t200 = true then (if 0 ≤ x4 then (if x4 < (x3.length : Int) then (if (wrap64 (x5 - (rd x3 x4))) > 1 then (if (wrap64 (x5 - (rd x3 x4))) = 2 then (if 0 ≤ (rd x3 x4) then (if (rd x3 x4) < (x0.length : Int) then ((calamusref02_Cluster.f (rd x0 (rd x3 x4))).bind fun t205 => (if t205 = 1 then (if 0 ≤ (wrap64 (x5 - 1)) then (if (wrap64 (x5 - 1)) < (x0.length : Int) then ((calamusref02_Cluster.f (rd x0 (wrap64 (x5 - 1)))).bind fun t207 => (if t207 = 2 then (calamuslaw03_ClusterAlone.l1 k x0 x3 x4 x5 (wrap64 (x7 + 1))) else (some false))) else (none)) else (none)) else (some false))) else (none)) else (none)) else (some false)) else (calamuslaw03_ClusterAlone.l1 k x0 x3 x4 x5 (wrap64 (x7 + 1)))) else (none)) else (none)) else (calamuslaw03_ClusterAlone.l1 k x0 x3 x4 x5 (wrap64 (x7 + 1)))))) else (none)) else (none)) else (calamuslaw03_ClusterAlone.l0 k x0 x3 (wrap64 (x4 + 1)))
end
def calamuslaw03_ClusterAlone.f (k : Nat) (l0 : List Int) : Option (Bool) := if (l0.length : Int) > 300 then ((calamuslaw03_works.f k).bind fun t169 => (some t169)) else ((cluster_Bounds.f l0).bind fun t170 => (if (l0.length : Int) > 0 then (if (t170.length : Int) = 0 then (calamuslaw03_ClusterAlone.j0 k l0 t170 true) else (if 0 < (t170.length : Int) then (calamuslaw03_ClusterAlone.j0 k l0 t170 ((rd t170 0) != 0)) else (none))) else (calamuslaw03_ClusterAlone.j0 k l0 t170 false)))
theorem calamuslaw03_ClusterAlone.mono_l : ∀ k, (∀ y0 y1 y2, LeO (calamuslaw03_ClusterAlone.j0 k y0 y1 y2) (calamuslaw03_ClusterAlone.j0 (k + 1) y0 y1 y2)) ∧ (∀ y0 y1 y2, LeO (calamuslaw03_ClusterAlone.l0 k y0 y1 y2) (calamuslaw03_ClusterAlone.l0 (k + 1) y0 y1 y2)) ∧ (∀ y0 y1 y2 y3, LeO (calamuslaw03_ClusterAlone.j2 k y0 y1 y2 y3) (calamuslaw03_ClusterAlone.j2 (k + 1) y0 y1 y2 y3)) ∧ (∀ y0 y1 y2 y3 y4, LeO (calamuslaw03_ClusterAlone.j3 k y0 y1 y2 y3 y4) (calamuslaw03_ClusterAlone.j3 (k + 1) y0 y1 y2 y3 y4)) ∧ (∀ y0 y1 y2 y3 y4, LeO (calamuslaw03_ClusterAlone.j4 k y0 y1 y2 y3 y4) (calamuslaw03_ClusterAlone.j4 (k + 1) y0 y1 y2 y3 y4)) ∧ (∀ y0 y1 y2 y3 y4, LeO (calamuslaw03_ClusterAlone.l1 k y0 y1 y2 y3 y4) (calamuslaw03_ClusterAlone.l1 (k + 1) y0 y1 y2 y3 y4))
  | 0 => ⟨fun _ _ _ r h => by simp [calamuslaw03_ClusterAlone.j0] at h, fun _ _ _ r h => by simp [calamuslaw03_ClusterAlone.l0] at h, fun _ _ _ _ r h => by simp [calamuslaw03_ClusterAlone.j2] at h, fun _ _ _ _ _ r h => by simp [calamuslaw03_ClusterAlone.j3] at h, fun _ _ _ _ _ r h => by simp [calamuslaw03_ClusterAlone.j4] at h, fun _ _ _ _ _ r h => by simp [calamuslaw03_ClusterAlone.l1] at h⟩
  | k + 1 => by
    obtain ⟨ih0, ih1, ih2, ih3, ih4, ih5⟩ := calamuslaw03_ClusterAlone.mono_l k
    refine ⟨?_, ?_, ?_, ?_, ?_, ?_⟩
    · intro y0 y1 y2
      unfold calamuslaw03_ClusterAlone.j0
      repeat' first
      | (with_reducible exact ih0 _ _ _)
      | (with_reducible exact ih1 _ _ _)
      | (with_reducible exact ih2 _ _ _ _)
      | (with_reducible exact ih3 _ _ _ _ _)
      | (with_reducible exact ih4 _ _ _ _ _)
      | (with_reducible exact ih5 _ _ _ _ _)
      | (with_reducible exact calamuslaw03_same.mono _ _ _)
      | (with_reducible exact calamuslaw03_works.mono _)
      | (with_reducible exact LeO.refl _)
      | (with_reducible exact LeO.none _)
      | (with_reducible refine LeO.ite ?_ ?_)
      | (with_reducible refine LeO.bind ?_ (fun _ => ?_))
      | exact ih0 _ _ _
      | exact ih1 _ _ _
      | exact ih2 _ _ _ _
      | exact ih3 _ _ _ _ _
      | exact ih4 _ _ _ _ _
      | exact ih5 _ _ _ _ _
      | exact calamuslaw03_same.mono _ _ _
      | exact calamuslaw03_works.mono _
      | exact LeO.none _
      | refine LeO.ite ?_ ?_
      | refine LeO.bind ?_ (fun _ => ?_)
    · intro y0 y1 y2
      unfold calamuslaw03_ClusterAlone.l0
      repeat' first
      | (with_reducible exact ih0 _ _ _)
      | (with_reducible exact ih1 _ _ _)
      | (with_reducible exact ih2 _ _ _ _)
      | (with_reducible exact ih3 _ _ _ _ _)
      | (with_reducible exact ih4 _ _ _ _ _)
      | (with_reducible exact ih5 _ _ _ _ _)
      | (with_reducible exact calamuslaw03_same.mono _ _ _)
      | (with_reducible exact calamuslaw03_works.mono _)
      | (with_reducible exact LeO.refl _)
      | (with_reducible exact LeO.none _)
      | (with_reducible refine LeO.ite ?_ ?_)
      | (with_reducible refine LeO.bind ?_ (fun _ => ?_))
      | exact ih0 _ _ _
      | exact ih1 _ _ _
      | exact ih2 _ _ _ _
      | exact ih3 _ _ _ _ _
      | exact ih4 _ _ _ _ _
      | exact ih5 _ _ _ _ _
      | exact calamuslaw03_same.mono _ _ _
      | exact calamuslaw03_works.mono _
      | exact LeO.none _
      | refine LeO.ite ?_ ?_
      | refine LeO.bind ?_ (fun _ => ?_)
    · intro y0 y1 y2 y3
      unfold calamuslaw03_ClusterAlone.j2
      repeat' first
      | (with_reducible exact ih0 _ _ _)
      | (with_reducible exact ih1 _ _ _)
      | (with_reducible exact ih2 _ _ _ _)
      | (with_reducible exact ih3 _ _ _ _ _)
      | (with_reducible exact ih4 _ _ _ _ _)
      | (with_reducible exact ih5 _ _ _ _ _)
      | (with_reducible exact calamuslaw03_same.mono _ _ _)
      | (with_reducible exact calamuslaw03_works.mono _)
      | (with_reducible exact LeO.refl _)
      | (with_reducible exact LeO.none _)
      | (with_reducible refine LeO.ite ?_ ?_)
      | (with_reducible refine LeO.bind ?_ (fun _ => ?_))
      | exact ih0 _ _ _
      | exact ih1 _ _ _
      | exact ih2 _ _ _ _
      | exact ih3 _ _ _ _ _
      | exact ih4 _ _ _ _ _
      | exact ih5 _ _ _ _ _
      | exact calamuslaw03_same.mono _ _ _
      | exact calamuslaw03_works.mono _
      | exact LeO.none _
      | refine LeO.ite ?_ ?_
      | refine LeO.bind ?_ (fun _ => ?_)
    · intro y0 y1 y2 y3 y4
      unfold calamuslaw03_ClusterAlone.j3
      repeat' first
      | (with_reducible exact ih0 _ _ _)
      | (with_reducible exact ih1 _ _ _)
      | (with_reducible exact ih2 _ _ _ _)
      | (with_reducible exact ih3 _ _ _ _ _)
      | (with_reducible exact ih4 _ _ _ _ _)
      | (with_reducible exact ih5 _ _ _ _ _)
      | (with_reducible exact calamuslaw03_same.mono _ _ _)
      | (with_reducible exact calamuslaw03_works.mono _)
      | (with_reducible exact LeO.refl _)
      | (with_reducible exact LeO.none _)
      | (with_reducible refine LeO.ite ?_ ?_)
      | (with_reducible refine LeO.bind ?_ (fun _ => ?_))
      | exact ih0 _ _ _
      | exact ih1 _ _ _
      | exact ih2 _ _ _ _
      | exact ih3 _ _ _ _ _
      | exact ih4 _ _ _ _ _
      | exact ih5 _ _ _ _ _
      | exact calamuslaw03_same.mono _ _ _
      | exact calamuslaw03_works.mono _
      | exact LeO.none _
      | refine LeO.ite ?_ ?_
      | refine LeO.bind ?_ (fun _ => ?_)
    · intro y0 y1 y2 y3 y4
      unfold calamuslaw03_ClusterAlone.j4
      repeat' first
      | (with_reducible exact ih0 _ _ _)
      | (with_reducible exact ih1 _ _ _)
      | (with_reducible exact ih2 _ _ _ _)
      | (with_reducible exact ih3 _ _ _ _ _)
      | (with_reducible exact ih4 _ _ _ _ _)
      | (with_reducible exact ih5 _ _ _ _ _)
      | (with_reducible exact calamuslaw03_same.mono _ _ _)
      | (with_reducible exact calamuslaw03_works.mono _)
      | (with_reducible exact LeO.refl _)
      | (with_reducible exact LeO.none _)
      | (with_reducible refine LeO.ite ?_ ?_)
      | (with_reducible refine LeO.bind ?_ (fun _ => ?_))
      | exact ih0 _ _ _
      | exact ih1 _ _ _
      | exact ih2 _ _ _ _
      | exact ih3 _ _ _ _ _
      | exact ih4 _ _ _ _ _
      | exact ih5 _ _ _ _ _
      | exact calamuslaw03_same.mono _ _ _
      | exact calamuslaw03_works.mono _
      | exact LeO.none _
      | refine LeO.ite ?_ ?_
      | refine LeO.bind ?_ (fun _ => ?_)
    · intro y0 y1 y2 y3 y4
      unfold calamuslaw03_ClusterAlone.l1
      repeat' first
      | (with_reducible exact ih0 _ _ _)
      | (with_reducible exact ih1 _ _ _)
      | (with_reducible exact ih2 _ _ _ _)
      | (with_reducible exact ih3 _ _ _ _ _)
      | (with_reducible exact ih4 _ _ _ _ _)
      | (with_reducible exact ih5 _ _ _ _ _)
      | (with_reducible exact calamuslaw03_same.mono _ _ _)
      | (with_reducible exact calamuslaw03_works.mono _)
      | (with_reducible exact LeO.refl _)
      | (with_reducible exact LeO.none _)
      | (with_reducible refine LeO.ite ?_ ?_)
      | (with_reducible refine LeO.bind ?_ (fun _ => ?_))
      | exact ih0 _ _ _
      | exact ih1 _ _ _
      | exact ih2 _ _ _ _
      | exact ih3 _ _ _ _ _
      | exact ih4 _ _ _ _ _
      | exact ih5 _ _ _ _ _
      | exact calamuslaw03_same.mono _ _ _
      | exact calamuslaw03_works.mono _
      | exact LeO.none _
      | refine LeO.ite ?_ ?_
      | refine LeO.bind ?_ (fun _ => ?_)
theorem calamuslaw03_ClusterAlone.mono : ∀ a0 k, LeO (calamuslaw03_ClusterAlone.f k a0) (calamuslaw03_ClusterAlone.f (k + 1) a0) := by
  intro a0 k
  obtain ⟨ih0, ih1, ih2, ih3, ih4, ih5⟩ := calamuslaw03_ClusterAlone.mono_l k
  unfold calamuslaw03_ClusterAlone.f
  repeat' first
      | (with_reducible exact ih0 _ _ _)
      | (with_reducible exact ih1 _ _ _)
      | (with_reducible exact ih2 _ _ _ _)
      | (with_reducible exact ih3 _ _ _ _ _)
      | (with_reducible exact ih4 _ _ _ _ _)
      | (with_reducible exact ih5 _ _ _ _ _)
      | (with_reducible exact calamuslaw03_same.mono _ _ _)
      | (with_reducible exact calamuslaw03_works.mono _)
      | (with_reducible exact LeO.refl _)
      | (with_reducible exact LeO.none _)
      | (with_reducible refine LeO.ite ?_ ?_)
      | (with_reducible refine LeO.bind ?_ (fun _ => ?_))
      | exact ih0 _ _ _
      | exact ih1 _ _ _
      | exact ih2 _ _ _ _
      | exact ih3 _ _ _ _ _
      | exact ih4 _ _ _ _ _
      | exact ih5 _ _ _ _ _
      | exact calamuslaw03_same.mono _ _ _
      | exact calamuslaw03_works.mono _
      | exact LeO.none _
      | refine LeO.ite ?_ ?_
      | refine LeO.bind ?_ (fun _ => ?_)
set_option maxHeartbeats 8000000 in
set_option maxRecDepth 100000 in
theorem calamuslaw03_ClusterAlone.calls (k : Nat) (A0 : Option Addr) (c0 : Nat) (l0 : List Int) (r : Bool) (w : World) (hr0 : Kd.C (Kd.int .i32) w A0 l0.length l0) (hc0 : l0.length ≤ c0) (hG : Glob w) (h : calamuslaw03_ClusterAlone.f k l0 = some r) :
    Calls Tryd.prog 10 #[.slice A0 l0.length c0] w fun e w' => e = .returned (.bool r) ∧ Below w.heap.size w w' := by
  have HG := Aside0.mk hG
  clear hG
  have HR0 := Aside0.mk hr0
  have HC0 := Aside0.mk hc0
  clear hr0 hc0
  have HB := Aside0.mk (Below.refl w.heap.size w)
  have H : (if (l0.length : Int) > 300 then ((calamuslaw03_works.f k).bind fun t169 => (some t169)) else ((cluster_Bounds.f l0).bind fun t170 => (if (l0.length : Int) > 0 then (if (t170.length : Int) = 0 then (calamuslaw03_ClusterAlone.j0 k l0 t170 true) else (if 0 < (t170.length : Int) then (calamuslaw03_ClusterAlone.j0 k l0 t170 ((rd t170 0) != 0)) else (none))) else (calamuslaw03_ClusterAlone.j0 k l0 t170 false)))) = some r := h
  clear h
  by_cases c2 : (l0.length : Int) > 300
  · rw [if_pos c2] at H
    have c2b0 : decide (300 < (l0.length : Int)) = true := decide_eq_true c2
    have c2b1 : decide (300 < l0.length) = true := decide_eq_true (by omega)
    clear c2
    replace H := Option.bind_eq_some_iff.mp H
    obtain ⟨t169, A30, H⟩ := H
    replace H : (some t169) = some r := H
    have A3 := Aside0.mk A30
    clear A30
    obtain rfl := Option.some.inj H
    go_enter Tryd.func10, Tryd.ntmps10
    go_wp2_with (first | ((with_reducible refine gate_callee (f := 21) rfl ?_); refine goesL_ (some 11) rfl rfl Tryd.func21 (by kernel_rfl) rfl #[] rfl (by (try simp only [List.map_toArray, List.map_cons, List.map_nil]); first | done | rfl | (simp only [List.length_drop, List.length_take]; rfl)) ?_; (with_reducible refine (calamuslaw03_works.calls k  t169 _ ?side1 A3.out).mono ?_); (case side1 => exact Glob.below HG.out (by repeat (first | (with_reducible first | exact HB.out | apply below_alloc | apply pw_below_drewN | apply below_drew1) | exact HB.out))); rintro e w4 ⟨rfl, hb⟩; refine ⟨_, rfl, ?_⟩; have n0_ := Aside0.mk (below_step (by repeat (first | (with_reducible first | exact HB.out | apply below_alloc | apply pw_below_drewN | apply below_drew1) | exact HB.out)) hb); clear HB; have HB := n0_; clear n0_; (try clear hb); (try clear hb2); (try clear hk); (try clear hi)))
    go_ret
    exact ⟨by first | rfl | (simp [errW_none, errW_some] <;> rfl) | (simp [*, errW_none, errW_some] <;> rfl), by repeat (first | (with_reducible first | exact HB.out | apply below_alloc | apply pw_below_drewN | apply below_drew1) | exact HB.out)⟩
  · rw [if_neg c2] at H
    have c2b0 : decide (300 < (l0.length : Int)) = false := decide_eq_false c2
    have c2b1 : decide (300 < l0.length) = false := decide_eq_false (by omega)
    clear c2
    replace H := Option.bind_eq_some_iff.mp H
    obtain ⟨t170, A50, H⟩ := H
    replace H : (if (l0.length : Int) > 0 then (if (t170.length : Int) = 0 then (calamuslaw03_ClusterAlone.j0 k l0 t170 true) else (if 0 < (t170.length : Int) then (calamuslaw03_ClusterAlone.j0 k l0 t170 ((rd t170 0) != 0)) else (none))) else (calamuslaw03_ClusterAlone.j0 k l0 t170 false)) = some r := H
    have A5 := Aside0.mk A50
    clear A50
    have HC6 := Aside0.mk H
    clear H
    go_enter Tryd.func10, Tryd.ntmps10
    go_upto_region 4 with (first | ((with_reducible refine gate_callee (f := 23) rfl ?_); refine goesL_ (some 13) rfl rfl Tryd.func23 (by kernel_rfl) rfl #[.slice A0 l0.length c0] rfl (by (try simp only [List.map_toArray, List.map_cons, List.map_nil]); first | done | rfl | (simp only [List.length_drop, List.length_take]; rfl)) ?_; (with_reducible refine (cluster_Bounds.calls _ _ l0 t170 _ ?side1 ?side2 ?side3 A5.out).mono ?_); (case side1 => repeat (first | exact HR0.out | (with_reducible refine Kd.C_alloc ?_ _) | (with_reducible refine Kd.C_drewN ?_ _) | (with_reducible refine Kd.C_drew ?_))); (case side2 => exact HC0.out); (case side3 => exact Glob.below HG.out (by repeat (first | (with_reducible first | exact HB.out | apply below_alloc | apply pw_below_drewN | apply below_drew1) | exact HB.out))); rintro e w7 ⟨v171, rfl, ho0, hb⟩; refine ⟨_, rfl, ?_⟩; have n0_ := Aside0.mk (Kd.R_lower ho0 (below_size (by repeat (first | (with_reducible first | exact HB.out | apply below_alloc | apply pw_below_drewN | apply below_drew1) | exact HB.out)))); have n1_ := Aside0.mk (below_step (by repeat (first | (with_reducible first | exact HB.out | apply below_alloc | apply pw_below_drewN | apply below_drew1) | exact HB.out)) hb); clear HB; have HO172 := n0_; have HB := n1_; clear n0_ n1_; (try clear hb); (try clear hb2); (try clear hk); (try clear hi); (try clear ho0)))
    (try simp only [Act.put, List.setIfInBounds_toArray, List.set_cons_zero, List.set_cons_succ])
    go_cut [27] (fun v27 wc => ∃ (kq : Nat) (x27_5 : Bool), v27 = .bool x27_5 ∧ Aside0 (calamuslaw03_ClusterAlone.j0 kq l0 t170 x27_5 = some r) ∧ Aside0 (kq ≤ k) ∧ Aside0 (Kd.R (Kd.int .i64) 3 wc w.heap.size (fun _ => True) v171 t170) ∧ Aside0 (Below w.heap.size w wc))
    case first =>
      have H := HC6.out
      clear HC6
      by_cases c8 : (l0.length : Int) > 0
      · rw [if_pos c8] at H
        have c8b0 : decide (0 < (l0.length : Int)) = true := decide_eq_true c8
        have c8b1 : decide (0 < l0.length) = true := decide_eq_true (by omega)
        clear c8
        (first | rw [c8b0] | (simp only [i64_w, i32_w]; rw [c8b0]) | skip)
        by_cases c9 : (t170.length : Int) = 0
        · rw [if_pos c9] at H
          have c9b0 : ((t170.length : Int) == 0) = true := beq_iff_eq.mpr c9
          have c9b1 : ((t170.length : Int) != 0) = false := bne_eq_false_iff_eq.mpr c9
          clear c9
          have H' := Aside0.mk H
          clear H
          obtain ⟨Ao10, co10, eo10⟩ := Kd.R_slice HO172.out
          subst eo10
          go_wp2
          go_meet
          case rel => exact ⟨_, (true), (by first | rfl | (simp; done) | (simp [*]; done)), H', ⟨by first | omega | exact Nat.le_refl _⟩, ⟨by (with_reducible repeat (first | apply Kd.R_alloc | apply Kd.R_drewN | apply Kd.R_drew)); exact HO172.out⟩, ⟨by repeat (first | (with_reducible first | exact HB.out | apply below_alloc | apply pw_below_drewN | apply below_drew1) | exact HB.out)⟩⟩
        · rw [if_neg c9] at H
          have c9b0 : ((t170.length : Int) == 0) = false := beq_eq_false_iff_ne.mpr c9
          have c9b1 : ((t170.length : Int) != 0) = true := bne_iff_ne.mpr c9
          have c9b2 : ¬ (t170 = []) := fun h_ => c9 (by rw [h_]; rfl)
          by_cases c11 : 0 < (t170.length : Int)
          · rw [if_pos c11] at H
            have c11b0 : decide (0 < (t170.length : Int)) = true := decide_eq_true c11
            have c11b1 : decide (0 < t170.length) = true := decide_eq_true (by omega)
            clear c11
            have H' := Aside0.mk H
            clear H
            obtain ⟨Ao12, co12, eo12⟩ := Kd.R_slice HO172.out
            subst eo12
            have p173 : 0 ≤ (0 : Int) := (by omega)
            have q173 : 0 < (t170.length : Int) := of_decide_eq_true (by first | (with_reducible assumption) | assumption)
            obtain ⟨ad173, e173, hx173_0⟩ := Kd.at_int (Kd.R_reads' HO172.out).2.2 0 p173 q173
            cases e173
            have qi173 : (0 < t170.length) = True := eq_true (by omega)
            (try rw [show ((0 : Int)).toNat = 0 from rfl] at hx173_0)
            (try rw [Addr.add_zero'] at hx173_0)
            replace p173 := eq_true p173
            replace q173 := eq_true q173
            go_wp2
            go_meet
            case rel => exact ⟨_, (((rd t170 0) != 0)), (by first | rfl | (simp; done) | (simp [*]; done)), H', ⟨by first | omega | exact Nat.le_refl _⟩, ⟨by (with_reducible repeat (first | apply Kd.R_alloc | apply Kd.R_drewN | apply Kd.R_drew)); exact HO172.out⟩, ⟨by repeat (first | (with_reducible first | exact HB.out | apply below_alloc | apply pw_below_drewN | apply below_drew1) | exact HB.out)⟩⟩
          · rw [if_neg c11] at H
            exact absurd H (by simp)
      · rw [if_neg c8] at H
        have c8b0 : decide (0 < (l0.length : Int)) = false := decide_eq_false c8
        have c8b1 : decide (0 < l0.length) = false := decide_eq_false (by omega)
        clear c8
        (first | rw [c8b0] | (simp only [i64_w, i32_w]; rw [c8b0]) | skip)
        have H' := Aside0.mk H
        clear H
        go_wp2
        go_meet
        case rel => exact ⟨_, (false), (by first | rfl | (simp; done) | (simp [*]; done)), H', ⟨by first | omega | exact Nat.le_refl _⟩, ⟨by (with_reducible repeat (first | apply Kd.R_alloc | apply Kd.R_drewN | apply Kd.R_drew)); exact HO172.out⟩, ⟨by repeat (first | (with_reducible first | exact HB.out | apply below_alloc | apply pw_below_drewN | apply below_drew1) | exact HB.out)⟩⟩
    case rest =>
      clear HC6
      try clear c1
      try clear p1
      try clear q1
      try clear hx1
      try clear qi1
      try clear c2
      try clear c2b0
      try clear c2b1
      try clear p2
      try clear c8
      try clear c8b0
      try clear c8b1
      try clear c9
      try clear c9b0
      try clear c9b1
      try clear c9b2
      try clear c10
      try clear c11
      try clear c11b0
      try clear c11b1
      try clear hx173_0
      try clear p173
      try clear q173
      obtain ⟨kq, x27_5, rfl, HA, HJ5, HO_3, HB⟩ := hcut
      cases kq with
      | zero => exact absurd HA.out (by simp [calamuslaw03_ClusterAlone.j0])
      | succ kj5 =>
        have H := HA.out
        clear HA
        simp only [calamuslaw03_ClusterAlone.j0] at H
        by_cases c13 : x27_5 = true
        · subst c13
          have H1 : (some false) = some r := by rw [if_pos rfl] at H; exact H
          clear H
          have H := H1
          clear H1
          obtain rfl := Option.some.inj H
          go_wp2
          go_ret
          exact ⟨by first | rfl | (simp [errW_none, errW_some] <;> rfl) | (simp [*, errW_none, errW_some] <;> rfl), by repeat (first | (with_reducible first | exact HB.out | apply below_alloc | apply pw_below_drewN | apply below_drew1) | exact HB.out)⟩
        · replace c13 := Bool.eq_false_iff.mpr c13
          subst c13
          have H1 : (calamuslaw03_ClusterAlone.l0 kj5 l0 t170 0) = some r := by rw [if_neg (show ¬ (false = true) by decide)] at H; exact H
          clear H
          have H := H1
          clear H1
          have H' := Aside0.mk H
          clear H
          go_wp2
          go_loopg [4] kj5 (fun kq v4 w' => ∃ (x4_2 : Int), v4 = .int .i64 x4_2 ∧ Aside0 (calamuslaw03_ClusterAlone.l0 kq l0 t170 x4_2 = some r) ∧ Aside0 (kq ≤ kj5) ∧ Aside0 (Kd.R (Kd.int .i64) 3 w' w.heap.size (fun _ => True) v171 t170) ∧ Aside0 (Below w.heap.size w w'))
          case atStart => exact ⟨(0), (by first | rfl | (simp; done) | (simp [*]; done)), H', ⟨Nat.le_refl _⟩, ⟨by (with_reducible repeat (first | apply Kd.R_alloc | apply Kd.R_drewN | apply Kd.R_drew)); exact HO_3.out⟩, ⟨by repeat (first | (with_reducible first | exact HB.out | apply below_alloc | apply pw_below_drewN | apply below_drew1) | exact HB.out)⟩⟩
          case round =>
            clear H'
            try clear c1
            try clear p1
            try clear q1
            try clear hx1
            try clear qi1
            try clear c2
            try clear c2b0
            try clear c2b1
            try clear p2
            try clear c8
            try clear c8b0
            try clear c8b1
            try clear c9
            try clear c9b0
            try clear c9b1
            try clear c9b2
            try clear c10
            try clear c11
            try clear c11b0
            try clear c11b1
            try clear c13
            try clear hx173_0
            try clear p1
            try clear p173
            try clear p2
            try clear q1
            try clear q173
            obtain ⟨x4_2, rfl, HA, HK2, HO_3, HB⟩ := hrel
            cases gk with
            | zero => exact absurd HA.out (by simp [calamuslaw03_ClusterAlone.l0])
            | succ k2 =>
              have H := HA.out
              clear HA
              simp only [calamuslaw03_ClusterAlone.l0] at H
              by_cases c14 : x4_2 < (t170.length : Int)
              · rw [if_pos c14] at H
                have c14b0 : decide (x4_2 < (t170.length : Int)) = true := decide_eq_true c14
                clear c14
                have HC15 := Aside0.mk H
                clear H
                obtain ⟨Ao16, co16, eo16⟩ := Kd.R_slice HO_3.out
                subst eo16
                go_upto_if 40 with (fail)
                go_cut [5] (fun v5 wc => ∃ (kq : Nat) (x5_14 : Int), v5 = .int .i64 x5_14 ∧ Aside0 (calamuslaw03_ClusterAlone.j2 kq l0 t170 x4_2 x5_14 = some r) ∧ Aside0 (kq ≤ k2) ∧ Aside0 (Kd.R (Kd.int .i64) 3 wc w.heap.size (fun _ => True) (.slice Ao16 t170.length co16) t170) ∧ Aside0 (Below w.heap.size w wc))
                case first =>
                  have H := HC15.out
                  clear HC15
                  by_cases c17 : (wrap64 (x4_2 + 1)) < (t170.length : Int)
                  · rw [if_pos c17] at H
                    have c17b0 : decide ((wrap64 (x4_2 + 1)) < (t170.length : Int)) = true := decide_eq_true c17
                    clear c17
                    (first | rw [c17b0] | (simp only [i64_w, i32_w]; rw [c17b0]) | skip)
                    obtain ⟨ji18, hji18⟩ : ∃ j_ : Int, (wrap64 (x4_2 + 1)) = j_ := ⟨_, rfl⟩
                    replace H : (if 0 ≤ (ji18) then (calamuslaw03_ClusterAlone.j2 k2 l0 t170 x4_2 (rd t170 (ji18))) else (none)) = some r := by first | (rw [hji18] at H; exact H) | (simp only [hji18] at H ⊢; exact H)
                    (try rw [hji18] at c17b0)
                    have hji18w : (IntKind.i64.wrap (x4_2 + 1)) = ji18 := (i64_w _).trans hji18
                    by_cases c19 : 0 ≤ (ji18)
                    · rw [if_pos c19] at H
                      have c19b0 : decide (0 ≤ (ji18)) = true := decide_eq_true c19
                      clear c19
                      have H' := Aside0.mk H
                      clear H
                      have p175 : 0 ≤ ((ji18) : Int) := of_decide_eq_true (by first | (with_reducible assumption) | assumption)
                      have q175 : (ji18) < (t170.length : Int) := of_decide_eq_true (by first | (with_reducible assumption) | assumption)
                      obtain ⟨ad175, e175, hx175_0⟩ := Kd.at_int (Kd.R_reads' HO_3.out).2.2 (ji18) p175 q175
                      cases e175
                      replace p175 := eq_true p175
                      replace q175 := eq_true q175
                      go_wp2
                      go_meet
                      case rel => exact ⟨_, (rd t170 (ji18)), (by first | rfl | (simp; done) | (simp only [← hji18] <;> (first | rfl | simp)) | (simp [*]; done)), H', ⟨by have := HJ5.out; have := HK2.out; first | omega | exact Nat.le_refl _⟩, ⟨by (with_reducible repeat (first | apply Kd.R_alloc | apply Kd.R_drewN | apply Kd.R_drew)); exact HO_3.out⟩, ⟨by repeat (first | (with_reducible first | exact HB.out | apply below_alloc | apply pw_below_drewN | apply below_drew1) | exact HB.out)⟩⟩
                    · rw [if_neg c19] at H
                      exact absurd H (by simp)
                  · rw [if_neg c17] at H
                    have c17b0 : decide ((wrap64 (x4_2 + 1)) < (t170.length : Int)) = false := decide_eq_false c17
                    clear c17
                    (first | rw [c17b0] | (simp only [i64_w, i32_w]; rw [c17b0]) | skip)
                    have H' := Aside0.mk H
                    clear H
                    go_wp2
                    go_meet
                    case rel => exact ⟨_, ((l0.length : Int)), (by first | rfl | (simp; done) | (simp [*]; done)), H', ⟨by have := HJ5.out; have := HK2.out; first | omega | exact Nat.le_refl _⟩, ⟨by (with_reducible repeat (first | apply Kd.R_alloc | apply Kd.R_drewN | apply Kd.R_drew)); exact HO_3.out⟩, ⟨by repeat (first | (with_reducible first | exact HB.out | apply below_alloc | apply pw_below_drewN | apply below_drew1) | exact HB.out)⟩⟩
                case rest =>
                  clear HC15
                  try clear c1
                  try clear p1
                  try clear q1
                  try clear hx1
                  try clear qi1
                  try clear c2
                  try clear c2b0
                  try clear c2b1
                  try clear p2
                  try clear p6
                  try clear c8
                  try clear c8b0
                  try clear c8b1
                  try clear c9
                  try clear c9b0
                  try clear c9b1
                  try clear c9b2
                  try clear c10
                  try clear c11
                  try clear c11b0
                  try clear c11b1
                  try clear c13
                  try clear c14
                  try clear c14b0
                  try clear c17
                  try clear c17b0
                  try clear p17
                  try clear q17
                  try clear hx17
                  try clear qi17
                  try clear c19
                  try clear c19b0
                  try clear hx173_0
                  try clear hx175_0
                  try clear p1
                  try clear p173
                  try clear p175
                  try clear p2
                  try clear q1
                  try clear q173
                  try clear q175
                  obtain ⟨kq, x5_14, rfl, HA, HJ14, HO_3, HB⟩ := hcut
                  cases kq with
                  | zero => exact absurd HA.out (by simp [calamuslaw03_ClusterAlone.j2])
                  | succ kj14 =>
                    have H := HA.out
                    clear HA
                    simp only [calamuslaw03_ClusterAlone.j2] at H
                    have HC20 := Aside0.mk H
                    clear H
                    go_upto_region 12 with (fail)
                    go_cut [70] (fun v70 wc => ∃ (kq : Nat) (x70_19 : Bool), v70 = .bool x70_19 ∧ Aside0 (calamuslaw03_ClusterAlone.j3 kq l0 t170 x4_2 x5_14 x70_19 = some r) ∧ Aside0 (kq ≤ kj14) ∧ Aside0 (Kd.R (Kd.int .i64) 3 wc w.heap.size (fun _ => True) (.slice Ao16 t170.length co16) t170) ∧ Aside0 (Below w.heap.size w wc))
                    case first =>
                      have H := HC20.out
                      clear HC20
                      by_cases c21 : 0 ≤ x4_2
                      · rw [if_pos c21] at H
                        have c21b0 : decide (0 ≤ x4_2) = true := decide_eq_true c21
                        clear c21
                        (first | rw [c21b0] | (simp only [i64_w, i32_w]; rw [c21b0]) | skip)
                        by_cases c22 : x4_2 < (t170.length : Int)
                        · rw [if_pos c22] at H
                          have c22b0 : decide (x4_2 < (t170.length : Int)) = true := decide_eq_true c22
                          clear c22
                          by_cases c23 : x5_14 ≤ (rd t170 x4_2)
                          · rw [if_pos c23] at H
                            have c23b0 : decide (x5_14 ≤ (rd t170 x4_2)) = true := decide_eq_true c23
                            clear c23
                            have H' := Aside0.mk H
                            clear H
                            have p176 : 0 ≤ (x4_2 : Int) := of_decide_eq_true (by first | (with_reducible assumption) | assumption)
                            have q176 : x4_2 < (t170.length : Int) := of_decide_eq_true (by first | (with_reducible assumption) | assumption)
                            obtain ⟨ad176, e176, hx176_0⟩ := Kd.at_int (Kd.R_reads' HO_3.out).2.2 x4_2 p176 q176
                            cases e176
                            replace p176 := eq_true p176
                            replace q176 := eq_true q176
                            go_wp2
                            go_meet
                            case rel => exact ⟨_, (true), (by first | rfl | (simp; done) | (simp [*]; done)), H', ⟨by have := HJ5.out; have := HK2.out; have := HJ14.out; first | omega | exact Nat.le_refl _⟩, ⟨by (with_reducible repeat (first | apply Kd.R_alloc | apply Kd.R_drewN | apply Kd.R_drew)); exact HO_3.out⟩, ⟨by repeat (first | (with_reducible first | exact HB.out | apply below_alloc | apply pw_below_drewN | apply below_drew1) | exact HB.out)⟩⟩
                          · rw [if_neg c23] at H
                            have c23b0 : decide (x5_14 ≤ (rd t170 x4_2)) = false := decide_eq_false c23
                            clear c23
                            by_cases c24 : x5_14 > (l0.length : Int)
                            · rw [if_pos c24] at H
                              have c24b0 : decide ((l0.length : Int) < x5_14) = true := decide_eq_true c24
                              clear c24
                              have H' := Aside0.mk H
                              clear H
                              have p176 : 0 ≤ (x4_2 : Int) := of_decide_eq_true (by first | (with_reducible assumption) | assumption)
                              have q176 : x4_2 < (t170.length : Int) := of_decide_eq_true (by first | (with_reducible assumption) | assumption)
                              obtain ⟨ad176, e176, hx176_0⟩ := Kd.at_int (Kd.R_reads' HO_3.out).2.2 x4_2 p176 q176
                              cases e176
                              replace p176 := eq_true p176
                              replace q176 := eq_true q176
                              go_wp2
                              go_meet
                              case rel => exact ⟨_, (true), (by first | rfl | (simp; done) | (simp [*]; done)), H', ⟨by have := HJ5.out; have := HK2.out; have := HJ14.out; first | omega | exact Nat.le_refl _⟩, ⟨by (with_reducible repeat (first | apply Kd.R_alloc | apply Kd.R_drewN | apply Kd.R_drew)); exact HO_3.out⟩, ⟨by repeat (first | (with_reducible first | exact HB.out | apply below_alloc | apply pw_below_drewN | apply below_drew1) | exact HB.out)⟩⟩
                            · rw [if_neg c24] at H
                              have c24b0 : decide ((l0.length : Int) < x5_14) = false := decide_eq_false c24
                              clear c24
                              by_cases c25 : 0 ≤ (rd t170 x4_2)
                              · rw [if_pos c25] at H
                                have c25b0 := eq_true c25
                                have c25b1 : decide (0 ≤ (rd t170 x4_2)) = true := decide_eq_true c25
                                clear c25
                                by_cases c26 : (rd t170 x4_2) ≤ x5_14
                                · rw [if_pos c26] at H
                                  have c26b0 := eq_true c26
                                  have c26b1 : decide ((rd t170 x4_2) ≤ x5_14) = true := decide_eq_true c26
                                  clear c26
                                  by_cases c27 : x5_14 ≤ (l0.length : Int)
                                  · rw [if_pos c27] at H
                                    have c27b0 := eq_true c27
                                    have c27b1 : decide (x5_14 ≤ (l0.length : Int)) = true := decide_eq_true c27
                                    clear c27
                                    replace H := Option.bind_eq_some_iff.mp H
                                    obtain ⟨t179, A280, H⟩ := H
                                    replace H : ((calamuslaw03_same.f kj14 t179 (([0] : List Int))).bind fun t185 => (calamuslaw03_ClusterAlone.j3 kj14 l0 t170 x4_2 x5_14 (!t185))) = some r := H
                                    have A28 := Aside0.mk A280
                                    clear A280
                                    obtain ⟨y182, hy182⟩ : ∃ y_ : List Int, y_ = (([0] : List Int)) := ⟨_, rfl⟩
                                    replace H : ((calamuslaw03_same.f kj14 t179 y182).bind fun t185 => (calamuslaw03_ClusterAlone.j3 kj14 l0 t170 x4_2 x5_14 (!t185))) = some r := by first | (rw [hy182]; with_reducible exact H) | (have H2_ := (Option.bind_some _ _).symm.trans H; rw [hy182]; with_reducible exact H2_) | (have H2_ := (Option.bind_some _ _).symm.trans H; with_reducible exact H2_) | with_reducible exact H | (rw [hy182]; exact H) | exact H
                                    have Ny182 := Aside0.mk hy182
                                    clear hy182
                                    replace H := Option.bind_eq_some_iff.mp H
                                    obtain ⟨t185, A290, H⟩ := H
                                    replace H : (calamuslaw03_ClusterAlone.j3 kj14 l0 t170 x4_2 x5_14 (!t185)) = some r := H
                                    have A29 := Aside0.mk A290
                                    clear A290
                                    have H' := Aside0.mk H
                                    clear H
                                    have p176 : 0 ≤ (x4_2 : Int) := of_decide_eq_true (by first | (with_reducible assumption) | assumption)
                                    have q176 : x4_2 < (t170.length : Int) := of_decide_eq_true (by first | (with_reducible assumption) | assumption)
                                    obtain ⟨ad176, e176, hx176_0⟩ := Kd.at_int (Kd.R_reads' HO_3.out).2.2 x4_2 p176 q176
                                    cases e176
                                    replace p176 := eq_true p176
                                    replace q176 := eq_true q176
                                    have p177 : 0 ≤ (x4_2 : Int) := of_decide_eq_true (by first | (with_reducible assumption) | assumption)
                                    have q177 : x4_2 < (t170.length : Int) := of_decide_eq_true (by first | (with_reducible assumption) | assumption)
                                    obtain ⟨ad177, e177, hx177_0⟩ := Kd.at_int (Kd.R_reads' HO_3.out).2.2 x4_2 p177 q177
                                    obtain rfl : ad176 = ad177 := (by injection e177)
                                    replace p177 := eq_true p177
                                    replace q177 := eq_true q177
                                    obtain ⟨i030, hi030, _, hsz30, _⟩ := info_parts info21
                                    obtain ⟨A30, hcut30, hA30, hC30⟩ := print_mid_of (P := Tryd.prog) (Value.int .i32) 0 22 21 .i64 .i64 Tryd.underlying22 hi030 hsz30 A0 c0 l0 (rd t170 x4_2) x5_14 (of_decide_eq_true (by first | (with_reducible assumption) | assumption)) (by first | omega | exact of_decide_eq_true (by first | (with_reducible assumption) | assumption)) (of_decide_eq_true (by first | (with_reducible assumption) | assumption)) HC0.out
                                    have HR178 := Aside0.mk (Kd.C_of_reads (h1 := fun _ => rfl) (hA30 _ (Kd.reads_of_C HR0.out)))
                                    have HC178 := Aside0.mk hC30
                                    have HL30 := Aside0.mk (show (x5_14 : Int).toNat - ((rd t170 x4_2) : Int).toNat = ((l0.take (x5_14 : Int).toNat).drop ((rd t170 x4_2) : Int).toNat).length from by
                                      have g1 : x5_14 ≤ (l0.length : Int) := of_decide_eq_true (by first | (with_reducible assumption) | assumption)
                                      rw [List.length_drop, List.length_take]; omega)
                                    clear hA30 hC30 hi030 hsz30
                                    go_wp2_with (first | (go_at_call 23; rw [HL30.out]; (with_reducible refine (cluster_Bounds.calls _ _ ((l0.take (x5_14 : Int).toNat).drop ((rd t170 x4_2) : Int).toNat) t179 _ ?side1 ?side2 ?side3 A28.out).mono ?_); (case side1 => repeat (first | exact (Kd.C_below HR178.out HB.out) | (with_reducible refine Kd.C_alloc ?_ _) | (with_reducible refine Kd.C_drewN ?_ _) | (with_reducible refine Kd.C_drew ?_))); (case side2 => exact HC178.out); (case side3 => exact Glob.below HG.out (by repeat (first | (with_reducible first | exact HB.out | apply below_alloc | apply pw_below_drewN | apply below_drew1) | exact HB.out))); rintro e w31 ⟨v180, rfl, ho0, hb⟩; have n0_ := Aside0.mk (Kd.R_elder' (by (with_reducible repeat (first | apply Kd.R_alloc | apply Kd.R_drewN | apply Kd.R_drew)); exact HO_3.out) (Kd.R_base ho0) hb); have n1_ := Aside0.mk (Kd.R_lower (Kd.R_new' ho0 (Kd.R_lt (by (with_reducible repeat (first | apply Kd.R_alloc | apply Kd.R_drewN | apply Kd.R_drew)); exact HO_3.out))) (below_size (by repeat (first | (with_reducible first | exact HB.out | apply below_alloc | apply pw_below_drewN | apply below_drew1) | exact HB.out)))); have n2_ := Aside0.mk (below_step (by repeat (first | (with_reducible first | exact HB.out | apply below_alloc | apply pw_below_drewN | apply below_drew1) | exact HB.out)) hb); clear HO_3; clear HB; have HO_3 := n0_; have HO181 := n1_; have HB := n2_; clear n0_ n1_ n2_; (try clear hb); (try clear hb2); (try clear hk); (try clear hi); (try clear ho0)) | ((with_reducible refine gate_dst (N := 67) rfl ?_); (try (refine gate_guard (by rfl) ?_; dsimp only)); refine Kd.R_lit (Kd.int .i64) _ 3 ?hg (N := 67) ?hd (xs := ([0] : List Int)) (inner := [.int .i64 0]) (ok := fun _ => True) (okp := fun _ => True) ?hr ?hp (fun _ hk => hk) trivial (Below.refl _ _) (Nat.le_refl _) (by simp) ?_; (case hd => rfl); (case hg => rfl); (case hr => first | (go_simp; done) | (go_simp; rfl)); (case hp => exact (Reps.one (show Kd.M (Kd.int .i64) _ _ _ 0 [.int .i64 0] from rfl) (Reps.none _ _))); intro v183 w32 ho33 hb hg_ hnew_; clear hg_ hnew_; (first | rw [← Ny182.out] at ho33 | (simp only [Int.reduceToNat] at ho33; rw [← Ny182.out] at ho33)); have n0_ := Aside0.mk (Kd.R_elder' (by (with_reducible repeat (first | apply Kd.R_alloc | apply Kd.R_drewN | apply Kd.R_drew)); exact HO_3.out) (Kd.R_base ho33) hb); have n1_ := Aside0.mk (Kd.R_elder' (by (with_reducible repeat (first | apply Kd.R_alloc | apply Kd.R_drewN | apply Kd.R_drew)); exact HO181.out) (Kd.R_base ho33) hb); have n2_ := Aside0.mk (Kd.R_lower (Kd.R_new' (Kd.R_new' ho33 (Kd.R_lt (by (with_reducible repeat (first | apply Kd.R_alloc | apply Kd.R_drewN | apply Kd.R_drew)); exact HO_3.out))) (Kd.R_lt (by (with_reducible repeat (first | apply Kd.R_alloc | apply Kd.R_drewN | apply Kd.R_drew)); exact HO181.out))) (below_size (by repeat (first | (with_reducible first | exact HB.out | apply below_alloc | apply pw_below_drewN | apply below_drew1) | exact HB.out)))); have n3_ := Aside0.mk (below_step (by repeat (first | (with_reducible first | exact HB.out | apply below_alloc | apply pw_below_drewN | apply below_drew1) | exact HB.out)) hb); clear HO_3; clear HO181; clear HB; have HO_3 := n0_; have HO181 := n1_; have HO184 := n2_; have HB := n3_; clear n0_ n1_ n2_ n3_; clear hb ho33; obtain ⟨Ao34, co34, eo34⟩ := Kd.R_slice HO181.out; subst eo34; obtain ⟨Ao35, co35, eo35⟩ := Kd.R_slice HO184.out; subst eo35) | (go_at_call 24; (with_reducible refine (calamuslaw03_same.calls kj14 _ _ t179 _ _ y182 t185 _ ?side1 ?side2 ?side3 ?side4 A29.out).mono ?_); (case side1 => repeat (first | exact (Kd.R_reads' HO181.out).2.2 | (with_reducible refine Kd.C_alloc ?_ _) | (with_reducible refine Kd.C_drewN ?_ _) | (with_reducible refine Kd.C_drew ?_))); (case side2 => exact (Kd.R_reads' HO181.out).2.1); (case side3 => repeat (first | exact (Kd.R_reads' HO184.out).2.2 | (with_reducible refine Kd.C_alloc ?_ _) | (with_reducible refine Kd.C_drewN ?_ _) | (with_reducible refine Kd.C_drew ?_))); (case side4 => exact (Kd.R_reads' HO184.out).2.1); rintro e w' ⟨rfl, ⟨nd, rfl⟩⟩))
                                    go_meet
                                    case rel => exact ⟨_, (!t185), (by first | rfl | (simp; done) | (simp [*]; done)), H', ⟨by have := HJ5.out; have := HK2.out; have := HJ14.out; first | omega | exact Nat.le_refl _⟩, ⟨by (with_reducible repeat (first | apply Kd.R_alloc | apply Kd.R_drewN | apply Kd.R_drew)); exact Kd.R_mono HO_3.out (fun _ hk => trivial)⟩, ⟨by repeat (first | (with_reducible first | exact HB.out | apply below_alloc | apply pw_below_drewN | apply below_drew1) | exact HB.out)⟩⟩
                                  · rw [if_neg c27] at H
                                    exact absurd H (by simp)
                                · rw [if_neg c26] at H
                                  exact absurd H (by simp)
                              · rw [if_neg c25] at H
                                exact absurd H (by simp)
                        · rw [if_neg c22] at H
                          exact absurd H (by simp)
                      · rw [if_neg c21] at H
                        exact absurd H (by simp)
                    case rest =>
                      clear HC20
                      try clear c1
                      try clear p1
                      try clear q1
                      try clear hx1
                      try clear qi1
                      try clear c2
                      try clear c2b0
                      try clear c2b1
                      try clear p2
                      try clear p6
                      try clear c8
                      try clear c8b0
                      try clear c8b1
                      try clear c9
                      try clear c9b0
                      try clear c9b1
                      try clear c9b2
                      try clear c10
                      try clear c11
                      try clear c11b0
                      try clear c11b1
                      try clear c13
                      try clear c14
                      try clear c14b0
                      try clear c17
                      try clear c17b0
                      try clear p17
                      try clear q17
                      try clear hx17
                      try clear qi17
                      try clear c19
                      try clear c19b0
                      try clear c21
                      try clear c21b0
                      try clear c22
                      try clear c22b0
                      try clear c23
                      try clear c23b0
                      try clear c24
                      try clear c24b0
                      try clear c25
                      try clear c25b0
                      try clear c25b1
                      try clear c26
                      try clear c26b0
                      try clear c26b1
                      try clear c27
                      try clear c27b0
                      try clear c27b1
                      try clear hx173_0
                      try clear hx175_0
                      try clear hx176_0
                      try clear hx177_0
                      try clear p1
                      try clear p17
                      try clear p173
                      try clear p175
                      try clear p176
                      try clear p177
                      try clear p2
                      try clear p6
                      try clear q1
                      try clear q17
                      try clear q173
                      try clear q175
                      try clear q176
                      try clear q177
                      obtain ⟨kq, x70_19, rfl, HA, HJ19, HO_3, HB⟩ := hcut
                      cases kq with
                      | zero => exact absurd HA.out (by simp [calamuslaw03_ClusterAlone.j3])
                      | succ kj19 =>
                        have H := HA.out
                        clear HA
                        simp only [calamuslaw03_ClusterAlone.j3] at H
                        by_cases c36 : x70_19 = true
                        · subst c36
                          have H1 : (some false) = some r := by rw [if_pos rfl] at H; exact H
                          clear H
                          have H := H1
                          clear H1
                          obtain rfl := Option.some.inj H
                          go_wp2
                          go_ret
                          exact ⟨by first | rfl | (simp [errW_none, errW_some] <;> rfl) | (simp [*, errW_none, errW_some] <;> rfl), by repeat (first | (with_reducible first | exact HB.out | apply below_alloc | apply pw_below_drewN | apply below_drew1) | exact HB.out)⟩
                        · replace c36 := Bool.eq_false_iff.mpr c36
                          subst c36
                          have H1 : (if 0 ≤ x4_2 then (if x4_2 < (t170.length : Int) then (if 0 ≤ (rd t170 x4_2) then (if (rd t170 x4_2) < (l0.length : Int) then ((calamusref02_Cluster.f (rd l0 (rd t170 x4_2))).bind fun t188 => (if t188 = 4 then (if x4_2 > 0 then (if 0 ≤ (wrap64 ((rd t170 x4_2) - 1)) then (if (wrap64 ((rd t170 x4_2) - 1)) < (l0.length : Int) then ((calamusref02_Cluster.f (rd l0 (wrap64 ((rd t170 x4_2) - 1)))).bind fun t191 => ((calamuslaw03_ends.f t191).bind fun t192 => (calamuslaw03_ClusterAlone.j4 kj19 l0 t170 x4_2 x5_14 (!t192)))) else (none)) else (none)) else (calamuslaw03_ClusterAlone.j4 kj19 l0 t170 x4_2 x5_14 false)) else (if t188 = 5 then (if x4_2 > 0 then (if 0 ≤ (wrap64 ((rd t170 x4_2) - 1)) then (if (wrap64 ((rd t170 x4_2) - 1)) < (l0.length : Int) then ((calamusref02_Cluster.f (rd l0 (wrap64 ((rd t170 x4_2) - 1)))).bind fun t195 => ((calamuslaw03_ends.f t195).bind fun t196 => (calamuslaw03_ClusterAlone.j4 kj19 l0 t170 x4_2 x5_14 (!t196)))) else (none)) else (none)) else (calamuslaw03_ClusterAlone.j4 kj19 l0 t170 x4_2 x5_14 false)) else (calamuslaw03_ClusterAlone.j4 kj19 l0 t170 x4_2 x5_14 false)))) else (none)) else (none)) else (none)) else (none)) = some r := by rw [if_neg (show ¬ (false = true) by decide)] at H; exact H
                          clear H
                          have H := H1
                          clear H1
                          by_cases c37 : 0 ≤ x4_2
                          · rw [if_pos c37] at H
                            have c37b0 : decide (0 ≤ x4_2) = true := decide_eq_true c37
                            clear c37
                            by_cases c38 : x4_2 < (t170.length : Int)
                            · rw [if_pos c38] at H
                              have c38b0 : decide (x4_2 < (t170.length : Int)) = true := decide_eq_true c38
                              clear c38
                              by_cases c39 : 0 ≤ (rd t170 x4_2)
                              · rw [if_pos c39] at H
                                have c39b0 : decide (0 ≤ (rd t170 x4_2)) = true := decide_eq_true c39
                                clear c39
                                by_cases c40 : (rd t170 x4_2) < (l0.length : Int)
                                · rw [if_pos c40] at H
                                  have c40b0 : decide ((rd t170 x4_2) < (l0.length : Int)) = true := decide_eq_true c40
                                  clear c40
                                  replace H := Option.bind_eq_some_iff.mp H
                                  obtain ⟨t188, A410, H⟩ := H
                                  replace H : (if t188 = 4 then (if x4_2 > 0 then (if 0 ≤ (wrap64 ((rd t170 x4_2) - 1)) then (if (wrap64 ((rd t170 x4_2) - 1)) < (l0.length : Int) then ((calamusref02_Cluster.f (rd l0 (wrap64 ((rd t170 x4_2) - 1)))).bind fun t191 => ((calamuslaw03_ends.f t191).bind fun t192 => (calamuslaw03_ClusterAlone.j4 kj19 l0 t170 x4_2 x5_14 (!t192)))) else (none)) else (none)) else (calamuslaw03_ClusterAlone.j4 kj19 l0 t170 x4_2 x5_14 false)) else (if t188 = 5 then (if x4_2 > 0 then (if 0 ≤ (wrap64 ((rd t170 x4_2) - 1)) then (if (wrap64 ((rd t170 x4_2) - 1)) < (l0.length : Int) then ((calamusref02_Cluster.f (rd l0 (wrap64 ((rd t170 x4_2) - 1)))).bind fun t195 => ((calamuslaw03_ends.f t195).bind fun t196 => (calamuslaw03_ClusterAlone.j4 kj19 l0 t170 x4_2 x5_14 (!t196)))) else (none)) else (none)) else (calamuslaw03_ClusterAlone.j4 kj19 l0 t170 x4_2 x5_14 false)) else (calamuslaw03_ClusterAlone.j4 kj19 l0 t170 x4_2 x5_14 false))) = some r := H
                                  have A41 := Aside0.mk A410
                                  clear A410
                                  have HC42 := Aside0.mk H
                                  clear H
                                  have p186 : 0 ≤ (x4_2 : Int) := of_decide_eq_true (by first | (with_reducible assumption) | assumption)
                                  have q186 : x4_2 < (t170.length : Int) := of_decide_eq_true (by first | (with_reducible assumption) | assumption)
                                  obtain ⟨ad186, e186, hx186_0⟩ := Kd.at_int (Kd.R_reads' HO_3.out).2.2 x4_2 p186 q186
                                  cases e186
                                  replace p186 := eq_true p186
                                  replace q186 := eq_true q186
                                  have p187 : 0 ≤ ((rd t170 x4_2) : Int) := of_decide_eq_true (by first | (with_reducible assumption) | assumption)
                                  have q187 : (rd t170 x4_2) < (l0.length : Int) := of_decide_eq_true (by first | (with_reducible assumption) | assumption)
                                  obtain ⟨ad187, e187, hx187_0⟩ := Kd.at_int HR0.out (rd t170 x4_2) p187 q187
                                  cases e187
                                  replace hx187_0 := (HB.out.cell (World.block_lt_of_cell? w _ hx187_0)).trans hx187_0
                                  replace p187 := eq_true p187
                                  replace q187 := eq_true q187
                                  go_upto_region 15 with (first | ((with_reducible refine gate_callee (f := 27) rfl ?_); refine goesL_ (some 78) rfl rfl Tryd.func27 (by kernel_rfl) rfl #[.int .i32 (rd l0 (rd t170 x4_2))] rfl (by (try simp only [List.map_toArray, List.map_cons, List.map_nil]); first | done | rfl | (simp only [List.length_drop, List.length_take]; rfl)) ?_; (with_reducible refine (calamusref02_Cluster.calls (rd l0 (rd t170 x4_2)) t188 _ A41.out).mono ?_); rintro e w43 ⟨rfl, hb⟩; refine ⟨_, rfl, ?_⟩; have n0_ := Aside0.mk (Kd.R_below (by (with_reducible repeat (first | apply Kd.R_alloc | apply Kd.R_drewN | apply Kd.R_drew)); exact HO_3.out) hb); have n1_ := Aside0.mk (below_step (by repeat (first | (with_reducible first | exact HB.out | apply below_alloc | apply pw_below_drewN | apply below_drew1) | exact HB.out)) hb); clear HO_3; clear HB; have HO_3 := n0_; have HB := n1_; clear n0_ n1_; (try clear hb); (try clear hb2); (try clear hk); (try clear hi)))
                                  (try simp only [Act.put, List.setIfInBounds_toArray, List.set_cons_zero, List.set_cons_succ])
                                  go_cut [101] (fun v101 wc => ∃ (kq : Nat) (x101_41 : Bool), v101 = .bool x101_41 ∧ Aside0 (calamuslaw03_ClusterAlone.j4 kq l0 t170 x4_2 x5_14 x101_41 = some r) ∧ Aside0 (kq ≤ kj19) ∧ Aside0 (Kd.R (Kd.int .i64) 3 wc w.heap.size (fun _ => True) (.slice (some ad186) t170.length co16) t170) ∧ Aside0 (Below w.heap.size w wc))
                                  case first =>
                                    have H := HC42.out
                                    clear HC42
                                    by_cases c44 : t188 = 4
                                    · rw [if_pos c44] at H
                                      have c44b0 : (t188 == 4) = true := beq_iff_eq.mpr c44
                                      have c44b1 : (t188 != 4) = false := bne_eq_false_iff_eq.mpr c44
                                      clear c44
                                      (first | rw [c44b0] | (simp only [i64_w, i32_w]; rw [c44b0]) | skip)
                                      by_cases c45 : x4_2 > 0
                                      · rw [if_pos c45] at H
                                        have c45b0 : decide (0 < x4_2) = true := decide_eq_true c45
                                        clear c45
                                        obtain ⟨ji46, hji46⟩ : ∃ j_ : Int, (wrap64 ((rd t170 x4_2) - 1)) = j_ := ⟨_, rfl⟩
                                        replace H : (if 0 ≤ (ji46) then (if (ji46) < (l0.length : Int) then ((calamusref02_Cluster.f (rd l0 (ji46))).bind fun t191 => ((calamuslaw03_ends.f t191).bind fun t192 => (calamuslaw03_ClusterAlone.j4 kj19 l0 t170 x4_2 x5_14 (!t192)))) else (none)) else (none)) = some r := by first | (rw [hji46] at H; exact H) | (simp only [hji46] at H ⊢; exact H)
                                        have hji46w : (IntKind.i64.wrap ((rd t170 x4_2) - 1)) = ji46 := (i64_w _).trans hji46
                                        by_cases c47 : 0 ≤ (ji46)
                                        · rw [if_pos c47] at H
                                          have c47b0 : decide (0 ≤ (ji46)) = true := decide_eq_true c47
                                          clear c47
                                          by_cases c48 : (ji46) < (l0.length : Int)
                                          · rw [if_pos c48] at H
                                            have c48b0 : decide ((ji46) < (l0.length : Int)) = true := decide_eq_true c48
                                            clear c48
                                            replace H := Option.bind_eq_some_iff.mp H
                                            obtain ⟨t191, A490, H⟩ := H
                                            replace H : ((calamuslaw03_ends.f t191).bind fun t192 => (calamuslaw03_ClusterAlone.j4 kj19 l0 t170 x4_2 x5_14 (!t192))) = some r := H
                                            have A49 := Aside0.mk A490
                                            clear A490
                                            replace H := Option.bind_eq_some_iff.mp H
                                            obtain ⟨t192, A500, H⟩ := H
                                            replace H : (calamuslaw03_ClusterAlone.j4 kj19 l0 t170 x4_2 x5_14 (!t192)) = some r := H
                                            have A50 := Aside0.mk A500
                                            clear A500
                                            have H' := Aside0.mk H
                                            clear H
                                            have p189 : 0 ≤ (x4_2 : Int) := of_decide_eq_true (by first | (with_reducible assumption) | assumption)
                                            have q189 : x4_2 < (t170.length : Int) := of_decide_eq_true (by first | (with_reducible assumption) | assumption)
                                            obtain ⟨ad189, e189, hx189_0⟩ := Kd.at_int (Kd.R_reads' HO_3.out).2.2 x4_2 p189 q189
                                            obtain rfl : ad186 = ad189 := (by injection e189)
                                            replace p189 := eq_true p189
                                            replace q189 := eq_true q189
                                            have p190 : 0 ≤ ((ji46) : Int) := of_decide_eq_true (by first | (with_reducible assumption) | assumption)
                                            have q190 : (ji46) < (l0.length : Int) := of_decide_eq_true (by first | (with_reducible assumption) | assumption)
                                            obtain ⟨ad190, e190, hx190_0⟩ := Kd.at_int HR0.out (ji46) p190 q190
                                            obtain rfl : ad187 = ad190 := (by injection e190)
                                            replace hx190_0 := (HB.out.cell (World.block_lt_of_cell? w _ hx190_0)).trans hx190_0
                                            replace p190 := eq_true p190
                                            replace q190 := eq_true q190
                                            go_wp2_with (first | (go_at_call 27; (with_reducible refine (calamusref02_Cluster.calls (rd l0 (ji46)) t191 _ A49.out).mono ?_); rintro e w51 ⟨rfl, hb⟩; have n0_ := Aside0.mk (Kd.R_below (by (with_reducible repeat (first | apply Kd.R_alloc | apply Kd.R_drewN | apply Kd.R_drew)); exact HO_3.out) hb); have n1_ := Aside0.mk (below_step (by repeat (first | (with_reducible first | exact HB.out | apply below_alloc | apply pw_below_drewN | apply below_drew1) | exact HB.out)) hb); clear HO_3; clear HB; have HO_3 := n0_; have HB := n1_; clear n0_ n1_; (try clear hb); (try clear hb2); (try clear hk); (try clear hi)) | (go_at_call 28; (with_reducible refine (calamuslaw03_ends.calls t191 t192 _ A50.out).mono ?_); rintro e w' ⟨rfl, ⟨nd, rfl⟩⟩))
                                            go_meet
                                            case rel => exact ⟨_, (!t192), (by first | rfl | (simp; done) | (simp [*]; done)), H', ⟨by have := HJ5.out; have := HK2.out; have := HJ14.out; have := HJ19.out; first | omega | exact Nat.le_refl _⟩, ⟨by (with_reducible repeat (first | apply Kd.R_alloc | apply Kd.R_drewN | apply Kd.R_drew)); exact HO_3.out⟩, ⟨by repeat (first | (with_reducible first | exact HB.out | apply below_alloc | apply pw_below_drewN | apply below_drew1) | exact HB.out)⟩⟩
                                          · rw [if_neg c48] at H
                                            exact absurd H (by simp)
                                        · rw [if_neg c47] at H
                                          exact absurd H (by simp)
                                      · rw [if_neg c45] at H
                                        have c45b0 : decide (0 < x4_2) = false := decide_eq_false c45
                                        clear c45
                                        have H' := Aside0.mk H
                                        clear H
                                        go_wp2
                                        go_meet
                                        case rel => exact ⟨_, (false), (by first | rfl | (simp; done) | (simp [*]; done)), H', ⟨by have := HJ5.out; have := HK2.out; have := HJ14.out; have := HJ19.out; first | omega | exact Nat.le_refl _⟩, ⟨by (with_reducible repeat (first | apply Kd.R_alloc | apply Kd.R_drewN | apply Kd.R_drew)); exact HO_3.out⟩, ⟨by repeat (first | (with_reducible first | exact HB.out | apply below_alloc | apply pw_below_drewN | apply below_drew1) | exact HB.out)⟩⟩
                                    · rw [if_neg c44] at H
                                      have c44b0 : (t188 == 4) = false := beq_eq_false_iff_ne.mpr c44
                                      have c44b1 : (t188 != 4) = true := bne_iff_ne.mpr c44
                                      (first | rw [c44b0] | (simp only [i64_w, i32_w]; rw [c44b0]) | skip)
                                      by_cases c52 : t188 = 5
                                      · rw [if_pos c52] at H
                                        have c52b0 : (t188 == 5) = true := beq_iff_eq.mpr c52
                                        have c52b1 : (t188 != 5) = false := bne_eq_false_iff_eq.mpr c52
                                        clear c52
                                        by_cases c53 : x4_2 > 0
                                        · rw [if_pos c53] at H
                                          have c53b0 : decide (0 < x4_2) = true := decide_eq_true c53
                                          clear c53
                                          obtain ⟨ji54, hji54⟩ : ∃ j_ : Int, (wrap64 ((rd t170 x4_2) - 1)) = j_ := ⟨_, rfl⟩
                                          replace H : (if 0 ≤ (ji54) then (if (ji54) < (l0.length : Int) then ((calamusref02_Cluster.f (rd l0 (ji54))).bind fun t195 => ((calamuslaw03_ends.f t195).bind fun t196 => (calamuslaw03_ClusterAlone.j4 kj19 l0 t170 x4_2 x5_14 (!t196)))) else (none)) else (none)) = some r := by first | (rw [hji54] at H; exact H) | (simp only [hji54] at H ⊢; exact H)
                                          have hji54w : (IntKind.i64.wrap ((rd t170 x4_2) - 1)) = ji54 := (i64_w _).trans hji54
                                          by_cases c55 : 0 ≤ (ji54)
                                          · rw [if_pos c55] at H
                                            have c55b0 : decide (0 ≤ (ji54)) = true := decide_eq_true c55
                                            clear c55
                                            by_cases c56 : (ji54) < (l0.length : Int)
                                            · rw [if_pos c56] at H
                                              have c56b0 : decide ((ji54) < (l0.length : Int)) = true := decide_eq_true c56
                                              clear c56
                                              replace H := Option.bind_eq_some_iff.mp H
                                              obtain ⟨t195, A570, H⟩ := H
                                              replace H : ((calamuslaw03_ends.f t195).bind fun t196 => (calamuslaw03_ClusterAlone.j4 kj19 l0 t170 x4_2 x5_14 (!t196))) = some r := H
                                              have A57 := Aside0.mk A570
                                              clear A570
                                              replace H := Option.bind_eq_some_iff.mp H
                                              obtain ⟨t196, A580, H⟩ := H
                                              replace H : (calamuslaw03_ClusterAlone.j4 kj19 l0 t170 x4_2 x5_14 (!t196)) = some r := H
                                              have A58 := Aside0.mk A580
                                              clear A580
                                              have H' := Aside0.mk H
                                              clear H
                                              have p193 : 0 ≤ (x4_2 : Int) := of_decide_eq_true (by first | (with_reducible assumption) | assumption)
                                              have q193 : x4_2 < (t170.length : Int) := of_decide_eq_true (by first | (with_reducible assumption) | assumption)
                                              obtain ⟨ad193, e193, hx193_0⟩ := Kd.at_int (Kd.R_reads' HO_3.out).2.2 x4_2 p193 q193
                                              obtain rfl : ad186 = ad193 := (by injection e193)
                                              replace p193 := eq_true p193
                                              replace q193 := eq_true q193
                                              have p194 : 0 ≤ ((ji54) : Int) := of_decide_eq_true (by first | (with_reducible assumption) | assumption)
                                              have q194 : (ji54) < (l0.length : Int) := of_decide_eq_true (by first | (with_reducible assumption) | assumption)
                                              obtain ⟨ad194, e194, hx194_0⟩ := Kd.at_int HR0.out (ji54) p194 q194
                                              obtain rfl : ad187 = ad194 := (by injection e194)
                                              replace hx194_0 := (HB.out.cell (World.block_lt_of_cell? w _ hx194_0)).trans hx194_0
                                              replace p194 := eq_true p194
                                              replace q194 := eq_true q194
                                              go_wp2_with (first | (go_at_call 27; (with_reducible refine (calamusref02_Cluster.calls (rd l0 (ji54)) t195 _ A57.out).mono ?_); rintro e w59 ⟨rfl, hb⟩; have n0_ := Aside0.mk (Kd.R_below (by (with_reducible repeat (first | apply Kd.R_alloc | apply Kd.R_drewN | apply Kd.R_drew)); exact HO_3.out) hb); have n1_ := Aside0.mk (below_step (by repeat (first | (with_reducible first | exact HB.out | apply below_alloc | apply pw_below_drewN | apply below_drew1) | exact HB.out)) hb); clear HO_3; clear HB; have HO_3 := n0_; have HB := n1_; clear n0_ n1_; (try clear hb); (try clear hb2); (try clear hk); (try clear hi)) | (go_at_call 28; (with_reducible refine (calamuslaw03_ends.calls t195 t196 _ A58.out).mono ?_); rintro e w' ⟨rfl, ⟨nd, rfl⟩⟩))
                                              go_meet
                                              case rel => exact ⟨_, (!t196), (by first | rfl | (simp; done) | (simp [*]; done)), H', ⟨by have := HJ5.out; have := HK2.out; have := HJ14.out; have := HJ19.out; first | omega | exact Nat.le_refl _⟩, ⟨by (with_reducible repeat (first | apply Kd.R_alloc | apply Kd.R_drewN | apply Kd.R_drew)); exact HO_3.out⟩, ⟨by repeat (first | (with_reducible first | exact HB.out | apply below_alloc | apply pw_below_drewN | apply below_drew1) | exact HB.out)⟩⟩
                                            · rw [if_neg c56] at H
                                              exact absurd H (by simp)
                                          · rw [if_neg c55] at H
                                            exact absurd H (by simp)
                                        · rw [if_neg c53] at H
                                          have c53b0 : decide (0 < x4_2) = false := decide_eq_false c53
                                          clear c53
                                          have H' := Aside0.mk H
                                          clear H
                                          go_wp2
                                          go_meet
                                          case rel => exact ⟨_, (false), (by first | rfl | (simp; done) | (simp [*]; done)), H', ⟨by have := HJ5.out; have := HK2.out; have := HJ14.out; have := HJ19.out; first | omega | exact Nat.le_refl _⟩, ⟨by (with_reducible repeat (first | apply Kd.R_alloc | apply Kd.R_drewN | apply Kd.R_drew)); exact HO_3.out⟩, ⟨by repeat (first | (with_reducible first | exact HB.out | apply below_alloc | apply pw_below_drewN | apply below_drew1) | exact HB.out)⟩⟩
                                      · rw [if_neg c52] at H
                                        have c52b0 : (t188 == 5) = false := beq_eq_false_iff_ne.mpr c52
                                        have c52b1 : (t188 != 5) = true := bne_iff_ne.mpr c52
                                        have H' := Aside0.mk H
                                        clear H
                                        go_wp2
                                        go_meet
                                        case rel => exact ⟨_, (false), (by first | rfl | (simp; done) | (simp [*]; done)), H', ⟨by have := HJ5.out; have := HK2.out; have := HJ14.out; have := HJ19.out; first | omega | exact Nat.le_refl _⟩, ⟨by (with_reducible repeat (first | apply Kd.R_alloc | apply Kd.R_drewN | apply Kd.R_drew)); exact HO_3.out⟩, ⟨by repeat (first | (with_reducible first | exact HB.out | apply below_alloc | apply pw_below_drewN | apply below_drew1) | exact HB.out)⟩⟩
                                  case rest =>
                                    clear HC42
                                    try clear c1
                                    try clear p1
                                    try clear q1
                                    try clear hx1
                                    try clear qi1
                                    try clear c2
                                    try clear c2b0
                                    try clear c2b1
                                    try clear p2
                                    try clear c3
                                    try clear c4
                                    try clear c5
                                    try clear p6
                                    try clear c8
                                    try clear c8b0
                                    try clear c8b1
                                    try clear c9
                                    try clear c9b0
                                    try clear c9b1
                                    try clear c9b2
                                    try clear c10
                                    try clear c11
                                    try clear c11b0
                                    try clear c11b1
                                    try clear c13
                                    try clear c14
                                    try clear c14b0
                                    try clear c17
                                    try clear c17b0
                                    try clear p17
                                    try clear q17
                                    try clear hx17
                                    try clear qi17
                                    try clear p18
                                    try clear q18
                                    try clear hx18
                                    try clear c19
                                    try clear c19b0
                                    try clear p19
                                    try clear q19
                                    try clear hx19
                                    try clear c21
                                    try clear c21b0
                                    try clear c22
                                    try clear c22b0
                                    try clear c23
                                    try clear c23b0
                                    try clear c24
                                    try clear c24b0
                                    try clear c25
                                    try clear c25b0
                                    try clear c25b1
                                    try clear c26
                                    try clear c26b0
                                    try clear c26b1
                                    try clear c27
                                    try clear c27b0
                                    try clear c27b1
                                    try clear c36
                                    try clear c37
                                    try clear c37b0
                                    try clear c38
                                    try clear c38b0
                                    try clear c39
                                    try clear c39b0
                                    try clear c40
                                    try clear c40b0
                                    try clear c44
                                    try clear c44b0
                                    try clear c44b1
                                    try clear c45
                                    try clear c45b0
                                    try clear c47
                                    try clear c47b0
                                    try clear c48
                                    try clear c48b0
                                    try clear c52
                                    try clear c52b0
                                    try clear c52b1
                                    try clear c53
                                    try clear c53b0
                                    try clear c55
                                    try clear c55b0
                                    try clear c56
                                    try clear c56b0
                                    try clear hx173_0
                                    try clear hx175_0
                                    try clear hx176_0
                                    try clear hx177_0
                                    try clear hx186_0
                                    try clear hx187_0
                                    try clear hx189_0
                                    try clear hx190_0
                                    try clear hx193_0
                                    try clear hx194_0
                                    try clear p1
                                    try clear p17
                                    try clear p173
                                    try clear p175
                                    try clear p176
                                    try clear p177
                                    try clear p186
                                    try clear p187
                                    try clear p189
                                    try clear p190
                                    try clear p193
                                    try clear p194
                                    try clear p2
                                    try clear p6
                                    try clear q1
                                    try clear q17
                                    try clear q173
                                    try clear q175
                                    try clear q176
                                    try clear q177
                                    try clear q186
                                    try clear q187
                                    try clear q189
                                    try clear q190
                                    try clear q193
                                    try clear q194
                                    obtain ⟨kq, x101_41, rfl, HA, HJ41, HO_3, HB⟩ := hcut
                                    cases kq with
                                    | zero => exact absurd HA.out (by simp [calamuslaw03_ClusterAlone.j4])
                                    | succ kj41 =>
                                      have H := HA.out
                                      clear HA
                                      simp only [calamuslaw03_ClusterAlone.j4] at H
                                      by_cases c60 : x101_41 = true
                                      · subst c60
                                        have H1 : (some false) = some r := by rw [if_pos rfl] at H; exact H
                                        clear H
                                        have H := H1
                                        clear H1
                                        obtain rfl := Option.some.inj H
                                        go_wp2
                                        go_ret
                                        exact ⟨by first | rfl | (simp [errW_none, errW_some] <;> rfl) | (simp [*, errW_none, errW_some] <;> rfl), by repeat (first | (with_reducible first | exact HB.out | apply below_alloc | apply pw_below_drewN | apply below_drew1) | exact HB.out)⟩
                                      · replace c60 := Bool.eq_false_iff.mpr c60
                                        subst c60
                                        have H1 : (if 0 ≤ x4_2 then (if x4_2 < (t170.length : Int) then (calamuslaw03_ClusterAlone.l1 kj41 l0 t170 x4_2 x5_14 (rd t170 x4_2)) else (none)) else (none)) = some r := by rw [if_neg (show ¬ (false = true) by decide)] at H; exact H
                                        clear H
                                        have H := H1
                                        clear H1
                                        by_cases c61 : 0 ≤ x4_2
                                        · rw [if_pos c61] at H
                                          have c61b0 : decide (0 ≤ x4_2) = true := decide_eq_true c61
                                          clear c61
                                          by_cases c62 : x4_2 < (t170.length : Int)
                                          · rw [if_pos c62] at H
                                            have c62b0 : decide (x4_2 < (t170.length : Int)) = true := decide_eq_true c62
                                            clear c62
                                            have H' := Aside0.mk H
                                            clear H
                                            have p197 : 0 ≤ (x4_2 : Int) := of_decide_eq_true (by first | (with_reducible assumption) | assumption)
                                            have q197 : x4_2 < (t170.length : Int) := of_decide_eq_true (by first | (with_reducible assumption) | assumption)
                                            obtain ⟨ad197, e197, hx197_0⟩ := Kd.at_int (Kd.R_reads' HO_3.out).2.2 x4_2 p197 q197
                                            obtain rfl : ad186 = ad197 := (by injection e197)
                                            replace p197 := eq_true p197
                                            replace q197 := eq_true q197
                                            go_wp2
                                            go_loopg [7] kj41 (fun kq v7 w' => ∃ (x7_6 : Int), v7 = .int .i64 x7_6 ∧ Aside0 (calamuslaw03_ClusterAlone.l1 kq l0 t170 x4_2 x5_14 x7_6 = some r) ∧ Aside0 (kq ≤ kj41) ∧ Aside0 (Kd.R (Kd.int .i64) 3 w' w.heap.size (fun _ => True) (.slice (some ad186) t170.length co16) t170) ∧ Aside0 (Below w.heap.size w w'))
                                            case atStart => exact ⟨(rd t170 x4_2), (by first | rfl | (simp; done) | (simp [*]; done)), H', ⟨Nat.le_refl _⟩, ⟨by (with_reducible repeat (first | apply Kd.R_alloc | apply Kd.R_drewN | apply Kd.R_drew)); exact HO_3.out⟩, ⟨by repeat (first | (with_reducible first | exact HB.out | apply below_alloc | apply pw_below_drewN | apply below_drew1) | exact HB.out)⟩⟩
                                            case round =>
                                              clear H'
                                              try clear c1
                                              try clear p1
                                              try clear q1
                                              try clear hx1
                                              try clear qi1
                                              try clear c2
                                              try clear c2b0
                                              try clear c2b1
                                              try clear p2
                                              try clear c3
                                              try clear c4
                                              try clear c5
                                              try clear c6
                                              try clear p6
                                              try clear c8
                                              try clear c8b0
                                              try clear c8b1
                                              try clear c9
                                              try clear c9b0
                                              try clear c9b1
                                              try clear c9b2
                                              try clear c10
                                              try clear c11
                                              try clear c11b0
                                              try clear c11b1
                                              try clear c13
                                              try clear c14
                                              try clear c14b0
                                              try clear c17
                                              try clear c17b0
                                              try clear p17
                                              try clear q17
                                              try clear hx17
                                              try clear qi17
                                              try clear p18
                                              try clear q18
                                              try clear hx18
                                              try clear c19
                                              try clear c19b0
                                              try clear p19
                                              try clear q19
                                              try clear hx19
                                              try clear c21
                                              try clear c21b0
                                              try clear c22
                                              try clear c22b0
                                              try clear c23
                                              try clear c23b0
                                              try clear c24
                                              try clear c24b0
                                              try clear c25
                                              try clear c25b0
                                              try clear c25b1
                                              try clear c26
                                              try clear c26b0
                                              try clear c26b1
                                              try clear c27
                                              try clear c27b0
                                              try clear c27b1
                                              try clear c36
                                              try clear c37
                                              try clear c37b0
                                              try clear c38
                                              try clear c38b0
                                              try clear c39
                                              try clear c39b0
                                              try clear c40
                                              try clear c40b0
                                              try clear c44
                                              try clear c44b0
                                              try clear c44b1
                                              try clear c45
                                              try clear c45b0
                                              try clear c47
                                              try clear c47b0
                                              try clear c48
                                              try clear c48b0
                                              try clear c52
                                              try clear c52b0
                                              try clear c52b1
                                              try clear c53
                                              try clear c53b0
                                              try clear c55
                                              try clear c55b0
                                              try clear c56
                                              try clear c56b0
                                              try clear c60
                                              try clear c61
                                              try clear c61b0
                                              try clear c62
                                              try clear c62b0
                                              try clear hx173_0
                                              try clear hx175_0
                                              try clear hx176_0
                                              try clear hx177_0
                                              try clear hx186_0
                                              try clear hx187_0
                                              try clear hx189_0
                                              try clear hx190_0
                                              try clear hx193_0
                                              try clear hx194_0
                                              try clear hx197_0
                                              try clear p1
                                              try clear p17
                                              try clear p173
                                              try clear p175
                                              try clear p176
                                              try clear p177
                                              try clear p18
                                              try clear p186
                                              try clear p187
                                              try clear p189
                                              try clear p19
                                              try clear p190
                                              try clear p193
                                              try clear p194
                                              try clear p197
                                              try clear p2
                                              try clear p6
                                              try clear q1
                                              try clear q17
                                              try clear q173
                                              try clear q175
                                              try clear q176
                                              try clear q177
                                              try clear q18
                                              try clear q186
                                              try clear q187
                                              try clear q189
                                              try clear q19
                                              try clear q190
                                              try clear q193
                                              try clear q194
                                              try clear q197
                                              obtain ⟨x7_6, rfl, HA, HK6, HO_3, HB⟩ := hrel
                                              cases gk with
                                              | zero => exact absurd HA.out (by simp [calamuslaw03_ClusterAlone.l1])
                                              | succ k6 =>
                                                have H := HA.out
                                                clear HA
                                                simp only [calamuslaw03_ClusterAlone.l1] at H
                                                by_cases c63 : x7_6 < x5_14
                                                · rw [if_pos c63] at H
                                                  have c63b0 : decide (x7_6 < x5_14) = true := decide_eq_true c63
                                                  clear c63
                                                  by_cases c64 : 0 ≤ x7_6
                                                  · rw [if_pos c64] at H
                                                    have c64b0 : decide (0 ≤ x7_6) = true := decide_eq_true c64
                                                    clear c64
                                                    by_cases c65 : x7_6 < (l0.length : Int)
                                                    · rw [if_pos c65] at H
                                                      have c65b0 : decide (x7_6 < (l0.length : Int)) = true := decide_eq_true c65
                                                      clear c65
                                                      replace H := Option.bind_eq_some_iff.mp H
                                                      obtain ⟨t199, A660, H⟩ := H
                                                      replace H : ((calamuslaw03_ends.f t199).bind fun t200 => (if t200 = true then (if 0 ≤ x4_2 then (if x4_2 < (t170.length : Int) then (if (wrap64 (x5_14 - (rd t170 x4_2))) > 1 then (if (wrap64 (x5_14 - (rd t170 x4_2))) = 2 then (if 0 ≤ (rd t170 x4_2) then (if (rd t170 x4_2) < (l0.length : Int) then ((calamusref02_Cluster.f (rd l0 (rd t170 x4_2))).bind fun t205 => (if t205 = 1 then (if 0 ≤ (wrap64 (x5_14 - 1)) then (if (wrap64 (x5_14 - 1)) < (l0.length : Int) then ((calamusref02_Cluster.f (rd l0 (wrap64 (x5_14 - 1)))).bind fun t207 => (if t207 = 2 then (calamuslaw03_ClusterAlone.l1 k6 l0 t170 x4_2 x5_14 (wrap64 (x7_6 + 1))) else (some false))) else (none)) else (none)) else (some false))) else (none)) else (none)) else (some false)) else (calamuslaw03_ClusterAlone.l1 k6 l0 t170 x4_2 x5_14 (wrap64 (x7_6 + 1)))) else (none)) else (none)) else (calamuslaw03_ClusterAlone.l1 k6 l0 t170 x4_2 x5_14 (wrap64 (x7_6 + 1))))) = some r := H
                                                      have A66 := Aside0.mk A660
                                                      clear A660
                                                      replace H := Option.bind_eq_some_iff.mp H
                                                      obtain ⟨t200, A670, H⟩ := H
                                                      replace H : (if t200 = true then (if 0 ≤ x4_2 then (if x4_2 < (t170.length : Int) then (if (wrap64 (x5_14 - (rd t170 x4_2))) > 1 then (if (wrap64 (x5_14 - (rd t170 x4_2))) = 2 then (if 0 ≤ (rd t170 x4_2) then (if (rd t170 x4_2) < (l0.length : Int) then ((calamusref02_Cluster.f (rd l0 (rd t170 x4_2))).bind fun t205 => (if t205 = 1 then (if 0 ≤ (wrap64 (x5_14 - 1)) then (if (wrap64 (x5_14 - 1)) < (l0.length : Int) then ((calamusref02_Cluster.f (rd l0 (wrap64 (x5_14 - 1)))).bind fun t207 => (if t207 = 2 then (calamuslaw03_ClusterAlone.l1 k6 l0 t170 x4_2 x5_14 (wrap64 (x7_6 + 1))) else (some false))) else (none)) else (none)) else (some false))) else (none)) else (none)) else (some false)) else (calamuslaw03_ClusterAlone.l1 k6 l0 t170 x4_2 x5_14 (wrap64 (x7_6 + 1)))) else (none)) else (none)) else (calamuslaw03_ClusterAlone.l1 k6 l0 t170 x4_2 x5_14 (wrap64 (x7_6 + 1)))) = some r := H
                                                      have A67 := Aside0.mk A670
                                                      clear A670
                                                      by_cases c68 : t200 = true
                                                      · subst c68
                                                        have H1 : (if 0 ≤ x4_2 then (if x4_2 < (t170.length : Int) then (if (wrap64 (x5_14 - (rd t170 x4_2))) > 1 then (if (wrap64 (x5_14 - (rd t170 x4_2))) = 2 then (if 0 ≤ (rd t170 x4_2) then (if (rd t170 x4_2) < (l0.length : Int) then ((calamusref02_Cluster.f (rd l0 (rd t170 x4_2))).bind fun t205 => (if t205 = 1 then (if 0 ≤ (wrap64 (x5_14 - 1)) then (if (wrap64 (x5_14 - 1)) < (l0.length : Int) then ((calamusref02_Cluster.f (rd l0 (wrap64 (x5_14 - 1)))).bind fun t207 => (if t207 = 2 then (calamuslaw03_ClusterAlone.l1 k6 l0 t170 x4_2 x5_14 (wrap64 (x7_6 + 1))) else (some false))) else (none)) else (none)) else (some false))) else (none)) else (none)) else (some false)) else (calamuslaw03_ClusterAlone.l1 k6 l0 t170 x4_2 x5_14 (wrap64 (x7_6 + 1)))) else (none)) else (none)) = some r := by rw [if_pos rfl] at H; exact H
                                                        clear H
                                                        have H := H1
                                                        clear H1
                                                        by_cases c69 : 0 ≤ x4_2
                                                        · rw [if_pos c69] at H
                                                          have c69b0 : decide (0 ≤ x4_2) = true := decide_eq_true c69
                                                          clear c69
                                                          by_cases c70 : x4_2 < (t170.length : Int)
                                                          · rw [if_pos c70] at H
                                                            have c70b0 : decide (x4_2 < (t170.length : Int)) = true := decide_eq_true c70
                                                            clear c70
                                                            by_cases c71 : (wrap64 (x5_14 - (rd t170 x4_2))) > 1
                                                            · rw [if_pos c71] at H
                                                              have c71b0 : decide (1 < (wrap64 (x5_14 - (rd t170 x4_2)))) = true := decide_eq_true c71
                                                              clear c71
                                                              by_cases c72 : (wrap64 (x5_14 - (rd t170 x4_2))) = 2
                                                              · rw [if_pos c72] at H
                                                                have c72b0 : ((wrap64 (x5_14 - (rd t170 x4_2))) == 2) = true := beq_iff_eq.mpr c72
                                                                have c72b1 : ((wrap64 (x5_14 - (rd t170 x4_2))) != 2) = false := bne_eq_false_iff_eq.mpr c72
                                                                clear c72
                                                                by_cases c73 : 0 ≤ (rd t170 x4_2)
                                                                · rw [if_pos c73] at H
                                                                  have c73b0 : decide (0 ≤ (rd t170 x4_2)) = true := decide_eq_true c73
                                                                  clear c73
                                                                  by_cases c74 : (rd t170 x4_2) < (l0.length : Int)
                                                                  · rw [if_pos c74] at H
                                                                    have c74b0 : decide ((rd t170 x4_2) < (l0.length : Int)) = true := decide_eq_true c74
                                                                    clear c74
                                                                    replace H := Option.bind_eq_some_iff.mp H
                                                                    obtain ⟨t205, A750, H⟩ := H
                                                                    replace H : (if t205 = 1 then (if 0 ≤ (wrap64 (x5_14 - 1)) then (if (wrap64 (x5_14 - 1)) < (l0.length : Int) then ((calamusref02_Cluster.f (rd l0 (wrap64 (x5_14 - 1)))).bind fun t207 => (if t207 = 2 then (calamuslaw03_ClusterAlone.l1 k6 l0 t170 x4_2 x5_14 (wrap64 (x7_6 + 1))) else (some false))) else (none)) else (none)) else (some false)) = some r := H
                                                                    have A75 := Aside0.mk A750
                                                                    clear A750
                                                                    by_cases c76 : t205 = 1
                                                                    · rw [if_pos c76] at H
                                                                      have c76b0 : (t205 == 1) = true := beq_iff_eq.mpr c76
                                                                      have c76b1 : (t205 != 1) = false := bne_eq_false_iff_eq.mpr c76
                                                                      clear c76
                                                                      obtain ⟨ji77, hji77⟩ : ∃ j_ : Int, (wrap64 (x5_14 - 1)) = j_ := ⟨_, rfl⟩
                                                                      replace H : (if 0 ≤ (ji77) then (if (ji77) < (l0.length : Int) then ((calamusref02_Cluster.f (rd l0 (ji77))).bind fun t207 => (if t207 = 2 then (calamuslaw03_ClusterAlone.l1 k6 l0 t170 x4_2 x5_14 (wrap64 (x7_6 + 1))) else (some false))) else (none)) else (none)) = some r := by first | (rw [hji77] at H; exact H) | (simp only [hji77] at H ⊢; exact H)
                                                                      (try rw [hji77] at A66)
                                                                      (try rw [hji77] at A67)
                                                                      (try rw [hji77] at A75)
                                                                      have hji77w : (IntKind.i64.wrap (x5_14 - 1)) = ji77 := (i64_w _).trans hji77
                                                                      by_cases c78 : 0 ≤ (ji77)
                                                                      · rw [if_pos c78] at H
                                                                        have c78b0 : decide (0 ≤ (ji77)) = true := decide_eq_true c78
                                                                        clear c78
                                                                        by_cases c79 : (ji77) < (l0.length : Int)
                                                                        · rw [if_pos c79] at H
                                                                          have c79b0 : decide ((ji77) < (l0.length : Int)) = true := decide_eq_true c79
                                                                          clear c79
                                                                          replace H := Option.bind_eq_some_iff.mp H
                                                                          obtain ⟨t207, A800, H⟩ := H
                                                                          replace H : (if t207 = 2 then (calamuslaw03_ClusterAlone.l1 k6 l0 t170 x4_2 x5_14 (wrap64 (x7_6 + 1))) else (some false)) = some r := H
                                                                          have A80 := Aside0.mk A800
                                                                          clear A800
                                                                          by_cases c81 : t207 = 2
                                                                          · rw [if_pos c81] at H
                                                                            have c81b0 : (t207 == 2) = true := beq_iff_eq.mpr c81
                                                                            have c81b1 : (t207 != 2) = false := bne_eq_false_iff_eq.mpr c81
                                                                            clear c81
                                                                            have H' := Aside0.mk H
                                                                            clear H
                                                                            have p198 : 0 ≤ (x7_6 : Int) := of_decide_eq_true (by first | (with_reducible assumption) | assumption)
                                                                            have q198 : x7_6 < (l0.length : Int) := of_decide_eq_true (by first | (with_reducible assumption) | assumption)
                                                                            obtain ⟨ad198, e198, hx198_0⟩ := Kd.at_int HR0.out x7_6 p198 q198
                                                                            obtain rfl : ad187 = ad198 := (by injection e198)
                                                                            replace hx198_0 := (HB.out.cell (World.block_lt_of_cell? w _ hx198_0)).trans hx198_0
                                                                            replace p198 := eq_true p198
                                                                            replace q198 := eq_true q198
                                                                            go_wp2_with (first | ((with_reducible refine gate_callee (f := 27) rfl ?_); refine goesL_ (some 115) rfl rfl Tryd.func27 (by kernel_rfl) rfl #[.int .i32 (rd l0 x7_6)] rfl (by (try simp only [List.map_toArray, List.map_cons, List.map_nil]); first | done | rfl | (simp only [List.length_drop, List.length_take]; rfl)) ?_; (with_reducible refine (calamusref02_Cluster.calls (rd l0 x7_6) t199 _ A66.out).mono ?_); rintro e w82 ⟨rfl, hb⟩; refine ⟨_, rfl, ?_⟩; have n0_ := Aside0.mk (Kd.R_below (by (with_reducible repeat (first | apply Kd.R_alloc | apply Kd.R_drewN | apply Kd.R_drew)); exact HO_3.out) hb); have n1_ := Aside0.mk (below_step (by repeat (first | (with_reducible first | exact HB.out | apply below_alloc | apply pw_below_drewN | apply below_drew1) | exact HB.out)) hb); clear HO_3; clear HB; have HO_3 := n0_; have HB := n1_; clear n0_ n1_; (try clear hb); (try clear hb2); (try clear hk); (try clear hi)) | ((with_reducible refine gate_callee (f := 28) rfl ?_); refine goesL_ (some 116) rfl rfl Tryd.func28 (by kernel_rfl) rfl #[.int .u8 t199] rfl (by (try simp only [List.map_toArray, List.map_cons, List.map_nil]); first | done | rfl | (simp only [List.length_drop, List.length_take]; rfl)) ?_; (with_reducible refine (calamuslaw03_ends.calls t199 true _ A67.out).mono ?_); rintro e w' ⟨rfl, ⟨nd, rfl⟩⟩; refine ⟨_, rfl, ?_⟩; have p201 : 0 ≤ (x4_2 : Int) := of_decide_eq_true (by first | (with_reducible assumption) | assumption); have q201 : x4_2 < (t170.length : Int) := of_decide_eq_true (by first | (with_reducible assumption) | assumption); obtain ⟨ad201, e201, hx201_0⟩ := Kd.at_int (Kd.R_reads' HO_3.out).2.2 x4_2 p201 q201; obtain rfl : ad186 = ad201 := (by injection e201); replace p201 := eq_true p201; replace q201 := eq_true q201; have p202 : 0 ≤ (x4_2 : Int) := of_decide_eq_true (by first | (with_reducible assumption) | assumption); have q202 : x4_2 < (t170.length : Int) := of_decide_eq_true (by first | (with_reducible assumption) | assumption); obtain ⟨ad202, e202, hx202_0⟩ := Kd.at_int (Kd.R_reads' HO_3.out).2.2 x4_2 p202 q202; obtain rfl : ad186 = ad202 := (by injection e202); replace p202 := eq_true p202; replace q202 := eq_true q202; have p203 : 0 ≤ (x4_2 : Int) := of_decide_eq_true (by first | (with_reducible assumption) | assumption); have q203 : x4_2 < (t170.length : Int) := of_decide_eq_true (by first | (with_reducible assumption) | assumption); obtain ⟨ad203, e203, hx203_0⟩ := Kd.at_int (Kd.R_reads' HO_3.out).2.2 x4_2 p203 q203; obtain rfl : ad186 = ad203 := (by injection e203); replace p203 := eq_true p203; replace q203 := eq_true q203; have p204 : 0 ≤ ((rd t170 x4_2) : Int) := of_decide_eq_true (by first | (with_reducible assumption) | assumption); have q204 : (rd t170 x4_2) < (l0.length : Int) := of_decide_eq_true (by first | (with_reducible assumption) | assumption); obtain ⟨ad204, e204, hx204_0⟩ := Kd.at_int HR0.out (rd t170 x4_2) p204 q204; obtain rfl : ad187 = ad204 := (by injection e204); replace hx204_0 := (HB.out.cell (World.block_lt_of_cell? w _ hx204_0)).trans hx204_0; replace p204 := eq_true p204; replace q204 := eq_true q204) | (go_at_call 27; (with_reducible refine (calamusref02_Cluster.calls (rd l0 (rd t170 x4_2)) t205 _ A75.out).mono ?_); rintro e w83 ⟨rfl, hb⟩; have n0_ := Aside0.mk (Kd.R_below (by (with_reducible repeat (first | apply Kd.R_alloc | apply Kd.R_drewN | apply Kd.R_drew)); exact HO_3.out) hb); have n1_ := Aside0.mk (below_step (by repeat (first | (with_reducible first | exact HB.out | apply below_alloc | apply pw_below_drewN | apply below_drew1) | exact HB.out)) hb); clear HO_3; clear HB; have HO_3 := n0_; have HB := n1_; clear n0_ n1_; (try clear hb); (try clear hb2); (try clear hk); (try clear hi); have p206 : 0 ≤ ((ji77) : Int) := of_decide_eq_true (by first | (with_reducible assumption) | assumption); have q206 : (ji77) < (l0.length : Int) := of_decide_eq_true (by first | (with_reducible assumption) | assumption); obtain ⟨ad206, e206, hx206_0⟩ := Kd.at_int HR0.out (ji77) p206 q206; obtain rfl : ad187 = ad206 := (by injection e206); replace hx206_0 := (HB.out.cell (World.block_lt_of_cell? w _ hx206_0)).trans hx206_0; replace p206 := eq_true p206; replace q206 := eq_true q206) | (go_at_call 27; (with_reducible refine (calamusref02_Cluster.calls (rd l0 (ji77)) t207 _ A80.out).mono ?_); rintro e w84 ⟨rfl, hb⟩; have n0_ := Aside0.mk (Kd.R_below (by (with_reducible repeat (first | apply Kd.R_alloc | apply Kd.R_drewN | apply Kd.R_drew)); exact HO_3.out) hb); have n1_ := Aside0.mk (below_step (by repeat (first | (with_reducible first | exact HB.out | apply below_alloc | apply pw_below_drewN | apply below_drew1) | exact HB.out)) hb); clear HO_3; clear HB; have HO_3 := n0_; have HB := n1_; clear n0_ n1_; (try clear hb); (try clear hb2); (try clear hk); (try clear hi)))
                                                                            go_roundg k6
                                                                            case measure => have := HJ5.out; have := HK2.out; have := HJ14.out; have := HJ19.out; have := HJ41.out; have := HK6.out; omega
                                                                            case rel => exact ⟨(wrap64 (x7_6 + 1)), (by first | rfl | (simp; done) | (simp [*]; done)), H', ⟨by have := HJ5.out; have := HK2.out; have := HJ14.out; have := HJ19.out; have := HJ41.out; have := HK6.out; omega⟩, ⟨by (with_reducible repeat (first | apply Kd.R_alloc | apply Kd.R_drewN | apply Kd.R_drew)); exact HO_3.out⟩, ⟨by repeat (first | (with_reducible first | exact HB.out | apply below_alloc | apply pw_below_drewN | apply below_drew1) | exact HB.out)⟩⟩
                                                                          · rw [if_neg c81] at H
                                                                            have c81b0 : (t207 == 2) = false := beq_eq_false_iff_ne.mpr c81
                                                                            have c81b1 : (t207 != 2) = true := bne_iff_ne.mpr c81
                                                                            obtain rfl := Option.some.inj H
                                                                            have p198 : 0 ≤ (x7_6 : Int) := of_decide_eq_true (by first | (with_reducible assumption) | assumption)
                                                                            have q198 : x7_6 < (l0.length : Int) := of_decide_eq_true (by first | (with_reducible assumption) | assumption)
                                                                            obtain ⟨ad198, e198, hx198_0⟩ := Kd.at_int HR0.out x7_6 p198 q198
                                                                            obtain rfl : ad187 = ad198 := (by injection e198)
                                                                            replace hx198_0 := (HB.out.cell (World.block_lt_of_cell? w _ hx198_0)).trans hx198_0
                                                                            replace p198 := eq_true p198
                                                                            replace q198 := eq_true q198
                                                                            go_wp2_with (first | ((with_reducible refine gate_callee (f := 27) rfl ?_); refine goesL_ (some 115) rfl rfl Tryd.func27 (by kernel_rfl) rfl #[.int .i32 (rd l0 x7_6)] rfl (by (try simp only [List.map_toArray, List.map_cons, List.map_nil]); first | done | rfl | (simp only [List.length_drop, List.length_take]; rfl)) ?_; (with_reducible refine (calamusref02_Cluster.calls (rd l0 x7_6) t199 _ A66.out).mono ?_); rintro e w85 ⟨rfl, hb⟩; refine ⟨_, rfl, ?_⟩; have n0_ := Aside0.mk (Kd.R_below (by (with_reducible repeat (first | apply Kd.R_alloc | apply Kd.R_drewN | apply Kd.R_drew)); exact HO_3.out) hb); have n1_ := Aside0.mk (below_step (by repeat (first | (with_reducible first | exact HB.out | apply below_alloc | apply pw_below_drewN | apply below_drew1) | exact HB.out)) hb); clear HO_3; clear HB; have HO_3 := n0_; have HB := n1_; clear n0_ n1_; (try clear hb); (try clear hb2); (try clear hk); (try clear hi)) | ((with_reducible refine gate_callee (f := 28) rfl ?_); refine goesL_ (some 116) rfl rfl Tryd.func28 (by kernel_rfl) rfl #[.int .u8 t199] rfl (by (try simp only [List.map_toArray, List.map_cons, List.map_nil]); first | done | rfl | (simp only [List.length_drop, List.length_take]; rfl)) ?_; (with_reducible refine (calamuslaw03_ends.calls t199 true _ A67.out).mono ?_); rintro e w' ⟨rfl, ⟨nd, rfl⟩⟩; refine ⟨_, rfl, ?_⟩; have p201 : 0 ≤ (x4_2 : Int) := of_decide_eq_true (by first | (with_reducible assumption) | assumption); have q201 : x4_2 < (t170.length : Int) := of_decide_eq_true (by first | (with_reducible assumption) | assumption); obtain ⟨ad201, e201, hx201_0⟩ := Kd.at_int (Kd.R_reads' HO_3.out).2.2 x4_2 p201 q201; obtain rfl : ad186 = ad201 := (by injection e201); replace p201 := eq_true p201; replace q201 := eq_true q201; have p202 : 0 ≤ (x4_2 : Int) := of_decide_eq_true (by first | (with_reducible assumption) | assumption); have q202 : x4_2 < (t170.length : Int) := of_decide_eq_true (by first | (with_reducible assumption) | assumption); obtain ⟨ad202, e202, hx202_0⟩ := Kd.at_int (Kd.R_reads' HO_3.out).2.2 x4_2 p202 q202; obtain rfl : ad186 = ad202 := (by injection e202); replace p202 := eq_true p202; replace q202 := eq_true q202; have p203 : 0 ≤ (x4_2 : Int) := of_decide_eq_true (by first | (with_reducible assumption) | assumption); have q203 : x4_2 < (t170.length : Int) := of_decide_eq_true (by first | (with_reducible assumption) | assumption); obtain ⟨ad203, e203, hx203_0⟩ := Kd.at_int (Kd.R_reads' HO_3.out).2.2 x4_2 p203 q203; obtain rfl : ad186 = ad203 := (by injection e203); replace p203 := eq_true p203; replace q203 := eq_true q203; have p204 : 0 ≤ ((rd t170 x4_2) : Int) := of_decide_eq_true (by first | (with_reducible assumption) | assumption); have q204 : (rd t170 x4_2) < (l0.length : Int) := of_decide_eq_true (by first | (with_reducible assumption) | assumption); obtain ⟨ad204, e204, hx204_0⟩ := Kd.at_int HR0.out (rd t170 x4_2) p204 q204; obtain rfl : ad187 = ad204 := (by injection e204); replace hx204_0 := (HB.out.cell (World.block_lt_of_cell? w _ hx204_0)).trans hx204_0; replace p204 := eq_true p204; replace q204 := eq_true q204) | (go_at_call 27; (with_reducible refine (calamusref02_Cluster.calls (rd l0 (rd t170 x4_2)) t205 _ A75.out).mono ?_); rintro e w86 ⟨rfl, hb⟩; have n0_ := Aside0.mk (Kd.R_below (by (with_reducible repeat (first | apply Kd.R_alloc | apply Kd.R_drewN | apply Kd.R_drew)); exact HO_3.out) hb); have n1_ := Aside0.mk (below_step (by repeat (first | (with_reducible first | exact HB.out | apply below_alloc | apply pw_below_drewN | apply below_drew1) | exact HB.out)) hb); clear HO_3; clear HB; have HO_3 := n0_; have HB := n1_; clear n0_ n1_; (try clear hb); (try clear hb2); (try clear hk); (try clear hi); have p206 : 0 ≤ ((ji77) : Int) := of_decide_eq_true (by first | (with_reducible assumption) | assumption); have q206 : (ji77) < (l0.length : Int) := of_decide_eq_true (by first | (with_reducible assumption) | assumption); obtain ⟨ad206, e206, hx206_0⟩ := Kd.at_int HR0.out (ji77) p206 q206; obtain rfl : ad187 = ad206 := (by injection e206); replace hx206_0 := (HB.out.cell (World.block_lt_of_cell? w _ hx206_0)).trans hx206_0; replace p206 := eq_true p206; replace q206 := eq_true q206) | (go_at_call 27; (with_reducible refine (calamusref02_Cluster.calls (rd l0 (ji77)) t207 _ A80.out).mono ?_); rintro e w87 ⟨rfl, hb⟩; have n0_ := Aside0.mk (Kd.R_below (by (with_reducible repeat (first | apply Kd.R_alloc | apply Kd.R_drewN | apply Kd.R_drew)); exact HO_3.out) hb); have n1_ := Aside0.mk (below_step (by repeat (first | (with_reducible first | exact HB.out | apply below_alloc | apply pw_below_drewN | apply below_drew1) | exact HB.out)) hb); clear HO_3; clear HB; have HO_3 := n0_; have HB := n1_; clear n0_ n1_; (try clear hb); (try clear hb2); (try clear hk); (try clear hi)))
                                                                            go_ret
                                                                            exact ⟨by first | rfl | (simp [errW_none, errW_some] <;> rfl) | (simp only [← hji77]; first | rfl | (simp [errW_none, errW_some] <;> rfl)) | (simp [*, errW_none, errW_some] <;> rfl), by repeat (first | (with_reducible first | exact HB.out | apply below_alloc | apply pw_below_drewN | apply below_drew1) | exact HB.out)⟩
                                                                        · rw [if_neg c79] at H
                                                                          exact absurd H (by simp)
                                                                      · rw [if_neg c78] at H
                                                                        exact absurd H (by simp)
                                                                    · rw [if_neg c76] at H
                                                                      have c76b0 : (t205 == 1) = false := beq_eq_false_iff_ne.mpr c76
                                                                      have c76b1 : (t205 != 1) = true := bne_iff_ne.mpr c76
                                                                      obtain rfl := Option.some.inj H
                                                                      have p198 : 0 ≤ (x7_6 : Int) := of_decide_eq_true (by first | (with_reducible assumption) | assumption)
                                                                      have q198 : x7_6 < (l0.length : Int) := of_decide_eq_true (by first | (with_reducible assumption) | assumption)
                                                                      obtain ⟨ad198, e198, hx198_0⟩ := Kd.at_int HR0.out x7_6 p198 q198
                                                                      obtain rfl : ad187 = ad198 := (by injection e198)
                                                                      replace hx198_0 := (HB.out.cell (World.block_lt_of_cell? w _ hx198_0)).trans hx198_0
                                                                      replace p198 := eq_true p198
                                                                      replace q198 := eq_true q198
                                                                      go_wp2_with (first | ((with_reducible refine gate_callee (f := 27) rfl ?_); refine goesL_ (some 115) rfl rfl Tryd.func27 (by kernel_rfl) rfl #[.int .i32 (rd l0 x7_6)] rfl (by (try simp only [List.map_toArray, List.map_cons, List.map_nil]); first | done | rfl | (simp only [List.length_drop, List.length_take]; rfl)) ?_; (with_reducible refine (calamusref02_Cluster.calls (rd l0 x7_6) t199 _ A66.out).mono ?_); rintro e w88 ⟨rfl, hb⟩; refine ⟨_, rfl, ?_⟩; have n0_ := Aside0.mk (Kd.R_below (by (with_reducible repeat (first | apply Kd.R_alloc | apply Kd.R_drewN | apply Kd.R_drew)); exact HO_3.out) hb); have n1_ := Aside0.mk (below_step (by repeat (first | (with_reducible first | exact HB.out | apply below_alloc | apply pw_below_drewN | apply below_drew1) | exact HB.out)) hb); clear HO_3; clear HB; have HO_3 := n0_; have HB := n1_; clear n0_ n1_; (try clear hb); (try clear hb2); (try clear hk); (try clear hi)) | ((with_reducible refine gate_callee (f := 28) rfl ?_); refine goesL_ (some 116) rfl rfl Tryd.func28 (by kernel_rfl) rfl #[.int .u8 t199] rfl (by (try simp only [List.map_toArray, List.map_cons, List.map_nil]); first | done | rfl | (simp only [List.length_drop, List.length_take]; rfl)) ?_; (with_reducible refine (calamuslaw03_ends.calls t199 true _ A67.out).mono ?_); rintro e w' ⟨rfl, ⟨nd, rfl⟩⟩; refine ⟨_, rfl, ?_⟩; have p201 : 0 ≤ (x4_2 : Int) := of_decide_eq_true (by first | (with_reducible assumption) | assumption); have q201 : x4_2 < (t170.length : Int) := of_decide_eq_true (by first | (with_reducible assumption) | assumption); obtain ⟨ad201, e201, hx201_0⟩ := Kd.at_int (Kd.R_reads' HO_3.out).2.2 x4_2 p201 q201; obtain rfl : ad186 = ad201 := (by injection e201); replace p201 := eq_true p201; replace q201 := eq_true q201; have p202 : 0 ≤ (x4_2 : Int) := of_decide_eq_true (by first | (with_reducible assumption) | assumption); have q202 : x4_2 < (t170.length : Int) := of_decide_eq_true (by first | (with_reducible assumption) | assumption); obtain ⟨ad202, e202, hx202_0⟩ := Kd.at_int (Kd.R_reads' HO_3.out).2.2 x4_2 p202 q202; obtain rfl : ad186 = ad202 := (by injection e202); replace p202 := eq_true p202; replace q202 := eq_true q202; have p203 : 0 ≤ (x4_2 : Int) := of_decide_eq_true (by first | (with_reducible assumption) | assumption); have q203 : x4_2 < (t170.length : Int) := of_decide_eq_true (by first | (with_reducible assumption) | assumption); obtain ⟨ad203, e203, hx203_0⟩ := Kd.at_int (Kd.R_reads' HO_3.out).2.2 x4_2 p203 q203; obtain rfl : ad186 = ad203 := (by injection e203); replace p203 := eq_true p203; replace q203 := eq_true q203; have p204 : 0 ≤ ((rd t170 x4_2) : Int) := of_decide_eq_true (by first | (with_reducible assumption) | assumption); have q204 : (rd t170 x4_2) < (l0.length : Int) := of_decide_eq_true (by first | (with_reducible assumption) | assumption); obtain ⟨ad204, e204, hx204_0⟩ := Kd.at_int HR0.out (rd t170 x4_2) p204 q204; obtain rfl : ad187 = ad204 := (by injection e204); replace hx204_0 := (HB.out.cell (World.block_lt_of_cell? w _ hx204_0)).trans hx204_0; replace p204 := eq_true p204; replace q204 := eq_true q204) | (go_at_call 27; (with_reducible refine (calamusref02_Cluster.calls (rd l0 (rd t170 x4_2)) t205 _ A75.out).mono ?_); rintro e w89 ⟨rfl, hb⟩; have n0_ := Aside0.mk (Kd.R_below (by (with_reducible repeat (first | apply Kd.R_alloc | apply Kd.R_drewN | apply Kd.R_drew)); exact HO_3.out) hb); have n1_ := Aside0.mk (below_step (by repeat (first | (with_reducible first | exact HB.out | apply below_alloc | apply pw_below_drewN | apply below_drew1) | exact HB.out)) hb); clear HO_3; clear HB; have HO_3 := n0_; have HB := n1_; clear n0_ n1_; (try clear hb); (try clear hb2); (try clear hk); (try clear hi)))
                                                                      go_ret
                                                                      exact ⟨by first | rfl | (simp [errW_none, errW_some] <;> rfl) | (simp [*, errW_none, errW_some] <;> rfl), by repeat (first | (with_reducible first | exact HB.out | apply below_alloc | apply pw_below_drewN | apply below_drew1) | exact HB.out)⟩
                                                                  · rw [if_neg c74] at H
                                                                    exact absurd H (by simp)
                                                                · rw [if_neg c73] at H
                                                                  exact absurd H (by simp)
                                                              · rw [if_neg c72] at H
                                                                have c72b0 : ((wrap64 (x5_14 - (rd t170 x4_2))) == 2) = false := beq_eq_false_iff_ne.mpr c72
                                                                have c72b1 : ((wrap64 (x5_14 - (rd t170 x4_2))) != 2) = true := bne_iff_ne.mpr c72
                                                                obtain rfl := Option.some.inj H
                                                                have p198 : 0 ≤ (x7_6 : Int) := of_decide_eq_true (by first | (with_reducible assumption) | assumption)
                                                                have q198 : x7_6 < (l0.length : Int) := of_decide_eq_true (by first | (with_reducible assumption) | assumption)
                                                                obtain ⟨ad198, e198, hx198_0⟩ := Kd.at_int HR0.out x7_6 p198 q198
                                                                obtain rfl : ad187 = ad198 := (by injection e198)
                                                                replace hx198_0 := (HB.out.cell (World.block_lt_of_cell? w _ hx198_0)).trans hx198_0
                                                                replace p198 := eq_true p198
                                                                replace q198 := eq_true q198
                                                                go_wp2_with (first | ((with_reducible refine gate_callee (f := 27) rfl ?_); refine goesL_ (some 115) rfl rfl Tryd.func27 (by kernel_rfl) rfl #[.int .i32 (rd l0 x7_6)] rfl (by (try simp only [List.map_toArray, List.map_cons, List.map_nil]); first | done | rfl | (simp only [List.length_drop, List.length_take]; rfl)) ?_; (with_reducible refine (calamusref02_Cluster.calls (rd l0 x7_6) t199 _ A66.out).mono ?_); rintro e w90 ⟨rfl, hb⟩; refine ⟨_, rfl, ?_⟩; have n0_ := Aside0.mk (Kd.R_below (by (with_reducible repeat (first | apply Kd.R_alloc | apply Kd.R_drewN | apply Kd.R_drew)); exact HO_3.out) hb); have n1_ := Aside0.mk (below_step (by repeat (first | (with_reducible first | exact HB.out | apply below_alloc | apply pw_below_drewN | apply below_drew1) | exact HB.out)) hb); clear HO_3; clear HB; have HO_3 := n0_; have HB := n1_; clear n0_ n1_; (try clear hb); (try clear hb2); (try clear hk); (try clear hi)) | ((with_reducible refine gate_callee (f := 28) rfl ?_); refine goesL_ (some 116) rfl rfl Tryd.func28 (by kernel_rfl) rfl #[.int .u8 t199] rfl (by (try simp only [List.map_toArray, List.map_cons, List.map_nil]); first | done | rfl | (simp only [List.length_drop, List.length_take]; rfl)) ?_; (with_reducible refine (calamuslaw03_ends.calls t199 true _ A67.out).mono ?_); rintro e w' ⟨rfl, ⟨nd, rfl⟩⟩; refine ⟨_, rfl, ?_⟩; have p201 : 0 ≤ (x4_2 : Int) := of_decide_eq_true (by first | (with_reducible assumption) | assumption); have q201 : x4_2 < (t170.length : Int) := of_decide_eq_true (by first | (with_reducible assumption) | assumption); obtain ⟨ad201, e201, hx201_0⟩ := Kd.at_int (Kd.R_reads' HO_3.out).2.2 x4_2 p201 q201; obtain rfl : ad186 = ad201 := (by injection e201); replace p201 := eq_true p201; replace q201 := eq_true q201; have p202 : 0 ≤ (x4_2 : Int) := of_decide_eq_true (by first | (with_reducible assumption) | assumption); have q202 : x4_2 < (t170.length : Int) := of_decide_eq_true (by first | (with_reducible assumption) | assumption); obtain ⟨ad202, e202, hx202_0⟩ := Kd.at_int (Kd.R_reads' HO_3.out).2.2 x4_2 p202 q202; obtain rfl : ad186 = ad202 := (by injection e202); replace p202 := eq_true p202; replace q202 := eq_true q202))
                                                                go_ret
                                                                exact ⟨by first | rfl | (simp [errW_none, errW_some] <;> rfl) | (simp [*, errW_none, errW_some] <;> rfl), by repeat (first | (with_reducible first | exact HB.out | apply below_alloc | apply pw_below_drewN | apply below_drew1) | exact HB.out)⟩
                                                            · rw [if_neg c71] at H
                                                              have c71b0 : decide (1 < (wrap64 (x5_14 - (rd t170 x4_2)))) = false := decide_eq_false c71
                                                              clear c71
                                                              have H' := Aside0.mk H
                                                              clear H
                                                              have p198 : 0 ≤ (x7_6 : Int) := of_decide_eq_true (by first | (with_reducible assumption) | assumption)
                                                              have q198 : x7_6 < (l0.length : Int) := of_decide_eq_true (by first | (with_reducible assumption) | assumption)
                                                              obtain ⟨ad198, e198, hx198_0⟩ := Kd.at_int HR0.out x7_6 p198 q198
                                                              obtain rfl : ad187 = ad198 := (by injection e198)
                                                              replace hx198_0 := (HB.out.cell (World.block_lt_of_cell? w _ hx198_0)).trans hx198_0
                                                              replace p198 := eq_true p198
                                                              replace q198 := eq_true q198
                                                              go_wp2_with (first | ((with_reducible refine gate_callee (f := 27) rfl ?_); refine goesL_ (some 115) rfl rfl Tryd.func27 (by kernel_rfl) rfl #[.int .i32 (rd l0 x7_6)] rfl (by (try simp only [List.map_toArray, List.map_cons, List.map_nil]); first | done | rfl | (simp only [List.length_drop, List.length_take]; rfl)) ?_; (with_reducible refine (calamusref02_Cluster.calls (rd l0 x7_6) t199 _ A66.out).mono ?_); rintro e w91 ⟨rfl, hb⟩; refine ⟨_, rfl, ?_⟩; have n0_ := Aside0.mk (Kd.R_below (by (with_reducible repeat (first | apply Kd.R_alloc | apply Kd.R_drewN | apply Kd.R_drew)); exact HO_3.out) hb); have n1_ := Aside0.mk (below_step (by repeat (first | (with_reducible first | exact HB.out | apply below_alloc | apply pw_below_drewN | apply below_drew1) | exact HB.out)) hb); clear HO_3; clear HB; have HO_3 := n0_; have HB := n1_; clear n0_ n1_; (try clear hb); (try clear hb2); (try clear hk); (try clear hi)) | ((with_reducible refine gate_callee (f := 28) rfl ?_); refine goesL_ (some 116) rfl rfl Tryd.func28 (by kernel_rfl) rfl #[.int .u8 t199] rfl (by (try simp only [List.map_toArray, List.map_cons, List.map_nil]); first | done | rfl | (simp only [List.length_drop, List.length_take]; rfl)) ?_; (with_reducible refine (calamuslaw03_ends.calls t199 true _ A67.out).mono ?_); rintro e w' ⟨rfl, ⟨nd, rfl⟩⟩; refine ⟨_, rfl, ?_⟩; have p201 : 0 ≤ (x4_2 : Int) := of_decide_eq_true (by first | (with_reducible assumption) | assumption); have q201 : x4_2 < (t170.length : Int) := of_decide_eq_true (by first | (with_reducible assumption) | assumption); obtain ⟨ad201, e201, hx201_0⟩ := Kd.at_int (Kd.R_reads' HO_3.out).2.2 x4_2 p201 q201; obtain rfl : ad186 = ad201 := (by injection e201); replace p201 := eq_true p201; replace q201 := eq_true q201))
                                                              go_roundg k6
                                                              case measure => have := HJ5.out; have := HK2.out; have := HJ14.out; have := HJ19.out; have := HJ41.out; have := HK6.out; omega
                                                              case rel => exact ⟨(wrap64 (x7_6 + 1)), (by first | rfl | (simp; done) | (simp [*]; done)), H', ⟨by have := HJ5.out; have := HK2.out; have := HJ14.out; have := HJ19.out; have := HJ41.out; have := HK6.out; omega⟩, ⟨by (with_reducible repeat (first | apply Kd.R_alloc | apply Kd.R_drewN | apply Kd.R_drew)); exact HO_3.out⟩, ⟨by repeat (first | (with_reducible first | exact HB.out | apply below_alloc | apply pw_below_drewN | apply below_drew1) | exact HB.out)⟩⟩
                                                          · rw [if_neg c70] at H
                                                            exact absurd H (by simp)
                                                        · rw [if_neg c69] at H
                                                          exact absurd H (by simp)
                                                      · replace c68 := Bool.eq_false_iff.mpr c68
                                                        subst c68
                                                        have H1 : (calamuslaw03_ClusterAlone.l1 k6 l0 t170 x4_2 x5_14 (wrap64 (x7_6 + 1))) = some r := by rw [if_neg (show ¬ (false = true) by decide)] at H; exact H
                                                        clear H
                                                        have H := H1
                                                        clear H1
                                                        have H' := Aside0.mk H
                                                        clear H
                                                        have p198 : 0 ≤ (x7_6 : Int) := of_decide_eq_true (by first | (with_reducible assumption) | assumption)
                                                        have q198 : x7_6 < (l0.length : Int) := of_decide_eq_true (by first | (with_reducible assumption) | assumption)
                                                        obtain ⟨ad198, e198, hx198_0⟩ := Kd.at_int HR0.out x7_6 p198 q198
                                                        obtain rfl : ad187 = ad198 := (by injection e198)
                                                        replace hx198_0 := (HB.out.cell (World.block_lt_of_cell? w _ hx198_0)).trans hx198_0
                                                        replace p198 := eq_true p198
                                                        replace q198 := eq_true q198
                                                        go_wp2_with (first | ((with_reducible refine gate_callee (f := 27) rfl ?_); refine goesL_ (some 115) rfl rfl Tryd.func27 (by kernel_rfl) rfl #[.int .i32 (rd l0 x7_6)] rfl (by (try simp only [List.map_toArray, List.map_cons, List.map_nil]); first | done | rfl | (simp only [List.length_drop, List.length_take]; rfl)) ?_; (with_reducible refine (calamusref02_Cluster.calls (rd l0 x7_6) t199 _ A66.out).mono ?_); rintro e w92 ⟨rfl, hb⟩; refine ⟨_, rfl, ?_⟩; have n0_ := Aside0.mk (Kd.R_below (by (with_reducible repeat (first | apply Kd.R_alloc | apply Kd.R_drewN | apply Kd.R_drew)); exact HO_3.out) hb); have n1_ := Aside0.mk (below_step (by repeat (first | (with_reducible first | exact HB.out | apply below_alloc | apply pw_below_drewN | apply below_drew1) | exact HB.out)) hb); clear HO_3; clear HB; have HO_3 := n0_; have HB := n1_; clear n0_ n1_; (try clear hb); (try clear hb2); (try clear hk); (try clear hi)) | ((with_reducible refine gate_callee (f := 28) rfl ?_); refine goesL_ (some 116) rfl rfl Tryd.func28 (by kernel_rfl) rfl #[.int .u8 t199] rfl (by (try simp only [List.map_toArray, List.map_cons, List.map_nil]); first | done | rfl | (simp only [List.length_drop, List.length_take]; rfl)) ?_; (with_reducible refine (calamuslaw03_ends.calls t199 false _ A67.out).mono ?_); rintro e w' ⟨rfl, ⟨nd, rfl⟩⟩; refine ⟨_, rfl, ?_⟩))
                                                        go_roundg k6
                                                        case measure => have := HJ5.out; have := HK2.out; have := HJ14.out; have := HJ19.out; have := HJ41.out; have := HK6.out; omega
                                                        case rel => exact ⟨(wrap64 (x7_6 + 1)), (by first | rfl | (simp; done) | (simp [*]; done)), H', ⟨by have := HJ5.out; have := HK2.out; have := HJ14.out; have := HJ19.out; have := HJ41.out; have := HK6.out; omega⟩, ⟨by (with_reducible repeat (first | apply Kd.R_alloc | apply Kd.R_drewN | apply Kd.R_drew)); exact HO_3.out⟩, ⟨by repeat (first | (with_reducible first | exact HB.out | apply below_alloc | apply pw_below_drewN | apply below_drew1) | exact HB.out)⟩⟩
                                                    · rw [if_neg c65] at H
                                                      exact absurd H (by simp)
                                                  · rw [if_neg c64] at H
                                                    exact absurd H (by simp)
                                                · rw [if_neg c63] at H
                                                  have c63b0 : decide (x7_6 < x5_14) = false := decide_eq_false c63
                                                  clear c63
                                                  have H' := Aside0.mk H
                                                  clear H
                                                  go_wp2
                                                  go_roundg k6
                                                  case measure => have := HJ5.out; have := HK2.out; have := HJ14.out; have := HJ19.out; have := HJ41.out; have := HK6.out; omega
                                                  case rel => exact ⟨(wrap64 (x4_2 + 1)), (by first | rfl | (simp; done) | (simp [*]; done)), H', ⟨by have := HJ5.out; have := HK2.out; have := HJ14.out; have := HJ19.out; have := HJ41.out; have := HK6.out; omega⟩, ⟨by (with_reducible repeat (first | apply Kd.R_alloc | apply Kd.R_drewN | apply Kd.R_drew)); exact HO_3.out⟩, ⟨by repeat (first | (with_reducible first | exact HB.out | apply below_alloc | apply pw_below_drewN | apply below_drew1) | exact HB.out)⟩⟩
                                          · rw [if_neg c62] at H
                                            exact absurd H (by simp)
                                        · rw [if_neg c61] at H
                                          exact absurd H (by simp)
                                · rw [if_neg c40] at H
                                  exact absurd H (by simp)
                              · rw [if_neg c39] at H
                                exact absurd H (by simp)
                            · rw [if_neg c38] at H
                              exact absurd H (by simp)
                          · rw [if_neg c37] at H
                            exact absurd H (by simp)
              · rw [if_neg c14] at H
                have c14b0 : decide (x4_2 < (t170.length : Int)) = false := decide_eq_false c14
                clear c14
                replace H := Option.bind_eq_some_iff.mp H
                obtain ⟨t174, A930, H⟩ := H
                replace H : (some t174) = some r := H
                have A93 := Aside0.mk A930
                clear A930
                obtain rfl := Option.some.inj H
                obtain ⟨Ao94, co94, eo94⟩ := Kd.R_slice HO_3.out
                subst eo94
                go_wp2_with (first | ((with_reducible refine gate_callee (f := 21) rfl ?_); refine goesL_ (some 156) rfl rfl Tryd.func21 (by kernel_rfl) rfl #[] rfl (by (try simp only [List.map_toArray, List.map_cons, List.map_nil]); first | done | rfl | (simp only [List.length_drop, List.length_take]; rfl)) ?_; (with_reducible refine (calamuslaw03_works.calls k2  t174 _ ?side1 A93.out).mono ?_); (case side1 => exact Glob.below HG.out (by repeat (first | (with_reducible first | exact HB.out | apply below_alloc | apply pw_below_drewN | apply below_drew1) | exact HB.out))); rintro e w95 ⟨rfl, hb⟩; refine ⟨_, rfl, ?_⟩; have n0_ := Aside0.mk (Kd.R_below (by (with_reducible repeat (first | apply Kd.R_alloc | apply Kd.R_drewN | apply Kd.R_drew)); exact HO_3.out) hb); have n1_ := Aside0.mk (below_step (by repeat (first | (with_reducible first | exact HB.out | apply below_alloc | apply pw_below_drewN | apply below_drew1) | exact HB.out)) hb); clear HO_3; clear HB; have HO_3 := n0_; have HB := n1_; clear n0_ n1_; (try clear hb); (try clear hb2); (try clear hk); (try clear hi)))
                go_ret
                exact ⟨by first | rfl | (simp [errW_none, errW_some] <;> rfl) | (simp [*, errW_none, errW_some] <;> rfl), by repeat (first | (with_reducible first | exact HB.out | apply below_alloc | apply pw_below_drewN | apply below_drew1) | exact HB.out)⟩

/-- THE ONE PURE STATEMENT of calamuslaw03_ClusterAlone: yours. -/
def calamuslaw03_ClusterAlone.Pure : Prop := ∀ (l0 : List Int), l0.length ≤ maxLen → l0.length * 4 ≤ 140737488351232 → (∀ x ∈ l0, (Lit.int .i32 x).wf = true) → ∃ k, calamuslaw03_ClusterAlone.f k l0 = some true
theorem calamuslaw03_ClusterAlone.walk (P : calamuslaw03_ClusterAlone.Pure) (a0 : Option Addr) (len0 cap0 : Nat) (z0 : List Int) (w : World) (w0 : (a0 = none ∧ len0 = 0 ∧ cap0 = 0 ∧ z0 = []) ∨ ∃ x, a0 = some x ∧ len0 ≤ cap0 ∧ cap0 ≤ maxLen ∧ z0.length = cap0 ∧ (∀ i, i < z0.length → w.cell? (x.add i) = some (.int .i32 (z0.getD i 0))) ∧ ∀ n ∈ z0, (Lit.int .i32 n).wf = true) (y0 : len0 * 4 ≤ 140737488351232) (hG : Glob w) :
    Calls Tryd.prog 10 #[.slice a0 len0 cap0] w fun e w' => e = .returned (.bool true) ∧ Below w.heap.size w w' := by
  obtain ⟨l0, rfl, hr0, hm0, hw0, hc0⟩ := ReadsInt.ofRowC w0
  obtain ⟨k, h⟩ := P l0 hm0 y0 hw0
  refine (calamuslaw03_ClusterAlone.calls k _ _ l0 true w (Kd.C_of_reads (d := (0 : Int)) (h1 := fun _ => rfl) hr0) hc0 hG h).mono ?_
  rintro e w' ⟨rfl, hd⟩
  exact ⟨rfl, hd⟩

end Go.Proofs.YtffmdnckapalfaaDoor.C
