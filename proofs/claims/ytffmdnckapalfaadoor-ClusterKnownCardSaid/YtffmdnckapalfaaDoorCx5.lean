-- Printed by a turned copy of the kit's print (turnprint.py, pp.sh: this session's). Lean checks it.
import Derived.Test.YtffmdnckapalfaaDoorCx0
import Derived.Test.YtffmdnckapalfaaDoorCx1
namespace Go.Proofs.YtffmdnckapalfaaDoor.C
open Go.RowKit Go.Proofs.YtffmdnckapalfaaDoorW.PrintWords Go.Proofs.YtffmdnckapalfaaDoorW.PrintLast Go.Proofs.YtffmdnckapalfaaDoorW.PrintMore Go.Proofs.YtffmdnckapalfaaDoor.ExtC Go.Proofs.YtffmdnckapalfaaDoor.T
attribute [local go_sem] max2_int min2_int max_two min_two max_three min_three max_four min_four   -- for this text's walks alone
set_option linter.unusedVariables false
set_option linter.unusedSimpArgs false

/-! ### calamuslaw03_ClusterBehind: function 11 -/
mutual
def calamuslaw03_ClusterBehind.j0 : Nat → List Int → List Int → Bool → Option (Bool)
  | 0, _, _, _ => none
  | k + 1, x0, x1, x18 => if x18 = true then ((calamuslaw03_works.f k).bind fun t208 => (some t208)) else ((some (([10, 120] : List Int) : List Int)).bind fun y209 => (calamuslaw03_ClusterBehind.l0 k x0 x1 y209 (y209.length : Int) 0))
def calamuslaw03_ClusterBehind.l0 : Nat → List Int → List Int → List Int → Int → Int → Option (Bool)
  | 0, _, _, _, _, _ => none
  | k + 1, x0, x1, x20, x21, x22 => if x22 < x21 then (if 0 ≤ x22 then (if x22 < (x20.length : Int) then (if (rd x20 x22) = 120 then (if (x0.length : Int) > 0 then (if 0 ≤ (wrap64 ((x0.length : Int) - 1)) then (if (wrap64 ((x0.length : Int) - 1)) < (x0.length : Int) then ((calamusref02_Cluster.f (rd x0 (wrap64 ((x0.length : Int) - 1)))).bind fun t215 => (if t215 = 7 then (calamuslaw03_ClusterBehind.j2 k x0 x1 (rd x20 x22) x20 x21 x22 true) else (if (x1.length : Int) > 0 then (if 0 < (x1.length : Int) then ((calamusref02_Cluster.f (rd x1 0)).bind fun t217 => (if t217 = 4 then (calamuslaw03_ClusterBehind.j2 k x0 x1 (rd x20 x22) x20 x21 x22 true) else ((calamusref02_Cluster.f (rd x1 0)).bind fun t219 => (calamuslaw03_ClusterBehind.j2 k x0 x1 (rd x20 x22) x20 x21 x22 (t219 == 5))))) else (none)) else (calamuslaw03_ClusterBehind.j2 k x0 x1 (rd x20 x22) x20 x21 x22 false)))) else (none)) else (none)) else (if (x1.length : Int) > 0 then (if 0 < (x1.length : Int) then ((calamusref02_Cluster.f (rd x1 0)).bind fun t221 => (if t221 = 4 then (calamuslaw03_ClusterBehind.j2 k x0 x1 (rd x20 x22) x20 x21 x22 true) else ((calamusref02_Cluster.f (rd x1 0)).bind fun t223 => (calamuslaw03_ClusterBehind.j2 k x0 x1 (rd x20 x22) x20 x21 x22 (t223 == 5))))) else (none)) else (calamuslaw03_ClusterBehind.j2 k x0 x1 (rd x20 x22) x20 x21 x22 false))) else (calamuslaw03_ClusterBehind.j2 k x0 x1 (rd x20 x22) x20 x21 x22 false)) else (none)) else (none)) else ((calamuslaw03_works.f k).bind fun t212 => (some t212))
def calamuslaw03_ClusterBehind.j2 : Nat → List Int → List Int → Int → List Int → Int → Int → Bool → Option (Bool)
  | 0, _, _, _, _, _, _, _ => none
  | k + 1, x0, x1, x6, x20, x21, x22, x65 => if x65 = true then (calamuslaw03_ClusterBehind.l0 k x0 x1 x20 x21 (wrap64 (x22 + 1))) else (if ([] : List Int).length + x0.length < 35184372088832 then ((some (([] : List Int) ++ x0 : List Int)).bind fun y224 => (if y224.length < 35184372088832 then ((some (y224 ++ [x6] : List Int)).bind fun y227 => (if y227.length + x1.length < 35184372088832 then ((some (y227 ++ x1 : List Int)).bind fun y230 => ((cluster_Bounds.f x0).bind fun t233 => (if x6 = 10 then (if (x0.length : Int) > 0 then (if 0 ≤ (wrap64 ((x0.length : Int) - 1)) then (if (wrap64 ((x0.length : Int) - 1)) < (x0.length : Int) then (calamuslaw03_ClusterBehind.j3 k x0 x1 y230 t233 x20 x21 x22 (!((rd x0 (wrap64 ((x0.length : Int) - 1))) == 13))) else (none)) else (none)) else (calamuslaw03_ClusterBehind.j3 k x0 x1 y230 t233 x20 x21 x22 (!false))) else (calamuslaw03_ClusterBehind.j3 k x0 x1 y230 t233 x20 x21 x22 (!false))))) else (none))) else (none))) else (none))
def calamuslaw03_ClusterBehind.j3 : Nat → List Int → List Int → List Int → List Int → List Int → Int → Int → Bool → Option (Bool)
  | 0, _, _, _, _, _, _, _, _ => none
  | k + 1, x0, x1, x7, x8, x20, x21, x22, x94 => if x94 = true then (if x8.length < 17592186044416 then (calamuslaw03_ClusterBehind.j4 k x0 x1 x7 (x8 ++ [(x0.length : Int)]) x20 x21 x22) else (none)) else (calamuslaw03_ClusterBehind.j4 k x0 x1 x7 x8 x20 x21 x22)
def calamuslaw03_ClusterBehind.j4 : Nat → List Int → List Int → List Int → List Int → List Int → Int → Int → Option (Bool)
  | 0, _, _, _, _, _, _, _ => none
  | k + 1, x0, x1, x7, x8, x20, x21, x22 => (cluster_Bounds.f x1).bind fun t240 => (calamuslaw03_ClusterBehind.l1 k x0 x1 x7 x8 t240 0 x20 x21 x22)
def calamuslaw03_ClusterBehind.l1 : Nat → List Int → List Int → List Int → List Int → List Int → Int → List Int → Int → Int → Option (Bool)
  | 0, _, _, _, _, _, _, _, _, _ => none
  | k + 1, x0, x1, x7, x8, x9, x10, x20, x21, x22 => if x10 < (x9.length : Int) then (if 0 ≤ x10 then (if x8.length < 17592186044416 then (calamuslaw03_ClusterBehind.l1 k x0 x1 x7 (x8 ++ [wrap64 ((wrap64 ((rd x9 x10) + (x0.length : Int))) + 1)]) x9 (wrap64 (x10 + 1)) x20 x21 x22) else (none)) else (none)) else ((cluster_Bounds.f x7).bind fun t247 => ((calamuslaw03_same.f k t247 x8).bind fun t250 => (if t250 = true then (calamuslaw03_ClusterBehind.l0 k x0 x1 x20 x21 (wrap64 (x22 + 1))) else (some false))))
end
def calamuslaw03_ClusterBehind.f (k : Nat) (l0 : List Int) (l1 : List Int) : Option (Bool) := if (l0.length : Int) > 200 then (calamuslaw03_ClusterBehind.j0 k l0 l1 true) else (calamuslaw03_ClusterBehind.j0 k l0 l1 (decide ((l1.length : Int) > 200)))
theorem calamuslaw03_ClusterBehind.mono_l : ∀ k, (∀ y0 y1 y2, LeO (calamuslaw03_ClusterBehind.j0 k y0 y1 y2) (calamuslaw03_ClusterBehind.j0 (k + 1) y0 y1 y2)) ∧ (∀ y0 y1 y2 y3 y4, LeO (calamuslaw03_ClusterBehind.l0 k y0 y1 y2 y3 y4) (calamuslaw03_ClusterBehind.l0 (k + 1) y0 y1 y2 y3 y4)) ∧ (∀ y0 y1 y2 y3 y4 y5 y6, LeO (calamuslaw03_ClusterBehind.j2 k y0 y1 y2 y3 y4 y5 y6) (calamuslaw03_ClusterBehind.j2 (k + 1) y0 y1 y2 y3 y4 y5 y6)) ∧ (∀ y0 y1 y2 y3 y4 y5 y6 y7, LeO (calamuslaw03_ClusterBehind.j3 k y0 y1 y2 y3 y4 y5 y6 y7) (calamuslaw03_ClusterBehind.j3 (k + 1) y0 y1 y2 y3 y4 y5 y6 y7)) ∧ (∀ y0 y1 y2 y3 y4 y5 y6, LeO (calamuslaw03_ClusterBehind.j4 k y0 y1 y2 y3 y4 y5 y6) (calamuslaw03_ClusterBehind.j4 (k + 1) y0 y1 y2 y3 y4 y5 y6)) ∧ (∀ y0 y1 y2 y3 y4 y5 y6 y7 y8, LeO (calamuslaw03_ClusterBehind.l1 k y0 y1 y2 y3 y4 y5 y6 y7 y8) (calamuslaw03_ClusterBehind.l1 (k + 1) y0 y1 y2 y3 y4 y5 y6 y7 y8))
  | 0 => ⟨fun _ _ _ r h => by simp [calamuslaw03_ClusterBehind.j0] at h, fun _ _ _ _ _ r h => by simp [calamuslaw03_ClusterBehind.l0] at h, fun _ _ _ _ _ _ _ r h => by simp [calamuslaw03_ClusterBehind.j2] at h, fun _ _ _ _ _ _ _ _ r h => by simp [calamuslaw03_ClusterBehind.j3] at h, fun _ _ _ _ _ _ _ r h => by simp [calamuslaw03_ClusterBehind.j4] at h, fun _ _ _ _ _ _ _ _ _ r h => by simp [calamuslaw03_ClusterBehind.l1] at h⟩
  | k + 1 => by
    obtain ⟨ih0, ih1, ih2, ih3, ih4, ih5⟩ := calamuslaw03_ClusterBehind.mono_l k
    refine ⟨?_, ?_, ?_, ?_, ?_, ?_⟩
    · intro y0 y1 y2
      unfold calamuslaw03_ClusterBehind.j0
      repeat' first
      | (with_reducible exact ih0 _ _ _)
      | (with_reducible exact ih1 _ _ _ _ _)
      | (with_reducible exact ih2 _ _ _ _ _ _ _)
      | (with_reducible exact ih3 _ _ _ _ _ _ _ _)
      | (with_reducible exact ih4 _ _ _ _ _ _ _)
      | (with_reducible exact ih5 _ _ _ _ _ _ _ _ _)
      | (with_reducible exact calamuslaw03_same.mono _ _ _)
      | (with_reducible exact calamuslaw03_works.mono _)
      | (with_reducible exact LeO.refl _)
      | (with_reducible exact LeO.none _)
      | (with_reducible refine LeO.ite ?_ ?_)
      | (with_reducible refine LeO.bind ?_ (fun _ => ?_))
      | exact ih0 _ _ _
      | exact ih1 _ _ _ _ _
      | exact ih2 _ _ _ _ _ _ _
      | exact ih3 _ _ _ _ _ _ _ _
      | exact ih4 _ _ _ _ _ _ _
      | exact ih5 _ _ _ _ _ _ _ _ _
      | exact calamuslaw03_same.mono _ _ _
      | exact calamuslaw03_works.mono _
      | exact LeO.none _
      | refine LeO.ite ?_ ?_
      | refine LeO.bind ?_ (fun _ => ?_)
    · intro y0 y1 y2 y3 y4
      unfold calamuslaw03_ClusterBehind.l0
      repeat' first
      | (with_reducible exact ih0 _ _ _)
      | (with_reducible exact ih1 _ _ _ _ _)
      | (with_reducible exact ih2 _ _ _ _ _ _ _)
      | (with_reducible exact ih3 _ _ _ _ _ _ _ _)
      | (with_reducible exact ih4 _ _ _ _ _ _ _)
      | (with_reducible exact ih5 _ _ _ _ _ _ _ _ _)
      | (with_reducible exact calamuslaw03_same.mono _ _ _)
      | (with_reducible exact calamuslaw03_works.mono _)
      | (with_reducible exact LeO.refl _)
      | (with_reducible exact LeO.none _)
      | (with_reducible refine LeO.ite ?_ ?_)
      | (with_reducible refine LeO.bind ?_ (fun _ => ?_))
      | exact ih0 _ _ _
      | exact ih1 _ _ _ _ _
      | exact ih2 _ _ _ _ _ _ _
      | exact ih3 _ _ _ _ _ _ _ _
      | exact ih4 _ _ _ _ _ _ _
      | exact ih5 _ _ _ _ _ _ _ _ _
      | exact calamuslaw03_same.mono _ _ _
      | exact calamuslaw03_works.mono _
      | exact LeO.none _
      | refine LeO.ite ?_ ?_
      | refine LeO.bind ?_ (fun _ => ?_)
    · intro y0 y1 y2 y3 y4 y5 y6
      unfold calamuslaw03_ClusterBehind.j2
      repeat' first
      | (with_reducible exact ih0 _ _ _)
      | (with_reducible exact ih1 _ _ _ _ _)
      | (with_reducible exact ih2 _ _ _ _ _ _ _)
      | (with_reducible exact ih3 _ _ _ _ _ _ _ _)
      | (with_reducible exact ih4 _ _ _ _ _ _ _)
      | (with_reducible exact ih5 _ _ _ _ _ _ _ _ _)
      | (with_reducible exact calamuslaw03_same.mono _ _ _)
      | (with_reducible exact calamuslaw03_works.mono _)
      | (with_reducible exact LeO.refl _)
      | (with_reducible exact LeO.none _)
      | (with_reducible refine LeO.ite ?_ ?_)
      | (with_reducible refine LeO.bind ?_ (fun _ => ?_))
      | exact ih0 _ _ _
      | exact ih1 _ _ _ _ _
      | exact ih2 _ _ _ _ _ _ _
      | exact ih3 _ _ _ _ _ _ _ _
      | exact ih4 _ _ _ _ _ _ _
      | exact ih5 _ _ _ _ _ _ _ _ _
      | exact calamuslaw03_same.mono _ _ _
      | exact calamuslaw03_works.mono _
      | exact LeO.none _
      | refine LeO.ite ?_ ?_
      | refine LeO.bind ?_ (fun _ => ?_)
    · intro y0 y1 y2 y3 y4 y5 y6 y7
      unfold calamuslaw03_ClusterBehind.j3
      repeat' first
      | (with_reducible exact ih0 _ _ _)
      | (with_reducible exact ih1 _ _ _ _ _)
      | (with_reducible exact ih2 _ _ _ _ _ _ _)
      | (with_reducible exact ih3 _ _ _ _ _ _ _ _)
      | (with_reducible exact ih4 _ _ _ _ _ _ _)
      | (with_reducible exact ih5 _ _ _ _ _ _ _ _ _)
      | (with_reducible exact calamuslaw03_same.mono _ _ _)
      | (with_reducible exact calamuslaw03_works.mono _)
      | (with_reducible exact LeO.refl _)
      | (with_reducible exact LeO.none _)
      | (with_reducible refine LeO.ite ?_ ?_)
      | (with_reducible refine LeO.bind ?_ (fun _ => ?_))
      | exact ih0 _ _ _
      | exact ih1 _ _ _ _ _
      | exact ih2 _ _ _ _ _ _ _
      | exact ih3 _ _ _ _ _ _ _ _
      | exact ih4 _ _ _ _ _ _ _
      | exact ih5 _ _ _ _ _ _ _ _ _
      | exact calamuslaw03_same.mono _ _ _
      | exact calamuslaw03_works.mono _
      | exact LeO.none _
      | refine LeO.ite ?_ ?_
      | refine LeO.bind ?_ (fun _ => ?_)
    · intro y0 y1 y2 y3 y4 y5 y6
      unfold calamuslaw03_ClusterBehind.j4
      repeat' first
      | (with_reducible exact ih0 _ _ _)
      | (with_reducible exact ih1 _ _ _ _ _)
      | (with_reducible exact ih2 _ _ _ _ _ _ _)
      | (with_reducible exact ih3 _ _ _ _ _ _ _ _)
      | (with_reducible exact ih4 _ _ _ _ _ _ _)
      | (with_reducible exact ih5 _ _ _ _ _ _ _ _ _)
      | (with_reducible exact calamuslaw03_same.mono _ _ _)
      | (with_reducible exact calamuslaw03_works.mono _)
      | (with_reducible exact LeO.refl _)
      | (with_reducible exact LeO.none _)
      | (with_reducible refine LeO.ite ?_ ?_)
      | (with_reducible refine LeO.bind ?_ (fun _ => ?_))
      | exact ih0 _ _ _
      | exact ih1 _ _ _ _ _
      | exact ih2 _ _ _ _ _ _ _
      | exact ih3 _ _ _ _ _ _ _ _
      | exact ih4 _ _ _ _ _ _ _
      | exact ih5 _ _ _ _ _ _ _ _ _
      | exact calamuslaw03_same.mono _ _ _
      | exact calamuslaw03_works.mono _
      | exact LeO.none _
      | refine LeO.ite ?_ ?_
      | refine LeO.bind ?_ (fun _ => ?_)
    · intro y0 y1 y2 y3 y4 y5 y6 y7 y8
      unfold calamuslaw03_ClusterBehind.l1
      repeat' first
      | (with_reducible exact ih0 _ _ _)
      | (with_reducible exact ih1 _ _ _ _ _)
      | (with_reducible exact ih2 _ _ _ _ _ _ _)
      | (with_reducible exact ih3 _ _ _ _ _ _ _ _)
      | (with_reducible exact ih4 _ _ _ _ _ _ _)
      | (with_reducible exact ih5 _ _ _ _ _ _ _ _ _)
      | (with_reducible exact calamuslaw03_same.mono _ _ _)
      | (with_reducible exact calamuslaw03_works.mono _)
      | (with_reducible exact LeO.refl _)
      | (with_reducible exact LeO.none _)
      | (with_reducible refine LeO.ite ?_ ?_)
      | (with_reducible refine LeO.bind ?_ (fun _ => ?_))
      | exact ih0 _ _ _
      | exact ih1 _ _ _ _ _
      | exact ih2 _ _ _ _ _ _ _
      | exact ih3 _ _ _ _ _ _ _ _
      | exact ih4 _ _ _ _ _ _ _
      | exact ih5 _ _ _ _ _ _ _ _ _
      | exact calamuslaw03_same.mono _ _ _
      | exact calamuslaw03_works.mono _
      | exact LeO.none _
      | refine LeO.ite ?_ ?_
      | refine LeO.bind ?_ (fun _ => ?_)
theorem calamuslaw03_ClusterBehind.mono : ∀ a0 a1 k, LeO (calamuslaw03_ClusterBehind.f k a0 a1) (calamuslaw03_ClusterBehind.f (k + 1) a0 a1) := by
  intro a0 a1 k
  obtain ⟨ih0, ih1, ih2, ih3, ih4, ih5⟩ := calamuslaw03_ClusterBehind.mono_l k
  unfold calamuslaw03_ClusterBehind.f
  repeat' first
      | (with_reducible exact ih0 _ _ _)
      | (with_reducible exact ih1 _ _ _ _ _)
      | (with_reducible exact ih2 _ _ _ _ _ _ _)
      | (with_reducible exact ih3 _ _ _ _ _ _ _ _)
      | (with_reducible exact ih4 _ _ _ _ _ _ _)
      | (with_reducible exact ih5 _ _ _ _ _ _ _ _ _)
      | (with_reducible exact calamuslaw03_same.mono _ _ _)
      | (with_reducible exact calamuslaw03_works.mono _)
      | (with_reducible exact LeO.refl _)
      | (with_reducible exact LeO.none _)
      | (with_reducible refine LeO.ite ?_ ?_)
      | (with_reducible refine LeO.bind ?_ (fun _ => ?_))
      | exact ih0 _ _ _
      | exact ih1 _ _ _ _ _
      | exact ih2 _ _ _ _ _ _ _
      | exact ih3 _ _ _ _ _ _ _ _
      | exact ih4 _ _ _ _ _ _ _
      | exact ih5 _ _ _ _ _ _ _ _ _
      | exact calamuslaw03_same.mono _ _ _
      | exact calamuslaw03_works.mono _
      | exact LeO.none _
      | refine LeO.ite ?_ ?_
      | refine LeO.bind ?_ (fun _ => ?_)
set_option maxHeartbeats 8000000 in
set_option maxRecDepth 100000 in
theorem calamuslaw03_ClusterBehind.calls (k : Nat) (A0 : Option Addr) (c0 : Nat) (l0 : List Int) (A1 : Option Addr) (c1 : Nat) (l1 : List Int) (r : Bool) (w : World) (hr0 : Kd.C (Kd.int .i32) w A0 l0.length l0) (hc0 : l0.length ≤ c0) (hr1 : Kd.C (Kd.int .i32) w A1 l1.length l1) (hc1 : l1.length ≤ c1) (hG : Glob w) (h : calamuslaw03_ClusterBehind.f k l0 l1 = some r) :
    Calls Tryd.prog 11 #[.slice A0 l0.length c0, .slice A1 l1.length c1] w fun e w' => e = .returned (.bool r) ∧ Below w.heap.size w w' := by
  have HG := Aside0.mk hG
  clear hG
  have HR0 := Aside0.mk hr0
  have HC0 := Aside0.mk hc0
  clear hr0 hc0
  have HR1 := Aside0.mk hr1
  have HC1 := Aside0.mk hc1
  clear hr1 hc1
  have HB := Aside0.mk (Below.refl w.heap.size w)
  have H : (if (l0.length : Int) > 200 then (calamuslaw03_ClusterBehind.j0 k l0 l1 true) else (calamuslaw03_ClusterBehind.j0 k l0 l1 (decide ((l1.length : Int) > 200)))) = some r := h
  clear h
  have HC3 := Aside0.mk H
  clear H
  go_enter Tryd.func11, Tryd.ntmps11
  go_upto_region 1 with (fail)
  go_cut [18] (fun v18 wc => ∃ (kq : Nat) (x18_2 : Bool), v18 = .bool x18_2 ∧ Aside0 (calamuslaw03_ClusterBehind.j0 kq l0 l1 x18_2 = some r) ∧ Aside0 (kq ≤ k) ∧ Aside0 (Below w.heap.size w wc))
  case first =>
    have H := HC3.out
    clear HC3
    by_cases c4 : (l0.length : Int) > 200
    · rw [if_pos c4] at H
      have c4b0 : decide (200 < (l0.length : Int)) = true := decide_eq_true c4
      have c4b1 : decide (200 < l0.length) = true := decide_eq_true (by omega)
      clear c4
      (first | rw [c4b0] | (simp only [i64_w, i32_w]; rw [c4b0]) | skip)
      have H' := Aside0.mk H
      clear H
      go_wp2
      go_meet
      case rel => exact ⟨_, (true), (by first | rfl | (simp; done) | (simp [*]; done)), H', ⟨by first | omega | exact Nat.le_refl _⟩, ⟨by repeat (first | (with_reducible first | exact HB.out | apply below_alloc | apply pw_below_drewN | apply below_drew1) | exact HB.out)⟩⟩
    · rw [if_neg c4] at H
      have c4b0 : decide (200 < (l0.length : Int)) = false := decide_eq_false c4
      have c4b1 : decide (200 < l0.length) = false := decide_eq_false (by omega)
      clear c4
      (first | rw [c4b0] | (simp only [i64_w, i32_w]; rw [c4b0]) | skip)
      have H' := Aside0.mk H
      clear H
      go_wp2
      go_meet
      case rel => exact ⟨_, (decide ((l1.length : Int) > 200)), (by first | rfl | (simp; done) | (simp [*]; done)), H', ⟨by first | omega | exact Nat.le_refl _⟩, ⟨by repeat (first | (with_reducible first | exact HB.out | apply below_alloc | apply pw_below_drewN | apply below_drew1) | exact HB.out)⟩⟩
  case rest =>
    clear HC3
    try clear c1
    try clear p2
    try clear c4
    try clear c4b0
    try clear c4b1
    obtain ⟨kq, x18_2, rfl, HA, HJ2, HB⟩ := hcut
    cases kq with
    | zero => exact absurd HA.out (by simp [calamuslaw03_ClusterBehind.j0])
    | succ kj2 =>
      have H := HA.out
      clear HA
      simp only [calamuslaw03_ClusterBehind.j0] at H
      by_cases c5 : x18_2 = true
      · subst c5
        have H1 : ((calamuslaw03_works.f kj2).bind fun t208 => (some t208)) = some r := by rw [if_pos rfl] at H; exact H
        clear H
        have H := H1
        clear H1
        replace H := Option.bind_eq_some_iff.mp H
        obtain ⟨t208, A60, H⟩ := H
        replace H : (some t208) = some r := H
        have A6 := Aside0.mk A60
        clear A60
        obtain rfl := Option.some.inj H
        go_wp2_with (first | ((with_reducible refine gate_callee (f := 21) rfl ?_); refine goesL_ (some 19) rfl rfl Tryd.func21 (by kernel_rfl) rfl #[] rfl (by (try simp only [List.map_toArray, List.map_cons, List.map_nil]); first | done | rfl | (simp only [List.length_drop, List.length_take]; rfl)) ?_; (with_reducible refine (calamuslaw03_works.calls kj2  t208 _ ?side1 A6.out).mono ?_); (case side1 => exact Glob.below HG.out (by repeat (first | (with_reducible first | exact HB.out | apply below_alloc | apply pw_below_drewN | apply below_drew1) | exact HB.out))); rintro e w7 ⟨rfl, hb⟩; refine ⟨_, rfl, ?_⟩; have n0_ := Aside0.mk (below_step (by repeat (first | (with_reducible first | exact HB.out | apply below_alloc | apply pw_below_drewN | apply below_drew1) | exact HB.out)) hb); clear HB; have HB := n0_; clear n0_; (try clear hb); (try clear hb2); (try clear hk); (try clear hi)))
        go_ret
        exact ⟨by first | rfl | (simp [errW_none, errW_some] <;> rfl) | (simp [*, errW_none, errW_some] <;> rfl), by repeat (first | (with_reducible first | exact HB.out | apply below_alloc | apply pw_below_drewN | apply below_drew1) | exact HB.out)⟩
      · replace c5 := Bool.eq_false_iff.mpr c5
        subst c5
        have H1 : ((some (([10, 120] : List Int) : List Int)).bind fun y209 => (calamuslaw03_ClusterBehind.l0 kj2 l0 l1 y209 (y209.length : Int) 0)) = some r := by rw [if_neg (show ¬ (false = true) by decide)] at H; exact H
        clear H
        have H := H1
        clear H1
        obtain ⟨y209, hy209⟩ : ∃ y_ : List Int, y_ = (([10, 120] : List Int)) := ⟨_, rfl⟩
        replace H : (calamuslaw03_ClusterBehind.l0 kj2 l0 l1 y209 (y209.length : Int) 0) = some r := by first | (rw [hy209]; with_reducible exact H) | (have H2_ := (Option.bind_some _ _).symm.trans H; rw [hy209]; with_reducible exact H2_) | (have H2_ := (Option.bind_some _ _).symm.trans H; with_reducible exact H2_) | with_reducible exact H | (rw [hy209]; exact H) | exact H
        have Ny209 := Aside0.mk hy209
        clear hy209
        have H' := Aside0.mk H
        clear H
        go_wp2_with (first | ((with_reducible refine gate_dst (N := 20) rfl ?_); (try (refine gate_guard (by rfl) ?_; dsimp only)); refine Kd.R_lit (Kd.int .i32) _ 21 ?hg (N := 20) ?hd (xs := ([10, 120] : List Int)) (inner := [.int .i32 10, .int .i32 120]) (ok := fun _ => True) (okp := fun _ => True) ?hr ?hp (fun _ hk => hk) trivial (Below.refl _ _) (Nat.le_refl _) (by simp) ?_; (case hd => rfl); (case hg => rfl); (case hr => first | (go_simp; done) | (go_simp; rfl)); (case hp => exact (Reps.one (show Kd.M (Kd.int .i32) _ _ _ 10 [.int .i32 10] from rfl) (Reps.one (show Kd.M (Kd.int .i32) _ _ _ 120 [.int .i32 120] from rfl) (Reps.none _ _)))); intro v210 w8 ho9 hb hg_ hnew_; clear hg_ hnew_; (first | rw [← Ny209.out] at ho9 | (simp only [Int.reduceToNat] at ho9; rw [← Ny209.out] at ho9)); have n0_ := Aside0.mk (Kd.R_lower ho9 (below_size (by repeat (first | (with_reducible first | exact HB.out | apply below_alloc | apply pw_below_drewN | apply below_drew1) | exact HB.out)))); have n1_ := Aside0.mk (below_step (by repeat (first | (with_reducible first | exact HB.out | apply below_alloc | apply pw_below_drewN | apply below_drew1) | exact HB.out)) hb); clear HB; have HO211 := n0_; have HB := n1_; clear n0_ n1_; clear hb ho9; obtain ⟨Ao10, co10, eo10⟩ := Kd.R_slice HO211.out; subst eo10))
        go_loopg [22] kj2 (fun kq v22 w' => ∃ (x22_2 : Int), v22 = .int .i64 x22_2 ∧ Aside0 (calamuslaw03_ClusterBehind.l0 kq l0 l1 y209 (y209.length : Int) x22_2 = some r) ∧ Aside0 (kq ≤ kj2) ∧ Aside0 (Kd.R (Kd.int .i32) 21 w' w.heap.size (fun _ => True) (.slice Ao10 y209.length co10) y209) ∧ Aside0 (Below w.heap.size w w'))
        case atStart => exact ⟨(0), (by first | rfl | (simp; done) | (simp [*]; done)), H', ⟨Nat.le_refl _⟩, ⟨by (with_reducible repeat (first | apply Kd.R_alloc | apply Kd.R_drewN | apply Kd.R_drew)); exact HO211.out⟩, ⟨by repeat (first | (with_reducible first | exact HB.out | apply below_alloc | apply pw_below_drewN | apply below_drew1) | exact HB.out)⟩⟩
        case round =>
          clear H'
          try clear c1
          try clear c2
          try clear p2
          try clear c4
          try clear c4b0
          try clear c4b1
          try clear c5
          try clear p2
          obtain ⟨x22_2, rfl, HA, HK2, HO_20, HB⟩ := hrel
          cases gk with
          | zero => exact absurd HA.out (by simp [calamuslaw03_ClusterBehind.l0])
          | succ k2 =>
            have H := HA.out
            clear HA
            simp only [calamuslaw03_ClusterBehind.l0] at H
            by_cases c11 : x22_2 < (y209.length : Int)
            · rw [if_pos c11] at H
              have c11b0 : decide (x22_2 < (y209.length : Int)) = true := decide_eq_true c11
              clear c11
              by_cases c12 : 0 ≤ x22_2
              · rw [if_pos c12] at H
                have c12b0 : decide (0 ≤ x22_2) = true := decide_eq_true c12
                clear c12
                by_cases c13 : x22_2 < (y209.length : Int)
                · rw [if_pos c13] at H
                  have c13b0 : decide (x22_2 < (y209.length : Int)) = true := decide_eq_true c13
                  clear c13
                  have HC14 := Aside0.mk H
                  clear H
                  have p213 : 0 ≤ (x22_2 : Int) := of_decide_eq_true (by first | (with_reducible assumption) | assumption)
                  have q213 : x22_2 < (y209.length : Int) := of_decide_eq_true (by first | (with_reducible assumption) | assumption)
                  obtain ⟨ad213, e213, hx213_0⟩ := Kd.at_int (Kd.R_reads' HO_20.out).2.2 x22_2 p213 q213
                  cases e213
                  replace p213 := eq_true p213
                  replace q213 := eq_true q213
                  go_upto_region 6 with (fail)
                  go_cut [65] (fun v65 wc => ∃ (kq : Nat) (x65_13 : Bool), v65 = .bool x65_13 ∧ Aside0 (calamuslaw03_ClusterBehind.j2 kq l0 l1 (rd y209 x22_2) y209 (y209.length : Int) x22_2 x65_13 = some r) ∧ Aside0 (kq ≤ k2) ∧ Aside0 (Kd.R (Kd.int .i32) 21 wc w.heap.size (fun _ => True) (.slice (some ad213) y209.length co10) y209) ∧ Aside0 (Below w.heap.size w wc))
                  case first =>
                    have H := HC14.out
                    clear HC14
                    by_cases c15 : (rd y209 x22_2) = 120
                    · rw [if_pos c15] at H
                      have c15b0 : ((rd y209 x22_2) == 120) = true := beq_iff_eq.mpr c15
                      have c15b1 : ((rd y209 x22_2) != 120) = false := bne_eq_false_iff_eq.mpr c15
                      clear c15
                      (first | rw [c15b0] | (simp only [i64_w, i32_w]; rw [c15b0]) | skip)
                      by_cases c16 : (l0.length : Int) > 0
                      · rw [if_pos c16] at H
                        have c16b0 : decide (0 < (l0.length : Int)) = true := decide_eq_true c16
                        have c16b1 : decide (0 < l0.length) = true := decide_eq_true (by omega)
                        clear c16
                        obtain ⟨ji17, hji17⟩ : ∃ j_ : Int, (wrap64 ((l0.length : Int) - 1)) = j_ := ⟨_, rfl⟩
                        replace H : (if 0 ≤ (ji17) then (if (ji17) < (l0.length : Int) then ((calamusref02_Cluster.f (rd l0 (ji17))).bind fun t215 => (if t215 = 7 then (calamuslaw03_ClusterBehind.j2 k2 l0 l1 (rd y209 x22_2) y209 (y209.length : Int) x22_2 true) else (if (l1.length : Int) > 0 then (if 0 < (l1.length : Int) then ((calamusref02_Cluster.f (rd l1 0)).bind fun t217 => (if t217 = 4 then (calamuslaw03_ClusterBehind.j2 k2 l0 l1 (rd y209 x22_2) y209 (y209.length : Int) x22_2 true) else ((calamusref02_Cluster.f (rd l1 0)).bind fun t219 => (calamuslaw03_ClusterBehind.j2 k2 l0 l1 (rd y209 x22_2) y209 (y209.length : Int) x22_2 (t219 == 5))))) else (none)) else (calamuslaw03_ClusterBehind.j2 k2 l0 l1 (rd y209 x22_2) y209 (y209.length : Int) x22_2 false)))) else (none)) else (none)) = some r := by first | (rw [hji17] at H; exact H) | (simp only [hji17] at H ⊢; exact H)
                        have hji17w : (IntKind.i64.wrap ((l0.length : Int) - 1)) = ji17 := (i64_w _).trans hji17
                        by_cases c18 : 0 ≤ (ji17)
                        · rw [if_pos c18] at H
                          have c18b0 : decide (0 ≤ (ji17)) = true := decide_eq_true c18
                          clear c18
                          by_cases c19 : (ji17) < (l0.length : Int)
                          · rw [if_pos c19] at H
                            have c19b0 : decide ((ji17) < (l0.length : Int)) = true := decide_eq_true c19
                            clear c19
                            replace H := Option.bind_eq_some_iff.mp H
                            obtain ⟨t215, A200, H⟩ := H
                            replace H : (if t215 = 7 then (calamuslaw03_ClusterBehind.j2 k2 l0 l1 (rd y209 x22_2) y209 (y209.length : Int) x22_2 true) else (if (l1.length : Int) > 0 then (if 0 < (l1.length : Int) then ((calamusref02_Cluster.f (rd l1 0)).bind fun t217 => (if t217 = 4 then (calamuslaw03_ClusterBehind.j2 k2 l0 l1 (rd y209 x22_2) y209 (y209.length : Int) x22_2 true) else ((calamusref02_Cluster.f (rd l1 0)).bind fun t219 => (calamuslaw03_ClusterBehind.j2 k2 l0 l1 (rd y209 x22_2) y209 (y209.length : Int) x22_2 (t219 == 5))))) else (none)) else (calamuslaw03_ClusterBehind.j2 k2 l0 l1 (rd y209 x22_2) y209 (y209.length : Int) x22_2 false))) = some r := H
                            have A20 := Aside0.mk A200
                            clear A200
                            by_cases c21 : t215 = 7
                            · rw [if_pos c21] at H
                              have c21b0 : (t215 == 7) = true := beq_iff_eq.mpr c21
                              have c21b1 : (t215 != 7) = false := bne_eq_false_iff_eq.mpr c21
                              clear c21
                              have H' := Aside0.mk H
                              clear H
                              have p214 : 0 ≤ ((ji17) : Int) := of_decide_eq_true (by first | (with_reducible assumption) | assumption)
                              have q214 : (ji17) < (l0.length : Int) := of_decide_eq_true (by first | (with_reducible assumption) | assumption)
                              obtain ⟨ad214, e214, hx214_0⟩ := Kd.at_int HR0.out (ji17) p214 q214
                              cases e214
                              replace hx214_0 := (HB.out.cell (World.block_lt_of_cell? w _ hx214_0)).trans hx214_0
                              replace p214 := eq_true p214
                              replace q214 := eq_true q214
                              go_wp2_with (first | (go_at_call 27; (with_reducible refine (calamusref02_Cluster.calls (rd l0 (ji17)) t215 _ A20.out).mono ?_); rintro e w22 ⟨rfl, hb⟩; have n0_ := Aside0.mk (Kd.R_below (by (with_reducible repeat (first | apply Kd.R_alloc | apply Kd.R_drewN | apply Kd.R_drew)); exact HO_20.out) hb); have n1_ := Aside0.mk (below_step (by repeat (first | (with_reducible first | exact HB.out | apply below_alloc | apply pw_below_drewN | apply below_drew1) | exact HB.out)) hb); clear HO_20; clear HB; have HO_20 := n0_; have HB := n1_; clear n0_ n1_; (try clear hb); (try clear hb2); (try clear hk); (try clear hi)))
                              go_meet
                              case rel => exact ⟨_, (true), (by first | rfl | (simp; done) | (simp [*]; done)), H', ⟨by have := HJ2.out; have := HK2.out; first | omega | exact Nat.le_refl _⟩, ⟨by (with_reducible repeat (first | apply Kd.R_alloc | apply Kd.R_drewN | apply Kd.R_drew)); exact HO_20.out⟩, ⟨by repeat (first | (with_reducible first | exact HB.out | apply below_alloc | apply pw_below_drewN | apply below_drew1) | exact HB.out)⟩⟩
                            · rw [if_neg c21] at H
                              have c21b0 : (t215 == 7) = false := beq_eq_false_iff_ne.mpr c21
                              have c21b1 : (t215 != 7) = true := bne_iff_ne.mpr c21
                              by_cases c23 : (l1.length : Int) > 0
                              · rw [if_pos c23] at H
                                have c23b0 : decide (0 < (l1.length : Int)) = true := decide_eq_true c23
                                have c23b1 : decide (0 < l1.length) = true := decide_eq_true (by omega)
                                clear c23
                                by_cases c24 : 0 < (l1.length : Int)
                                · rw [if_pos c24] at H
                                  have c24b0 : decide (0 < (l1.length : Int)) = true := decide_eq_true c24
                                  have c24b1 : decide (0 < l1.length) = true := decide_eq_true (by omega)
                                  clear c24
                                  replace H := Option.bind_eq_some_iff.mp H
                                  obtain ⟨t217, A250, H⟩ := H
                                  replace H : (if t217 = 4 then (calamuslaw03_ClusterBehind.j2 k2 l0 l1 (rd y209 x22_2) y209 (y209.length : Int) x22_2 true) else ((calamusref02_Cluster.f (rd l1 0)).bind fun t219 => (calamuslaw03_ClusterBehind.j2 k2 l0 l1 (rd y209 x22_2) y209 (y209.length : Int) x22_2 (t219 == 5)))) = some r := H
                                  have A25 := Aside0.mk A250
                                  clear A250
                                  by_cases c26 : t217 = 4
                                  · rw [if_pos c26] at H
                                    have c26b0 : (t217 == 4) = true := beq_iff_eq.mpr c26
                                    have c26b1 : (t217 != 4) = false := bne_eq_false_iff_eq.mpr c26
                                    clear c26
                                    have H' := Aside0.mk H
                                    clear H
                                    have p214 : 0 ≤ ((ji17) : Int) := of_decide_eq_true (by first | (with_reducible assumption) | assumption)
                                    have q214 : (ji17) < (l0.length : Int) := of_decide_eq_true (by first | (with_reducible assumption) | assumption)
                                    obtain ⟨ad214, e214, hx214_0⟩ := Kd.at_int HR0.out (ji17) p214 q214
                                    cases e214
                                    replace hx214_0 := (HB.out.cell (World.block_lt_of_cell? w _ hx214_0)).trans hx214_0
                                    replace p214 := eq_true p214
                                    replace q214 := eq_true q214
                                    go_wp2_with (first | (go_at_call 27; (with_reducible refine (calamusref02_Cluster.calls (rd l0 (ji17)) t215 _ A20.out).mono ?_); rintro e w27 ⟨rfl, hb⟩; have n0_ := Aside0.mk (Kd.R_below (by (with_reducible repeat (first | apply Kd.R_alloc | apply Kd.R_drewN | apply Kd.R_drew)); exact HO_20.out) hb); have n1_ := Aside0.mk (below_step (by repeat (first | (with_reducible first | exact HB.out | apply below_alloc | apply pw_below_drewN | apply below_drew1) | exact HB.out)) hb); clear HO_20; clear HB; have HO_20 := n0_; have HB := n1_; clear n0_ n1_; (try clear hb); (try clear hb2); (try clear hk); (try clear hi); have p216 : 0 ≤ (0 : Int) := (by omega); have q216 : 0 < (l1.length : Int) := of_decide_eq_true (by first | (with_reducible assumption) | assumption); obtain ⟨ad216, e216, hx216_0⟩ := Kd.at_int HR1.out 0 p216 q216; cases e216; have qi216 : (0 < l1.length) = True := eq_true (by omega); (try rw [show ((0 : Int)).toNat = 0 from rfl] at hx216_0); (try rw [Addr.add_zero'] at hx216_0); replace hx216_0 := (HB.out.cell (World.block_lt_of_cell? w _ hx216_0)).trans hx216_0; replace p216 := eq_true p216; replace q216 := eq_true q216) | (go_at_call 27; (with_reducible refine (calamusref02_Cluster.calls (rd l1 0) t217 _ A25.out).mono ?_); rintro e w28 ⟨rfl, hb⟩; have n0_ := Aside0.mk (Kd.R_below (by (with_reducible repeat (first | apply Kd.R_alloc | apply Kd.R_drewN | apply Kd.R_drew)); exact HO_20.out) hb); have n1_ := Aside0.mk (below_step (by repeat (first | (with_reducible first | exact HB.out | apply below_alloc | apply pw_below_drewN | apply below_drew1) | exact HB.out)) hb); clear HO_20; clear HB; have HO_20 := n0_; have HB := n1_; clear n0_ n1_; (try clear hb); (try clear hb2); (try clear hk); (try clear hi)))
                                    go_meet
                                    case rel => exact ⟨_, (true), (by first | rfl | (simp; done) | (simp [*]; done)), H', ⟨by have := HJ2.out; have := HK2.out; first | omega | exact Nat.le_refl _⟩, ⟨by (with_reducible repeat (first | apply Kd.R_alloc | apply Kd.R_drewN | apply Kd.R_drew)); exact HO_20.out⟩, ⟨by repeat (first | (with_reducible first | exact HB.out | apply below_alloc | apply pw_below_drewN | apply below_drew1) | exact HB.out)⟩⟩
                                  · rw [if_neg c26] at H
                                    have c26b0 : (t217 == 4) = false := beq_eq_false_iff_ne.mpr c26
                                    have c26b1 : (t217 != 4) = true := bne_iff_ne.mpr c26
                                    replace H := Option.bind_eq_some_iff.mp H
                                    obtain ⟨t219, A290, H⟩ := H
                                    replace H : (calamuslaw03_ClusterBehind.j2 k2 l0 l1 (rd y209 x22_2) y209 (y209.length : Int) x22_2 (t219 == 5)) = some r := H
                                    have A29 := Aside0.mk A290
                                    clear A290
                                    have H' := Aside0.mk H
                                    clear H
                                    have p214 : 0 ≤ ((ji17) : Int) := of_decide_eq_true (by first | (with_reducible assumption) | assumption)
                                    have q214 : (ji17) < (l0.length : Int) := of_decide_eq_true (by first | (with_reducible assumption) | assumption)
                                    obtain ⟨ad214, e214, hx214_0⟩ := Kd.at_int HR0.out (ji17) p214 q214
                                    cases e214
                                    replace hx214_0 := (HB.out.cell (World.block_lt_of_cell? w _ hx214_0)).trans hx214_0
                                    replace p214 := eq_true p214
                                    replace q214 := eq_true q214
                                    go_wp2_with (first | (go_at_call 27; (with_reducible refine (calamusref02_Cluster.calls (rd l0 (ji17)) t215 _ A20.out).mono ?_); rintro e w30 ⟨rfl, hb⟩; have n0_ := Aside0.mk (Kd.R_below (by (with_reducible repeat (first | apply Kd.R_alloc | apply Kd.R_drewN | apply Kd.R_drew)); exact HO_20.out) hb); have n1_ := Aside0.mk (below_step (by repeat (first | (with_reducible first | exact HB.out | apply below_alloc | apply pw_below_drewN | apply below_drew1) | exact HB.out)) hb); clear HO_20; clear HB; have HO_20 := n0_; have HB := n1_; clear n0_ n1_; (try clear hb); (try clear hb2); (try clear hk); (try clear hi); have p216 : 0 ≤ (0 : Int) := (by omega); have q216 : 0 < (l1.length : Int) := of_decide_eq_true (by first | (with_reducible assumption) | assumption); obtain ⟨ad216, e216, hx216_0⟩ := Kd.at_int HR1.out 0 p216 q216; cases e216; have qi216 : (0 < l1.length) = True := eq_true (by omega); (try rw [show ((0 : Int)).toNat = 0 from rfl] at hx216_0); (try rw [Addr.add_zero'] at hx216_0); replace hx216_0 := (HB.out.cell (World.block_lt_of_cell? w _ hx216_0)).trans hx216_0; replace p216 := eq_true p216; replace q216 := eq_true q216) | (go_at_call 27; (with_reducible refine (calamusref02_Cluster.calls (rd l1 0) t217 _ A25.out).mono ?_); rintro e w31 ⟨rfl, hb⟩; have n0_ := Aside0.mk (Kd.R_below (by (with_reducible repeat (first | apply Kd.R_alloc | apply Kd.R_drewN | apply Kd.R_drew)); exact HO_20.out) hb); have n1_ := Aside0.mk (below_step (by repeat (first | (with_reducible first | exact HB.out | apply below_alloc | apply pw_below_drewN | apply below_drew1) | exact HB.out)) hb); clear HO_20; clear HB; have HO_20 := n0_; have HB := n1_; clear n0_ n1_; (try clear hb); (try clear hb2); (try clear hk); (try clear hi); have p218 : 0 ≤ (0 : Int) := (by omega); have q218 : 0 < (l1.length : Int) := of_decide_eq_true (by first | (with_reducible assumption) | assumption); obtain ⟨ad218, e218, hx218_0⟩ := Kd.at_int HR1.out 0 p218 q218; obtain rfl : ad216 = ad218 := (by injection e218); have qi218 : (0 < l1.length) = True := eq_true (by omega); (try rw [show ((0 : Int)).toNat = 0 from rfl] at hx218_0); (try rw [Addr.add_zero'] at hx218_0); replace hx218_0 := (HB.out.cell (World.block_lt_of_cell? w _ hx218_0)).trans hx218_0; replace p218 := eq_true p218; replace q218 := eq_true q218) | (go_at_call 27; (with_reducible refine (calamusref02_Cluster.calls (rd l1 0) t219 _ A29.out).mono ?_); rintro e w32 ⟨rfl, hb⟩; have n0_ := Aside0.mk (Kd.R_below (by (with_reducible repeat (first | apply Kd.R_alloc | apply Kd.R_drewN | apply Kd.R_drew)); exact HO_20.out) hb); have n1_ := Aside0.mk (below_step (by repeat (first | (with_reducible first | exact HB.out | apply below_alloc | apply pw_below_drewN | apply below_drew1) | exact HB.out)) hb); clear HO_20; clear HB; have HO_20 := n0_; have HB := n1_; clear n0_ n1_; (try clear hb); (try clear hb2); (try clear hk); (try clear hi)))
                                    go_meet
                                    case rel => exact ⟨_, ((t219 == 5)), (by first | rfl | (rw [show t217 = t219 from Option.some.inj (A25.out.symm.trans A29.out)]; done) | (simp; done) | (simp [*]; done)), H', ⟨by have := HJ2.out; have := HK2.out; first | omega | exact Nat.le_refl _⟩, ⟨by (with_reducible repeat (first | apply Kd.R_alloc | apply Kd.R_drewN | apply Kd.R_drew)); exact HO_20.out⟩, ⟨by repeat (first | (with_reducible first | exact HB.out | apply below_alloc | apply pw_below_drewN | apply below_drew1) | exact HB.out)⟩⟩
                                · rw [if_neg c24] at H
                                  exact absurd H (by simp)
                              · rw [if_neg c23] at H
                                have c23b0 : decide (0 < (l1.length : Int)) = false := decide_eq_false c23
                                have c23b1 : decide (0 < l1.length) = false := decide_eq_false (by omega)
                                clear c23
                                have H' := Aside0.mk H
                                clear H
                                have p214 : 0 ≤ ((ji17) : Int) := of_decide_eq_true (by first | (with_reducible assumption) | assumption)
                                have q214 : (ji17) < (l0.length : Int) := of_decide_eq_true (by first | (with_reducible assumption) | assumption)
                                obtain ⟨ad214, e214, hx214_0⟩ := Kd.at_int HR0.out (ji17) p214 q214
                                cases e214
                                replace hx214_0 := (HB.out.cell (World.block_lt_of_cell? w _ hx214_0)).trans hx214_0
                                replace p214 := eq_true p214
                                replace q214 := eq_true q214
                                go_wp2_with (first | (go_at_call 27; (with_reducible refine (calamusref02_Cluster.calls (rd l0 (ji17)) t215 _ A20.out).mono ?_); rintro e w33 ⟨rfl, hb⟩; have n0_ := Aside0.mk (Kd.R_below (by (with_reducible repeat (first | apply Kd.R_alloc | apply Kd.R_drewN | apply Kd.R_drew)); exact HO_20.out) hb); have n1_ := Aside0.mk (below_step (by repeat (first | (with_reducible first | exact HB.out | apply below_alloc | apply pw_below_drewN | apply below_drew1) | exact HB.out)) hb); clear HO_20; clear HB; have HO_20 := n0_; have HB := n1_; clear n0_ n1_; (try clear hb); (try clear hb2); (try clear hk); (try clear hi)))
                                go_meet
                                case rel => exact ⟨_, (false), (by first | rfl | (simp; done) | (simp [*]; done)), H', ⟨by have := HJ2.out; have := HK2.out; first | omega | exact Nat.le_refl _⟩, ⟨by (with_reducible repeat (first | apply Kd.R_alloc | apply Kd.R_drewN | apply Kd.R_drew)); exact HO_20.out⟩, ⟨by repeat (first | (with_reducible first | exact HB.out | apply below_alloc | apply pw_below_drewN | apply below_drew1) | exact HB.out)⟩⟩
                          · rw [if_neg c19] at H
                            exact absurd H (by simp)
                        · rw [if_neg c18] at H
                          exact absurd H (by simp)
                      · rw [if_neg c16] at H
                        have c16b0 : decide (0 < (l0.length : Int)) = false := decide_eq_false c16
                        have c16b1 : decide (0 < l0.length) = false := decide_eq_false (by omega)
                        clear c16
                        by_cases c34 : (l1.length : Int) > 0
                        · rw [if_pos c34] at H
                          have c34b0 : decide (0 < (l1.length : Int)) = true := decide_eq_true c34
                          have c34b1 : decide (0 < l1.length) = true := decide_eq_true (by omega)
                          clear c34
                          by_cases c35 : 0 < (l1.length : Int)
                          · rw [if_pos c35] at H
                            have c35b0 : decide (0 < (l1.length : Int)) = true := decide_eq_true c35
                            have c35b1 : decide (0 < l1.length) = true := decide_eq_true (by omega)
                            clear c35
                            replace H := Option.bind_eq_some_iff.mp H
                            obtain ⟨t221, A360, H⟩ := H
                            replace H : (if t221 = 4 then (calamuslaw03_ClusterBehind.j2 k2 l0 l1 (rd y209 x22_2) y209 (y209.length : Int) x22_2 true) else ((calamusref02_Cluster.f (rd l1 0)).bind fun t223 => (calamuslaw03_ClusterBehind.j2 k2 l0 l1 (rd y209 x22_2) y209 (y209.length : Int) x22_2 (t223 == 5)))) = some r := H
                            have A36 := Aside0.mk A360
                            clear A360
                            by_cases c37 : t221 = 4
                            · rw [if_pos c37] at H
                              have c37b0 : (t221 == 4) = true := beq_iff_eq.mpr c37
                              have c37b1 : (t221 != 4) = false := bne_eq_false_iff_eq.mpr c37
                              clear c37
                              have H' := Aside0.mk H
                              clear H
                              have p220 : 0 ≤ (0 : Int) := (by omega)
                              have q220 : 0 < (l1.length : Int) := of_decide_eq_true (by first | (with_reducible assumption) | assumption)
                              obtain ⟨ad220, e220, hx220_0⟩ := Kd.at_int HR1.out 0 p220 q220
                              cases e220
                              have qi220 : (0 < l1.length) = True := eq_true (by omega)
                              (try rw [show ((0 : Int)).toNat = 0 from rfl] at hx220_0)
                              (try rw [Addr.add_zero'] at hx220_0)
                              replace hx220_0 := (HB.out.cell (World.block_lt_of_cell? w _ hx220_0)).trans hx220_0
                              replace p220 := eq_true p220
                              replace q220 := eq_true q220
                              go_wp2_with (first | (go_at_call 27; (with_reducible refine (calamusref02_Cluster.calls (rd l1 0) t221 _ A36.out).mono ?_); rintro e w38 ⟨rfl, hb⟩; have n0_ := Aside0.mk (Kd.R_below (by (with_reducible repeat (first | apply Kd.R_alloc | apply Kd.R_drewN | apply Kd.R_drew)); exact HO_20.out) hb); have n1_ := Aside0.mk (below_step (by repeat (first | (with_reducible first | exact HB.out | apply below_alloc | apply pw_below_drewN | apply below_drew1) | exact HB.out)) hb); clear HO_20; clear HB; have HO_20 := n0_; have HB := n1_; clear n0_ n1_; (try clear hb); (try clear hb2); (try clear hk); (try clear hi)))
                              go_meet
                              case rel => exact ⟨_, (true), (by first | rfl | (simp; done) | (simp [*]; done)), H', ⟨by have := HJ2.out; have := HK2.out; first | omega | exact Nat.le_refl _⟩, ⟨by (with_reducible repeat (first | apply Kd.R_alloc | apply Kd.R_drewN | apply Kd.R_drew)); exact HO_20.out⟩, ⟨by repeat (first | (with_reducible first | exact HB.out | apply below_alloc | apply pw_below_drewN | apply below_drew1) | exact HB.out)⟩⟩
                            · rw [if_neg c37] at H
                              have c37b0 : (t221 == 4) = false := beq_eq_false_iff_ne.mpr c37
                              have c37b1 : (t221 != 4) = true := bne_iff_ne.mpr c37
                              replace H := Option.bind_eq_some_iff.mp H
                              obtain ⟨t223, A390, H⟩ := H
                              replace H : (calamuslaw03_ClusterBehind.j2 k2 l0 l1 (rd y209 x22_2) y209 (y209.length : Int) x22_2 (t223 == 5)) = some r := H
                              have A39 := Aside0.mk A390
                              clear A390
                              have H' := Aside0.mk H
                              clear H
                              have p220 : 0 ≤ (0 : Int) := (by omega)
                              have q220 : 0 < (l1.length : Int) := of_decide_eq_true (by first | (with_reducible assumption) | assumption)
                              obtain ⟨ad220, e220, hx220_0⟩ := Kd.at_int HR1.out 0 p220 q220
                              cases e220
                              have qi220 : (0 < l1.length) = True := eq_true (by omega)
                              (try rw [show ((0 : Int)).toNat = 0 from rfl] at hx220_0)
                              (try rw [Addr.add_zero'] at hx220_0)
                              replace hx220_0 := (HB.out.cell (World.block_lt_of_cell? w _ hx220_0)).trans hx220_0
                              replace p220 := eq_true p220
                              replace q220 := eq_true q220
                              go_wp2_with (first | (go_at_call 27; (with_reducible refine (calamusref02_Cluster.calls (rd l1 0) t221 _ A36.out).mono ?_); rintro e w40 ⟨rfl, hb⟩; have n0_ := Aside0.mk (Kd.R_below (by (with_reducible repeat (first | apply Kd.R_alloc | apply Kd.R_drewN | apply Kd.R_drew)); exact HO_20.out) hb); have n1_ := Aside0.mk (below_step (by repeat (first | (with_reducible first | exact HB.out | apply below_alloc | apply pw_below_drewN | apply below_drew1) | exact HB.out)) hb); clear HO_20; clear HB; have HO_20 := n0_; have HB := n1_; clear n0_ n1_; (try clear hb); (try clear hb2); (try clear hk); (try clear hi); have p222 : 0 ≤ (0 : Int) := (by omega); have q222 : 0 < (l1.length : Int) := of_decide_eq_true (by first | (with_reducible assumption) | assumption); obtain ⟨ad222, e222, hx222_0⟩ := Kd.at_int HR1.out 0 p222 q222; obtain rfl : ad220 = ad222 := (by injection e222); have qi222 : (0 < l1.length) = True := eq_true (by omega); (try rw [show ((0 : Int)).toNat = 0 from rfl] at hx222_0); (try rw [Addr.add_zero'] at hx222_0); replace hx222_0 := (HB.out.cell (World.block_lt_of_cell? w _ hx222_0)).trans hx222_0; replace p222 := eq_true p222; replace q222 := eq_true q222) | (go_at_call 27; (with_reducible refine (calamusref02_Cluster.calls (rd l1 0) t223 _ A39.out).mono ?_); rintro e w41 ⟨rfl, hb⟩; have n0_ := Aside0.mk (Kd.R_below (by (with_reducible repeat (first | apply Kd.R_alloc | apply Kd.R_drewN | apply Kd.R_drew)); exact HO_20.out) hb); have n1_ := Aside0.mk (below_step (by repeat (first | (with_reducible first | exact HB.out | apply below_alloc | apply pw_below_drewN | apply below_drew1) | exact HB.out)) hb); clear HO_20; clear HB; have HO_20 := n0_; have HB := n1_; clear n0_ n1_; (try clear hb); (try clear hb2); (try clear hk); (try clear hi)))
                              go_meet
                              case rel => exact ⟨_, ((t223 == 5)), (by first | rfl | (rw [show t221 = t223 from Option.some.inj (A36.out.symm.trans A39.out)]; done) | (simp; done) | (simp [*]; done)), H', ⟨by have := HJ2.out; have := HK2.out; first | omega | exact Nat.le_refl _⟩, ⟨by (with_reducible repeat (first | apply Kd.R_alloc | apply Kd.R_drewN | apply Kd.R_drew)); exact HO_20.out⟩, ⟨by repeat (first | (with_reducible first | exact HB.out | apply below_alloc | apply pw_below_drewN | apply below_drew1) | exact HB.out)⟩⟩
                          · rw [if_neg c35] at H
                            exact absurd H (by simp)
                        · rw [if_neg c34] at H
                          have c34b0 : decide (0 < (l1.length : Int)) = false := decide_eq_false c34
                          have c34b1 : decide (0 < l1.length) = false := decide_eq_false (by omega)
                          clear c34
                          have H' := Aside0.mk H
                          clear H
                          go_wp2
                          go_meet
                          case rel => exact ⟨_, (false), (by first | rfl | (simp; done) | (simp [*]; done)), H', ⟨by have := HJ2.out; have := HK2.out; first | omega | exact Nat.le_refl _⟩, ⟨by (with_reducible repeat (first | apply Kd.R_alloc | apply Kd.R_drewN | apply Kd.R_drew)); exact HO_20.out⟩, ⟨by repeat (first | (with_reducible first | exact HB.out | apply below_alloc | apply pw_below_drewN | apply below_drew1) | exact HB.out)⟩⟩
                    · rw [if_neg c15] at H
                      have c15b0 : ((rd y209 x22_2) == 120) = false := beq_eq_false_iff_ne.mpr c15
                      have c15b1 : ((rd y209 x22_2) != 120) = true := bne_iff_ne.mpr c15
                      (first | rw [c15b0] | (simp only [i64_w, i32_w]; rw [c15b0]) | skip)
                      have H' := Aside0.mk H
                      clear H
                      go_wp2
                      go_meet
                      case rel => exact ⟨_, (false), (by first | rfl | (simp; done) | (simp [*]; done)), H', ⟨by have := HJ2.out; have := HK2.out; first | omega | exact Nat.le_refl _⟩, ⟨by (with_reducible repeat (first | apply Kd.R_alloc | apply Kd.R_drewN | apply Kd.R_drew)); exact HO_20.out⟩, ⟨by repeat (first | (with_reducible first | exact HB.out | apply below_alloc | apply pw_below_drewN | apply below_drew1) | exact HB.out)⟩⟩
                  case rest =>
                    clear HC14
                    try clear c1
                    try clear c2
                    try clear p2
                    try clear q2
                    try clear hx2
                    try clear qi2
                    try clear c3
                    try clear c4
                    try clear c4b0
                    try clear c4b1
                    try clear c5
                    try clear p6
                    try clear c11
                    try clear c11b0
                    try clear c12
                    try clear c12b0
                    try clear c13
                    try clear c13b0
                    try clear c15
                    try clear c15b0
                    try clear c15b1
                    try clear c16
                    try clear c16b0
                    try clear c16b1
                    try clear c18
                    try clear c18b0
                    try clear c19
                    try clear c19b0
                    try clear c21
                    try clear c21b0
                    try clear c21b1
                    try clear p21
                    try clear q21
                    try clear hx21
                    try clear qi21
                    try clear p22
                    try clear q22
                    try clear hx22
                    try clear qi22
                    try clear c23
                    try clear c23b0
                    try clear c23b1
                    try clear c24
                    try clear c24b0
                    try clear c24b1
                    try clear c26
                    try clear c26b0
                    try clear c26b1
                    try clear c34
                    try clear c34b0
                    try clear c34b1
                    try clear c35
                    try clear c35b0
                    try clear c35b1
                    try clear c37
                    try clear c37b0
                    try clear c37b1
                    try clear hx213_0
                    try clear hx214_0
                    try clear hx216_0
                    try clear hx218_0
                    try clear hx220_0
                    try clear hx222_0
                    try clear p2
                    try clear p213
                    try clear p214
                    try clear p216
                    try clear p218
                    try clear p220
                    try clear p222
                    try clear q213
                    try clear q214
                    try clear q216
                    try clear q218
                    try clear q220
                    try clear q222
                    obtain ⟨kq, x65_13, rfl, HA, HJ13, HO_20, HB⟩ := hcut
                    cases kq with
                    | zero => exact absurd HA.out (by simp [calamuslaw03_ClusterBehind.j2])
                    | succ kj13 =>
                      have H := HA.out
                      clear HA
                      simp only [calamuslaw03_ClusterBehind.j2] at H
                      by_cases c42 : x65_13 = true
                      · subst c42
                        have H1 : (calamuslaw03_ClusterBehind.l0 kj13 l0 l1 y209 (y209.length : Int) (wrap64 (x22_2 + 1))) = some r := by rw [if_pos rfl] at H; exact H
                        clear H
                        have H := H1
                        clear H1
                        have H' := Aside0.mk H
                        clear H
                        go_wp2
                        go_roundg kj13
                        case measure => have := HJ2.out; have := HK2.out; have := HJ13.out; omega
                        case rel => exact ⟨(wrap64 (x22_2 + 1)), (by first | rfl | (simp; done) | (simp [*]; done)), H', ⟨by have := HJ2.out; have := HK2.out; have := HJ13.out; omega⟩, ⟨by (with_reducible repeat (first | apply Kd.R_alloc | apply Kd.R_drewN | apply Kd.R_drew)); exact HO_20.out⟩, ⟨by repeat (first | (with_reducible first | exact HB.out | apply below_alloc | apply pw_below_drewN | apply below_drew1) | exact HB.out)⟩⟩
                      · replace c42 := Bool.eq_false_iff.mpr c42
                        subst c42
                        have H1 : (if ([] : List Int).length + l0.length < 35184372088832 then ((some (([] : List Int) ++ l0 : List Int)).bind fun y224 => (if y224.length < 35184372088832 then ((some (y224 ++ [(rd y209 x22_2)] : List Int)).bind fun y227 => (if y227.length + l1.length < 35184372088832 then ((some (y227 ++ l1 : List Int)).bind fun y230 => ((cluster_Bounds.f l0).bind fun t233 => (if (rd y209 x22_2) = 10 then (if (l0.length : Int) > 0 then (if 0 ≤ (wrap64 ((l0.length : Int) - 1)) then (if (wrap64 ((l0.length : Int) - 1)) < (l0.length : Int) then (calamuslaw03_ClusterBehind.j3 kj13 l0 l1 y230 t233 y209 (y209.length : Int) x22_2 (!((rd l0 (wrap64 ((l0.length : Int) - 1))) == 13))) else (none)) else (none)) else (calamuslaw03_ClusterBehind.j3 kj13 l0 l1 y230 t233 y209 (y209.length : Int) x22_2 (!false))) else (calamuslaw03_ClusterBehind.j3 kj13 l0 l1 y230 t233 y209 (y209.length : Int) x22_2 (!false))))) else (none))) else (none))) else (none)) = some r := by rw [if_neg (show ¬ (false = true) by decide)] at H; exact H
                        clear H
                        have H := H1
                        clear H1
                        by_cases c43 : ([] : List Int).length + l0.length < 35184372088832
                        · rw [if_pos c43] at H
                          have LMc43 := Aside0.mk c43
                          clear c43
                          obtain ⟨y224, hy224⟩ : ∃ y_ : List Int, y_ = (([] : List Int) ++ l0) := ⟨_, rfl⟩
                          replace H : (if y224.length < 35184372088832 then ((some (y224 ++ [(rd y209 x22_2)] : List Int)).bind fun y227 => (if y227.length + l1.length < 35184372088832 then ((some (y227 ++ l1 : List Int)).bind fun y230 => ((cluster_Bounds.f l0).bind fun t233 => (if (rd y209 x22_2) = 10 then (if (l0.length : Int) > 0 then (if 0 ≤ (wrap64 ((l0.length : Int) - 1)) then (if (wrap64 ((l0.length : Int) - 1)) < (l0.length : Int) then (calamuslaw03_ClusterBehind.j3 kj13 l0 l1 y230 t233 y209 (y209.length : Int) x22_2 (!((rd l0 (wrap64 ((l0.length : Int) - 1))) == 13))) else (none)) else (none)) else (calamuslaw03_ClusterBehind.j3 kj13 l0 l1 y230 t233 y209 (y209.length : Int) x22_2 (!false))) else (calamuslaw03_ClusterBehind.j3 kj13 l0 l1 y230 t233 y209 (y209.length : Int) x22_2 (!false))))) else (none))) else (none)) = some r := by first | (rw [hy224]; with_reducible exact H) | (have H2_ := (Option.bind_some _ _).symm.trans H; rw [hy224]; with_reducible exact H2_) | (have H2_ := (Option.bind_some _ _).symm.trans H; with_reducible exact H2_) | with_reducible exact H | (rw [hy224]; exact H) | exact H
                          have Ny224 := Aside0.mk hy224
                          clear hy224
                          by_cases c44 : y224.length < 35184372088832
                          · rw [if_pos c44] at H
                            have LMc44 := Aside0.mk c44
                            clear c44
                            obtain ⟨y227, hy227⟩ : ∃ y_ : List Int, y_ = (y224 ++ [(rd y209 x22_2)]) := ⟨_, rfl⟩
                            replace H : (if y227.length + l1.length < 35184372088832 then ((some (y227 ++ l1 : List Int)).bind fun y230 => ((cluster_Bounds.f l0).bind fun t233 => (if (rd y209 x22_2) = 10 then (if (l0.length : Int) > 0 then (if 0 ≤ (wrap64 ((l0.length : Int) - 1)) then (if (wrap64 ((l0.length : Int) - 1)) < (l0.length : Int) then (calamuslaw03_ClusterBehind.j3 kj13 l0 l1 y230 t233 y209 (y209.length : Int) x22_2 (!((rd l0 (wrap64 ((l0.length : Int) - 1))) == 13))) else (none)) else (none)) else (calamuslaw03_ClusterBehind.j3 kj13 l0 l1 y230 t233 y209 (y209.length : Int) x22_2 (!false))) else (calamuslaw03_ClusterBehind.j3 kj13 l0 l1 y230 t233 y209 (y209.length : Int) x22_2 (!false))))) else (none)) = some r := by first | (rw [hy227]; with_reducible exact H) | (have H2_ := (Option.bind_some _ _).symm.trans H; rw [hy227]; with_reducible exact H2_) | (have H2_ := (Option.bind_some _ _).symm.trans H; with_reducible exact H2_) | with_reducible exact H | (rw [hy227]; exact H) | exact H
                            have Ny227 := Aside0.mk hy227
                            clear hy227
                            by_cases c45 : y227.length + l1.length < 35184372088832
                            · rw [if_pos c45] at H
                              have LMc45 := Aside0.mk c45
                              clear c45
                              obtain ⟨y230, hy230⟩ : ∃ y_ : List Int, y_ = (y227 ++ l1) := ⟨_, rfl⟩
                              replace H : ((cluster_Bounds.f l0).bind fun t233 => (if (rd y209 x22_2) = 10 then (if (l0.length : Int) > 0 then (if 0 ≤ (wrap64 ((l0.length : Int) - 1)) then (if (wrap64 ((l0.length : Int) - 1)) < (l0.length : Int) then (calamuslaw03_ClusterBehind.j3 kj13 l0 l1 y230 t233 y209 (y209.length : Int) x22_2 (!((rd l0 (wrap64 ((l0.length : Int) - 1))) == 13))) else (none)) else (none)) else (calamuslaw03_ClusterBehind.j3 kj13 l0 l1 y230 t233 y209 (y209.length : Int) x22_2 (!false))) else (calamuslaw03_ClusterBehind.j3 kj13 l0 l1 y230 t233 y209 (y209.length : Int) x22_2 (!false)))) = some r := by first | (rw [hy230]; with_reducible exact H) | (have H2_ := (Option.bind_some _ _).symm.trans H; rw [hy230]; with_reducible exact H2_) | (have H2_ := (Option.bind_some _ _).symm.trans H; with_reducible exact H2_) | with_reducible exact H | (rw [hy230]; exact H) | exact H
                              have Ny230 := Aside0.mk hy230
                              clear hy230
                              replace H := Option.bind_eq_some_iff.mp H
                              obtain ⟨t233, A460, H⟩ := H
                              replace H : (if (rd y209 x22_2) = 10 then (if (l0.length : Int) > 0 then (if 0 ≤ (wrap64 ((l0.length : Int) - 1)) then (if (wrap64 ((l0.length : Int) - 1)) < (l0.length : Int) then (calamuslaw03_ClusterBehind.j3 kj13 l0 l1 y230 t233 y209 (y209.length : Int) x22_2 (!((rd l0 (wrap64 ((l0.length : Int) - 1))) == 13))) else (none)) else (none)) else (calamuslaw03_ClusterBehind.j3 kj13 l0 l1 y230 t233 y209 (y209.length : Int) x22_2 (!false))) else (calamuslaw03_ClusterBehind.j3 kj13 l0 l1 y230 t233 y209 (y209.length : Int) x22_2 (!false))) = some r := H
                              have A46 := Aside0.mk A460
                              clear A460
                              have HC47 := Aside0.mk H
                              clear H
                              go_upto_region 12 with (first | ((with_reducible refine gate_builtin (b := .append) (xs := #[.tmp 66, .tmp 67]) rfl ?_); (try (refine gate_guard (by rfl) ?_; dsimp only)); at_builtin; refine Kd.R_append_rows (Kd.int .i32) (w0 := w) w.heap.size rfl (.tmp 66) (.tmp 67) 22 21 (.int .i32 0) 4 rfl Tryd.underlying22 info21 rfl (by decide) (by omega) (.slice none 0 0) ([] : List Int) l0 _ _ _ (fun k_ => some k_ ≠ (.slice (some ad213) y209.length co10 : Value).ownBlock) (fun _ => False) rfl rfl ?aO ?aR (fun _ _ h => h) (fun _ h => h.elim) ?aF ?aB ?aS ?aL ?_; (case aR => repeat (first | exact (Kd.C_below HR0.out HB.out) | (with_reducible refine Kd.C_alloc ?_ _) | (with_reducible refine Kd.C_drewN ?_ _) | (with_reducible refine Kd.C_drew ?_))); (case aB => exact (by repeat (first | (with_reducible first | exact HB.out | apply below_alloc | apply pw_below_drewN | apply below_drew1) | exact HB.out))); (case aF => exact (fun k_ hk => Kd.fresh' (Kd.R_lt (by (with_reducible repeat (first | apply Kd.R_alloc | apply Kd.R_drewN | apply Kd.R_drew)); exact HO_20.out)) k_ hk)); (case aO => exact ((Kd.R_nil _ _ _ _ (fun k_ => some k_ ≠ (.slice (some ad213) y209.length co10 : Value).ownBlock)))); (case aS => exact (below_size (by repeat (first | (with_reducible first | exact HB.out | apply below_alloc | apply pw_below_drewN | apply below_drew1) | exact HB.out)))); (case aL => have := LMc43.out; omega); intro v225 w48 ho hb hg hat; rw [← Ny224.out] at ho; have n0_ := Aside0.mk (Kd.R_after (Kd.R_apart_nil (by (with_reducible repeat (first | apply Kd.R_alloc | apply Kd.R_drewN | apply Kd.R_drew)); exact HO_20.out)) hg hat); have n1_ := Aside0.mk (hb); have n2_ := Aside0.mk (ho); clear HO_20; clear HB; have HO_20 := n0_; have HB := n1_; have HO226 := n2_; clear n0_ n1_ n2_; clear ho hb hg hat) | ((with_reducible refine gate_builtin (b := .append) (xs := #[.tmp 69, .tmp 71]) rfl ?_); (try (refine gate_guard (by rfl) ?_; dsimp only)); at_builtin; refine Kd.R_append (Kd.int .i32) (w0 := w) w.heap.size rfl (.tmp 69) (.tmp 71) 22 21 (.int .i32 0) 4 rfl Tryd.underlying22 info21 rfl (by decide) (by omega) v225 y224 (rd y209 x22_2) [.int .i32 (rd y209 x22_2)] (fun k_ => some k_ ≠ (.slice (some ad213) y209.length co10 : Value).ownBlock) (fun _ => False) rfl rfl ?aP (fun _ hk => hk.elim) ?aF ?aO ?aB ?aS ?aL ?_; (case aP => exact rfl); (case aB => exact (by repeat (first | (with_reducible first | exact HB.out | apply below_alloc | apply pw_below_drewN | apply below_drew1) | exact HB.out))); (case aF => exact (fun k_ hk => Kd.fresh' (Kd.R_lt (by (with_reducible repeat (first | apply Kd.R_alloc | apply Kd.R_drewN | apply Kd.R_drew)); exact HO_20.out)) k_ hk)); (case aO => exact (by (with_reducible repeat (first | apply Kd.R_alloc | apply Kd.R_drewN | apply Kd.R_drew)); exact HO226.out)); (case aS => exact (below_size (by repeat (first | (with_reducible first | exact HB.out | apply below_alloc | apply pw_below_drewN | apply below_drew1) | exact HB.out)))); (case aL => have := LMc44.out; omega); intro v228 w49 ho hb hg hat; rw [← Ny227.out] at ho; have n0_ := Aside0.mk (Kd.R_after (ok := (fun _ => True)) (by (with_reducible repeat (first | apply Kd.R_alloc | apply Kd.R_drewN | apply Kd.R_drew)); exact HO_20.out) hg hat); have n1_ := Aside0.mk (hb); have n2_ := Aside0.mk (ho); clear HO_20; clear HB; clear HO226; have HO_20 := n0_; have HB := n1_; have HO229 := n2_; clear n0_ n1_ n2_; clear ho hb hg hat) | ((with_reducible refine gate_builtin (b := .append) (xs := #[.tmp 73, .tmp 74]) rfl ?_); (try (refine gate_guard (by rfl) ?_; dsimp only)); at_builtin; refine Kd.R_append_rows (Kd.int .i32) (w0 := w) w.heap.size rfl (.tmp 73) (.tmp 74) 22 21 (.int .i32 0) 4 rfl Tryd.underlying22 info21 rfl (by decide) (by omega) v228 y227 l1 _ _ _ (fun k_ => some k_ ≠ (.slice (some ad213) y209.length co10 : Value).ownBlock) (fun _ => False) rfl rfl ?aO ?aR (fun _ _ h => h) (fun _ h => h.elim) ?aF ?aB ?aS ?aL ?_; (case aR => repeat (first | exact (Kd.C_below HR1.out HB.out) | (with_reducible refine Kd.C_alloc ?_ _) | (with_reducible refine Kd.C_drewN ?_ _) | (with_reducible refine Kd.C_drew ?_))); (case aB => exact (by repeat (first | (with_reducible first | exact HB.out | apply below_alloc | apply pw_below_drewN | apply below_drew1) | exact HB.out))); (case aF => exact (fun k_ hk => Kd.fresh' (Kd.R_lt (by (with_reducible repeat (first | apply Kd.R_alloc | apply Kd.R_drewN | apply Kd.R_drew)); exact HO_20.out)) k_ hk)); (case aO => exact (by (with_reducible repeat (first | apply Kd.R_alloc | apply Kd.R_drewN | apply Kd.R_drew)); exact HO229.out)); (case aS => exact (below_size (by repeat (first | (with_reducible first | exact HB.out | apply below_alloc | apply pw_below_drewN | apply below_drew1) | exact HB.out)))); (case aL => have := LMc45.out; omega); intro v231 w50 ho hb hg hat; rw [← Ny230.out] at ho; have n0_ := Aside0.mk (Kd.R_after (ok := (fun _ => True)) (by (with_reducible repeat (first | apply Kd.R_alloc | apply Kd.R_drewN | apply Kd.R_drew)); exact HO_20.out) hg hat); have n1_ := Aside0.mk (hb); have n2_ := Aside0.mk (ho); clear HO_20; clear HB; clear HO229; have HO_20 := n0_; have HB := n1_; have HO232 := n2_; clear n0_ n1_ n2_; clear ho hb hg hat) | ((with_reducible refine gate_callee (f := 23) rfl ?_); refine goesL_ (some 77) rfl rfl Tryd.func23 (by kernel_rfl) rfl #[.slice A0 l0.length c0] rfl (by (try simp only [List.map_toArray, List.map_cons, List.map_nil]); first | done | rfl | (simp only [List.length_drop, List.length_take]; rfl)) ?_; (with_reducible refine (cluster_Bounds.calls _ _ l0 t233 _ ?side1 ?side2 ?side3 A46.out).mono ?_); (case side1 => repeat (first | exact (Kd.C_below HR0.out HB.out) | (with_reducible refine Kd.C_alloc ?_ _) | (with_reducible refine Kd.C_drewN ?_ _) | (with_reducible refine Kd.C_drew ?_))); (case side2 => exact HC0.out); (case side3 => exact Glob.below HG.out (by repeat (first | (with_reducible first | exact HB.out | apply below_alloc | apply pw_below_drewN | apply below_drew1) | exact HB.out))); rintro e w51 ⟨v234, rfl, ho0, hb⟩; refine ⟨_, rfl, ?_⟩; have n0_ := Aside0.mk (Kd.R_below (by (with_reducible repeat (first | apply Kd.R_alloc | apply Kd.R_drewN | apply Kd.R_drew)); exact HO_20.out) hb); have n1_ := Aside0.mk (Kd.R_below (by (with_reducible repeat (first | apply Kd.R_alloc | apply Kd.R_drewN | apply Kd.R_drew)); exact HO232.out) hb); have n2_ := Aside0.mk (Kd.R_lower ho0 (below_size (by repeat (first | (with_reducible first | exact HB.out | apply below_alloc | apply pw_below_drewN | apply below_drew1) | exact HB.out)))); have n3_ := Aside0.mk (below_step (by repeat (first | (with_reducible first | exact HB.out | apply below_alloc | apply pw_below_drewN | apply below_drew1) | exact HB.out)) hb); clear HO_20; clear HO232; clear HB; have HO_20 := n0_; have HO232 := n1_; have HO235 := n2_; have HB := n3_; clear n0_ n1_ n2_ n3_; (try clear hb); (try clear hb2); (try clear hk); (try clear hi); (try clear ho0)))
                              (try simp only [Act.put, List.setIfInBounds_toArray, List.set_cons_zero, List.set_cons_succ])
                              go_cut [94] (fun v94 wc => ∃ (kq : Nat) (x94_46 : Bool), v94 = .bool x94_46 ∧ Aside0 (calamuslaw03_ClusterBehind.j3 kq l0 l1 y230 t233 y209 (y209.length : Int) x22_2 x94_46 = some r) ∧ Aside0 (kq ≤ kj13) ∧ Aside0 (Kd.R (Kd.int .i32) 21 wc w.heap.size (fun k_ => some k_ ≠ ((.slice (some ad213) y209.length co10) : Value).ownBlock) v231 y230) ∧ Aside0 (Kd.R (Kd.int .i64) 3 wc w.heap.size (fun _ => True) v234 t233) ∧ Aside0 (Kd.R (Kd.int .i32) 21 wc w.heap.size (fun k_ => some k_ ≠ (v231 : Value).ownBlock) (.slice (some ad213) y209.length co10) y209) ∧ Aside0 (Below w.heap.size w wc))
                              case first =>
                                have H := HC47.out
                                clear HC47
                                by_cases c52 : (rd y209 x22_2) = 10
                                · rw [if_pos c52] at H
                                  have c52b0 : ((rd y209 x22_2) == 10) = true := beq_iff_eq.mpr c52
                                  have c52b1 : ((rd y209 x22_2) != 10) = false := bne_eq_false_iff_eq.mpr c52
                                  clear c52
                                  (first | rw [c52b0] | (simp only [i64_w, i32_w]; rw [c52b0]) | skip)
                                  by_cases c53 : (l0.length : Int) > 0
                                  · rw [if_pos c53] at H
                                    have c53b0 : decide (0 < (l0.length : Int)) = true := decide_eq_true c53
                                    have c53b1 : decide (0 < l0.length) = true := decide_eq_true (by omega)
                                    clear c53
                                    obtain ⟨ji54, hji54⟩ : ∃ j_ : Int, (wrap64 ((l0.length : Int) - 1)) = j_ := ⟨_, rfl⟩
                                    replace H : (if 0 ≤ (ji54) then (if (ji54) < (l0.length : Int) then (calamuslaw03_ClusterBehind.j3 kj13 l0 l1 y230 t233 y209 (y209.length : Int) x22_2 (!((rd l0 (ji54)) == 13))) else (none)) else (none)) = some r := by first | (rw [hji54] at H; exact H) | (simp only [hji54] at H ⊢; exact H)
                                    have hji54w : (IntKind.i64.wrap ((l0.length : Int) - 1)) = ji54 := (i64_w _).trans hji54
                                    by_cases c55 : 0 ≤ (ji54)
                                    · rw [if_pos c55] at H
                                      have c55b0 : decide (0 ≤ (ji54)) = true := decide_eq_true c55
                                      clear c55
                                      by_cases c56 : (ji54) < (l0.length : Int)
                                      · rw [if_pos c56] at H
                                        have c56b0 : decide ((ji54) < (l0.length : Int)) = true := decide_eq_true c56
                                        clear c56
                                        have H' := Aside0.mk H
                                        clear H
                                        have p236 : 0 ≤ ((ji54) : Int) := of_decide_eq_true (by first | (with_reducible assumption) | assumption)
                                        have q236 : (ji54) < (l0.length : Int) := of_decide_eq_true (by first | (with_reducible assumption) | assumption)
                                        obtain ⟨ad236, e236, hx236_0⟩ := Kd.at_int HR0.out (ji54) p236 q236
                                        cases e236
                                        replace hx236_0 := (HB.out.cell (World.block_lt_of_cell? w _ hx236_0)).trans hx236_0
                                        replace p236 := eq_true p236
                                        replace q236 := eq_true q236
                                        go_wp2
                                        go_meet
                                        case rel => exact ⟨_, (!((rd l0 (ji54)) == 13)), (by first | rfl | (simp; done) | (simp only [← hji54] <;> (first | rfl | simp)) | (simp [*]; done)), H', ⟨by have := HJ2.out; have := HK2.out; have := HJ13.out; first | omega | exact Nat.le_refl _⟩, ⟨by (with_reducible repeat (first | apply Kd.R_alloc | apply Kd.R_drewN | apply Kd.R_drew)); exact HO232.out⟩, ⟨by (with_reducible repeat (first | apply Kd.R_alloc | apply Kd.R_drewN | apply Kd.R_drew)); exact HO235.out⟩, ⟨by (with_reducible repeat (first | apply Kd.R_alloc | apply Kd.R_drewN | apply Kd.R_drew)); exact Kd.R_mono HO_20.out (fun _ hk => hk.2)⟩, ⟨by repeat (first | (with_reducible first | exact HB.out | apply below_alloc | apply pw_below_drewN | apply below_drew1) | exact HB.out)⟩⟩
                                      · rw [if_neg c56] at H
                                        exact absurd H (by simp)
                                    · rw [if_neg c55] at H
                                      exact absurd H (by simp)
                                  · rw [if_neg c53] at H
                                    have c53b0 : decide (0 < (l0.length : Int)) = false := decide_eq_false c53
                                    have c53b1 : decide (0 < l0.length) = false := decide_eq_false (by omega)
                                    clear c53
                                    have H' := Aside0.mk H
                                    clear H
                                    go_wp2
                                    go_meet
                                    case rel => exact ⟨_, (!false), (by first | rfl | (simp; done) | (simp [*]; done)), H', ⟨by have := HJ2.out; have := HK2.out; have := HJ13.out; first | omega | exact Nat.le_refl _⟩, ⟨by (with_reducible repeat (first | apply Kd.R_alloc | apply Kd.R_drewN | apply Kd.R_drew)); exact HO232.out⟩, ⟨by (with_reducible repeat (first | apply Kd.R_alloc | apply Kd.R_drewN | apply Kd.R_drew)); exact HO235.out⟩, ⟨by (with_reducible repeat (first | apply Kd.R_alloc | apply Kd.R_drewN | apply Kd.R_drew)); exact Kd.R_mono HO_20.out (fun _ hk => hk.2)⟩, ⟨by repeat (first | (with_reducible first | exact HB.out | apply below_alloc | apply pw_below_drewN | apply below_drew1) | exact HB.out)⟩⟩
                                · rw [if_neg c52] at H
                                  have c52b0 : ((rd y209 x22_2) == 10) = false := beq_eq_false_iff_ne.mpr c52
                                  have c52b1 : ((rd y209 x22_2) != 10) = true := bne_iff_ne.mpr c52
                                  (first | rw [c52b0] | (simp only [i64_w, i32_w]; rw [c52b0]) | skip)
                                  have H' := Aside0.mk H
                                  clear H
                                  go_wp2
                                  go_meet
                                  case rel => exact ⟨_, (!false), (by first | rfl | (simp; done) | (simp [*]; done)), H', ⟨by have := HJ2.out; have := HK2.out; have := HJ13.out; first | omega | exact Nat.le_refl _⟩, ⟨by (with_reducible repeat (first | apply Kd.R_alloc | apply Kd.R_drewN | apply Kd.R_drew)); exact HO232.out⟩, ⟨by (with_reducible repeat (first | apply Kd.R_alloc | apply Kd.R_drewN | apply Kd.R_drew)); exact HO235.out⟩, ⟨by (with_reducible repeat (first | apply Kd.R_alloc | apply Kd.R_drewN | apply Kd.R_drew)); exact Kd.R_mono HO_20.out (fun _ hk => hk.2)⟩, ⟨by repeat (first | (with_reducible first | exact HB.out | apply below_alloc | apply pw_below_drewN | apply below_drew1) | exact HB.out)⟩⟩
                              case rest =>
                                clear HC47
                                try clear c1
                                try clear c2
                                try clear p2
                                try clear q2
                                try clear hx2
                                try clear qi2
                                try clear c3
                                try clear c4
                                try clear c4b0
                                try clear c4b1
                                try clear c5
                                try clear p6
                                try clear c11
                                try clear c11b0
                                try clear c12
                                try clear c12b0
                                try clear c13
                                try clear c13b0
                                try clear c15
                                try clear c15b0
                                try clear c15b1
                                try clear c16
                                try clear c16b0
                                try clear c16b1
                                try clear c18
                                try clear c18b0
                                try clear c19
                                try clear c19b0
                                try clear c21
                                try clear c21b0
                                try clear c21b1
                                try clear p21
                                try clear q21
                                try clear hx21
                                try clear qi21
                                try clear p22
                                try clear q22
                                try clear hx22
                                try clear qi22
                                try clear c23
                                try clear c23b0
                                try clear c23b1
                                try clear p23
                                try clear q23
                                try clear hx23
                                try clear c24
                                try clear c24b0
                                try clear c24b1
                                try clear c26
                                try clear c26b0
                                try clear c26b1
                                try clear c34
                                try clear c34b0
                                try clear c34b1
                                try clear c35
                                try clear c35b0
                                try clear c35b1
                                try clear c37
                                try clear c37b0
                                try clear c37b1
                                try clear c42
                                try clear c43
                                try clear c44
                                try clear c45
                                try clear c52
                                try clear c52b0
                                try clear c52b1
                                try clear c53
                                try clear c53b0
                                try clear c53b1
                                try clear c55
                                try clear c55b0
                                try clear c56
                                try clear c56b0
                                try clear hx213_0
                                try clear hx214_0
                                try clear hx216_0
                                try clear hx218_0
                                try clear hx220_0
                                try clear hx222_0
                                try clear hx236_0
                                try clear p2
                                try clear p21
                                try clear p213
                                try clear p214
                                try clear p216
                                try clear p218
                                try clear p22
                                try clear p220
                                try clear p222
                                try clear p236
                                try clear p6
                                try clear q2
                                try clear q21
                                try clear q213
                                try clear q214
                                try clear q216
                                try clear q218
                                try clear q22
                                try clear q220
                                try clear q222
                                try clear q236
                                obtain ⟨kq, x94_46, rfl, HA, HJ46, HO_7, HO_8, HO_20, HB⟩ := hcut
                                cases kq with
                                | zero => exact absurd HA.out (by simp [calamuslaw03_ClusterBehind.j3])
                                | succ kj46 =>
                                  have H := HA.out
                                  clear HA
                                  simp only [calamuslaw03_ClusterBehind.j3] at H
                                  have HC57 := Aside0.mk H
                                  clear H
                                  go_upto_if 94 with (fail)
                                  go_cut [8] (fun v8 wc => ∃ (kq : Nat) (x8_56 : List Int), Aside0 (calamuslaw03_ClusterBehind.j4 kq l0 l1 y230 x8_56 y209 (y209.length : Int) x22_2 = some r) ∧ Aside0 (kq ≤ kj46) ∧ Aside0 (Kd.R (Kd.int .i32) 21 wc w.heap.size (fun k_ => some k_ ≠ ((.slice (some ad213) y209.length co10) : Value).ownBlock) v231 y230) ∧ Aside0 (Kd.R (Kd.int .i64) 3 wc w.heap.size (fun _ => True) v8 x8_56) ∧ Aside0 (Kd.R (Kd.int .i32) 21 wc w.heap.size (fun k_ => some k_ ≠ (v231 : Value).ownBlock) (.slice (some ad213) y209.length co10) y209) ∧ Aside0 (Below w.heap.size w wc))
                                  case first =>
                                    have H := HC57.out
                                    clear HC57
                                    by_cases c58 : x94_46 = true
                                    · subst c58
                                      have H1 : (if t233.length < 17592186044416 then (calamuslaw03_ClusterBehind.j4 kj46 l0 l1 y230 (t233 ++ [(l0.length : Int)]) y209 (y209.length : Int) x22_2) else (none)) = some r := by rw [if_pos rfl] at H; exact H
                                      clear H
                                      have H := H1
                                      clear H1
                                      by_cases c59 : t233.length < 17592186044416
                                      · rw [if_pos c59] at H
                                        have LMc59 := Aside0.mk c59
                                        clear c59
                                        obtain ⟨y237, hy237⟩ : ∃ y_ : List Int, y_ = (t233 ++ [(l0.length : Int)]) := ⟨_, rfl⟩
                                        replace H : (calamuslaw03_ClusterBehind.j4 kj46 l0 l1 y230 y237 y209 (y209.length : Int) x22_2) = some r := by first | (rw [hy237]; with_reducible exact H) | (have H2_ := (Option.bind_some _ _).symm.trans H; rw [hy237]; with_reducible exact H2_) | (have H2_ := (Option.bind_some _ _).symm.trans H; with_reducible exact H2_) | with_reducible exact H | (rw [hy237]; exact H) | exact H
                                        have Ny237 := Aside0.mk hy237
                                        clear hy237
                                        have H' := Aside0.mk H
                                        clear H
                                        go_wp2_with (first | ((with_reducible refine gate_builtin (b := .append) (xs := #[.tmp 95, .tmp 98]) rfl ?_); (try (refine gate_guard (by rfl) ?_; dsimp only)); at_builtin; refine Kd.R_append (Kd.int .i64) (w0 := w) w.heap.size rfl (.tmp 95) (.tmp 98) 32 3 (.int .i64 0) 8 rfl Tryd.underlying32 info3 rfl (by decide) (by omega) v234 t233 (l0.length : Int) [.int .i64 (l0.length : Int)] (fun _ => True) (fun _ => False) rfl rfl ?aP (fun _ hk => hk.elim) ?aF ?aO ?aB ?aS ?aL ?_; (case aP => exact rfl); (case aB => exact (by repeat (first | (with_reducible first | exact HB.out | apply below_alloc | apply pw_below_drewN | apply below_drew1) | exact HB.out))); (case aF => exact (fun _ _ => trivial)); (case aO => exact (by (with_reducible repeat (first | apply Kd.R_alloc | apply Kd.R_drewN | apply Kd.R_drew)); exact HO_8.out)); (case aS => exact (below_size (by repeat (first | (with_reducible first | exact HB.out | apply below_alloc | apply pw_below_drewN | apply below_drew1) | exact HB.out)))); (case aL => have := LMc59.out; omega); intro v238 w60 ho hb hg hat; rw [← Ny237.out] at ho; have n0_ := Aside0.mk (Kd.R_over' (by (with_reducible repeat (first | apply Kd.R_alloc | apply Kd.R_drewN | apply Kd.R_drew)); exact HO_7.out) (Kd.R_typed (by (with_reducible repeat (first | apply Kd.R_alloc | apply Kd.R_drewN | apply Kd.R_drew)); exact HO_8.out)) (by decide) hg); have n1_ := Aside0.mk (Kd.R_over' (by (with_reducible repeat (first | apply Kd.R_alloc | apply Kd.R_drewN | apply Kd.R_drew)); exact HO_20.out) (Kd.R_typed (by (with_reducible repeat (first | apply Kd.R_alloc | apply Kd.R_drewN | apply Kd.R_drew)); exact HO_8.out)) (by decide) hg); have n2_ := Aside0.mk (hb); have n3_ := Aside0.mk (ho); clear HO_7; clear HO_20; clear HB; clear HO_8; have HO_7 := n0_; have HO_20 := n1_; have HB := n2_; have HO239 := n3_; clear n0_ n1_ n2_ n3_; clear ho hb hg hat))
                                        go_meet
                                        case rel => exact ⟨_, (y237), H', ⟨by have := HJ2.out; have := HK2.out; have := HJ13.out; have := HJ46.out; first | omega | exact Nat.le_refl _⟩, ⟨by (with_reducible repeat (first | apply Kd.R_alloc | apply Kd.R_drewN | apply Kd.R_drew)); exact HO_7.out⟩, ⟨by (with_reducible repeat (first | apply Kd.R_alloc | apply Kd.R_drewN | apply Kd.R_drew)); exact HO239.out⟩, ⟨by (with_reducible repeat (first | apply Kd.R_alloc | apply Kd.R_drewN | apply Kd.R_drew)); exact HO_20.out⟩, ⟨by repeat (first | (with_reducible first | exact HB.out | apply below_alloc | apply pw_below_drewN | apply below_drew1) | exact HB.out)⟩⟩
                                      · rw [if_neg c59] at H
                                        exact absurd H (by simp)
                                    · replace c58 := Bool.eq_false_iff.mpr c58
                                      subst c58
                                      have H1 : (calamuslaw03_ClusterBehind.j4 kj46 l0 l1 y230 t233 y209 (y209.length : Int) x22_2) = some r := by rw [if_neg (show ¬ (false = true) by decide)] at H; exact H
                                      clear H
                                      have H := H1
                                      clear H1
                                      have H' := Aside0.mk H
                                      clear H
                                      go_wp2
                                      go_meet
                                      case rel => exact ⟨_, (t233), H', ⟨by have := HJ2.out; have := HK2.out; have := HJ13.out; have := HJ46.out; first | omega | exact Nat.le_refl _⟩, ⟨by (with_reducible repeat (first | apply Kd.R_alloc | apply Kd.R_drewN | apply Kd.R_drew)); exact HO_7.out⟩, ⟨by (with_reducible repeat (first | apply Kd.R_alloc | apply Kd.R_drewN | apply Kd.R_drew)); exact HO_8.out⟩, ⟨by (with_reducible repeat (first | apply Kd.R_alloc | apply Kd.R_drewN | apply Kd.R_drew)); exact HO_20.out⟩, ⟨by repeat (first | (with_reducible first | exact HB.out | apply below_alloc | apply pw_below_drewN | apply below_drew1) | exact HB.out)⟩⟩
                                  case rest =>
                                    clear HC57
                                    try clear c1
                                    try clear c2
                                    try clear p2
                                    try clear q2
                                    try clear hx2
                                    try clear qi2
                                    try clear c3
                                    try clear c4
                                    try clear c4b0
                                    try clear c4b1
                                    try clear c5
                                    try clear p6
                                    try clear c11
                                    try clear c11b0
                                    try clear c12
                                    try clear c12b0
                                    try clear c13
                                    try clear c13b0
                                    try clear c15
                                    try clear c15b0
                                    try clear c15b1
                                    try clear c16
                                    try clear c16b0
                                    try clear c16b1
                                    try clear c18
                                    try clear c18b0
                                    try clear c19
                                    try clear c19b0
                                    try clear c21
                                    try clear c21b0
                                    try clear c21b1
                                    try clear p21
                                    try clear q21
                                    try clear hx21
                                    try clear qi21
                                    try clear p22
                                    try clear q22
                                    try clear hx22
                                    try clear qi22
                                    try clear c23
                                    try clear c23b0
                                    try clear c23b1
                                    try clear p23
                                    try clear q23
                                    try clear hx23
                                    try clear c24
                                    try clear c24b0
                                    try clear c24b1
                                    try clear c26
                                    try clear c26b0
                                    try clear c26b1
                                    try clear c34
                                    try clear c34b0
                                    try clear c34b1
                                    try clear c35
                                    try clear c35b0
                                    try clear c35b1
                                    try clear c37
                                    try clear c37b0
                                    try clear c37b1
                                    try clear c42
                                    try clear c43
                                    try clear c44
                                    try clear c45
                                    try clear c52
                                    try clear c52b0
                                    try clear c52b1
                                    try clear c53
                                    try clear c53b0
                                    try clear c53b1
                                    try clear c55
                                    try clear c55b0
                                    try clear c56
                                    try clear c56b0
                                    try clear c58
                                    try clear c59
                                    try clear hx213_0
                                    try clear hx214_0
                                    try clear hx216_0
                                    try clear hx218_0
                                    try clear hx220_0
                                    try clear hx222_0
                                    try clear hx236_0
                                    try clear p2
                                    try clear p21
                                    try clear p213
                                    try clear p214
                                    try clear p216
                                    try clear p218
                                    try clear p22
                                    try clear p220
                                    try clear p222
                                    try clear p23
                                    try clear p236
                                    try clear p6
                                    try clear q2
                                    try clear q21
                                    try clear q213
                                    try clear q214
                                    try clear q216
                                    try clear q218
                                    try clear q22
                                    try clear q220
                                    try clear q222
                                    try clear q23
                                    try clear q236
                                    obtain ⟨kq, x8_56, HA, HJ56, HO_7, HO_8, HO_20, HB⟩ := hcut
                                    cases kq with
                                    | zero => exact absurd HA.out (by simp [calamuslaw03_ClusterBehind.j4])
                                    | succ kj56 =>
                                      have H := HA.out
                                      clear HA
                                      simp only [calamuslaw03_ClusterBehind.j4] at H
                                      replace H := Option.bind_eq_some_iff.mp H
                                      obtain ⟨t240, A610, H⟩ := H
                                      replace H : (calamuslaw03_ClusterBehind.l1 kj56 l0 l1 y230 x8_56 t240 0 y209 (y209.length : Int) x22_2) = some r := H
                                      have A61 := Aside0.mk A610
                                      clear A610
                                      have H' := Aside0.mk H
                                      clear H
                                      go_wp2_with (first | ((with_reducible refine gate_callee (f := 23) rfl ?_); refine goesL_ (some 101) rfl rfl Tryd.func23 (by kernel_rfl) rfl #[.slice A1 l1.length c1] rfl (by (try simp only [List.map_toArray, List.map_cons, List.map_nil]); first | done | rfl | (simp only [List.length_drop, List.length_take]; rfl)) ?_; (with_reducible refine (cluster_Bounds.calls _ _ l1 t240 _ ?side1 ?side2 ?side3 A61.out).mono ?_); (case side1 => repeat (first | exact (Kd.C_below HR1.out HB.out) | (with_reducible refine Kd.C_alloc ?_ _) | (with_reducible refine Kd.C_drewN ?_ _) | (with_reducible refine Kd.C_drew ?_))); (case side2 => exact HC1.out); (case side3 => exact Glob.below HG.out (by repeat (first | (with_reducible first | exact HB.out | apply below_alloc | apply pw_below_drewN | apply below_drew1) | exact HB.out))); rintro e w62 ⟨v241, rfl, ho0, hb⟩; refine ⟨_, rfl, ?_⟩; have n0_ := Aside0.mk (Kd.R_below (by (with_reducible repeat (first | apply Kd.R_alloc | apply Kd.R_drewN | apply Kd.R_drew)); exact HO_7.out) hb); have n1_ := Aside0.mk (Kd.R_elder' (by (with_reducible repeat (first | apply Kd.R_alloc | apply Kd.R_drewN | apply Kd.R_drew)); exact HO_8.out) (Kd.R_base ho0) hb); have n2_ := Aside0.mk (Kd.R_below (by (with_reducible repeat (first | apply Kd.R_alloc | apply Kd.R_drewN | apply Kd.R_drew)); exact HO_20.out) hb); have n3_ := Aside0.mk (Kd.R_lower (Kd.R_new' ho0 (Kd.R_lt (by (with_reducible repeat (first | apply Kd.R_alloc | apply Kd.R_drewN | apply Kd.R_drew)); exact HO_8.out))) (below_size (by repeat (first | (with_reducible first | exact HB.out | apply below_alloc | apply pw_below_drewN | apply below_drew1) | exact HB.out)))); have n4_ := Aside0.mk (below_step (by repeat (first | (with_reducible first | exact HB.out | apply below_alloc | apply pw_below_drewN | apply below_drew1) | exact HB.out)) hb); clear HO_7; clear HO_8; clear HO_20; clear HB; have HO_7 := n0_; have HO_8 := n1_; have HO_20 := n2_; have HO242 := n3_; have HB := n4_; clear n0_ n1_ n2_ n3_ n4_; (try clear hb); (try clear hb2); (try clear hk); (try clear hi); (try clear ho0)))
                                      go_loopg [8, 10] kj56 (fun kq v8 v10 w' => ∃ (x8_6 : List Int) (x10_6 : Int), v10 = .int .i64 x10_6 ∧ Aside0 (calamuslaw03_ClusterBehind.l1 kq l0 l1 y230 x8_6 t240 x10_6 y209 (y209.length : Int) x22_2 = some r) ∧ Aside0 (kq ≤ kj56) ∧ Aside0 (Kd.R (Kd.int .i32) 21 w' w.heap.size (fun k_ => some k_ ≠ ((.slice (some ad213) y209.length co10) : Value).ownBlock) v231 y230) ∧ Aside0 (Kd.R (Kd.int .i64) 3 w' w.heap.size (fun k_ => some k_ ≠ (v241 : Value).ownBlock) v8 x8_6) ∧ Aside0 (Kd.R (Kd.int .i64) 3 w' w.heap.size (fun k_ => some k_ ≠ (v8 : Value).ownBlock) v241 t240) ∧ Aside0 (Kd.R (Kd.int .i32) 21 w' w.heap.size (fun k_ => some k_ ≠ (v231 : Value).ownBlock) (.slice (some ad213) y209.length co10) y209) ∧ Aside0 (Below w.heap.size w w'))
                                      case atStart => exact ⟨(x8_56), (0), (by first | rfl | (simp; done) | (simp [*]; done)), H', ⟨Nat.le_refl _⟩, ⟨by (with_reducible repeat (first | apply Kd.R_alloc | apply Kd.R_drewN | apply Kd.R_drew)); exact HO_7.out⟩, ⟨by (with_reducible repeat (first | apply Kd.R_alloc | apply Kd.R_drewN | apply Kd.R_drew)); exact Kd.R_mono HO_8.out (fun _ hk => hk.2)⟩, ⟨by (with_reducible repeat (first | apply Kd.R_alloc | apply Kd.R_drewN | apply Kd.R_drew)); exact Kd.R_mono HO242.out (fun _ hk => hk.2)⟩, ⟨by (with_reducible repeat (first | apply Kd.R_alloc | apply Kd.R_drewN | apply Kd.R_drew)); exact HO_20.out⟩, ⟨by repeat (first | (with_reducible first | exact HB.out | apply below_alloc | apply pw_below_drewN | apply below_drew1) | exact HB.out)⟩⟩
                                      case round =>
                                        clear H'
                                        try clear c1
                                        try clear c2
                                        try clear p2
                                        try clear q2
                                        try clear hx2
                                        try clear qi2
                                        try clear c3
                                        try clear c4
                                        try clear c4b0
                                        try clear c4b1
                                        try clear c5
                                        try clear p6
                                        try clear c11
                                        try clear c11b0
                                        try clear c12
                                        try clear c12b0
                                        try clear c13
                                        try clear c13b0
                                        try clear c15
                                        try clear c15b0
                                        try clear c15b1
                                        try clear c16
                                        try clear c16b0
                                        try clear c16b1
                                        try clear c18
                                        try clear c18b0
                                        try clear c19
                                        try clear c19b0
                                        try clear c21
                                        try clear c21b0
                                        try clear c21b1
                                        try clear p21
                                        try clear q21
                                        try clear hx21
                                        try clear qi21
                                        try clear p22
                                        try clear q22
                                        try clear hx22
                                        try clear qi22
                                        try clear c23
                                        try clear c23b0
                                        try clear c23b1
                                        try clear p23
                                        try clear q23
                                        try clear hx23
                                        try clear c24
                                        try clear c24b0
                                        try clear c24b1
                                        try clear c26
                                        try clear c26b0
                                        try clear c26b1
                                        try clear c34
                                        try clear c34b0
                                        try clear c34b1
                                        try clear c35
                                        try clear c35b0
                                        try clear c35b1
                                        try clear c37
                                        try clear c37b0
                                        try clear c37b1
                                        try clear c42
                                        try clear c43
                                        try clear c44
                                        try clear c45
                                        try clear c52
                                        try clear c52b0
                                        try clear c52b1
                                        try clear c53
                                        try clear c53b0
                                        try clear c53b1
                                        try clear c55
                                        try clear c55b0
                                        try clear c56
                                        try clear c56b0
                                        try clear c58
                                        try clear c59
                                        try clear hx213_0
                                        try clear hx214_0
                                        try clear hx216_0
                                        try clear hx218_0
                                        try clear hx220_0
                                        try clear hx222_0
                                        try clear hx236_0
                                        try clear p2
                                        try clear p21
                                        try clear p213
                                        try clear p214
                                        try clear p216
                                        try clear p218
                                        try clear p22
                                        try clear p220
                                        try clear p222
                                        try clear p23
                                        try clear p236
                                        try clear p6
                                        try clear q2
                                        try clear q21
                                        try clear q213
                                        try clear q214
                                        try clear q216
                                        try clear q218
                                        try clear q22
                                        try clear q220
                                        try clear q222
                                        try clear q23
                                        try clear q236
                                        obtain ⟨x8_6, x10_6, rfl, HA, HK6, HO_7, HO_8, HO_9, HO_20, HB⟩ := hrel
                                        cases gk with
                                        | zero => exact absurd HA.out (by simp [calamuslaw03_ClusterBehind.l1])
                                        | succ k6 =>
                                          have H := HA.out
                                          clear HA
                                          simp only [calamuslaw03_ClusterBehind.l1] at H
                                          by_cases c63 : x10_6 < (t240.length : Int)
                                          · rw [if_pos c63] at H
                                            have c63b0 : decide (x10_6 < (t240.length : Int)) = true := decide_eq_true c63
                                            clear c63
                                            by_cases c64 : 0 ≤ x10_6
                                            · rw [if_pos c64] at H
                                              have c64b0 : decide (0 ≤ x10_6) = true := decide_eq_true c64
                                              clear c64
                                              by_cases c65 : x8_6.length < 17592186044416
                                              · rw [if_pos c65] at H
                                                have LMc65 := Aside0.mk c65
                                                clear c65
                                                obtain ⟨y244, hy244⟩ : ∃ y_ : List Int, y_ = (x8_6 ++ [wrap64 ((wrap64 ((rd t240 x10_6) + (l0.length : Int))) + 1)]) := ⟨_, rfl⟩
                                                replace H : (calamuslaw03_ClusterBehind.l1 k6 l0 l1 y230 y244 t240 (wrap64 (x10_6 + 1)) y209 (y209.length : Int) x22_2) = some r := by first | (rw [hy244]; with_reducible exact H) | (have H2_ := (Option.bind_some _ _).symm.trans H; rw [hy244]; with_reducible exact H2_) | (have H2_ := (Option.bind_some _ _).symm.trans H; with_reducible exact H2_) | with_reducible exact H | (rw [hy244]; exact H) | exact H
                                                have Ny244 := Aside0.mk hy244
                                                clear hy244
                                                have H' := Aside0.mk H
                                                clear H
                                                obtain ⟨Ao66, co66, eo66⟩ := Kd.R_slice HO_9.out
                                                subst eo66
                                                have p243 : 0 ≤ (x10_6 : Int) := of_decide_eq_true (by first | (with_reducible assumption) | assumption)
                                                have q243 : x10_6 < (t240.length : Int) := of_decide_eq_true (by first | (with_reducible assumption) | assumption)
                                                obtain ⟨ad243, e243, hx243_0⟩ := Kd.at_int (Kd.R_reads' HO_9.out).2.2 x10_6 p243 q243
                                                cases e243
                                                replace p243 := eq_true p243
                                                replace q243 := eq_true q243
                                                go_wp2_with (first | ((with_reducible refine gate_builtin (b := .append) (xs := #[.tmp 108, .tmp 117]) rfl ?_); (try (refine gate_guard (by rfl) ?_; dsimp only)); at_builtin; refine Kd.R_append (Kd.int .i64) (w0 := w) w.heap.size rfl (.tmp 108) (.tmp 117) 32 3 (.int .i64 0) 8 rfl Tryd.underlying32 info3 rfl (by decide) (by omega) u8 x8_6 (wrap64 ((wrap64 ((rd t240 x10_6) + (l0.length : Int))) + 1)) [.int .i64 (wrap64 ((wrap64 ((rd t240 x10_6) + (l0.length : Int))) + 1))] (fun k_ => some k_ ≠ (.slice (some ad243) t240.length co66 : Value).ownBlock) (fun _ => False) rfl rfl ?aP (fun _ hk => hk.elim) ?aF ?aO ?aB ?aS ?aL ?_; (case aP => exact rfl); (case aB => exact (by repeat (first | (with_reducible first | exact HB.out | apply below_alloc | apply pw_below_drewN | apply below_drew1) | exact HB.out))); (case aF => exact (fun k_ hk => Kd.fresh' (Kd.R_lt (by (with_reducible repeat (first | apply Kd.R_alloc | apply Kd.R_drewN | apply Kd.R_drew)); exact HO_9.out)) k_ hk)); (case aO => exact (by (with_reducible repeat (first | apply Kd.R_alloc | apply Kd.R_drewN | apply Kd.R_drew)); exact HO_8.out)); (case aS => exact (below_size (by repeat (first | (with_reducible first | exact HB.out | apply below_alloc | apply pw_below_drewN | apply below_drew1) | exact HB.out)))); (case aL => have := LMc65.out; omega); intro v245 w67 ho hb hg hat; rw [← Ny244.out] at ho; have n0_ := Aside0.mk (Kd.R_over' (by (with_reducible repeat (first | apply Kd.R_alloc | apply Kd.R_drewN | apply Kd.R_drew)); exact HO_7.out) (Kd.R_typed (by (with_reducible repeat (first | apply Kd.R_alloc | apply Kd.R_drewN | apply Kd.R_drew)); exact HO_8.out)) (by decide) hg); have n1_ := Aside0.mk (Kd.R_after (ok := (fun _ => True)) (by (with_reducible repeat (first | apply Kd.R_alloc | apply Kd.R_drewN | apply Kd.R_drew)); exact Kd.R_mono HO_9.out (fun _ hk => ⟨trivial, hk⟩)) hg hat); have n2_ := Aside0.mk (Kd.R_over' (by (with_reducible repeat (first | apply Kd.R_alloc | apply Kd.R_drewN | apply Kd.R_drew)); exact HO_20.out) (Kd.R_typed (by (with_reducible repeat (first | apply Kd.R_alloc | apply Kd.R_drewN | apply Kd.R_drew)); exact HO_8.out)) (by decide) hg); have n3_ := Aside0.mk (hb); have n4_ := Aside0.mk (ho); clear HO_7; clear HO_9; clear HO_20; clear HB; clear HO_8; have HO_7 := n0_; have HO_9 := n1_; have HO_20 := n2_; have HB := n3_; have HO246 := n4_; clear n0_ n1_ n2_ n3_ n4_; clear ho hb hg hat))
                                                go_roundg k6
                                                case measure => have := HJ2.out; have := HK2.out; have := HJ13.out; have := HJ46.out; have := HJ56.out; have := HK6.out; omega
                                                case rel => exact ⟨(y244), (wrap64 (x10_6 + 1)), (by first | rfl | (simp; done) | (simp [*]; done)), H', ⟨by have := HJ2.out; have := HK2.out; have := HJ13.out; have := HJ46.out; have := HJ56.out; have := HK6.out; omega⟩, ⟨by (with_reducible repeat (first | apply Kd.R_alloc | apply Kd.R_drewN | apply Kd.R_drew)); exact HO_7.out⟩, ⟨by (with_reducible repeat (first | apply Kd.R_alloc | apply Kd.R_drewN | apply Kd.R_drew)); exact HO246.out⟩, ⟨by (with_reducible repeat (first | apply Kd.R_alloc | apply Kd.R_drewN | apply Kd.R_drew)); exact Kd.R_mono HO_9.out (fun _ hk => hk.2)⟩, ⟨by (with_reducible repeat (first | apply Kd.R_alloc | apply Kd.R_drewN | apply Kd.R_drew)); exact HO_20.out⟩, ⟨by repeat (first | (with_reducible first | exact HB.out | apply below_alloc | apply pw_below_drewN | apply below_drew1) | exact HB.out)⟩⟩
                                              · rw [if_neg c65] at H
                                                exact absurd H (by simp)
                                            · rw [if_neg c64] at H
                                              exact absurd H (by simp)
                                          · rw [if_neg c63] at H
                                            have c63b0 : decide (x10_6 < (t240.length : Int)) = false := decide_eq_false c63
                                            clear c63
                                            replace H := Option.bind_eq_some_iff.mp H
                                            obtain ⟨t247, A680, H⟩ := H
                                            replace H : ((calamuslaw03_same.f k6 t247 x8_6).bind fun t250 => (if t250 = true then (calamuslaw03_ClusterBehind.l0 k6 l0 l1 y209 (y209.length : Int) (wrap64 (x22_2 + 1))) else (some false))) = some r := H
                                            have A68 := Aside0.mk A680
                                            clear A680
                                            replace H := Option.bind_eq_some_iff.mp H
                                            obtain ⟨t250, A690, H⟩ := H
                                            replace H : (if t250 = true then (calamuslaw03_ClusterBehind.l0 k6 l0 l1 y209 (y209.length : Int) (wrap64 (x22_2 + 1))) else (some false)) = some r := H
                                            have A69 := Aside0.mk A690
                                            clear A690
                                            by_cases c70 : t250 = true
                                            · subst c70
                                              have H1 : (calamuslaw03_ClusterBehind.l0 k6 l0 l1 y209 (y209.length : Int) (wrap64 (x22_2 + 1))) = some r := by rw [if_pos rfl] at H; exact H
                                              clear H
                                              have H := H1
                                              clear H1
                                              have H' := Aside0.mk H
                                              clear H
                                              obtain ⟨Ao71, co71, eo71⟩ := Kd.R_slice HO_9.out
                                              subst eo71
                                              obtain ⟨Ao72, co72, eo72⟩ := Kd.R_slice HO_7.out
                                              subst eo72
                                              go_wp2_with (first | ((with_reducible refine gate_callee (f := 23) rfl ?_); refine goesL_ (some 120) rfl rfl Tryd.func23 (by kernel_rfl) rfl #[.slice Ao72 y230.length co72] rfl (by (try simp only [List.map_toArray, List.map_cons, List.map_nil]); first | done | rfl | (simp only [List.length_drop, List.length_take]; rfl)) ?_; (with_reducible refine (cluster_Bounds.calls _ _ y230 t247 _ ?side1 ?side2 ?side3 A68.out).mono ?_); (case side1 => repeat (first | exact (Kd.R_reads' HO_7.out).2.2 | (with_reducible refine Kd.C_alloc ?_ _) | (with_reducible refine Kd.C_drewN ?_ _) | (with_reducible refine Kd.C_drew ?_))); (case side2 => exact (Kd.R_reads' HO_7.out).2.1); (case side3 => exact Glob.below HG.out (by repeat (first | (with_reducible first | exact HB.out | apply below_alloc | apply pw_below_drewN | apply below_drew1) | exact HB.out))); rintro e w73 ⟨v248, rfl, ho0, hb⟩; refine ⟨_, rfl, ?_⟩; have n0_ := Aside0.mk (Kd.R_below (by (with_reducible repeat (first | apply Kd.R_alloc | apply Kd.R_drewN | apply Kd.R_drew)); exact HO_7.out) hb); have n1_ := Aside0.mk (Kd.R_elder' (by (with_reducible repeat (first | apply Kd.R_alloc | apply Kd.R_drewN | apply Kd.R_drew)); exact HO_8.out) (Kd.R_base ho0) hb); have n2_ := Aside0.mk (Kd.R_elder' (by (with_reducible repeat (first | apply Kd.R_alloc | apply Kd.R_drewN | apply Kd.R_drew)); exact HO_9.out) (Kd.R_base ho0) hb); have n3_ := Aside0.mk (Kd.R_below (by (with_reducible repeat (first | apply Kd.R_alloc | apply Kd.R_drewN | apply Kd.R_drew)); exact HO_20.out) hb); have n4_ := Aside0.mk (Kd.R_lower (Kd.R_new' (Kd.R_new' ho0 (Kd.R_lt (by (with_reducible repeat (first | apply Kd.R_alloc | apply Kd.R_drewN | apply Kd.R_drew)); exact HO_8.out))) (Kd.R_lt (by (with_reducible repeat (first | apply Kd.R_alloc | apply Kd.R_drewN | apply Kd.R_drew)); exact HO_9.out))) (below_size (by repeat (first | (with_reducible first | exact HB.out | apply below_alloc | apply pw_below_drewN | apply below_drew1) | exact HB.out)))); have n5_ := Aside0.mk (below_step (by repeat (first | (with_reducible first | exact HB.out | apply below_alloc | apply pw_below_drewN | apply below_drew1) | exact HB.out)) hb); clear HO_7; clear HO_8; clear HO_9; clear HO_20; clear HB; have HO_7 := n0_; have HO_8 := n1_; have HO_9 := n2_; have HO_20 := n3_; have HO249 := n4_; have HB := n5_; clear n0_ n1_ n2_ n3_ n4_ n5_; (try clear hb); (try clear hb2); (try clear hk); (try clear hi); (try clear ho0); obtain ⟨Ao74, co74, eo74⟩ := Kd.R_slice HO249.out; subst eo74; obtain ⟨Ao75, co75, eo75⟩ := Kd.R_slice HO_8.out; subst eo75) | ((with_reducible refine gate_callee (f := 24) rfl ?_); refine goesL_ (some 122) rfl rfl Tryd.func24 (by kernel_rfl) rfl #[.slice Ao74 t247.length co74, .slice Ao75 x8_6.length co75] rfl (by (try simp only [List.map_toArray, List.map_cons, List.map_nil]); first | done | rfl | (simp only [List.length_drop, List.length_take]; rfl)) ?_; (with_reducible refine (calamuslaw03_same.calls k6 _ _ t247 _ _ x8_6 true _ ?side1 ?side2 ?side3 ?side4 A69.out).mono ?_); (case side1 => repeat (first | exact (Kd.R_reads' HO249.out).2.2 | (with_reducible refine Kd.C_alloc ?_ _) | (with_reducible refine Kd.C_drewN ?_ _) | (with_reducible refine Kd.C_drew ?_))); (case side2 => exact (Kd.R_reads' HO249.out).2.1); (case side3 => repeat (first | exact (Kd.R_reads' HO_8.out).2.2 | (with_reducible refine Kd.C_alloc ?_ _) | (with_reducible refine Kd.C_drewN ?_ _) | (with_reducible refine Kd.C_drew ?_))); (case side4 => exact (Kd.R_reads' HO_8.out).2.1); rintro e w' ⟨rfl, ⟨nd, rfl⟩⟩; refine ⟨_, rfl, ?_⟩))
                                              go_roundg k6
                                              case measure => have := HJ2.out; have := HK2.out; have := HJ13.out; have := HJ46.out; have := HJ56.out; have := HK6.out; omega
                                              case rel => exact ⟨(wrap64 (x22_2 + 1)), (by first | rfl | (simp; done) | (simp [*]; done)), H', ⟨by have := HJ2.out; have := HK2.out; have := HJ13.out; have := HJ46.out; have := HJ56.out; have := HK6.out; omega⟩, ⟨by (with_reducible repeat (first | apply Kd.R_alloc | apply Kd.R_drewN | apply Kd.R_drew)); exact Kd.R_mono HO_20.out (fun _ hk => trivial)⟩, ⟨by repeat (first | (with_reducible first | exact HB.out | apply below_alloc | apply pw_below_drewN | apply below_drew1) | exact HB.out)⟩⟩
                                            · replace c70 := Bool.eq_false_iff.mpr c70
                                              subst c70
                                              have H1 : (some false) = some r := by rw [if_neg (show ¬ (false = true) by decide)] at H; exact H
                                              clear H
                                              have H := H1
                                              clear H1
                                              obtain rfl := Option.some.inj H
                                              obtain ⟨Ao76, co76, eo76⟩ := Kd.R_slice HO_9.out
                                              subst eo76
                                              obtain ⟨Ao77, co77, eo77⟩ := Kd.R_slice HO_7.out
                                              subst eo77
                                              go_wp2_with (first | ((with_reducible refine gate_callee (f := 23) rfl ?_); refine goesL_ (some 120) rfl rfl Tryd.func23 (by kernel_rfl) rfl #[.slice Ao77 y230.length co77] rfl (by (try simp only [List.map_toArray, List.map_cons, List.map_nil]); first | done | rfl | (simp only [List.length_drop, List.length_take]; rfl)) ?_; (with_reducible refine (cluster_Bounds.calls _ _ y230 t247 _ ?side1 ?side2 ?side3 A68.out).mono ?_); (case side1 => repeat (first | exact (Kd.R_reads' HO_7.out).2.2 | (with_reducible refine Kd.C_alloc ?_ _) | (with_reducible refine Kd.C_drewN ?_ _) | (with_reducible refine Kd.C_drew ?_))); (case side2 => exact (Kd.R_reads' HO_7.out).2.1); (case side3 => exact Glob.below HG.out (by repeat (first | (with_reducible first | exact HB.out | apply below_alloc | apply pw_below_drewN | apply below_drew1) | exact HB.out))); rintro e w78 ⟨v248, rfl, ho0, hb⟩; refine ⟨_, rfl, ?_⟩; have n0_ := Aside0.mk (Kd.R_below (by (with_reducible repeat (first | apply Kd.R_alloc | apply Kd.R_drewN | apply Kd.R_drew)); exact HO_7.out) hb); have n1_ := Aside0.mk (Kd.R_elder' (by (with_reducible repeat (first | apply Kd.R_alloc | apply Kd.R_drewN | apply Kd.R_drew)); exact HO_8.out) (Kd.R_base ho0) hb); have n2_ := Aside0.mk (Kd.R_elder' (by (with_reducible repeat (first | apply Kd.R_alloc | apply Kd.R_drewN | apply Kd.R_drew)); exact HO_9.out) (Kd.R_base ho0) hb); have n3_ := Aside0.mk (Kd.R_below (by (with_reducible repeat (first | apply Kd.R_alloc | apply Kd.R_drewN | apply Kd.R_drew)); exact HO_20.out) hb); have n4_ := Aside0.mk (Kd.R_lower (Kd.R_new' (Kd.R_new' ho0 (Kd.R_lt (by (with_reducible repeat (first | apply Kd.R_alloc | apply Kd.R_drewN | apply Kd.R_drew)); exact HO_8.out))) (Kd.R_lt (by (with_reducible repeat (first | apply Kd.R_alloc | apply Kd.R_drewN | apply Kd.R_drew)); exact HO_9.out))) (below_size (by repeat (first | (with_reducible first | exact HB.out | apply below_alloc | apply pw_below_drewN | apply below_drew1) | exact HB.out)))); have n5_ := Aside0.mk (below_step (by repeat (first | (with_reducible first | exact HB.out | apply below_alloc | apply pw_below_drewN | apply below_drew1) | exact HB.out)) hb); clear HO_7; clear HO_8; clear HO_9; clear HO_20; clear HB; have HO_7 := n0_; have HO_8 := n1_; have HO_9 := n2_; have HO_20 := n3_; have HO249 := n4_; have HB := n5_; clear n0_ n1_ n2_ n3_ n4_ n5_; (try clear hb); (try clear hb2); (try clear hk); (try clear hi); (try clear ho0); obtain ⟨Ao79, co79, eo79⟩ := Kd.R_slice HO249.out; subst eo79; obtain ⟨Ao80, co80, eo80⟩ := Kd.R_slice HO_8.out; subst eo80) | ((with_reducible refine gate_callee (f := 24) rfl ?_); refine goesL_ (some 122) rfl rfl Tryd.func24 (by kernel_rfl) rfl #[.slice Ao79 t247.length co79, .slice Ao80 x8_6.length co80] rfl (by (try simp only [List.map_toArray, List.map_cons, List.map_nil]); first | done | rfl | (simp only [List.length_drop, List.length_take]; rfl)) ?_; (with_reducible refine (calamuslaw03_same.calls k6 _ _ t247 _ _ x8_6 false _ ?side1 ?side2 ?side3 ?side4 A69.out).mono ?_); (case side1 => repeat (first | exact (Kd.R_reads' HO249.out).2.2 | (with_reducible refine Kd.C_alloc ?_ _) | (with_reducible refine Kd.C_drewN ?_ _) | (with_reducible refine Kd.C_drew ?_))); (case side2 => exact (Kd.R_reads' HO249.out).2.1); (case side3 => repeat (first | exact (Kd.R_reads' HO_8.out).2.2 | (with_reducible refine Kd.C_alloc ?_ _) | (with_reducible refine Kd.C_drewN ?_ _) | (with_reducible refine Kd.C_drew ?_))); (case side4 => exact (Kd.R_reads' HO_8.out).2.1); rintro e w' ⟨rfl, ⟨nd, rfl⟩⟩; refine ⟨_, rfl, ?_⟩))
                                              go_ret
                                              exact ⟨by first | rfl | (simp [errW_none, errW_some] <;> rfl) | (simp [*, errW_none, errW_some] <;> rfl), by repeat (first | (with_reducible first | exact HB.out | apply below_alloc | apply pw_below_drewN | apply below_drew1) | exact HB.out)⟩
                            · rw [if_neg c45] at H
                              exact absurd H (by simp)
                          · rw [if_neg c44] at H
                            exact absurd H (by simp)
                        · rw [if_neg c43] at H
                          exact absurd H (by simp)
                · rw [if_neg c13] at H
                  exact absurd H (by simp)
              · rw [if_neg c12] at H
                exact absurd H (by simp)
            · rw [if_neg c11] at H
              have c11b0 : decide (x22_2 < (y209.length : Int)) = false := decide_eq_false c11
              clear c11
              replace H := Option.bind_eq_some_iff.mp H
              obtain ⟨t212, A810, H⟩ := H
              replace H : (some t212) = some r := H
              have A81 := Aside0.mk A810
              clear A810
              obtain rfl := Option.some.inj H
              go_wp2_with (first | ((with_reducible refine gate_callee (f := 21) rfl ?_); refine goesL_ (some 125) rfl rfl Tryd.func21 (by kernel_rfl) rfl #[] rfl (by (try simp only [List.map_toArray, List.map_cons, List.map_nil]); first | done | rfl | (simp only [List.length_drop, List.length_take]; rfl)) ?_; (with_reducible refine (calamuslaw03_works.calls k2  t212 _ ?side1 A81.out).mono ?_); (case side1 => exact Glob.below HG.out (by repeat (first | (with_reducible first | exact HB.out | apply below_alloc | apply pw_below_drewN | apply below_drew1) | exact HB.out))); rintro e w82 ⟨rfl, hb⟩; refine ⟨_, rfl, ?_⟩; have n0_ := Aside0.mk (Kd.R_below (by (with_reducible repeat (first | apply Kd.R_alloc | apply Kd.R_drewN | apply Kd.R_drew)); exact HO_20.out) hb); have n1_ := Aside0.mk (below_step (by repeat (first | (with_reducible first | exact HB.out | apply below_alloc | apply pw_below_drewN | apply below_drew1) | exact HB.out)) hb); clear HO_20; clear HB; have HO_20 := n0_; have HB := n1_; clear n0_ n1_; (try clear hb); (try clear hb2); (try clear hk); (try clear hi)))
              go_ret
              exact ⟨by first | rfl | (simp [errW_none, errW_some] <;> rfl) | (simp [*, errW_none, errW_some] <;> rfl), by repeat (first | (with_reducible first | exact HB.out | apply below_alloc | apply pw_below_drewN | apply below_drew1) | exact HB.out)⟩

/-- THE ONE PURE STATEMENT of calamuslaw03_ClusterBehind: yours. -/
def calamuslaw03_ClusterBehind.Pure : Prop := ∀ (l0 : List Int) (l1 : List Int), l0.length ≤ maxLen → l0.length * 4 ≤ 140737488351232 → (∀ x ∈ l0, (Lit.int .i32 x).wf = true) → l1.length ≤ maxLen → l1.length * 4 ≤ 140737488351232 → (∀ x ∈ l1, (Lit.int .i32 x).wf = true) → ∃ k, calamuslaw03_ClusterBehind.f k l0 l1 = some true
theorem calamuslaw03_ClusterBehind.walk (P : calamuslaw03_ClusterBehind.Pure) (a0 : Option Addr) (len0 cap0 : Nat) (z0 : List Int) (a1 : Option Addr) (len1 cap1 : Nat) (z1 : List Int) (w : World) (w0 : (a0 = none ∧ len0 = 0 ∧ cap0 = 0 ∧ z0 = []) ∨ ∃ x, a0 = some x ∧ len0 ≤ cap0 ∧ cap0 ≤ maxLen ∧ z0.length = cap0 ∧ (∀ i, i < z0.length → w.cell? (x.add i) = some (.int .i32 (z0.getD i 0))) ∧ ∀ n ∈ z0, (Lit.int .i32 n).wf = true) (y0 : len0 * 4 ≤ 140737488351232) (w1 : (a1 = none ∧ len1 = 0 ∧ cap1 = 0 ∧ z1 = []) ∨ ∃ x, a1 = some x ∧ len1 ≤ cap1 ∧ cap1 ≤ maxLen ∧ z1.length = cap1 ∧ (∀ i, i < z1.length → w.cell? (x.add i) = some (.int .i32 (z1.getD i 0))) ∧ ∀ n ∈ z1, (Lit.int .i32 n).wf = true) (y1 : len1 * 4 ≤ 140737488351232) (hG : Glob w) :
    Calls Tryd.prog 11 #[.slice a0 len0 cap0, .slice a1 len1 cap1] w fun e w' => e = .returned (.bool true) ∧ Below w.heap.size w w' := by
  obtain ⟨l0, rfl, hr0, hm0, hw0, hc0⟩ := ReadsInt.ofRowC w0
  obtain ⟨l1, rfl, hr1, hm1, hw1, hc1⟩ := ReadsInt.ofRowC w1
  obtain ⟨k, h⟩ := P l0 l1 hm0 y0 hw0 hm1 y1 hw1
  refine (calamuslaw03_ClusterBehind.calls k _ _ l0 _ _ l1 true w (Kd.C_of_reads (d := (0 : Int)) (h1 := fun _ => rfl) hr0) hc0 (Kd.C_of_reads (d := (0 : Int)) (h1 := fun _ => rfl) hr1) hc1 hG h).mono ?_
  rintro e w' ⟨rfl, hd⟩
  exact ⟨rfl, hd⟩

end Go.Proofs.YtffmdnckapalfaaDoor.C
