-- Printed by a turned copy of the kit's print (turnprint.py, pp.sh: this session's). Lean checks it.
import Derived.Test.YtffmdnckapalfaaDoorJx0
import Derived.Test.YtffmdnckapalfaaDoorJx1
namespace Go.Proofs.YtffmdnckapalfaaDoor.J
open Go.RowKit Go.Proofs.YtffmdnckapalfaaDoorW.PrintWords Go.Proofs.YtffmdnckapalfaaDoorW.PrintLast Go.Proofs.YtffmdnckapalfaaDoorW.PrintMore Go.Proofs.YtffmdnckapalfaaDoor.ExtJ Go.Proofs.YtffmdnckapalfaaDoor.T
attribute [local go_sem] max2_int min2_int max_two min_two max_three min_three max_four min_four   -- for this text's walks alone
set_option linter.unusedVariables false
set_option linter.unusedSimpArgs false

/-! ### calamuslaw15_JoiningAgree: function 6 -/
mutual
def calamuslaw15_JoiningAgree.l0 : Nat → List Int → List Int → Int → Int → Option (Bool)
  | 0, _, _, _, _ => none
  | k + 1, x0, x3, x4, x5 => if x5 < (x0.length : Int) then (if 0 ≤ x5 then ((calamusref02_Joining.f (rd x0 x5)).bind fun t237 => (if t237 = 4 then (calamuslaw15_JoiningAgree.l0 k x0 x3 x4 (wrap64 (x5 + 1))) else (if x5 < (x3.length : Int) then (if (rd x3 x5) = 3 then (calamuslaw15_JoiningAgree.j1 k x0 x3 x4 x5 true) else (calamuslaw15_JoiningAgree.j1 k x0 x3 x4 x5 ((rd x3 x5) == 4))) else (none)))) else (none)) else ((calamuslaw15_works.f k).bind fun t235 => (some t235))
def calamuslaw15_JoiningAgree.j1 : Nat → List Int → List Int → Int → Int → Bool → Option (Bool)
  | 0, _, _, _, _, _ => none
  | k + 1, x0, x3, x4, x5, x6 => if x4 < 0 then (calamuslaw15_JoiningAgree.j2 k x0 x3 x4 x5 x6 x6) else (calamuslaw15_JoiningAgree.j2 k x0 x3 x4 x5 x6 false)
def calamuslaw15_JoiningAgree.j2 : Nat → List Int → List Int → Int → Int → Bool → Bool → Option (Bool)
  | 0, _, _, _, _, _, _ => none
  | k + 1, x0, x3, x4, x5, x6, x48 => if x48 = true then (some false) else (if x4 ≥ 0 then (if 0 ≤ x4 then (if x4 < (x3.length : Int) then (if (rd x3 x4) = 3 then (if 0 ≤ x5 then (if x5 < (x0.length : Int) then ((calamusref02_Joining.f (rd x0 x5)).bind fun t242 => (if x6 = true then (if (rd x3 x4) = 2 then (if t242 = 3 then (calamuslaw15_JoiningAgree.l0 k x0 x3 x5 (wrap64 (x5 + 1))) else (calamuslaw15_JoiningAgree.l0 k x0 x3 x5 (wrap64 (x5 + 1)))) else (calamuslaw15_JoiningAgree.l0 k x0 x3 x5 (wrap64 (x5 + 1)))) else (if (rd x3 x4) = 2 then (if t242 = 3 then (calamuslaw15_JoiningAgree.l0 k x0 x3 x5 (wrap64 (x5 + 1))) else (some false)) else (calamuslaw15_JoiningAgree.l0 k x0 x3 x5 (wrap64 (x5 + 1)))))) else (none)) else (none)) else (if (rd x3 x4) = 2 then (if 0 ≤ x5 then (if x5 < (x0.length : Int) then ((calamusref02_Joining.f (rd x0 x5)).bind fun t247 => (if x6 = true then (if t247 = 3 then (calamuslaw15_JoiningAgree.l0 k x0 x3 x5 (wrap64 (x5 + 1))) else (calamuslaw15_JoiningAgree.l0 k x0 x3 x5 (wrap64 (x5 + 1)))) else (if t247 = 3 then (calamuslaw15_JoiningAgree.l0 k x0 x3 x5 (wrap64 (x5 + 1))) else (some false)))) else (none)) else (none)) else (if x4 < (x0.length : Int) then ((calamusref02_Joining.f (rd x0 x4)).bind fun t251 => (if 0 ≤ x5 then (if x5 < (x0.length : Int) then ((calamusref02_Joining.f (rd x0 x5)).bind fun t253 => (if x6 = true then (if t251 = 3 then (calamuslaw15_JoiningAgree.l0 k x0 x3 x5 (wrap64 (x5 + 1))) else (some false)) else (calamuslaw15_JoiningAgree.l0 k x0 x3 x5 (wrap64 (x5 + 1))))) else (none)) else (none))) else (none)))) else (none)) else (none)) else (calamuslaw15_JoiningAgree.l0 k x0 x3 x5 (wrap64 (x5 + 1))))
end
def calamuslaw15_JoiningAgree.f (k : Nat) (l0 : List Int) : Option (Bool) := if (l0.length : Int) > 600 then ((calamuslaw15_works.f k).bind fun t231 => (some t231)) else ((joining_Forms.f l0).bind fun t232 => (if (t232.length : Int) = (l0.length : Int) then (calamuslaw15_JoiningAgree.l0 k l0 t232 (-1) 0) else (some false)))
theorem calamuslaw15_JoiningAgree.mono_l : ∀ k, (∀ y0 y1 y2 y3, LeO (calamuslaw15_JoiningAgree.l0 k y0 y1 y2 y3) (calamuslaw15_JoiningAgree.l0 (k + 1) y0 y1 y2 y3)) ∧ (∀ y0 y1 y2 y3 y4, LeO (calamuslaw15_JoiningAgree.j1 k y0 y1 y2 y3 y4) (calamuslaw15_JoiningAgree.j1 (k + 1) y0 y1 y2 y3 y4)) ∧ (∀ y0 y1 y2 y3 y4 y5, LeO (calamuslaw15_JoiningAgree.j2 k y0 y1 y2 y3 y4 y5) (calamuslaw15_JoiningAgree.j2 (k + 1) y0 y1 y2 y3 y4 y5))
  | 0 => ⟨fun _ _ _ _ r h => by simp [calamuslaw15_JoiningAgree.l0] at h, fun _ _ _ _ _ r h => by simp [calamuslaw15_JoiningAgree.j1] at h, fun _ _ _ _ _ _ r h => by simp [calamuslaw15_JoiningAgree.j2] at h⟩
  | k + 1 => by
    obtain ⟨ih0, ih1, ih2⟩ := calamuslaw15_JoiningAgree.mono_l k
    refine ⟨?_, ?_, ?_⟩
    · intro y0 y1 y2 y3
      unfold calamuslaw15_JoiningAgree.l0
      repeat' first
      | (with_reducible exact ih0 _ _ _ _)
      | (with_reducible exact ih1 _ _ _ _ _)
      | (with_reducible exact ih2 _ _ _ _ _ _)
      | (with_reducible exact calamuslaw15_works.mono _)
      | (with_reducible exact LeO.refl _)
      | (with_reducible exact LeO.none _)
      | (with_reducible refine LeO.ite ?_ ?_)
      | (with_reducible refine LeO.bind ?_ (fun _ => ?_))
      | exact ih0 _ _ _ _
      | exact ih1 _ _ _ _ _
      | exact ih2 _ _ _ _ _ _
      | exact calamuslaw15_works.mono _
      | exact LeO.none _
      | refine LeO.ite ?_ ?_
      | refine LeO.bind ?_ (fun _ => ?_)
    · intro y0 y1 y2 y3 y4
      unfold calamuslaw15_JoiningAgree.j1
      repeat' first
      | (with_reducible exact ih0 _ _ _ _)
      | (with_reducible exact ih1 _ _ _ _ _)
      | (with_reducible exact ih2 _ _ _ _ _ _)
      | (with_reducible exact calamuslaw15_works.mono _)
      | (with_reducible exact LeO.refl _)
      | (with_reducible exact LeO.none _)
      | (with_reducible refine LeO.ite ?_ ?_)
      | (with_reducible refine LeO.bind ?_ (fun _ => ?_))
      | exact ih0 _ _ _ _
      | exact ih1 _ _ _ _ _
      | exact ih2 _ _ _ _ _ _
      | exact calamuslaw15_works.mono _
      | exact LeO.none _
      | refine LeO.ite ?_ ?_
      | refine LeO.bind ?_ (fun _ => ?_)
    · intro y0 y1 y2 y3 y4 y5
      unfold calamuslaw15_JoiningAgree.j2
      repeat' first
      | (with_reducible exact ih0 _ _ _ _)
      | (with_reducible exact ih1 _ _ _ _ _)
      | (with_reducible exact ih2 _ _ _ _ _ _)
      | (with_reducible exact calamuslaw15_works.mono _)
      | (with_reducible exact LeO.refl _)
      | (with_reducible exact LeO.none _)
      | (with_reducible refine LeO.ite ?_ ?_)
      | (with_reducible refine LeO.bind ?_ (fun _ => ?_))
      | exact ih0 _ _ _ _
      | exact ih1 _ _ _ _ _
      | exact ih2 _ _ _ _ _ _
      | exact calamuslaw15_works.mono _
      | exact LeO.none _
      | refine LeO.ite ?_ ?_
      | refine LeO.bind ?_ (fun _ => ?_)
theorem calamuslaw15_JoiningAgree.mono : ∀ a0 k, LeO (calamuslaw15_JoiningAgree.f k a0) (calamuslaw15_JoiningAgree.f (k + 1) a0) := by
  intro a0 k
  obtain ⟨ih0, ih1, ih2⟩ := calamuslaw15_JoiningAgree.mono_l k
  unfold calamuslaw15_JoiningAgree.f
  repeat' first
      | (with_reducible exact ih0 _ _ _ _)
      | (with_reducible exact ih1 _ _ _ _ _)
      | (with_reducible exact ih2 _ _ _ _ _ _)
      | (with_reducible exact calamuslaw15_works.mono _)
      | (with_reducible exact LeO.refl _)
      | (with_reducible exact LeO.none _)
      | (with_reducible refine LeO.ite ?_ ?_)
      | (with_reducible refine LeO.bind ?_ (fun _ => ?_))
      | exact ih0 _ _ _ _
      | exact ih1 _ _ _ _ _
      | exact ih2 _ _ _ _ _ _
      | exact calamuslaw15_works.mono _
      | exact LeO.none _
      | refine LeO.ite ?_ ?_
      | refine LeO.bind ?_ (fun _ => ?_)
set_option maxHeartbeats 8000000 in
set_option maxRecDepth 100000 in
theorem calamuslaw15_JoiningAgree.calls (k : Nat) (A0 : Option Addr) (c0 : Nat) (l0 : List Int) (r : Bool) (w : World) (hr0 : Kd.C (Kd.int .i32) w A0 l0.length l0) (hc0 : l0.length ≤ c0) (hG : Glob w) (h : calamuslaw15_JoiningAgree.f k l0 = some r) :
    Calls Tryd.prog 6 #[.slice A0 l0.length c0] w fun e w' => e = .returned (.bool r) ∧ Below w.heap.size w w' := by
  have HG := Aside0.mk hG
  clear hG
  have HR0 := Aside0.mk hr0
  have HC0 := Aside0.mk hc0
  clear hr0 hc0
  have HB := Aside0.mk (Below.refl w.heap.size w)
  have H : (if (l0.length : Int) > 600 then ((calamuslaw15_works.f k).bind fun t231 => (some t231)) else ((joining_Forms.f l0).bind fun t232 => (if (t232.length : Int) = (l0.length : Int) then (calamuslaw15_JoiningAgree.l0 k l0 t232 (-1) 0) else (some false)))) = some r := h
  clear h
  by_cases c2 : (l0.length : Int) > 600
  · rw [if_pos c2] at H
    have c2b0 : decide (600 < (l0.length : Int)) = true := decide_eq_true c2
    have c2b1 : decide (600 < l0.length) = true := decide_eq_true (by omega)
    clear c2
    replace H := Option.bind_eq_some_iff.mp H
    obtain ⟨t231, A30, H⟩ := H
    replace H : (some t231) = some r := H
    have A3 := Aside0.mk A30
    clear A30
    obtain rfl := Option.some.inj H
    go_enter Tryd.func6, Tryd.ntmps6
    go_wp2_with (first | ((with_reducible refine gate_callee (f := 13) rfl ?_); refine goesL_ (some 12) rfl rfl Tryd.func13 (by kernel_rfl) rfl #[] rfl (by (try simp only [List.map_toArray, List.map_cons, List.map_nil]); first | done | rfl | (simp only [List.length_drop, List.length_take]; rfl)) ?_; (with_reducible refine (calamuslaw15_works.calls k  t231 _ ?side1 A3.out).mono ?_); (case side1 => exact Glob.below HG.out (by repeat (first | (with_reducible first | exact HB.out | apply below_alloc | apply pw_below_drewN | apply below_drew1) | exact HB.out))); rintro e w4 ⟨rfl, hb⟩; refine ⟨_, rfl, ?_⟩; have n0_ := Aside0.mk (below_step (by repeat (first | (with_reducible first | exact HB.out | apply below_alloc | apply pw_below_drewN | apply below_drew1) | exact HB.out)) hb); clear HB; have HB := n0_; clear n0_; (try clear hb); (try clear hb2); (try clear hk); (try clear hi)))
    go_ret
    exact ⟨by first | rfl | (simp [errW_none, errW_some] <;> rfl) | (simp [*, errW_none, errW_some] <;> rfl), by repeat (first | (with_reducible first | exact HB.out | apply below_alloc | apply pw_below_drewN | apply below_drew1) | exact HB.out)⟩
  · rw [if_neg c2] at H
    have c2b0 : decide (600 < (l0.length : Int)) = false := decide_eq_false c2
    have c2b1 : decide (600 < l0.length) = false := decide_eq_false (by omega)
    clear c2
    replace H := Option.bind_eq_some_iff.mp H
    obtain ⟨t232, A50, H⟩ := H
    replace H : (if (t232.length : Int) = (l0.length : Int) then (calamuslaw15_JoiningAgree.l0 k l0 t232 (-1) 0) else (some false)) = some r := H
    have A5 := Aside0.mk A50
    clear A50
    by_cases c6 : (t232.length : Int) = (l0.length : Int)
    · rw [if_pos c6] at H
      have c6b0 : ((t232.length : Int) == (l0.length : Int)) = true := beq_iff_eq.mpr c6
      have c6b1 : ((t232.length : Int) != (l0.length : Int)) = false := bne_eq_false_iff_eq.mpr c6
      have c6b2 : (t232.length == l0.length) = true := by first | simpa using c6 | (simp at c6 ⊢; omega)
      clear c6
      have H' := Aside0.mk H
      clear H
      go_enter Tryd.func6, Tryd.ntmps6
      go_wp2_with (first | ((with_reducible refine gate_callee (f := 14) rfl ?_); refine goesL_ (some 14) rfl rfl Tryd.func14 (by kernel_rfl) rfl #[.slice A0 l0.length c0] rfl (by (try simp only [List.map_toArray, List.map_cons, List.map_nil]); first | done | rfl | (simp only [List.length_drop, List.length_take]; rfl)) ?_; (with_reducible refine (joining_Forms.calls _ _ l0 t232 _ ?side1 ?side2 ?side3 A5.out).mono ?_); (case side1 => repeat (first | exact HR0.out | (with_reducible refine Kd.C_alloc ?_ _) | (with_reducible refine Kd.C_drewN ?_ _) | (with_reducible refine Kd.C_drew ?_))); (case side2 => exact HC0.out); (case side3 => exact Glob.below HG.out (by repeat (first | (with_reducible first | exact HB.out | apply below_alloc | apply pw_below_drewN | apply below_drew1) | exact HB.out))); rintro e w7 ⟨v233, rfl, ho0, hb⟩; refine ⟨_, rfl, ?_⟩; have n0_ := Aside0.mk (Kd.R_lower ho0 (below_size (by repeat (first | (with_reducible first | exact HB.out | apply below_alloc | apply pw_below_drewN | apply below_drew1) | exact HB.out)))); have n1_ := Aside0.mk (below_step (by repeat (first | (with_reducible first | exact HB.out | apply below_alloc | apply pw_below_drewN | apply below_drew1) | exact HB.out)) hb); clear HB; have HO234 := n0_; have HB := n1_; clear n0_ n1_; (try clear hb); (try clear hb2); (try clear hk); (try clear hi); (try clear ho0); obtain ⟨Ao8, co8, eo8⟩ := Kd.R_slice HO234.out; subst eo8))
      go_loopg [4, 5] k (fun kq v4 v5 w' => ∃ (x4_1 : Int) (x5_1 : Int), v4 = .int .i64 x4_1 ∧ v5 = .int .i64 x5_1 ∧ Aside0 (calamuslaw15_JoiningAgree.l0 kq l0 t232 x4_1 x5_1 = some r) ∧ Aside0 (kq ≤ k) ∧ Aside0 (Kd.R (Kd.int .u8) 5 w' w.heap.size (fun _ => True) (.slice Ao8 t232.length co8) t232) ∧ Aside0 (Below w.heap.size w w'))
      case atStart => exact ⟨((-1)), (0), (by first | rfl | (simp; done) | (simp [*]; done)), (by first | rfl | (simp; done) | (simp [*]; done)), H', ⟨Nat.le_refl _⟩, ⟨by (with_reducible repeat (first | apply Kd.R_alloc | apply Kd.R_drewN | apply Kd.R_drew)); exact HO234.out⟩, ⟨by repeat (first | (with_reducible first | exact HB.out | apply below_alloc | apply pw_below_drewN | apply below_drew1) | exact HB.out)⟩⟩
      case round =>
        clear H'
        try clear c1
        try clear c2
        try clear c2b0
        try clear c2b1
        try clear p2
        try clear c6
        try clear c6b0
        try clear c6b1
        try clear c6b2
        obtain ⟨x4_1, x5_1, rfl, rfl, HA, HK1, HO_3, HB⟩ := hrel
        cases gk with
        | zero => exact absurd HA.out (by simp [calamuslaw15_JoiningAgree.l0])
        | succ k1 =>
          have H := HA.out
          clear HA
          simp only [calamuslaw15_JoiningAgree.l0] at H
          by_cases c9 : x5_1 < (l0.length : Int)
          · rw [if_pos c9] at H
            have c9b0 : decide (x5_1 < (l0.length : Int)) = true := decide_eq_true c9
            clear c9
            by_cases c10 : 0 ≤ x5_1
            · rw [if_pos c10] at H
              have c10b0 : decide (0 ≤ x5_1) = true := decide_eq_true c10
              clear c10
              replace H := Option.bind_eq_some_iff.mp H
              obtain ⟨t237, A110, H⟩ := H
              replace H : (if t237 = 4 then (calamuslaw15_JoiningAgree.l0 k1 l0 t232 x4_1 (wrap64 (x5_1 + 1))) else (if x5_1 < (t232.length : Int) then (if (rd t232 x5_1) = 3 then (calamuslaw15_JoiningAgree.j1 k1 l0 t232 x4_1 x5_1 true) else (calamuslaw15_JoiningAgree.j1 k1 l0 t232 x4_1 x5_1 ((rd t232 x5_1) == 4))) else (none))) = some r := H
              have A11 := Aside0.mk A110
              clear A110
              by_cases c12 : t237 = 4
              · rw [if_pos c12] at H
                have c12b0 : (t237 == 4) = true := beq_iff_eq.mpr c12
                have c12b1 : (t237 != 4) = false := bne_eq_false_iff_eq.mpr c12
                clear c12
                have H' := Aside0.mk H
                clear H
                have p236 : 0 ≤ (x5_1 : Int) := of_decide_eq_true (by first | (with_reducible assumption) | assumption)
                have q236 : x5_1 < (l0.length : Int) := of_decide_eq_true (by first | (with_reducible assumption) | assumption)
                obtain ⟨ad236, e236, hx236_0⟩ := Kd.at_int HR0.out x5_1 p236 q236
                cases e236
                replace hx236_0 := (HB.out.cell (World.block_lt_of_cell? w _ hx236_0)).trans hx236_0
                replace p236 := eq_true p236
                replace q236 := eq_true q236
                go_wp2_with (first | ((with_reducible refine gate_callee (f := 19) rfl ?_); refine goesL_ (some 30) rfl rfl Tryd.func19 (by kernel_rfl) rfl #[.int .i32 (rd l0 x5_1)] rfl (by (try simp only [List.map_toArray, List.map_cons, List.map_nil]); first | done | rfl | (simp only [List.length_drop, List.length_take]; rfl)) ?_; (with_reducible refine (calamusref02_Joining.calls (rd l0 x5_1) t237 _ A11.out).mono ?_); rintro e w13 ⟨rfl, hb⟩; refine ⟨_, rfl, ?_⟩; have n0_ := Aside0.mk (Kd.R_below (by (with_reducible repeat (first | apply Kd.R_alloc | apply Kd.R_drewN | apply Kd.R_drew)); exact HO_3.out) hb); have n1_ := Aside0.mk (below_step (by repeat (first | (with_reducible first | exact HB.out | apply below_alloc | apply pw_below_drewN | apply below_drew1) | exact HB.out)) hb); clear HO_3; clear HB; have HO_3 := n0_; have HB := n1_; clear n0_ n1_; (try clear hb); (try clear hb2); (try clear hk); (try clear hi)))
                go_roundg k1
                case measure => have := HK1.out; omega
                case rel => exact ⟨(x4_1), (wrap64 (x5_1 + 1)), (by first | rfl | (simp; done) | (simp [*]; done)), (by first | rfl | (simp; done) | (simp [*]; done)), H', ⟨by have := HK1.out; omega⟩, ⟨by (with_reducible repeat (first | apply Kd.R_alloc | apply Kd.R_drewN | apply Kd.R_drew)); exact HO_3.out⟩, ⟨by repeat (first | (with_reducible first | exact HB.out | apply below_alloc | apply pw_below_drewN | apply below_drew1) | exact HB.out)⟩⟩
              · rw [if_neg c12] at H
                have c12b0 : (t237 == 4) = false := beq_eq_false_iff_ne.mpr c12
                have c12b1 : (t237 != 4) = true := bne_iff_ne.mpr c12
                have HC14 := Aside0.mk H
                clear H
                have p236 : 0 ≤ (x5_1 : Int) := of_decide_eq_true (by first | (with_reducible assumption) | assumption)
                have q236 : x5_1 < (l0.length : Int) := of_decide_eq_true (by first | (with_reducible assumption) | assumption)
                obtain ⟨ad236, e236, hx236_0⟩ := Kd.at_int HR0.out x5_1 p236 q236
                cases e236
                replace hx236_0 := (HB.out.cell (World.block_lt_of_cell? w _ hx236_0)).trans hx236_0
                replace p236 := eq_true p236
                replace q236 := eq_true q236
                go_upto_region 11 with (first | ((with_reducible refine gate_callee (f := 19) rfl ?_); refine goesL_ (some 30) rfl rfl Tryd.func19 (by kernel_rfl) rfl #[.int .i32 (rd l0 x5_1)] rfl (by (try simp only [List.map_toArray, List.map_cons, List.map_nil]); first | done | rfl | (simp only [List.length_drop, List.length_take]; rfl)) ?_; (with_reducible refine (calamusref02_Joining.calls (rd l0 x5_1) t237 _ A11.out).mono ?_); rintro e w15 ⟨rfl, hb⟩; refine ⟨_, rfl, ?_⟩; have n0_ := Aside0.mk (Kd.R_below (by (with_reducible repeat (first | apply Kd.R_alloc | apply Kd.R_drewN | apply Kd.R_drew)); exact HO_3.out) hb); have n1_ := Aside0.mk (below_step (by repeat (first | (with_reducible first | exact HB.out | apply below_alloc | apply pw_below_drewN | apply below_drew1) | exact HB.out)) hb); clear HO_3; clear HB; have HO_3 := n0_; have HB := n1_; clear n0_ n1_; (try clear hb); (try clear hb2); (try clear hk); (try clear hi)))
                (try simp only [Act.put, List.setIfInBounds_toArray, List.set_cons_zero, List.set_cons_succ])
                go_cut [6] (fun v6 wc => ∃ (kq : Nat) (x6_13 : Bool), v6 = .bool x6_13 ∧ Aside0 (calamuslaw15_JoiningAgree.j1 kq l0 t232 x4_1 x5_1 x6_13 = some r) ∧ Aside0 (kq ≤ k1) ∧ Aside0 (Kd.R (Kd.int .u8) 5 wc w.heap.size (fun _ => True) (.slice Ao8 t232.length co8) t232) ∧ Aside0 (Below w.heap.size w wc))
                case first =>
                  have H := HC14.out
                  clear HC14
                  by_cases c16 : x5_1 < (t232.length : Int)
                  · rw [if_pos c16] at H
                    have c16b0 : decide (x5_1 < (t232.length : Int)) = true := decide_eq_true c16
                    clear c16
                    (first | rw [c16b0] | (simp only [i64_w, i32_w]; rw [c16b0]) | skip)
                    by_cases c17 : (rd t232 x5_1) = 3
                    · rw [if_pos c17] at H
                      have c17b0 : ((rd t232 x5_1) == 3) = true := beq_iff_eq.mpr c17
                      have c17b1 : ((rd t232 x5_1) != 3) = false := bne_eq_false_iff_eq.mpr c17
                      clear c17
                      have H' := Aside0.mk H
                      clear H
                      have p238 : 0 ≤ (x5_1 : Int) := of_decide_eq_true (by first | (with_reducible assumption) | assumption)
                      have q238 : x5_1 < (t232.length : Int) := of_decide_eq_true (by first | (with_reducible assumption) | assumption)
                      obtain ⟨ad238, e238, hx238_0⟩ := Kd.at_int (Kd.R_reads' HO_3.out).2.2 x5_1 p238 q238
                      cases e238
                      replace p238 := eq_true p238
                      replace q238 := eq_true q238
                      go_wp2
                      go_meet
                      case rel => exact ⟨_, (true), (by first | rfl | (simp; done) | (simp [*]; done)), H', ⟨by have := HK1.out; first | omega | exact Nat.le_refl _⟩, ⟨by (with_reducible repeat (first | apply Kd.R_alloc | apply Kd.R_drewN | apply Kd.R_drew)); exact HO_3.out⟩, ⟨by repeat (first | (with_reducible first | exact HB.out | apply below_alloc | apply pw_below_drewN | apply below_drew1) | exact HB.out)⟩⟩
                    · rw [if_neg c17] at H
                      have c17b0 : ((rd t232 x5_1) == 3) = false := beq_eq_false_iff_ne.mpr c17
                      have c17b1 : ((rd t232 x5_1) != 3) = true := bne_iff_ne.mpr c17
                      have H' := Aside0.mk H
                      clear H
                      have p238 : 0 ≤ (x5_1 : Int) := of_decide_eq_true (by first | (with_reducible assumption) | assumption)
                      have q238 : x5_1 < (t232.length : Int) := of_decide_eq_true (by first | (with_reducible assumption) | assumption)
                      obtain ⟨ad238, e238, hx238_0⟩ := Kd.at_int (Kd.R_reads' HO_3.out).2.2 x5_1 p238 q238
                      cases e238
                      replace p238 := eq_true p238
                      replace q238 := eq_true q238
                      have p239 : 0 ≤ (x5_1 : Int) := of_decide_eq_true (by first | (with_reducible assumption) | assumption)
                      have q239 : x5_1 < (t232.length : Int) := of_decide_eq_true (by first | (with_reducible assumption) | assumption)
                      obtain ⟨ad239, e239, hx239_0⟩ := Kd.at_int (Kd.R_reads' HO_3.out).2.2 x5_1 p239 q239
                      obtain rfl : ad238 = ad239 := (by injection e239)
                      replace p239 := eq_true p239
                      replace q239 := eq_true q239
                      go_wp2
                      go_meet
                      case rel => exact ⟨_, (((rd t232 x5_1) == 4)), (by first | rfl | (simp; done) | (simp [*]; done)), H', ⟨by have := HK1.out; first | omega | exact Nat.le_refl _⟩, ⟨by (with_reducible repeat (first | apply Kd.R_alloc | apply Kd.R_drewN | apply Kd.R_drew)); exact HO_3.out⟩, ⟨by repeat (first | (with_reducible first | exact HB.out | apply below_alloc | apply pw_below_drewN | apply below_drew1) | exact HB.out)⟩⟩
                  · rw [if_neg c16] at H
                    exact absurd H (by simp)
                case rest =>
                  clear HC14
                  try clear c1
                  try clear c2
                  try clear c2b0
                  try clear c2b1
                  try clear p2
                  try clear q2
                  try clear hx2
                  try clear c6
                  try clear c6b0
                  try clear c6b1
                  try clear c6b2
                  try clear p6
                  try clear c9
                  try clear c9b0
                  try clear c10
                  try clear c10b0
                  try clear c12
                  try clear c12b0
                  try clear c12b1
                  try clear c13
                  try clear c14
                  try clear c16
                  try clear c16b0
                  try clear c17
                  try clear c17b0
                  try clear c17b1
                  try clear hx236_0
                  try clear hx238_0
                  try clear hx239_0
                  try clear p2
                  try clear p236
                  try clear p238
                  try clear p239
                  try clear q236
                  try clear q238
                  try clear q239
                  obtain ⟨kq, x6_13, rfl, HA, HJ13, HO_3, HB⟩ := hcut
                  cases kq with
                  | zero => exact absurd HA.out (by simp [calamuslaw15_JoiningAgree.j1])
                  | succ kj13 =>
                    have H := HA.out
                    clear HA
                    simp only [calamuslaw15_JoiningAgree.j1] at H
                    have HC18 := Aside0.mk H
                    clear H
                    go_upto_region 12 with (fail)
                    go_cut [48] (fun v48 wc => ∃ (kq : Nat) (x48_17 : Bool), v48 = .bool x48_17 ∧ Aside0 (calamuslaw15_JoiningAgree.j2 kq l0 t232 x4_1 x5_1 x6_13 x48_17 = some r) ∧ Aside0 (kq ≤ kj13) ∧ Aside0 (Kd.R (Kd.int .u8) 5 wc w.heap.size (fun _ => True) (.slice Ao8 t232.length co8) t232) ∧ Aside0 (Below w.heap.size w wc))
                    case first =>
                      have H := HC18.out
                      clear HC18
                      by_cases c19 : x4_1 < 0
                      · rw [if_pos c19] at H
                        have c19b0 : decide (x4_1 < 0) = true := decide_eq_true c19
                        clear c19
                        (first | rw [c19b0] | (simp only [i64_w, i32_w]; rw [c19b0]) | skip)
                        have H' := Aside0.mk H
                        clear H
                        go_wp2
                        go_meet
                        case rel => exact ⟨_, (x6_13), (by first | rfl | (simp; done) | (simp [*]; done)), H', ⟨by have := HK1.out; have := HJ13.out; first | omega | exact Nat.le_refl _⟩, ⟨by (with_reducible repeat (first | apply Kd.R_alloc | apply Kd.R_drewN | apply Kd.R_drew)); exact HO_3.out⟩, ⟨by repeat (first | (with_reducible first | exact HB.out | apply below_alloc | apply pw_below_drewN | apply below_drew1) | exact HB.out)⟩⟩
                      · rw [if_neg c19] at H
                        have c19b0 : decide (x4_1 < 0) = false := decide_eq_false c19
                        clear c19
                        (first | rw [c19b0] | (simp only [i64_w, i32_w]; rw [c19b0]) | skip)
                        have H' := Aside0.mk H
                        clear H
                        go_wp2
                        go_meet
                        case rel => exact ⟨_, (false), (by first | rfl | (simp; done) | (simp [*]; done)), H', ⟨by have := HK1.out; have := HJ13.out; first | omega | exact Nat.le_refl _⟩, ⟨by (with_reducible repeat (first | apply Kd.R_alloc | apply Kd.R_drewN | apply Kd.R_drew)); exact HO_3.out⟩, ⟨by repeat (first | (with_reducible first | exact HB.out | apply below_alloc | apply pw_below_drewN | apply below_drew1) | exact HB.out)⟩⟩
                    case rest =>
                      clear HC18
                      try clear c1
                      try clear c2
                      try clear c2b0
                      try clear c2b1
                      try clear p2
                      try clear q2
                      try clear hx2
                      try clear c6
                      try clear c6b0
                      try clear c6b1
                      try clear c6b2
                      try clear p6
                      try clear c9
                      try clear c9b0
                      try clear c10
                      try clear c10b0
                      try clear c12
                      try clear c12b0
                      try clear c12b1
                      try clear c13
                      try clear c14
                      try clear c16
                      try clear c16b0
                      try clear c17
                      try clear c17b0
                      try clear c17b1
                      try clear c19
                      try clear c19b0
                      try clear hx236_0
                      try clear hx238_0
                      try clear hx239_0
                      try clear p2
                      try clear p236
                      try clear p238
                      try clear p239
                      try clear p6
                      try clear q2
                      try clear q236
                      try clear q238
                      try clear q239
                      obtain ⟨kq, x48_17, rfl, HA, HJ17, HO_3, HB⟩ := hcut
                      cases kq with
                      | zero => exact absurd HA.out (by simp [calamuslaw15_JoiningAgree.j2])
                      | succ kj17 =>
                        have H := HA.out
                        clear HA
                        simp only [calamuslaw15_JoiningAgree.j2] at H
                        by_cases c20 : x48_17 = true
                        · subst c20
                          have H1 : (some false) = some r := by rw [if_pos rfl] at H; exact H
                          clear H
                          have H := H1
                          clear H1
                          obtain rfl := Option.some.inj H
                          go_wp2
                          go_ret
                          exact ⟨by first | rfl | (simp [errW_none, errW_some] <;> rfl) | (simp [*, errW_none, errW_some] <;> rfl), by repeat (first | (with_reducible first | exact HB.out | apply below_alloc | apply pw_below_drewN | apply below_drew1) | exact HB.out)⟩
                        · replace c20 := Bool.eq_false_iff.mpr c20
                          subst c20
                          have H1 : (if x4_1 ≥ 0 then (if 0 ≤ x4_1 then (if x4_1 < (t232.length : Int) then (if (rd t232 x4_1) = 3 then (if 0 ≤ x5_1 then (if x5_1 < (l0.length : Int) then ((calamusref02_Joining.f (rd l0 x5_1)).bind fun t242 => (if x6_13 = true then (if (rd t232 x4_1) = 2 then (if t242 = 3 then (calamuslaw15_JoiningAgree.l0 kj17 l0 t232 x5_1 (wrap64 (x5_1 + 1))) else (calamuslaw15_JoiningAgree.l0 kj17 l0 t232 x5_1 (wrap64 (x5_1 + 1)))) else (calamuslaw15_JoiningAgree.l0 kj17 l0 t232 x5_1 (wrap64 (x5_1 + 1)))) else (if (rd t232 x4_1) = 2 then (if t242 = 3 then (calamuslaw15_JoiningAgree.l0 kj17 l0 t232 x5_1 (wrap64 (x5_1 + 1))) else (some false)) else (calamuslaw15_JoiningAgree.l0 kj17 l0 t232 x5_1 (wrap64 (x5_1 + 1)))))) else (none)) else (none)) else (if (rd t232 x4_1) = 2 then (if 0 ≤ x5_1 then (if x5_1 < (l0.length : Int) then ((calamusref02_Joining.f (rd l0 x5_1)).bind fun t247 => (if x6_13 = true then (if t247 = 3 then (calamuslaw15_JoiningAgree.l0 kj17 l0 t232 x5_1 (wrap64 (x5_1 + 1))) else (calamuslaw15_JoiningAgree.l0 kj17 l0 t232 x5_1 (wrap64 (x5_1 + 1)))) else (if t247 = 3 then (calamuslaw15_JoiningAgree.l0 kj17 l0 t232 x5_1 (wrap64 (x5_1 + 1))) else (some false)))) else (none)) else (none)) else (if x4_1 < (l0.length : Int) then ((calamusref02_Joining.f (rd l0 x4_1)).bind fun t251 => (if 0 ≤ x5_1 then (if x5_1 < (l0.length : Int) then ((calamusref02_Joining.f (rd l0 x5_1)).bind fun t253 => (if x6_13 = true then (if t251 = 3 then (calamuslaw15_JoiningAgree.l0 kj17 l0 t232 x5_1 (wrap64 (x5_1 + 1))) else (some false)) else (calamuslaw15_JoiningAgree.l0 kj17 l0 t232 x5_1 (wrap64 (x5_1 + 1))))) else (none)) else (none))) else (none)))) else (none)) else (none)) else (calamuslaw15_JoiningAgree.l0 kj17 l0 t232 x5_1 (wrap64 (x5_1 + 1)))) = some r := by rw [if_neg (show ¬ (false = true) by decide)] at H; exact H
                          clear H
                          have H := H1
                          clear H1
                          by_cases c21 : x4_1 ≥ 0
                          · rw [if_pos c21] at H
                            have c21b0 : decide (0 ≤ x4_1) = true := decide_eq_true c21
                            clear c21
                            by_cases c22 : 0 ≤ x4_1
                            · rw [if_pos c22] at H
                              have c22b0 : decide (0 ≤ x4_1) = true := decide_eq_true c22
                              clear c22
                              by_cases c23 : x4_1 < (t232.length : Int)
                              · rw [if_pos c23] at H
                                have c23b0 : decide (x4_1 < (t232.length : Int)) = true := decide_eq_true c23
                                clear c23
                                by_cases c24 : (rd t232 x4_1) = 3
                                · rw [if_pos c24] at H
                                  have c24b0 : ((rd t232 x4_1) == 3) = true := beq_iff_eq.mpr c24
                                  have c24b1 : ((rd t232 x4_1) != 3) = false := bne_eq_false_iff_eq.mpr c24
                                  clear c24
                                  by_cases c25 : 0 ≤ x5_1
                                  · rw [if_pos c25] at H
                                    have c25b0 : decide (0 ≤ x5_1) = true := decide_eq_true c25
                                    clear c25
                                    by_cases c26 : x5_1 < (l0.length : Int)
                                    · rw [if_pos c26] at H
                                      have c26b0 : decide (x5_1 < (l0.length : Int)) = true := decide_eq_true c26
                                      clear c26
                                      replace H := Option.bind_eq_some_iff.mp H
                                      obtain ⟨t242, A270, H⟩ := H
                                      replace H : (if x6_13 = true then (if (rd t232 x4_1) = 2 then (if t242 = 3 then (calamuslaw15_JoiningAgree.l0 kj17 l0 t232 x5_1 (wrap64 (x5_1 + 1))) else (calamuslaw15_JoiningAgree.l0 kj17 l0 t232 x5_1 (wrap64 (x5_1 + 1)))) else (calamuslaw15_JoiningAgree.l0 kj17 l0 t232 x5_1 (wrap64 (x5_1 + 1)))) else (if (rd t232 x4_1) = 2 then (if t242 = 3 then (calamuslaw15_JoiningAgree.l0 kj17 l0 t232 x5_1 (wrap64 (x5_1 + 1))) else (some false)) else (calamuslaw15_JoiningAgree.l0 kj17 l0 t232 x5_1 (wrap64 (x5_1 + 1))))) = some r := H
                                      have A27 := Aside0.mk A270
                                      clear A270
                                      by_cases c28 : x6_13 = true
                                      · subst c28
                                        have H1 : (if (rd t232 x4_1) = 2 then (if t242 = 3 then (calamuslaw15_JoiningAgree.l0 kj17 l0 t232 x5_1 (wrap64 (x5_1 + 1))) else (calamuslaw15_JoiningAgree.l0 kj17 l0 t232 x5_1 (wrap64 (x5_1 + 1)))) else (calamuslaw15_JoiningAgree.l0 kj17 l0 t232 x5_1 (wrap64 (x5_1 + 1)))) = some r := by rw [if_pos rfl] at H; exact H
                                        clear H
                                        have H := H1
                                        clear H1
                                        by_cases c29 : (rd t232 x4_1) = 2
                                        · rw [if_pos c29] at H
                                          have c29b0 : ((rd t232 x4_1) == 2) = true := beq_iff_eq.mpr c29
                                          have c29b1 : ((rd t232 x4_1) != 2) = false := bne_eq_false_iff_eq.mpr c29
                                          clear c29
                                          by_cases c30 : t242 = 3
                                          · rw [if_pos c30] at H
                                            have c30b0 : (t242 == 3) = true := beq_iff_eq.mpr c30
                                            have c30b1 : (t242 != 3) = false := bne_eq_false_iff_eq.mpr c30
                                            clear c30
                                            have H' := Aside0.mk H
                                            clear H
                                            have p240 : 0 ≤ (x4_1 : Int) := of_decide_eq_true (by first | (with_reducible assumption) | assumption)
                                            have q240 : x4_1 < (t232.length : Int) := of_decide_eq_true (by first | (with_reducible assumption) | assumption)
                                            obtain ⟨ad240, e240, hx240_0⟩ := Kd.at_int (Kd.R_reads' HO_3.out).2.2 x4_1 p240 q240
                                            cases e240
                                            replace p240 := eq_true p240
                                            replace q240 := eq_true q240
                                            have p241 : 0 ≤ (x5_1 : Int) := of_decide_eq_true (by first | (with_reducible assumption) | assumption)
                                            have q241 : x5_1 < (l0.length : Int) := of_decide_eq_true (by first | (with_reducible assumption) | assumption)
                                            obtain ⟨ad241, e241, hx241_0⟩ := Kd.at_int HR0.out x5_1 p241 q241
                                            obtain rfl : ad236 = ad241 := (by injection e241)
                                            replace hx241_0 := (HB.out.cell (World.block_lt_of_cell? w _ hx241_0)).trans hx241_0
                                            replace p241 := eq_true p241
                                            replace q241 := eq_true q241
                                            go_wp2_with (first | ((with_reducible refine gate_callee (f := 19) rfl ?_); refine goesL_ (some 75) rfl rfl Tryd.func19 (by kernel_rfl) rfl #[.int .i32 (rd l0 x5_1)] rfl (by (try simp only [List.map_toArray, List.map_cons, List.map_nil]); first | done | rfl | (simp only [List.length_drop, List.length_take]; rfl)) ?_; (with_reducible refine (calamusref02_Joining.calls (rd l0 x5_1) t242 _ A27.out).mono ?_); rintro e w31 ⟨rfl, hb⟩; refine ⟨_, rfl, ?_⟩; have n0_ := Aside0.mk (Kd.R_below (by (with_reducible repeat (first | apply Kd.R_alloc | apply Kd.R_drewN | apply Kd.R_drew)); exact HO_3.out) hb); have n1_ := Aside0.mk (below_step (by repeat (first | (with_reducible first | exact HB.out | apply below_alloc | apply pw_below_drewN | apply below_drew1) | exact HB.out)) hb); clear HO_3; clear HB; have HO_3 := n0_; have HB := n1_; clear n0_ n1_; (try clear hb); (try clear hb2); (try clear hk); (try clear hi); have p243 : 0 ≤ (x4_1 : Int) := of_decide_eq_true (by first | (with_reducible assumption) | assumption); have q243 : x4_1 < (t232.length : Int) := of_decide_eq_true (by first | (with_reducible assumption) | assumption); obtain ⟨ad243, e243, hx243_0⟩ := Kd.at_int (Kd.R_reads' HO_3.out).2.2 x4_1 p243 q243; obtain rfl : ad240 = ad243 := (by injection e243); replace p243 := eq_true p243; replace q243 := eq_true q243))
                                            go_roundg kj17
                                            case measure => have := HK1.out; have := HJ13.out; have := HJ17.out; omega
                                            case rel => exact ⟨(x5_1), (wrap64 (x5_1 + 1)), (by first | rfl | (simp; done) | (simp [*]; done)), (by first | rfl | (simp; done) | (simp [*]; done)), H', ⟨by have := HK1.out; have := HJ13.out; have := HJ17.out; omega⟩, ⟨by (with_reducible repeat (first | apply Kd.R_alloc | apply Kd.R_drewN | apply Kd.R_drew)); exact HO_3.out⟩, ⟨by repeat (first | (with_reducible first | exact HB.out | apply below_alloc | apply pw_below_drewN | apply below_drew1) | exact HB.out)⟩⟩
                                          · rw [if_neg c30] at H
                                            have c30b0 : (t242 == 3) = false := beq_eq_false_iff_ne.mpr c30
                                            have c30b1 : (t242 != 3) = true := bne_iff_ne.mpr c30
                                            have H' := Aside0.mk H
                                            clear H
                                            have p240 : 0 ≤ (x4_1 : Int) := of_decide_eq_true (by first | (with_reducible assumption) | assumption)
                                            have q240 : x4_1 < (t232.length : Int) := of_decide_eq_true (by first | (with_reducible assumption) | assumption)
                                            obtain ⟨ad240, e240, hx240_0⟩ := Kd.at_int (Kd.R_reads' HO_3.out).2.2 x4_1 p240 q240
                                            cases e240
                                            replace p240 := eq_true p240
                                            replace q240 := eq_true q240
                                            have p241 : 0 ≤ (x5_1 : Int) := of_decide_eq_true (by first | (with_reducible assumption) | assumption)
                                            have q241 : x5_1 < (l0.length : Int) := of_decide_eq_true (by first | (with_reducible assumption) | assumption)
                                            obtain ⟨ad241, e241, hx241_0⟩ := Kd.at_int HR0.out x5_1 p241 q241
                                            obtain rfl : ad236 = ad241 := (by injection e241)
                                            replace hx241_0 := (HB.out.cell (World.block_lt_of_cell? w _ hx241_0)).trans hx241_0
                                            replace p241 := eq_true p241
                                            replace q241 := eq_true q241
                                            go_wp2_with (first | ((with_reducible refine gate_callee (f := 19) rfl ?_); refine goesL_ (some 75) rfl rfl Tryd.func19 (by kernel_rfl) rfl #[.int .i32 (rd l0 x5_1)] rfl (by (try simp only [List.map_toArray, List.map_cons, List.map_nil]); first | done | rfl | (simp only [List.length_drop, List.length_take]; rfl)) ?_; (with_reducible refine (calamusref02_Joining.calls (rd l0 x5_1) t242 _ A27.out).mono ?_); rintro e w32 ⟨rfl, hb⟩; refine ⟨_, rfl, ?_⟩; have n0_ := Aside0.mk (Kd.R_below (by (with_reducible repeat (first | apply Kd.R_alloc | apply Kd.R_drewN | apply Kd.R_drew)); exact HO_3.out) hb); have n1_ := Aside0.mk (below_step (by repeat (first | (with_reducible first | exact HB.out | apply below_alloc | apply pw_below_drewN | apply below_drew1) | exact HB.out)) hb); clear HO_3; clear HB; have HO_3 := n0_; have HB := n1_; clear n0_ n1_; (try clear hb); (try clear hb2); (try clear hk); (try clear hi); have p243 : 0 ≤ (x4_1 : Int) := of_decide_eq_true (by first | (with_reducible assumption) | assumption); have q243 : x4_1 < (t232.length : Int) := of_decide_eq_true (by first | (with_reducible assumption) | assumption); obtain ⟨ad243, e243, hx243_0⟩ := Kd.at_int (Kd.R_reads' HO_3.out).2.2 x4_1 p243 q243; obtain rfl : ad240 = ad243 := (by injection e243); replace p243 := eq_true p243; replace q243 := eq_true q243))
                                            go_roundg kj17
                                            case measure => have := HK1.out; have := HJ13.out; have := HJ17.out; omega
                                            case rel => exact ⟨(x5_1), (wrap64 (x5_1 + 1)), (by first | rfl | (simp; done) | (simp [*]; done)), (by first | rfl | (simp; done) | (simp [*]; done)), H', ⟨by have := HK1.out; have := HJ13.out; have := HJ17.out; omega⟩, ⟨by (with_reducible repeat (first | apply Kd.R_alloc | apply Kd.R_drewN | apply Kd.R_drew)); exact HO_3.out⟩, ⟨by repeat (first | (with_reducible first | exact HB.out | apply below_alloc | apply pw_below_drewN | apply below_drew1) | exact HB.out)⟩⟩
                                        · rw [if_neg c29] at H
                                          have c29b0 : ((rd t232 x4_1) == 2) = false := beq_eq_false_iff_ne.mpr c29
                                          have c29b1 : ((rd t232 x4_1) != 2) = true := bne_iff_ne.mpr c29
                                          have H' := Aside0.mk H
                                          clear H
                                          have p240 : 0 ≤ (x4_1 : Int) := of_decide_eq_true (by first | (with_reducible assumption) | assumption)
                                          have q240 : x4_1 < (t232.length : Int) := of_decide_eq_true (by first | (with_reducible assumption) | assumption)
                                          obtain ⟨ad240, e240, hx240_0⟩ := Kd.at_int (Kd.R_reads' HO_3.out).2.2 x4_1 p240 q240
                                          cases e240
                                          replace p240 := eq_true p240
                                          replace q240 := eq_true q240
                                          have p241 : 0 ≤ (x5_1 : Int) := of_decide_eq_true (by first | (with_reducible assumption) | assumption)
                                          have q241 : x5_1 < (l0.length : Int) := of_decide_eq_true (by first | (with_reducible assumption) | assumption)
                                          obtain ⟨ad241, e241, hx241_0⟩ := Kd.at_int HR0.out x5_1 p241 q241
                                          obtain rfl : ad236 = ad241 := (by injection e241)
                                          replace hx241_0 := (HB.out.cell (World.block_lt_of_cell? w _ hx241_0)).trans hx241_0
                                          replace p241 := eq_true p241
                                          replace q241 := eq_true q241
                                          go_wp2_with (first | ((with_reducible refine gate_callee (f := 19) rfl ?_); refine goesL_ (some 75) rfl rfl Tryd.func19 (by kernel_rfl) rfl #[.int .i32 (rd l0 x5_1)] rfl (by (try simp only [List.map_toArray, List.map_cons, List.map_nil]); first | done | rfl | (simp only [List.length_drop, List.length_take]; rfl)) ?_; (with_reducible refine (calamusref02_Joining.calls (rd l0 x5_1) t242 _ A27.out).mono ?_); rintro e w33 ⟨rfl, hb⟩; refine ⟨_, rfl, ?_⟩; have n0_ := Aside0.mk (Kd.R_below (by (with_reducible repeat (first | apply Kd.R_alloc | apply Kd.R_drewN | apply Kd.R_drew)); exact HO_3.out) hb); have n1_ := Aside0.mk (below_step (by repeat (first | (with_reducible first | exact HB.out | apply below_alloc | apply pw_below_drewN | apply below_drew1) | exact HB.out)) hb); clear HO_3; clear HB; have HO_3 := n0_; have HB := n1_; clear n0_ n1_; (try clear hb); (try clear hb2); (try clear hk); (try clear hi); have p243 : 0 ≤ (x4_1 : Int) := of_decide_eq_true (by first | (with_reducible assumption) | assumption); have q243 : x4_1 < (t232.length : Int) := of_decide_eq_true (by first | (with_reducible assumption) | assumption); obtain ⟨ad243, e243, hx243_0⟩ := Kd.at_int (Kd.R_reads' HO_3.out).2.2 x4_1 p243 q243; obtain rfl : ad240 = ad243 := (by injection e243); replace p243 := eq_true p243; replace q243 := eq_true q243))
                                          go_roundg kj17
                                          case measure => have := HK1.out; have := HJ13.out; have := HJ17.out; omega
                                          case rel => exact ⟨(x5_1), (wrap64 (x5_1 + 1)), (by first | rfl | (simp; done) | (simp [*]; done)), (by first | rfl | (simp; done) | (simp [*]; done)), H', ⟨by have := HK1.out; have := HJ13.out; have := HJ17.out; omega⟩, ⟨by (with_reducible repeat (first | apply Kd.R_alloc | apply Kd.R_drewN | apply Kd.R_drew)); exact HO_3.out⟩, ⟨by repeat (first | (with_reducible first | exact HB.out | apply below_alloc | apply pw_below_drewN | apply below_drew1) | exact HB.out)⟩⟩
                                      · replace c28 := Bool.eq_false_iff.mpr c28
                                        subst c28
                                        have H1 : (if (rd t232 x4_1) = 2 then (if t242 = 3 then (calamuslaw15_JoiningAgree.l0 kj17 l0 t232 x5_1 (wrap64 (x5_1 + 1))) else (some false)) else (calamuslaw15_JoiningAgree.l0 kj17 l0 t232 x5_1 (wrap64 (x5_1 + 1)))) = some r := by rw [if_neg (show ¬ (false = true) by decide)] at H; exact H
                                        clear H
                                        have H := H1
                                        clear H1
                                        by_cases c34 : (rd t232 x4_1) = 2
                                        · rw [if_pos c34] at H
                                          have c34b0 : ((rd t232 x4_1) == 2) = true := beq_iff_eq.mpr c34
                                          have c34b1 : ((rd t232 x4_1) != 2) = false := bne_eq_false_iff_eq.mpr c34
                                          clear c34
                                          by_cases c35 : t242 = 3
                                          · rw [if_pos c35] at H
                                            have c35b0 : (t242 == 3) = true := beq_iff_eq.mpr c35
                                            have c35b1 : (t242 != 3) = false := bne_eq_false_iff_eq.mpr c35
                                            clear c35
                                            have H' := Aside0.mk H
                                            clear H
                                            have p240 : 0 ≤ (x4_1 : Int) := of_decide_eq_true (by first | (with_reducible assumption) | assumption)
                                            have q240 : x4_1 < (t232.length : Int) := of_decide_eq_true (by first | (with_reducible assumption) | assumption)
                                            obtain ⟨ad240, e240, hx240_0⟩ := Kd.at_int (Kd.R_reads' HO_3.out).2.2 x4_1 p240 q240
                                            cases e240
                                            replace p240 := eq_true p240
                                            replace q240 := eq_true q240
                                            have p241 : 0 ≤ (x5_1 : Int) := of_decide_eq_true (by first | (with_reducible assumption) | assumption)
                                            have q241 : x5_1 < (l0.length : Int) := of_decide_eq_true (by first | (with_reducible assumption) | assumption)
                                            obtain ⟨ad241, e241, hx241_0⟩ := Kd.at_int HR0.out x5_1 p241 q241
                                            obtain rfl : ad236 = ad241 := (by injection e241)
                                            replace hx241_0 := (HB.out.cell (World.block_lt_of_cell? w _ hx241_0)).trans hx241_0
                                            replace p241 := eq_true p241
                                            replace q241 := eq_true q241
                                            go_wp2_with (first | ((with_reducible refine gate_callee (f := 19) rfl ?_); refine goesL_ (some 75) rfl rfl Tryd.func19 (by kernel_rfl) rfl #[.int .i32 (rd l0 x5_1)] rfl (by (try simp only [List.map_toArray, List.map_cons, List.map_nil]); first | done | rfl | (simp only [List.length_drop, List.length_take]; rfl)) ?_; (with_reducible refine (calamusref02_Joining.calls (rd l0 x5_1) t242 _ A27.out).mono ?_); rintro e w36 ⟨rfl, hb⟩; refine ⟨_, rfl, ?_⟩; have n0_ := Aside0.mk (Kd.R_below (by (with_reducible repeat (first | apply Kd.R_alloc | apply Kd.R_drewN | apply Kd.R_drew)); exact HO_3.out) hb); have n1_ := Aside0.mk (below_step (by repeat (first | (with_reducible first | exact HB.out | apply below_alloc | apply pw_below_drewN | apply below_drew1) | exact HB.out)) hb); clear HO_3; clear HB; have HO_3 := n0_; have HB := n1_; clear n0_ n1_; (try clear hb); (try clear hb2); (try clear hk); (try clear hi); have p244 : 0 ≤ (x4_1 : Int) := of_decide_eq_true (by first | (with_reducible assumption) | assumption); have q244 : x4_1 < (t232.length : Int) := of_decide_eq_true (by first | (with_reducible assumption) | assumption); obtain ⟨ad244, e244, hx244_0⟩ := Kd.at_int (Kd.R_reads' HO_3.out).2.2 x4_1 p244 q244; obtain rfl : ad240 = ad244 := (by injection e244); replace p244 := eq_true p244; replace q244 := eq_true q244))
                                            go_roundg kj17
                                            case measure => have := HK1.out; have := HJ13.out; have := HJ17.out; omega
                                            case rel => exact ⟨(x5_1), (wrap64 (x5_1 + 1)), (by first | rfl | (simp; done) | (simp [*]; done)), (by first | rfl | (simp; done) | (simp [*]; done)), H', ⟨by have := HK1.out; have := HJ13.out; have := HJ17.out; omega⟩, ⟨by (with_reducible repeat (first | apply Kd.R_alloc | apply Kd.R_drewN | apply Kd.R_drew)); exact HO_3.out⟩, ⟨by repeat (first | (with_reducible first | exact HB.out | apply below_alloc | apply pw_below_drewN | apply below_drew1) | exact HB.out)⟩⟩
                                          · rw [if_neg c35] at H
                                            have c35b0 : (t242 == 3) = false := beq_eq_false_iff_ne.mpr c35
                                            have c35b1 : (t242 != 3) = true := bne_iff_ne.mpr c35
                                            obtain rfl := Option.some.inj H
                                            have p240 : 0 ≤ (x4_1 : Int) := of_decide_eq_true (by first | (with_reducible assumption) | assumption)
                                            have q240 : x4_1 < (t232.length : Int) := of_decide_eq_true (by first | (with_reducible assumption) | assumption)
                                            obtain ⟨ad240, e240, hx240_0⟩ := Kd.at_int (Kd.R_reads' HO_3.out).2.2 x4_1 p240 q240
                                            cases e240
                                            replace p240 := eq_true p240
                                            replace q240 := eq_true q240
                                            have p241 : 0 ≤ (x5_1 : Int) := of_decide_eq_true (by first | (with_reducible assumption) | assumption)
                                            have q241 : x5_1 < (l0.length : Int) := of_decide_eq_true (by first | (with_reducible assumption) | assumption)
                                            obtain ⟨ad241, e241, hx241_0⟩ := Kd.at_int HR0.out x5_1 p241 q241
                                            obtain rfl : ad236 = ad241 := (by injection e241)
                                            replace hx241_0 := (HB.out.cell (World.block_lt_of_cell? w _ hx241_0)).trans hx241_0
                                            replace p241 := eq_true p241
                                            replace q241 := eq_true q241
                                            go_wp2_with (first | ((with_reducible refine gate_callee (f := 19) rfl ?_); refine goesL_ (some 75) rfl rfl Tryd.func19 (by kernel_rfl) rfl #[.int .i32 (rd l0 x5_1)] rfl (by (try simp only [List.map_toArray, List.map_cons, List.map_nil]); first | done | rfl | (simp only [List.length_drop, List.length_take]; rfl)) ?_; (with_reducible refine (calamusref02_Joining.calls (rd l0 x5_1) t242 _ A27.out).mono ?_); rintro e w37 ⟨rfl, hb⟩; refine ⟨_, rfl, ?_⟩; have n0_ := Aside0.mk (Kd.R_below (by (with_reducible repeat (first | apply Kd.R_alloc | apply Kd.R_drewN | apply Kd.R_drew)); exact HO_3.out) hb); have n1_ := Aside0.mk (below_step (by repeat (first | (with_reducible first | exact HB.out | apply below_alloc | apply pw_below_drewN | apply below_drew1) | exact HB.out)) hb); clear HO_3; clear HB; have HO_3 := n0_; have HB := n1_; clear n0_ n1_; (try clear hb); (try clear hb2); (try clear hk); (try clear hi); have p244 : 0 ≤ (x4_1 : Int) := of_decide_eq_true (by first | (with_reducible assumption) | assumption); have q244 : x4_1 < (t232.length : Int) := of_decide_eq_true (by first | (with_reducible assumption) | assumption); obtain ⟨ad244, e244, hx244_0⟩ := Kd.at_int (Kd.R_reads' HO_3.out).2.2 x4_1 p244 q244; obtain rfl : ad240 = ad244 := (by injection e244); replace p244 := eq_true p244; replace q244 := eq_true q244))
                                            go_ret
                                            exact ⟨by first | rfl | (simp [errW_none, errW_some] <;> rfl) | (simp [*, errW_none, errW_some] <;> rfl), by repeat (first | (with_reducible first | exact HB.out | apply below_alloc | apply pw_below_drewN | apply below_drew1) | exact HB.out)⟩
                                        · rw [if_neg c34] at H
                                          have c34b0 : ((rd t232 x4_1) == 2) = false := beq_eq_false_iff_ne.mpr c34
                                          have c34b1 : ((rd t232 x4_1) != 2) = true := bne_iff_ne.mpr c34
                                          have H' := Aside0.mk H
                                          clear H
                                          have p240 : 0 ≤ (x4_1 : Int) := of_decide_eq_true (by first | (with_reducible assumption) | assumption)
                                          have q240 : x4_1 < (t232.length : Int) := of_decide_eq_true (by first | (with_reducible assumption) | assumption)
                                          obtain ⟨ad240, e240, hx240_0⟩ := Kd.at_int (Kd.R_reads' HO_3.out).2.2 x4_1 p240 q240
                                          cases e240
                                          replace p240 := eq_true p240
                                          replace q240 := eq_true q240
                                          have p241 : 0 ≤ (x5_1 : Int) := of_decide_eq_true (by first | (with_reducible assumption) | assumption)
                                          have q241 : x5_1 < (l0.length : Int) := of_decide_eq_true (by first | (with_reducible assumption) | assumption)
                                          obtain ⟨ad241, e241, hx241_0⟩ := Kd.at_int HR0.out x5_1 p241 q241
                                          obtain rfl : ad236 = ad241 := (by injection e241)
                                          replace hx241_0 := (HB.out.cell (World.block_lt_of_cell? w _ hx241_0)).trans hx241_0
                                          replace p241 := eq_true p241
                                          replace q241 := eq_true q241
                                          go_wp2_with (first | ((with_reducible refine gate_callee (f := 19) rfl ?_); refine goesL_ (some 75) rfl rfl Tryd.func19 (by kernel_rfl) rfl #[.int .i32 (rd l0 x5_1)] rfl (by (try simp only [List.map_toArray, List.map_cons, List.map_nil]); first | done | rfl | (simp only [List.length_drop, List.length_take]; rfl)) ?_; (with_reducible refine (calamusref02_Joining.calls (rd l0 x5_1) t242 _ A27.out).mono ?_); rintro e w38 ⟨rfl, hb⟩; refine ⟨_, rfl, ?_⟩; have n0_ := Aside0.mk (Kd.R_below (by (with_reducible repeat (first | apply Kd.R_alloc | apply Kd.R_drewN | apply Kd.R_drew)); exact HO_3.out) hb); have n1_ := Aside0.mk (below_step (by repeat (first | (with_reducible first | exact HB.out | apply below_alloc | apply pw_below_drewN | apply below_drew1) | exact HB.out)) hb); clear HO_3; clear HB; have HO_3 := n0_; have HB := n1_; clear n0_ n1_; (try clear hb); (try clear hb2); (try clear hk); (try clear hi); have p244 : 0 ≤ (x4_1 : Int) := of_decide_eq_true (by first | (with_reducible assumption) | assumption); have q244 : x4_1 < (t232.length : Int) := of_decide_eq_true (by first | (with_reducible assumption) | assumption); obtain ⟨ad244, e244, hx244_0⟩ := Kd.at_int (Kd.R_reads' HO_3.out).2.2 x4_1 p244 q244; obtain rfl : ad240 = ad244 := (by injection e244); replace p244 := eq_true p244; replace q244 := eq_true q244))
                                          go_roundg kj17
                                          case measure => have := HK1.out; have := HJ13.out; have := HJ17.out; omega
                                          case rel => exact ⟨(x5_1), (wrap64 (x5_1 + 1)), (by first | rfl | (simp; done) | (simp [*]; done)), (by first | rfl | (simp; done) | (simp [*]; done)), H', ⟨by have := HK1.out; have := HJ13.out; have := HJ17.out; omega⟩, ⟨by (with_reducible repeat (first | apply Kd.R_alloc | apply Kd.R_drewN | apply Kd.R_drew)); exact HO_3.out⟩, ⟨by repeat (first | (with_reducible first | exact HB.out | apply below_alloc | apply pw_below_drewN | apply below_drew1) | exact HB.out)⟩⟩
                                    · rw [if_neg c26] at H
                                      exact absurd H (by simp)
                                  · rw [if_neg c25] at H
                                    exact absurd H (by simp)
                                · rw [if_neg c24] at H
                                  have c24b0 : ((rd t232 x4_1) == 3) = false := beq_eq_false_iff_ne.mpr c24
                                  have c24b1 : ((rd t232 x4_1) != 3) = true := bne_iff_ne.mpr c24
                                  by_cases c39 : (rd t232 x4_1) = 2
                                  · rw [if_pos c39] at H
                                    have c39b0 : ((rd t232 x4_1) == 2) = true := beq_iff_eq.mpr c39
                                    have c39b1 : ((rd t232 x4_1) != 2) = false := bne_eq_false_iff_eq.mpr c39
                                    clear c39
                                    by_cases c40 : 0 ≤ x5_1
                                    · rw [if_pos c40] at H
                                      have c40b0 : decide (0 ≤ x5_1) = true := decide_eq_true c40
                                      clear c40
                                      by_cases c41 : x5_1 < (l0.length : Int)
                                      · rw [if_pos c41] at H
                                        have c41b0 : decide (x5_1 < (l0.length : Int)) = true := decide_eq_true c41
                                        clear c41
                                        replace H := Option.bind_eq_some_iff.mp H
                                        obtain ⟨t247, A420, H⟩ := H
                                        replace H : (if x6_13 = true then (if t247 = 3 then (calamuslaw15_JoiningAgree.l0 kj17 l0 t232 x5_1 (wrap64 (x5_1 + 1))) else (calamuslaw15_JoiningAgree.l0 kj17 l0 t232 x5_1 (wrap64 (x5_1 + 1)))) else (if t247 = 3 then (calamuslaw15_JoiningAgree.l0 kj17 l0 t232 x5_1 (wrap64 (x5_1 + 1))) else (some false))) = some r := H
                                        have A42 := Aside0.mk A420
                                        clear A420
                                        by_cases c43 : x6_13 = true
                                        · subst c43
                                          have H1 : (if t247 = 3 then (calamuslaw15_JoiningAgree.l0 kj17 l0 t232 x5_1 (wrap64 (x5_1 + 1))) else (calamuslaw15_JoiningAgree.l0 kj17 l0 t232 x5_1 (wrap64 (x5_1 + 1)))) = some r := by rw [if_pos rfl] at H; exact H
                                          clear H
                                          have H := H1
                                          clear H1
                                          by_cases c44 : t247 = 3
                                          · rw [if_pos c44] at H
                                            have c44b0 : (t247 == 3) = true := beq_iff_eq.mpr c44
                                            have c44b1 : (t247 != 3) = false := bne_eq_false_iff_eq.mpr c44
                                            clear c44
                                            have H' := Aside0.mk H
                                            clear H
                                            have p240 : 0 ≤ (x4_1 : Int) := of_decide_eq_true (by first | (with_reducible assumption) | assumption)
                                            have q240 : x4_1 < (t232.length : Int) := of_decide_eq_true (by first | (with_reducible assumption) | assumption)
                                            obtain ⟨ad240, e240, hx240_0⟩ := Kd.at_int (Kd.R_reads' HO_3.out).2.2 x4_1 p240 q240
                                            cases e240
                                            replace p240 := eq_true p240
                                            replace q240 := eq_true q240
                                            have p245 : 0 ≤ (x4_1 : Int) := of_decide_eq_true (by first | (with_reducible assumption) | assumption)
                                            have q245 : x4_1 < (t232.length : Int) := of_decide_eq_true (by first | (with_reducible assumption) | assumption)
                                            obtain ⟨ad245, e245, hx245_0⟩ := Kd.at_int (Kd.R_reads' HO_3.out).2.2 x4_1 p245 q245
                                            obtain rfl : ad240 = ad245 := (by injection e245)
                                            replace p245 := eq_true p245
                                            replace q245 := eq_true q245
                                            have p246 : 0 ≤ (x5_1 : Int) := of_decide_eq_true (by first | (with_reducible assumption) | assumption)
                                            have q246 : x5_1 < (l0.length : Int) := of_decide_eq_true (by first | (with_reducible assumption) | assumption)
                                            obtain ⟨ad246, e246, hx246_0⟩ := Kd.at_int HR0.out x5_1 p246 q246
                                            obtain rfl : ad236 = ad246 := (by injection e246)
                                            replace hx246_0 := (HB.out.cell (World.block_lt_of_cell? w _ hx246_0)).trans hx246_0
                                            replace p246 := eq_true p246
                                            replace q246 := eq_true q246
                                            go_wp2_with (first | ((with_reducible refine gate_callee (f := 19) rfl ?_); refine goesL_ (some 75) rfl rfl Tryd.func19 (by kernel_rfl) rfl #[.int .i32 (rd l0 x5_1)] rfl (by (try simp only [List.map_toArray, List.map_cons, List.map_nil]); first | done | rfl | (simp only [List.length_drop, List.length_take]; rfl)) ?_; (with_reducible refine (calamusref02_Joining.calls (rd l0 x5_1) t247 _ A42.out).mono ?_); rintro e w45 ⟨rfl, hb⟩; refine ⟨_, rfl, ?_⟩; have n0_ := Aside0.mk (Kd.R_below (by (with_reducible repeat (first | apply Kd.R_alloc | apply Kd.R_drewN | apply Kd.R_drew)); exact HO_3.out) hb); have n1_ := Aside0.mk (below_step (by repeat (first | (with_reducible first | exact HB.out | apply below_alloc | apply pw_below_drewN | apply below_drew1) | exact HB.out)) hb); clear HO_3; clear HB; have HO_3 := n0_; have HB := n1_; clear n0_ n1_; (try clear hb); (try clear hb2); (try clear hk); (try clear hi); have p248 : 0 ≤ (x4_1 : Int) := of_decide_eq_true (by first | (with_reducible assumption) | assumption); have q248 : x4_1 < (t232.length : Int) := of_decide_eq_true (by first | (with_reducible assumption) | assumption); obtain ⟨ad248, e248, hx248_0⟩ := Kd.at_int (Kd.R_reads' HO_3.out).2.2 x4_1 p248 q248; obtain rfl : ad240 = ad248 := (by injection e248); replace p248 := eq_true p248; replace q248 := eq_true q248))
                                            go_roundg kj17
                                            case measure => have := HK1.out; have := HJ13.out; have := HJ17.out; omega
                                            case rel => exact ⟨(x5_1), (wrap64 (x5_1 + 1)), (by first | rfl | (simp; done) | (simp [*]; done)), (by first | rfl | (simp; done) | (simp [*]; done)), H', ⟨by have := HK1.out; have := HJ13.out; have := HJ17.out; omega⟩, ⟨by (with_reducible repeat (first | apply Kd.R_alloc | apply Kd.R_drewN | apply Kd.R_drew)); exact HO_3.out⟩, ⟨by repeat (first | (with_reducible first | exact HB.out | apply below_alloc | apply pw_below_drewN | apply below_drew1) | exact HB.out)⟩⟩
                                          · rw [if_neg c44] at H
                                            have c44b0 : (t247 == 3) = false := beq_eq_false_iff_ne.mpr c44
                                            have c44b1 : (t247 != 3) = true := bne_iff_ne.mpr c44
                                            have H' := Aside0.mk H
                                            clear H
                                            have p240 : 0 ≤ (x4_1 : Int) := of_decide_eq_true (by first | (with_reducible assumption) | assumption)
                                            have q240 : x4_1 < (t232.length : Int) := of_decide_eq_true (by first | (with_reducible assumption) | assumption)
                                            obtain ⟨ad240, e240, hx240_0⟩ := Kd.at_int (Kd.R_reads' HO_3.out).2.2 x4_1 p240 q240
                                            cases e240
                                            replace p240 := eq_true p240
                                            replace q240 := eq_true q240
                                            have p245 : 0 ≤ (x4_1 : Int) := of_decide_eq_true (by first | (with_reducible assumption) | assumption)
                                            have q245 : x4_1 < (t232.length : Int) := of_decide_eq_true (by first | (with_reducible assumption) | assumption)
                                            obtain ⟨ad245, e245, hx245_0⟩ := Kd.at_int (Kd.R_reads' HO_3.out).2.2 x4_1 p245 q245
                                            obtain rfl : ad240 = ad245 := (by injection e245)
                                            replace p245 := eq_true p245
                                            replace q245 := eq_true q245
                                            have p246 : 0 ≤ (x5_1 : Int) := of_decide_eq_true (by first | (with_reducible assumption) | assumption)
                                            have q246 : x5_1 < (l0.length : Int) := of_decide_eq_true (by first | (with_reducible assumption) | assumption)
                                            obtain ⟨ad246, e246, hx246_0⟩ := Kd.at_int HR0.out x5_1 p246 q246
                                            obtain rfl : ad236 = ad246 := (by injection e246)
                                            replace hx246_0 := (HB.out.cell (World.block_lt_of_cell? w _ hx246_0)).trans hx246_0
                                            replace p246 := eq_true p246
                                            replace q246 := eq_true q246
                                            go_wp2_with (first | ((with_reducible refine gate_callee (f := 19) rfl ?_); refine goesL_ (some 75) rfl rfl Tryd.func19 (by kernel_rfl) rfl #[.int .i32 (rd l0 x5_1)] rfl (by (try simp only [List.map_toArray, List.map_cons, List.map_nil]); first | done | rfl | (simp only [List.length_drop, List.length_take]; rfl)) ?_; (with_reducible refine (calamusref02_Joining.calls (rd l0 x5_1) t247 _ A42.out).mono ?_); rintro e w46 ⟨rfl, hb⟩; refine ⟨_, rfl, ?_⟩; have n0_ := Aside0.mk (Kd.R_below (by (with_reducible repeat (first | apply Kd.R_alloc | apply Kd.R_drewN | apply Kd.R_drew)); exact HO_3.out) hb); have n1_ := Aside0.mk (below_step (by repeat (first | (with_reducible first | exact HB.out | apply below_alloc | apply pw_below_drewN | apply below_drew1) | exact HB.out)) hb); clear HO_3; clear HB; have HO_3 := n0_; have HB := n1_; clear n0_ n1_; (try clear hb); (try clear hb2); (try clear hk); (try clear hi); have p248 : 0 ≤ (x4_1 : Int) := of_decide_eq_true (by first | (with_reducible assumption) | assumption); have q248 : x4_1 < (t232.length : Int) := of_decide_eq_true (by first | (with_reducible assumption) | assumption); obtain ⟨ad248, e248, hx248_0⟩ := Kd.at_int (Kd.R_reads' HO_3.out).2.2 x4_1 p248 q248; obtain rfl : ad240 = ad248 := (by injection e248); replace p248 := eq_true p248; replace q248 := eq_true q248))
                                            go_roundg kj17
                                            case measure => have := HK1.out; have := HJ13.out; have := HJ17.out; omega
                                            case rel => exact ⟨(x5_1), (wrap64 (x5_1 + 1)), (by first | rfl | (simp; done) | (simp [*]; done)), (by first | rfl | (simp; done) | (simp [*]; done)), H', ⟨by have := HK1.out; have := HJ13.out; have := HJ17.out; omega⟩, ⟨by (with_reducible repeat (first | apply Kd.R_alloc | apply Kd.R_drewN | apply Kd.R_drew)); exact HO_3.out⟩, ⟨by repeat (first | (with_reducible first | exact HB.out | apply below_alloc | apply pw_below_drewN | apply below_drew1) | exact HB.out)⟩⟩
                                        · replace c43 := Bool.eq_false_iff.mpr c43
                                          subst c43
                                          have H1 : (if t247 = 3 then (calamuslaw15_JoiningAgree.l0 kj17 l0 t232 x5_1 (wrap64 (x5_1 + 1))) else (some false)) = some r := by rw [if_neg (show ¬ (false = true) by decide)] at H; exact H
                                          clear H
                                          have H := H1
                                          clear H1
                                          by_cases c47 : t247 = 3
                                          · rw [if_pos c47] at H
                                            have c47b0 : (t247 == 3) = true := beq_iff_eq.mpr c47
                                            have c47b1 : (t247 != 3) = false := bne_eq_false_iff_eq.mpr c47
                                            clear c47
                                            have H' := Aside0.mk H
                                            clear H
                                            have p240 : 0 ≤ (x4_1 : Int) := of_decide_eq_true (by first | (with_reducible assumption) | assumption)
                                            have q240 : x4_1 < (t232.length : Int) := of_decide_eq_true (by first | (with_reducible assumption) | assumption)
                                            obtain ⟨ad240, e240, hx240_0⟩ := Kd.at_int (Kd.R_reads' HO_3.out).2.2 x4_1 p240 q240
                                            cases e240
                                            replace p240 := eq_true p240
                                            replace q240 := eq_true q240
                                            have p245 : 0 ≤ (x4_1 : Int) := of_decide_eq_true (by first | (with_reducible assumption) | assumption)
                                            have q245 : x4_1 < (t232.length : Int) := of_decide_eq_true (by first | (with_reducible assumption) | assumption)
                                            obtain ⟨ad245, e245, hx245_0⟩ := Kd.at_int (Kd.R_reads' HO_3.out).2.2 x4_1 p245 q245
                                            obtain rfl : ad240 = ad245 := (by injection e245)
                                            replace p245 := eq_true p245
                                            replace q245 := eq_true q245
                                            have p246 : 0 ≤ (x5_1 : Int) := of_decide_eq_true (by first | (with_reducible assumption) | assumption)
                                            have q246 : x5_1 < (l0.length : Int) := of_decide_eq_true (by first | (with_reducible assumption) | assumption)
                                            obtain ⟨ad246, e246, hx246_0⟩ := Kd.at_int HR0.out x5_1 p246 q246
                                            obtain rfl : ad236 = ad246 := (by injection e246)
                                            replace hx246_0 := (HB.out.cell (World.block_lt_of_cell? w _ hx246_0)).trans hx246_0
                                            replace p246 := eq_true p246
                                            replace q246 := eq_true q246
                                            go_wp2_with (first | ((with_reducible refine gate_callee (f := 19) rfl ?_); refine goesL_ (some 75) rfl rfl Tryd.func19 (by kernel_rfl) rfl #[.int .i32 (rd l0 x5_1)] rfl (by (try simp only [List.map_toArray, List.map_cons, List.map_nil]); first | done | rfl | (simp only [List.length_drop, List.length_take]; rfl)) ?_; (with_reducible refine (calamusref02_Joining.calls (rd l0 x5_1) t247 _ A42.out).mono ?_); rintro e w48 ⟨rfl, hb⟩; refine ⟨_, rfl, ?_⟩; have n0_ := Aside0.mk (Kd.R_below (by (with_reducible repeat (first | apply Kd.R_alloc | apply Kd.R_drewN | apply Kd.R_drew)); exact HO_3.out) hb); have n1_ := Aside0.mk (below_step (by repeat (first | (with_reducible first | exact HB.out | apply below_alloc | apply pw_below_drewN | apply below_drew1) | exact HB.out)) hb); clear HO_3; clear HB; have HO_3 := n0_; have HB := n1_; clear n0_ n1_; (try clear hb); (try clear hb2); (try clear hk); (try clear hi); have p249 : 0 ≤ (x4_1 : Int) := of_decide_eq_true (by first | (with_reducible assumption) | assumption); have q249 : x4_1 < (t232.length : Int) := of_decide_eq_true (by first | (with_reducible assumption) | assumption); obtain ⟨ad249, e249, hx249_0⟩ := Kd.at_int (Kd.R_reads' HO_3.out).2.2 x4_1 p249 q249; obtain rfl : ad240 = ad249 := (by injection e249); replace p249 := eq_true p249; replace q249 := eq_true q249))
                                            go_roundg kj17
                                            case measure => have := HK1.out; have := HJ13.out; have := HJ17.out; omega
                                            case rel => exact ⟨(x5_1), (wrap64 (x5_1 + 1)), (by first | rfl | (simp; done) | (simp [*]; done)), (by first | rfl | (simp; done) | (simp [*]; done)), H', ⟨by have := HK1.out; have := HJ13.out; have := HJ17.out; omega⟩, ⟨by (with_reducible repeat (first | apply Kd.R_alloc | apply Kd.R_drewN | apply Kd.R_drew)); exact HO_3.out⟩, ⟨by repeat (first | (with_reducible first | exact HB.out | apply below_alloc | apply pw_below_drewN | apply below_drew1) | exact HB.out)⟩⟩
                                          · rw [if_neg c47] at H
                                            have c47b0 : (t247 == 3) = false := beq_eq_false_iff_ne.mpr c47
                                            have c47b1 : (t247 != 3) = true := bne_iff_ne.mpr c47
                                            obtain rfl := Option.some.inj H
                                            have p240 : 0 ≤ (x4_1 : Int) := of_decide_eq_true (by first | (with_reducible assumption) | assumption)
                                            have q240 : x4_1 < (t232.length : Int) := of_decide_eq_true (by first | (with_reducible assumption) | assumption)
                                            obtain ⟨ad240, e240, hx240_0⟩ := Kd.at_int (Kd.R_reads' HO_3.out).2.2 x4_1 p240 q240
                                            cases e240
                                            replace p240 := eq_true p240
                                            replace q240 := eq_true q240
                                            have p245 : 0 ≤ (x4_1 : Int) := of_decide_eq_true (by first | (with_reducible assumption) | assumption)
                                            have q245 : x4_1 < (t232.length : Int) := of_decide_eq_true (by first | (with_reducible assumption) | assumption)
                                            obtain ⟨ad245, e245, hx245_0⟩ := Kd.at_int (Kd.R_reads' HO_3.out).2.2 x4_1 p245 q245
                                            obtain rfl : ad240 = ad245 := (by injection e245)
                                            replace p245 := eq_true p245
                                            replace q245 := eq_true q245
                                            have p246 : 0 ≤ (x5_1 : Int) := of_decide_eq_true (by first | (with_reducible assumption) | assumption)
                                            have q246 : x5_1 < (l0.length : Int) := of_decide_eq_true (by first | (with_reducible assumption) | assumption)
                                            obtain ⟨ad246, e246, hx246_0⟩ := Kd.at_int HR0.out x5_1 p246 q246
                                            obtain rfl : ad236 = ad246 := (by injection e246)
                                            replace hx246_0 := (HB.out.cell (World.block_lt_of_cell? w _ hx246_0)).trans hx246_0
                                            replace p246 := eq_true p246
                                            replace q246 := eq_true q246
                                            go_wp2_with (first | ((with_reducible refine gate_callee (f := 19) rfl ?_); refine goesL_ (some 75) rfl rfl Tryd.func19 (by kernel_rfl) rfl #[.int .i32 (rd l0 x5_1)] rfl (by (try simp only [List.map_toArray, List.map_cons, List.map_nil]); first | done | rfl | (simp only [List.length_drop, List.length_take]; rfl)) ?_; (with_reducible refine (calamusref02_Joining.calls (rd l0 x5_1) t247 _ A42.out).mono ?_); rintro e w49 ⟨rfl, hb⟩; refine ⟨_, rfl, ?_⟩; have n0_ := Aside0.mk (Kd.R_below (by (with_reducible repeat (first | apply Kd.R_alloc | apply Kd.R_drewN | apply Kd.R_drew)); exact HO_3.out) hb); have n1_ := Aside0.mk (below_step (by repeat (first | (with_reducible first | exact HB.out | apply below_alloc | apply pw_below_drewN | apply below_drew1) | exact HB.out)) hb); clear HO_3; clear HB; have HO_3 := n0_; have HB := n1_; clear n0_ n1_; (try clear hb); (try clear hb2); (try clear hk); (try clear hi); have p249 : 0 ≤ (x4_1 : Int) := of_decide_eq_true (by first | (with_reducible assumption) | assumption); have q249 : x4_1 < (t232.length : Int) := of_decide_eq_true (by first | (with_reducible assumption) | assumption); obtain ⟨ad249, e249, hx249_0⟩ := Kd.at_int (Kd.R_reads' HO_3.out).2.2 x4_1 p249 q249; obtain rfl : ad240 = ad249 := (by injection e249); replace p249 := eq_true p249; replace q249 := eq_true q249))
                                            go_ret
                                            exact ⟨by first | rfl | (simp [errW_none, errW_some] <;> rfl) | (simp [*, errW_none, errW_some] <;> rfl), by repeat (first | (with_reducible first | exact HB.out | apply below_alloc | apply pw_below_drewN | apply below_drew1) | exact HB.out)⟩
                                      · rw [if_neg c41] at H
                                        exact absurd H (by simp)
                                    · rw [if_neg c40] at H
                                      exact absurd H (by simp)
                                  · rw [if_neg c39] at H
                                    have c39b0 : ((rd t232 x4_1) == 2) = false := beq_eq_false_iff_ne.mpr c39
                                    have c39b1 : ((rd t232 x4_1) != 2) = true := bne_iff_ne.mpr c39
                                    by_cases c50 : x4_1 < (l0.length : Int)
                                    · rw [if_pos c50] at H
                                      have c50b0 : decide (x4_1 < (l0.length : Int)) = true := decide_eq_true c50
                                      clear c50
                                      replace H := Option.bind_eq_some_iff.mp H
                                      obtain ⟨t251, A510, H⟩ := H
                                      replace H : (if 0 ≤ x5_1 then (if x5_1 < (l0.length : Int) then ((calamusref02_Joining.f (rd l0 x5_1)).bind fun t253 => (if x6_13 = true then (if t251 = 3 then (calamuslaw15_JoiningAgree.l0 kj17 l0 t232 x5_1 (wrap64 (x5_1 + 1))) else (some false)) else (calamuslaw15_JoiningAgree.l0 kj17 l0 t232 x5_1 (wrap64 (x5_1 + 1))))) else (none)) else (none)) = some r := H
                                      have A51 := Aside0.mk A510
                                      clear A510
                                      by_cases c52 : 0 ≤ x5_1
                                      · rw [if_pos c52] at H
                                        have c52b0 : decide (0 ≤ x5_1) = true := decide_eq_true c52
                                        clear c52
                                        by_cases c53 : x5_1 < (l0.length : Int)
                                        · rw [if_pos c53] at H
                                          have c53b0 : decide (x5_1 < (l0.length : Int)) = true := decide_eq_true c53
                                          clear c53
                                          replace H := Option.bind_eq_some_iff.mp H
                                          obtain ⟨t253, A540, H⟩ := H
                                          replace H : (if x6_13 = true then (if t251 = 3 then (calamuslaw15_JoiningAgree.l0 kj17 l0 t232 x5_1 (wrap64 (x5_1 + 1))) else (some false)) else (calamuslaw15_JoiningAgree.l0 kj17 l0 t232 x5_1 (wrap64 (x5_1 + 1)))) = some r := H
                                          have A54 := Aside0.mk A540
                                          clear A540
                                          by_cases c55 : x6_13 = true
                                          · subst c55
                                            have H1 : (if t251 = 3 then (calamuslaw15_JoiningAgree.l0 kj17 l0 t232 x5_1 (wrap64 (x5_1 + 1))) else (some false)) = some r := by rw [if_pos rfl] at H; exact H
                                            clear H
                                            have H := H1
                                            clear H1
                                            by_cases c56 : t251 = 3
                                            · rw [if_pos c56] at H
                                              have c56b0 : (t251 == 3) = true := beq_iff_eq.mpr c56
                                              have c56b1 : (t251 != 3) = false := bne_eq_false_iff_eq.mpr c56
                                              clear c56
                                              have H' := Aside0.mk H
                                              clear H
                                              have p240 : 0 ≤ (x4_1 : Int) := of_decide_eq_true (by first | (with_reducible assumption) | assumption)
                                              have q240 : x4_1 < (t232.length : Int) := of_decide_eq_true (by first | (with_reducible assumption) | assumption)
                                              obtain ⟨ad240, e240, hx240_0⟩ := Kd.at_int (Kd.R_reads' HO_3.out).2.2 x4_1 p240 q240
                                              cases e240
                                              replace p240 := eq_true p240
                                              replace q240 := eq_true q240
                                              have p245 : 0 ≤ (x4_1 : Int) := of_decide_eq_true (by first | (with_reducible assumption) | assumption)
                                              have q245 : x4_1 < (t232.length : Int) := of_decide_eq_true (by first | (with_reducible assumption) | assumption)
                                              obtain ⟨ad245, e245, hx245_0⟩ := Kd.at_int (Kd.R_reads' HO_3.out).2.2 x4_1 p245 q245
                                              obtain rfl : ad240 = ad245 := (by injection e245)
                                              replace p245 := eq_true p245
                                              replace q245 := eq_true q245
                                              have p250 : 0 ≤ (x4_1 : Int) := of_decide_eq_true (by first | (with_reducible assumption) | assumption)
                                              have q250 : x4_1 < (l0.length : Int) := of_decide_eq_true (by first | (with_reducible assumption) | assumption)
                                              obtain ⟨ad250, e250, hx250_0⟩ := Kd.at_int HR0.out x4_1 p250 q250
                                              obtain rfl : ad236 = ad250 := (by injection e250)
                                              replace hx250_0 := (HB.out.cell (World.block_lt_of_cell? w _ hx250_0)).trans hx250_0
                                              replace p250 := eq_true p250
                                              replace q250 := eq_true q250
                                              go_wp2_with (first | (go_at_call 19; (with_reducible refine (calamusref02_Joining.calls (rd l0 x4_1) t251 _ A51.out).mono ?_); rintro e w57 ⟨rfl, hb⟩; have n0_ := Aside0.mk (Kd.R_below (by (with_reducible repeat (first | apply Kd.R_alloc | apply Kd.R_drewN | apply Kd.R_drew)); exact HO_3.out) hb); have n1_ := Aside0.mk (below_step (by repeat (first | (with_reducible first | exact HB.out | apply below_alloc | apply pw_below_drewN | apply below_drew1) | exact HB.out)) hb); clear HO_3; clear HB; have HO_3 := n0_; have HB := n1_; clear n0_ n1_; (try clear hb); (try clear hb2); (try clear hk); (try clear hi); have p252 : 0 ≤ (x5_1 : Int) := of_decide_eq_true (by first | (with_reducible assumption) | assumption); have q252 : x5_1 < (l0.length : Int) := of_decide_eq_true (by first | (with_reducible assumption) | assumption); obtain ⟨ad252, e252, hx252_0⟩ := Kd.at_int HR0.out x5_1 p252 q252; obtain rfl : ad236 = ad252 := (by injection e252); replace hx252_0 := (HB.out.cell (World.block_lt_of_cell? w _ hx252_0)).trans hx252_0; replace p252 := eq_true p252; replace q252 := eq_true q252) | ((with_reducible refine gate_callee (f := 19) rfl ?_); refine goesL_ (some 75) rfl rfl Tryd.func19 (by kernel_rfl) rfl #[.int .i32 (rd l0 x5_1)] rfl (by (try simp only [List.map_toArray, List.map_cons, List.map_nil]); first | done | rfl | (simp only [List.length_drop, List.length_take]; rfl)) ?_; (with_reducible refine (calamusref02_Joining.calls (rd l0 x5_1) t253 _ A54.out).mono ?_); rintro e w58 ⟨rfl, hb⟩; refine ⟨_, rfl, ?_⟩; have n0_ := Aside0.mk (Kd.R_below (by (with_reducible repeat (first | apply Kd.R_alloc | apply Kd.R_drewN | apply Kd.R_drew)); exact HO_3.out) hb); have n1_ := Aside0.mk (below_step (by repeat (first | (with_reducible first | exact HB.out | apply below_alloc | apply pw_below_drewN | apply below_drew1) | exact HB.out)) hb); clear HO_3; clear HB; have HO_3 := n0_; have HB := n1_; clear n0_ n1_; (try clear hb); (try clear hb2); (try clear hk); (try clear hi); have p254 : 0 ≤ (x4_1 : Int) := of_decide_eq_true (by first | (with_reducible assumption) | assumption); have q254 : x4_1 < (t232.length : Int) := of_decide_eq_true (by first | (with_reducible assumption) | assumption); obtain ⟨ad254, e254, hx254_0⟩ := Kd.at_int (Kd.R_reads' HO_3.out).2.2 x4_1 p254 q254; obtain rfl : ad240 = ad254 := (by injection e254); replace p254 := eq_true p254; replace q254 := eq_true q254))
                                              go_roundg kj17
                                              case measure => have := HK1.out; have := HJ13.out; have := HJ17.out; omega
                                              case rel => exact ⟨(x5_1), (wrap64 (x5_1 + 1)), (by first | rfl | (simp; done) | (simp [*]; done)), (by first | rfl | (simp; done) | (simp [*]; done)), H', ⟨by have := HK1.out; have := HJ13.out; have := HJ17.out; omega⟩, ⟨by (with_reducible repeat (first | apply Kd.R_alloc | apply Kd.R_drewN | apply Kd.R_drew)); exact HO_3.out⟩, ⟨by repeat (first | (with_reducible first | exact HB.out | apply below_alloc | apply pw_below_drewN | apply below_drew1) | exact HB.out)⟩⟩
                                            · rw [if_neg c56] at H
                                              have c56b0 : (t251 == 3) = false := beq_eq_false_iff_ne.mpr c56
                                              have c56b1 : (t251 != 3) = true := bne_iff_ne.mpr c56
                                              obtain rfl := Option.some.inj H
                                              have p240 : 0 ≤ (x4_1 : Int) := of_decide_eq_true (by first | (with_reducible assumption) | assumption)
                                              have q240 : x4_1 < (t232.length : Int) := of_decide_eq_true (by first | (with_reducible assumption) | assumption)
                                              obtain ⟨ad240, e240, hx240_0⟩ := Kd.at_int (Kd.R_reads' HO_3.out).2.2 x4_1 p240 q240
                                              cases e240
                                              replace p240 := eq_true p240
                                              replace q240 := eq_true q240
                                              have p245 : 0 ≤ (x4_1 : Int) := of_decide_eq_true (by first | (with_reducible assumption) | assumption)
                                              have q245 : x4_1 < (t232.length : Int) := of_decide_eq_true (by first | (with_reducible assumption) | assumption)
                                              obtain ⟨ad245, e245, hx245_0⟩ := Kd.at_int (Kd.R_reads' HO_3.out).2.2 x4_1 p245 q245
                                              obtain rfl : ad240 = ad245 := (by injection e245)
                                              replace p245 := eq_true p245
                                              replace q245 := eq_true q245
                                              have p250 : 0 ≤ (x4_1 : Int) := of_decide_eq_true (by first | (with_reducible assumption) | assumption)
                                              have q250 : x4_1 < (l0.length : Int) := of_decide_eq_true (by first | (with_reducible assumption) | assumption)
                                              obtain ⟨ad250, e250, hx250_0⟩ := Kd.at_int HR0.out x4_1 p250 q250
                                              obtain rfl : ad236 = ad250 := (by injection e250)
                                              replace hx250_0 := (HB.out.cell (World.block_lt_of_cell? w _ hx250_0)).trans hx250_0
                                              replace p250 := eq_true p250
                                              replace q250 := eq_true q250
                                              go_wp2_with (first | (go_at_call 19; (with_reducible refine (calamusref02_Joining.calls (rd l0 x4_1) t251 _ A51.out).mono ?_); rintro e w59 ⟨rfl, hb⟩; have n0_ := Aside0.mk (Kd.R_below (by (with_reducible repeat (first | apply Kd.R_alloc | apply Kd.R_drewN | apply Kd.R_drew)); exact HO_3.out) hb); have n1_ := Aside0.mk (below_step (by repeat (first | (with_reducible first | exact HB.out | apply below_alloc | apply pw_below_drewN | apply below_drew1) | exact HB.out)) hb); clear HO_3; clear HB; have HO_3 := n0_; have HB := n1_; clear n0_ n1_; (try clear hb); (try clear hb2); (try clear hk); (try clear hi); have p252 : 0 ≤ (x5_1 : Int) := of_decide_eq_true (by first | (with_reducible assumption) | assumption); have q252 : x5_1 < (l0.length : Int) := of_decide_eq_true (by first | (with_reducible assumption) | assumption); obtain ⟨ad252, e252, hx252_0⟩ := Kd.at_int HR0.out x5_1 p252 q252; obtain rfl : ad236 = ad252 := (by injection e252); replace hx252_0 := (HB.out.cell (World.block_lt_of_cell? w _ hx252_0)).trans hx252_0; replace p252 := eq_true p252; replace q252 := eq_true q252) | ((with_reducible refine gate_callee (f := 19) rfl ?_); refine goesL_ (some 75) rfl rfl Tryd.func19 (by kernel_rfl) rfl #[.int .i32 (rd l0 x5_1)] rfl (by (try simp only [List.map_toArray, List.map_cons, List.map_nil]); first | done | rfl | (simp only [List.length_drop, List.length_take]; rfl)) ?_; (with_reducible refine (calamusref02_Joining.calls (rd l0 x5_1) t253 _ A54.out).mono ?_); rintro e w60 ⟨rfl, hb⟩; refine ⟨_, rfl, ?_⟩; have n0_ := Aside0.mk (Kd.R_below (by (with_reducible repeat (first | apply Kd.R_alloc | apply Kd.R_drewN | apply Kd.R_drew)); exact HO_3.out) hb); have n1_ := Aside0.mk (below_step (by repeat (first | (with_reducible first | exact HB.out | apply below_alloc | apply pw_below_drewN | apply below_drew1) | exact HB.out)) hb); clear HO_3; clear HB; have HO_3 := n0_; have HB := n1_; clear n0_ n1_; (try clear hb); (try clear hb2); (try clear hk); (try clear hi)))
                                              go_ret
                                              exact ⟨by first | rfl | (simp [errW_none, errW_some] <;> rfl) | (simp [*, errW_none, errW_some] <;> rfl), by repeat (first | (with_reducible first | exact HB.out | apply below_alloc | apply pw_below_drewN | apply below_drew1) | exact HB.out)⟩
                                          · replace c55 := Bool.eq_false_iff.mpr c55
                                            subst c55
                                            have H1 : (calamuslaw15_JoiningAgree.l0 kj17 l0 t232 x5_1 (wrap64 (x5_1 + 1))) = some r := by rw [if_neg (show ¬ (false = true) by decide)] at H; exact H
                                            clear H
                                            have H := H1
                                            clear H1
                                            have H' := Aside0.mk H
                                            clear H
                                            have p240 : 0 ≤ (x4_1 : Int) := of_decide_eq_true (by first | (with_reducible assumption) | assumption)
                                            have q240 : x4_1 < (t232.length : Int) := of_decide_eq_true (by first | (with_reducible assumption) | assumption)
                                            obtain ⟨ad240, e240, hx240_0⟩ := Kd.at_int (Kd.R_reads' HO_3.out).2.2 x4_1 p240 q240
                                            cases e240
                                            replace p240 := eq_true p240
                                            replace q240 := eq_true q240
                                            have p245 : 0 ≤ (x4_1 : Int) := of_decide_eq_true (by first | (with_reducible assumption) | assumption)
                                            have q245 : x4_1 < (t232.length : Int) := of_decide_eq_true (by first | (with_reducible assumption) | assumption)
                                            obtain ⟨ad245, e245, hx245_0⟩ := Kd.at_int (Kd.R_reads' HO_3.out).2.2 x4_1 p245 q245
                                            obtain rfl : ad240 = ad245 := (by injection e245)
                                            replace p245 := eq_true p245
                                            replace q245 := eq_true q245
                                            have p250 : 0 ≤ (x4_1 : Int) := of_decide_eq_true (by first | (with_reducible assumption) | assumption)
                                            have q250 : x4_1 < (l0.length : Int) := of_decide_eq_true (by first | (with_reducible assumption) | assumption)
                                            obtain ⟨ad250, e250, hx250_0⟩ := Kd.at_int HR0.out x4_1 p250 q250
                                            obtain rfl : ad236 = ad250 := (by injection e250)
                                            replace hx250_0 := (HB.out.cell (World.block_lt_of_cell? w _ hx250_0)).trans hx250_0
                                            replace p250 := eq_true p250
                                            replace q250 := eq_true q250
                                            go_wp2_with (first | (go_at_call 19; (with_reducible refine (calamusref02_Joining.calls (rd l0 x4_1) t251 _ A51.out).mono ?_); rintro e w61 ⟨rfl, hb⟩; have n0_ := Aside0.mk (Kd.R_below (by (with_reducible repeat (first | apply Kd.R_alloc | apply Kd.R_drewN | apply Kd.R_drew)); exact HO_3.out) hb); have n1_ := Aside0.mk (below_step (by repeat (first | (with_reducible first | exact HB.out | apply below_alloc | apply pw_below_drewN | apply below_drew1) | exact HB.out)) hb); clear HO_3; clear HB; have HO_3 := n0_; have HB := n1_; clear n0_ n1_; (try clear hb); (try clear hb2); (try clear hk); (try clear hi); have p252 : 0 ≤ (x5_1 : Int) := of_decide_eq_true (by first | (with_reducible assumption) | assumption); have q252 : x5_1 < (l0.length : Int) := of_decide_eq_true (by first | (with_reducible assumption) | assumption); obtain ⟨ad252, e252, hx252_0⟩ := Kd.at_int HR0.out x5_1 p252 q252; obtain rfl : ad236 = ad252 := (by injection e252); replace hx252_0 := (HB.out.cell (World.block_lt_of_cell? w _ hx252_0)).trans hx252_0; replace p252 := eq_true p252; replace q252 := eq_true q252) | ((with_reducible refine gate_callee (f := 19) rfl ?_); refine goesL_ (some 75) rfl rfl Tryd.func19 (by kernel_rfl) rfl #[.int .i32 (rd l0 x5_1)] rfl (by (try simp only [List.map_toArray, List.map_cons, List.map_nil]); first | done | rfl | (simp only [List.length_drop, List.length_take]; rfl)) ?_; (with_reducible refine (calamusref02_Joining.calls (rd l0 x5_1) t253 _ A54.out).mono ?_); rintro e w62 ⟨rfl, hb⟩; refine ⟨_, rfl, ?_⟩; have n0_ := Aside0.mk (Kd.R_below (by (with_reducible repeat (first | apply Kd.R_alloc | apply Kd.R_drewN | apply Kd.R_drew)); exact HO_3.out) hb); have n1_ := Aside0.mk (below_step (by repeat (first | (with_reducible first | exact HB.out | apply below_alloc | apply pw_below_drewN | apply below_drew1) | exact HB.out)) hb); clear HO_3; clear HB; have HO_3 := n0_; have HB := n1_; clear n0_ n1_; (try clear hb); (try clear hb2); (try clear hk); (try clear hi); have p255 : 0 ≤ (x4_1 : Int) := of_decide_eq_true (by first | (with_reducible assumption) | assumption); have q255 : x4_1 < (t232.length : Int) := of_decide_eq_true (by first | (with_reducible assumption) | assumption); obtain ⟨ad255, e255, hx255_0⟩ := Kd.at_int (Kd.R_reads' HO_3.out).2.2 x4_1 p255 q255; obtain rfl : ad240 = ad255 := (by injection e255); replace p255 := eq_true p255; replace q255 := eq_true q255))
                                            go_roundg kj17
                                            case measure => have := HK1.out; have := HJ13.out; have := HJ17.out; omega
                                            case rel => exact ⟨(x5_1), (wrap64 (x5_1 + 1)), (by first | rfl | (simp; done) | (simp [*]; done)), (by first | rfl | (simp; done) | (simp [*]; done)), H', ⟨by have := HK1.out; have := HJ13.out; have := HJ17.out; omega⟩, ⟨by (with_reducible repeat (first | apply Kd.R_alloc | apply Kd.R_drewN | apply Kd.R_drew)); exact HO_3.out⟩, ⟨by repeat (first | (with_reducible first | exact HB.out | apply below_alloc | apply pw_below_drewN | apply below_drew1) | exact HB.out)⟩⟩
                                        · rw [if_neg c53] at H
                                          exact absurd H (by simp)
                                      · rw [if_neg c52] at H
                                        exact absurd H (by simp)
                                    · rw [if_neg c50] at H
                                      exact absurd H (by simp)
                              · rw [if_neg c23] at H
                                exact absurd H (by simp)
                            · rw [if_neg c22] at H
                              exact absurd H (by simp)
                          · rw [if_neg c21] at H
                            have c21b0 : decide (0 ≤ x4_1) = false := decide_eq_false c21
                            clear c21
                            have H' := Aside0.mk H
                            clear H
                            go_wp2
                            go_roundg kj17
                            case measure => have := HK1.out; have := HJ13.out; have := HJ17.out; omega
                            case rel => exact ⟨(x5_1), (wrap64 (x5_1 + 1)), (by first | rfl | (simp; done) | (simp [*]; done)), (by first | rfl | (simp; done) | (simp [*]; done)), H', ⟨by have := HK1.out; have := HJ13.out; have := HJ17.out; omega⟩, ⟨by (with_reducible repeat (first | apply Kd.R_alloc | apply Kd.R_drewN | apply Kd.R_drew)); exact HO_3.out⟩, ⟨by repeat (first | (with_reducible first | exact HB.out | apply below_alloc | apply pw_below_drewN | apply below_drew1) | exact HB.out)⟩⟩
            · rw [if_neg c10] at H
              exact absurd H (by simp)
          · rw [if_neg c9] at H
            have c9b0 : decide (x5_1 < (l0.length : Int)) = false := decide_eq_false c9
            clear c9
            replace H := Option.bind_eq_some_iff.mp H
            obtain ⟨t235, A630, H⟩ := H
            replace H : (some t235) = some r := H
            have A63 := Aside0.mk A630
            clear A630
            obtain rfl := Option.some.inj H
            go_wp2_with (first | ((with_reducible refine gate_callee (f := 13) rfl ?_); refine goesL_ (some 97) rfl rfl Tryd.func13 (by kernel_rfl) rfl #[] rfl (by (try simp only [List.map_toArray, List.map_cons, List.map_nil]); first | done | rfl | (simp only [List.length_drop, List.length_take]; rfl)) ?_; (with_reducible refine (calamuslaw15_works.calls k1  t235 _ ?side1 A63.out).mono ?_); (case side1 => exact Glob.below HG.out (by repeat (first | (with_reducible first | exact HB.out | apply below_alloc | apply pw_below_drewN | apply below_drew1) | exact HB.out))); rintro e w64 ⟨rfl, hb⟩; refine ⟨_, rfl, ?_⟩; have n0_ := Aside0.mk (Kd.R_below (by (with_reducible repeat (first | apply Kd.R_alloc | apply Kd.R_drewN | apply Kd.R_drew)); exact HO_3.out) hb); have n1_ := Aside0.mk (below_step (by repeat (first | (with_reducible first | exact HB.out | apply below_alloc | apply pw_below_drewN | apply below_drew1) | exact HB.out)) hb); clear HO_3; clear HB; have HO_3 := n0_; have HB := n1_; clear n0_ n1_; (try clear hb); (try clear hb2); (try clear hk); (try clear hi)))
            go_ret
            exact ⟨by first | rfl | (simp [errW_none, errW_some] <;> rfl) | (simp [*, errW_none, errW_some] <;> rfl), by repeat (first | (with_reducible first | exact HB.out | apply below_alloc | apply pw_below_drewN | apply below_drew1) | exact HB.out)⟩
    · rw [if_neg c6] at H
      have c6b0 : ((t232.length : Int) == (l0.length : Int)) = false := beq_eq_false_iff_ne.mpr c6
      have c6b1 : ((t232.length : Int) != (l0.length : Int)) = true := bne_iff_ne.mpr c6
      have c6b2 : (t232.length == l0.length) = false := by first | simpa using c6 | (simp at c6 ⊢; omega)
      obtain rfl := Option.some.inj H
      go_enter Tryd.func6, Tryd.ntmps6
      go_wp2_with (first | ((with_reducible refine gate_callee (f := 14) rfl ?_); refine goesL_ (some 14) rfl rfl Tryd.func14 (by kernel_rfl) rfl #[.slice A0 l0.length c0] rfl (by (try simp only [List.map_toArray, List.map_cons, List.map_nil]); first | done | rfl | (simp only [List.length_drop, List.length_take]; rfl)) ?_; (with_reducible refine (joining_Forms.calls _ _ l0 t232 _ ?side1 ?side2 ?side3 A5.out).mono ?_); (case side1 => repeat (first | exact HR0.out | (with_reducible refine Kd.C_alloc ?_ _) | (with_reducible refine Kd.C_drewN ?_ _) | (with_reducible refine Kd.C_drew ?_))); (case side2 => exact HC0.out); (case side3 => exact Glob.below HG.out (by repeat (first | (with_reducible first | exact HB.out | apply below_alloc | apply pw_below_drewN | apply below_drew1) | exact HB.out))); rintro e w65 ⟨v233, rfl, ho0, hb⟩; refine ⟨_, rfl, ?_⟩; have n0_ := Aside0.mk (Kd.R_lower ho0 (below_size (by repeat (first | (with_reducible first | exact HB.out | apply below_alloc | apply pw_below_drewN | apply below_drew1) | exact HB.out)))); have n1_ := Aside0.mk (below_step (by repeat (first | (with_reducible first | exact HB.out | apply below_alloc | apply pw_below_drewN | apply below_drew1) | exact HB.out)) hb); clear HB; have HO234 := n0_; have HB := n1_; clear n0_ n1_; (try clear hb); (try clear hb2); (try clear hk); (try clear hi); (try clear ho0); obtain ⟨Ao66, co66, eo66⟩ := Kd.R_slice HO234.out; subst eo66))
      go_ret
      exact ⟨by first | rfl | (simp [errW_none, errW_some] <;> rfl) | (simp [*, errW_none, errW_some] <;> rfl), by repeat (first | (with_reducible first | exact HB.out | apply below_alloc | apply pw_below_drewN | apply below_drew1) | exact HB.out)⟩

/-- THE ONE PURE STATEMENT of calamuslaw15_JoiningAgree: yours. -/
def calamuslaw15_JoiningAgree.Pure : Prop := ∀ (l0 : List Int), l0.length ≤ maxLen → l0.length * 4 ≤ 140737488351232 → (∀ x ∈ l0, (Lit.int .i32 x).wf = true) → ∃ k, calamuslaw15_JoiningAgree.f k l0 = some true
theorem calamuslaw15_JoiningAgree.walk (P : calamuslaw15_JoiningAgree.Pure) (a0 : Option Addr) (len0 cap0 : Nat) (z0 : List Int) (w : World) (w0 : (a0 = none ∧ len0 = 0 ∧ cap0 = 0 ∧ z0 = []) ∨ ∃ x, a0 = some x ∧ len0 ≤ cap0 ∧ cap0 ≤ maxLen ∧ z0.length = cap0 ∧ (∀ i, i < z0.length → w.cell? (x.add i) = some (.int .i32 (z0.getD i 0))) ∧ ∀ n ∈ z0, (Lit.int .i32 n).wf = true) (y0 : len0 * 4 ≤ 140737488351232) (hG : Glob w) :
    Calls Tryd.prog 6 #[.slice a0 len0 cap0] w fun e w' => e = .returned (.bool true) ∧ Below w.heap.size w w' := by
  obtain ⟨l0, rfl, hr0, hm0, hw0, hc0⟩ := ReadsInt.ofRowC w0
  obtain ⟨k, h⟩ := P l0 hm0 y0 hw0
  refine (calamuslaw15_JoiningAgree.calls k _ _ l0 true w (Kd.C_of_reads (d := (0 : Int)) (h1 := fun _ => rfl) hr0) hc0 hG h).mono ?_
  rintro e w' ⟨rfl, hd⟩
  exact ⟨rfl, hd⟩

-- NOT PRINTED: function 7 (calamuslaw15_JoiningKnown)

end Go.Proofs.YtffmdnckapalfaaDoor.J
