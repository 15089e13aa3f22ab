import Derived.Test.YtffmdnckapalfaaDoorWalkR
namespace Go.Proofs.YtffmdnckapalfaaDoor.ExtC
open Go.RowKit Go.Proofs.YtffmdnckapalfaaDoor.U Go.Proofs.YtffmdnckapalfaaDoor.SpecJ Go.Proofs.YtffmdnckapalfaaDoor.SpecC Go.Proofs.YtffmdnckapalfaaDoorW.PrintWords Go.Proofs.YtffmdnckapalfaaDoor.T

/-- The table of cluster classes lies as the program lays it. -/
structure Glob (w : World) : Prop where
  cells : ∀ i x, ctab[i]? = some x → w.cell? ⟨2, i * 3, none⟩ = some (.int .i32 x.a) ∧ w.cell? ⟨2, i * 3 + 1, none⟩ = some (.int .i32 x.b) ∧ w.cell? ⟨2, i * 3 + 2, none⟩ = some (.int .u8 x.v)
theorem Glob.below {w w1 : World} (h : Glob w) (hb : Below w.heap.size w w1) : Glob w1 :=
  ⟨fun i x hx => ⟨pw_cell_below hb (h.cells i x hx).1, pw_cell_below hb (h.cells i x hx).2.1, pw_cell_below hb (h.cells i x hx).2.2⟩⟩
theorem of_cn (r : Int) (hr : isH r = false) : ucd_of.f 100 r (ctab.map toS) 0 = some (cn r) := by
  have hl : ctab.length = 50 := by decide
  have h := look_loop r 0 ctab (by omega) 50 99 0 (by omega) (by omega)
  rw [cn_pick r hr]
  unfold ucd_of.f
  by_cases h0 : r < 0
  · rw [if_pos h0, pick_c0 r (by omega)]; simp [ucd_of.j0]
  · rw [if_neg h0]
    by_cases h1 : r ≥ 1114112
    · rw [pick_c0 r (by omega)]; simp [ucd_of.j0, h1]
    · simp only [ucd_of.j0]
      rw [if_neg (by simpa using h1), List.length_map]
      exact h
theorem Glob.reads {w : World} (h : Glob w) : Kd.C k64 w (some ⟨2, 0, none⟩) (ctab.map toS).length (ctab.map toS) := by
  refine ⟨rfl, by simp; decide, fun _ => ⟨_, rfl, fun j p hj => ?_⟩⟩
  rw [List.getElem?_map, Option.map_eq_some_iff] at hj
  obtain ⟨x, hx, rfl⟩ := hj
  obtain ⟨h1, h2, h3⟩ := h.cells j x hx
  refine ⟨_, rfl, k64_mk w (toS x), ?_⟩
  intro i u hu
  have hsz : k64.sz = 3 := rfl
  rw [hsz, add_plain]
  rcases i with _ | _ | _ | i
  · simp at hu; subst hu; exact h1
  · simp at hu; subst hu; exact h2
  · simp at hu; subst hu; exact h3
  · simp at hu
theorem of_call {w : World} (h : Glob w) (r : Int) (hr : isH r = false) : Calls Tryd.prog 46 #[.int .i32 r, .slice (some ⟨2, 0, none⟩) 50 50, .int .u8 0] w fun e w' => e = .returned (.int .u8 (cn r)) ∧ Below w.heap.size w w' := by
  have hn : (ctab.map toS).length = 50 := by decide
  have C0 := ucd_of.calls 100 r (some ⟨2, 0, none⟩) 50 (ctab.map toS) 0 (cn r) w h.reads (by rw [hn]; exact Nat.le_refl _) (of_cn r hr)
  rw [hn] at C0
  exact C0
theorem Glob.drewN {w : World} (h : Glob w) (n : Nat) : Glob (w.drewN n) := h.below (pw_below_drewN (Below.refl _ _) n)

def ucd_Cluster.f (a0 : Int) : Option Int := some (cn a0)
set_option maxHeartbeats 400000 in
theorem ucd_Cluster.calls (a0 : Int) (r : Int) (w : World) (hG : Glob w) (h : ucd_Cluster.f a0 = some r) :
    Calls Tryd.prog 37 #[.int .i32 a0] w fun e w' => e = .returned (.int .u8 r) ∧ Below w.heap.size w w' := by
  obtain rfl := Option.some.inj h
  clear h
  have hS := Aside0.mk (syl_own a0)
  have HG := Aside0.mk hG
  clear hG
  cases hi : isH a0 with
  | true =>
    cases ho : opH a0 with
    | true =>
      rw [cn_lv a0 hi ho]
      rw [hi, ho] at hS
      clear hi ho
      go_enter Tryd.func37, Tryd.ntmps37
      go_wp2_with (go_at_call 57; refine (ucd_syllable.calls a0 _ _ _ hS.out).mono ?_; rintro e w' ⟨rfl, ⟨ns, rfl⟩⟩)
      go_ret
      exact ⟨rfl, pw_below_drewN (Below.refl _ _) _⟩
    | false =>
      rw [cn_lvt a0 hi ho]
      rw [hi, ho] at hS
      clear hi ho
      go_enter Tryd.func37, Tryd.ntmps37
      go_wp2_with (go_at_call 57; refine (ucd_syllable.calls a0 _ _ _ hS.out).mono ?_; rintro e w' ⟨rfl, ⟨ns, rfl⟩⟩)
      go_ret
      exact ⟨rfl, pw_below_drewN (Below.refl _ _) _⟩
  | false =>
    have hF := Aside0.mk (fun n => of_call (HG.out.drewN n) a0 hi)
    obtain ⟨o, ho⟩ : ∃ o, o = opH a0 := ⟨_, rfl⟩
    rw [hi, ← ho] at hS
    clear hi ho
    go_enter Tryd.func37, Tryd.ntmps37
    go_wp2_with (first | (go_at_call 57; refine (ucd_syllable.calls a0 _ _ _ hS.out).mono ?_; rintro e w' ⟨rfl, ⟨ns, rfl⟩⟩) | (go_at_call 46; refine (hF.out _).mono ?_; rintro e w' ⟨rfl, hd⟩))
    go_ret
    exact ⟨rfl, (pw_below_drewN (Below.refl _ _) _).trans (hd.mono (Nat.le_refl _))⟩
end Go.Proofs.YtffmdnckapalfaaDoor.ExtC
