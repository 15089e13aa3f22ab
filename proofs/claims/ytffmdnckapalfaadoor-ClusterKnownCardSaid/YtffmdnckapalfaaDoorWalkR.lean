import Derived.Test.YtffmdnckapalfaaDoorWalkT
namespace Go.Proofs.YtffmdnckapalfaaDoor.T
open Go.RowKit Go.Proofs.YtffmdnckapalfaaDoor.U Go.Proofs.YtffmdnckapalfaaDoor.SpecJ Go.Proofs.YtffmdnckapalfaaDoor.SpecC Go.Proofs.YtffmdnckapalfaaDoorW.PrintWords Go.Proofs.YtffmdnckapalfaaDoor.Lit

theorem find35 (r : Int) (W : World) (b : Nat) (h : W.heap[b]? = some (.cells cells35 67 (0, 0))) :
    Calls Tryd.prog 34 #[.slice (some ⟨b, 0, none⟩) 62 62, .int .i32 r, .int .u8 0] W fun e w' => e = .returned (.int .u8 (jn r)) ∧ Drawn0 W w' := by
  have hl : jtab.length = 62 := by decide
  rw [flat35] at h
  have hC := reads_flat W b 67 jtab (by omega) h
  have hf := find_loop r 0 jtab (by omega) 62 63 0 (by omega) (by omega)
  rw [List.drop_zero, ← jn_pick] at hf
  have hm : (jtab.map toR).length = 62 := by simp [hl]
  have := calamusref02_find.calls 63 (some ⟨b, 0, none⟩) 62 (jtab.map toR) r 0 (jn r) W (by rw [hm, ← hl]; exact hC) (by rw [hm]; exact Nat.le_refl _) hf
  rw [hm] at this
  exact this

def calamusref02_Joining.f (a0 : Int) : Option Int := some (jn a0)
set_option maxHeartbeats 400000 in
theorem calamusref02_Joining.calls (a0 : Int) (r : Int) (w : World) (h : calamusref02_Joining.f a0 = some r) :
    Calls Tryd.prog 19 #[.int .i32 a0] w fun e w' => e = .returned (.int .u8 r) ∧ Below w.heap.size w w' := by
  obtain rfl := Option.some.inj h
  clear h
  have hL := Aside0.mk (letter_eq a0)
  cases hb : letB a0 with
  | true =>
    have e0 : jn a0 = 0 := by rw [jn_pick]; exact pick_j0 a0 (.inl hb)
    rw [hb] at hL
    rw [e0]
    clear e0 hb
    go_enter Tryd.func19, Tryd.ntmps19
    go_wp2_with (go_at_call 33; refine (calamusref02_letter.calls a0 true _ hL.out).mono ?_; rintro e w' ⟨rfl, ⟨nd, rfl⟩⟩)
    go_ret
    exact ⟨rfl, pw_below_drewN (Below.refl _ _) _⟩
  | false =>
    rw [hb] at hL
    clear hb
    go_enter Tryd.func19, Tryd.ntmps19
    go_wp2_with (first | (go_at_call 33; refine (calamusref02_letter.calls a0 false _ hL.out).mono ?_; rintro e w' ⟨rfl, ⟨nd, rfl⟩⟩) | (go_at_call 35; refine (lit35 _).mono ?_; rintro e w' ⟨rfl, rfl⟩) | (go_at_call 34; refine (find35 _ _ _ (heap_alloc_new _ _)).mono ?_; rintro e w' ⟨rfl, hd⟩))
    go_ret
    exact ⟨rfl, (below_alloc (pw_below_drewN (Below.refl _ _) _) _).trans (hd.below.mono (by simp))⟩

/-! ### the cluster class -/
def isH (r : Int) : Bool := decide (44032 ≤ r ∧ r ≤ 55203)
def opH (r : Int) : Bool := (Int.tmod (wrap32 (r - 44032)) 28) == 0
theorem syl_ref (r : Int) : calamusref02_syllable.f r = some (isH r, opH r) := by
  unfold calamusref02_syllable.f isH opH
  by_cases h : r ≥ 44032
  · rw [if_pos h]; simp; omega
  · rw [if_neg h]; simp; omega
theorem syl_own (r : Int) : ucd_syllable.f r = some (isH r, opH r) := by
  unfold ucd_syllable.f isH opH
  by_cases h : r ≥ 44032
  · rw [if_pos h]; simp; omega
  · rw [if_neg h]; simp; omega
theorem cn_lv (r : Int) (h : isH r = true) (h2 : opH r = true) : cn r = 11 := by
  simp [isH] at h
  have e : wrap32 (r - 44032) = r - 44032 := by unfold wrap32; omega
  simp [opH, e, Int.tmod_eq_emod_of_nonneg (show 0 ≤ r - 44032 by omega)] at h2
  unfold cn
  rw [if_pos h, if_pos (by omega)]
theorem cn_lvt (r : Int) (h : isH r = true) (h2 : opH r = false) : cn r = 12 := by
  simp [isH] at h
  have e : wrap32 (r - 44032) = r - 44032 := by unfold wrap32; omega
  simp [opH, e, Int.tmod_eq_emod_of_nonneg (show 0 ≤ r - 44032 by omega)] at h2
  unfold cn
  rw [if_pos h, if_neg (by omega)]
theorem cn_pick (r : Int) (h : isH r = false) : cn r = pickT 0 r ctab := by
  simp [isH] at h
  unfold cn
  rw [if_neg (by omega)]
  split
  · exact (pick_c0 r (by omega)).symm
  · split
    · exact (pick_c0 r (by omega)).symm
    · rfl
theorem find44 (r : Int) (hr : isH r = false) (W : World) (b : Nat) (h : W.heap[b]? = some (.cells cells44 67 (0, 0))) :
    Calls Tryd.prog 34 #[.slice (some ⟨b, 0, none⟩) 50 50, .int .i32 r, .int .u8 0] W fun e w' => e = .returned (.int .u8 (cn r)) ∧ Drawn0 W w' := by
  have hl : ctab.length = 50 := by decide
  rw [flat44] at h
  have hC := reads_flat W b 67 ctab (by omega) h
  have hf := find_loop r 0 ctab (by omega) 50 51 0 (by omega) (by omega)
  rw [List.drop_zero, ← cn_pick r hr] at hf
  have hm : (ctab.map toR).length = 50 := by simp [hl]
  have := calamusref02_find.calls 51 (some ⟨b, 0, none⟩) 50 (ctab.map toR) r 0 (cn r) W (by rw [hm, ← hl]; exact hC) (by rw [hm]; exact Nat.le_refl _) hf
  rw [hm] at this
  exact this

def calamusref02_Cluster.f (a0 : Int) : Option Int := some (cn a0)
set_option maxHeartbeats 800000 in
theorem calamusref02_Cluster.calls (a0 : Int) (r : Int) (w : World) (h : calamusref02_Cluster.f a0 = some r) :
    Calls Tryd.prog 27 #[.int .i32 a0] w fun e w' => e = .returned (.int .u8 r) ∧ Below w.heap.size w w' := by
  obtain rfl := Option.some.inj h
  clear h
  have hL := Aside0.mk (letter_eq a0)
  have hS := Aside0.mk (syl_ref a0)
  cases hb : letB a0 with
  | true =>
    have hi : isH a0 = false := by simp [letB] at hb; simp [isH]; omega
    have e0 : cn a0 = 0 := by rw [cn_pick a0 hi]; exact pick_c0 a0 (.inl hb)
    rw [hb] at hL
    rw [e0]
    clear e0 hb hi
    go_enter Tryd.func27, Tryd.ntmps27
    go_wp2_with (first | (go_at_call 43; refine (calamusref02_syllable.calls a0 _ _ _ hS.out).mono ?_; rintro e w' ⟨rfl, ⟨ns, rfl⟩⟩) | (go_at_call 33; refine (calamusref02_letter.calls a0 true _ hL.out).mono ?_; rintro e w' ⟨rfl, ⟨nd, rfl⟩⟩))
    go_ret
    exact ⟨rfl, pw_below_drewN (Below.refl _ _) _⟩
  | false =>
    rw [hb] at hL
    clear hb
    cases hi : isH a0 with
    | true =>
      cases ho : opH a0 with
      | true =>
        rw [cn_lv a0 hi ho]
        rw [hi, ho] at hS
        clear hi ho
        go_enter Tryd.func27, Tryd.ntmps27
        go_wp2_with (first | (go_at_call 43; refine (calamusref02_syllable.calls a0 _ _ _ hS.out).mono ?_; rintro e w' ⟨rfl, ⟨ns, rfl⟩⟩) | (go_at_call 33; refine (calamusref02_letter.calls a0 false _ hL.out).mono ?_; rintro e w' ⟨rfl, ⟨nd, rfl⟩⟩))
        go_ret
        exact ⟨rfl, pw_below_drewN (Below.refl _ _) _⟩
      | false =>
        rw [cn_lvt a0 hi ho]
        rw [hi, ho] at hS
        clear hi ho
        go_enter Tryd.func27, Tryd.ntmps27
        go_wp2_with (first | (go_at_call 43; refine (calamusref02_syllable.calls a0 _ _ _ hS.out).mono ?_; rintro e w' ⟨rfl, ⟨ns, rfl⟩⟩) | (go_at_call 33; refine (calamusref02_letter.calls a0 false _ hL.out).mono ?_; rintro e w' ⟨rfl, ⟨nd, rfl⟩⟩))
        go_ret
        exact ⟨rfl, pw_below_drewN (Below.refl _ _) _⟩
    | false =>
      have hF := Aside0.mk (find44 a0 hi)
      obtain ⟨o, ho⟩ : ∃ o, o = opH a0 := ⟨_, rfl⟩
      rw [hi, ← ho] at hS
      clear hi ho
      go_enter Tryd.func27, Tryd.ntmps27
      go_wp2_with (first | (go_at_call 43; refine (calamusref02_syllable.calls a0 _ _ _ hS.out).mono ?_; rintro e w' ⟨rfl, ⟨ns, rfl⟩⟩) | (go_at_call 33; refine (calamusref02_letter.calls a0 false _ hL.out).mono ?_; rintro e w' ⟨rfl, ⟨nd, rfl⟩⟩) | (go_at_call 44; refine (lit44 _).mono ?_; rintro e w' ⟨rfl, rfl⟩) | (go_at_call 34; refine (hF.out _ _ (heap_alloc_new _ _)).mono ?_; rintro e w' ⟨rfl, hd⟩))
      go_ret
      exact ⟨rfl, (below_alloc (pw_below_drewN (Below.refl _ _) _) _).trans (hd.below.mono (by simp))⟩
end Go.Proofs.YtffmdnckapalfaaDoor.T
