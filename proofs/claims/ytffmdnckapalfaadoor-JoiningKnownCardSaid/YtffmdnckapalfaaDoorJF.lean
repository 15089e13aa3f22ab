/- JoiningForms: of any characters the forms are the document's. Conditions: the program's tables read as laid (Glob). -/
import Derived.Test.YtffmdnckapalfaaDoorJx2
import Derived.Test.YtffmdnckapalfaaDoorPureJoiningForms
import Derived.Laws.Cover4
namespace Go.Proofs.YtffmdnckapalfaaDoor.JF
open Go.RowKit Go.Proofs.YtffmdnckapalfaaDoorW.PrintWords Go.Proofs.YtffmdnckapalfaaDoor.ExtJ Go.Proofs.YtffmdnckapalfaaDoor.T Go.Proofs.YtffmdnckapalfaaDoor.J Go.Proofs.YtffmdnckapalfaaDoor.SpecJ Go.Proofs.YtffmdnckapalfaaDoor.PurJ
theorem below_of_drawn {w w' : World} (h : Drawn0 w w') : Below w.heap.size w w' := by
  obtain ⟨m, rfl⟩ := h
  exact pw_below_drewN (Below.refl _ _) m
theorem same_true (A0 : Option Addr) (c0 : Nat) (A1 : Option Addr) (c1 : Nat) (l : List Int) (w : World) (hr0 : Kd.C (Kd.int .u8) w A0 l.length l) (hc0 : l.length ≤ c0) (hr1 : Kd.C (Kd.int .u8) w A1 l.length l) (hc1 : l.length ≤ c1) :
    Calls Tryd.prog 16 #[.slice A0 l.length c0, .slice A1 l.length c1] w fun e w' => e = .returned (.bool true) ∧ Below w.heap.size w w' := by
  refine (calamuskit_SameBytes.calls A0 c0 l A1 c1 l true w hr0 hc0 hr1 hc1 (same_self l)).mono ?_
  rintro e w' ⟨rfl, h⟩
  exact ⟨rfl, below_of_drawn h⟩
theorem works_calls (w : World) (hG : Glob w) : Calls Tryd.prog 13 #[] w fun e w' => e = .returned (.bool true) ∧ Below w.heap.size w w' :=
  calamuslaw15_works.calls 1 true w hG (works_ok 0)
theorem forms_calls (A0 : Option Addr) (c0 : Nat) (l0 : List Int) (r : List Int) (w : World) (hr0 : Kd.C (Kd.int .i32) w A0 l0.length l0) (hc0 : l0.length ≤ c0) (hl : l0.length ≤ 1000000) (hG : Glob w) (h : r = forms l0) :
    Calls Tryd.prog 14 #[.slice A0 l0.length c0] w fun e w' => ∃ A c, e = .returned (.slice A r.length c) ∧ Kd.R (Kd.int .u8) 5 w' w.heap.size (fun _ => True) (.slice A r.length c) r ∧ Below w.heap.size w w' := by
  subst h
  refine (joining_Forms.calls A0 c0 l0 (forms l0) w hr0 hc0 hG (by simp [joining_Forms.f, hl])).mono ?_
  rintro e w' ⟨v, rfl, ho, hb⟩
  obtain ⟨A, c, rfl⟩ := Kd.R_slice ho
  exact ⟨A, c, rfl, ho, hb⟩
theorem refforms_calls (A0 : Option Addr) (c0 : Nat) (l0 : List Int) (r : List Int) (w : World) (hr0 : Kd.C (Kd.int .i32) w A0 l0.length l0) (hc0 : l0.length ≤ c0) (hl : l0.length ≤ 1000000) (h : r = forms l0) :
    Calls Tryd.prog 15 #[.slice A0 l0.length c0] w fun e w' => ∃ A c, e = .returned (.slice A r.length c) ∧ Kd.R (Kd.int .u8) 5 w' w.heap.size (fun _ => True) (.slice A r.length c) r ∧ Below w.heap.size w w' := by
  subst h
  refine (calamusref15_Forms.calls _ A0 c0 l0 (forms l0) w hr0 hc0 (ref_forms l0 hl)).mono ?_
  rintro e w' ⟨v, rfl, ho, hb⟩
  obtain ⟨A, c, rfl⟩ := Kd.R_slice ho
  exact ⟨A, c, rfl, ho, hb⟩
/-- A row of characters as a string. -/
theorem conv_runes (A : Option Addr) (c : Nat) (l : List Int) (w : World) (h : Kd.C (Kd.int .i32) w A l.length l) : (convert 22 9 (.slice A l.length c)).run Tryd.prog w = .ok (.string (runesBytes l)) w := by
  cases A with
  | none =>
    obtain rfl : l = [] := by
      rcases Nat.eq_zero_or_pos l.length with h0 | h0
      · exact List.eq_nil_of_length_eq_zero h0
      · obtain ⟨ad, h, _⟩ := h.2.2 h0
        cases h
    exact run_convert_runes_nil w 22 9 21 0 c Tryd.underlying22 Tryd.underlying21 Tryd.underlying9
  | some ad =>
    have := run_convert_runes (P := Tryd.prog) w 22 9 21 ad l.length c l (Nat.le_refl _) Tryd.underlying22 Tryd.underlying21 Tryd.underlying9 (fun j hj => by
      obtain ⟨ad', e, hc⟩ := Kd.at_int h (j : Int) (by omega) (by omega)
      cases e
      rw [Int.toNat_natCast] at hc
      simpa [rd] using hc)
    rwa [List.take_length] at this
set_option maxHeartbeats 4000000 in
set_option maxRecDepth 100000 in
theorem joiningForms_calls (A : Option Addr) (c : Nat) (l : List Int) (w : World) (hx : Kd.C (Kd.int .i32) w A l.length l) (hc : l.length ≤ c) (hG : Glob w) :
    Calls Tryd.prog 3 #[.slice A l.length c] w fun e w' => e = .returned (.bool true) ∧ Below w.heap.size w w' := by
  have HX := Aside0.mk hx
  have HG := Aside0.mk hG
  have HB := Aside0.mk (Below.refl w.heap.size w)
  clear hx hG
  by_cases b1 : (2000 : Int) < (l.length : Int)
  · go_enter Tryd.func3, Tryd.ntmps3
    go_wp2_with (go_at_call 13; (with_reducible refine (works_calls _ HG.out).mono ?_); rintro e w1 ⟨rfl, hb⟩)
    go_ret
    exact ⟨rfl, hb⟩
  have hl : l.length ≤ 1000000 := by omega
  obtain ⟨r, hr⟩ : ∃ r, r = forms l := ⟨_, rfl⟩
  have hrl : r.length ≤ 2000 := by rw [hr, forms_length]; omega
  have HFR := Aside0.mk hr
  clear hr
  go_enter Tryd.func3, Tryd.ntmps3
  go_wp2_with (first
    | ((with_reducible refine gate_builtin (b := .append) (xs := #[.tmp 11, .tmp 12]) rfl ?_); at_builtin; refine Kd.R_append_rows (Kd.int .i32) (w0 := w) w.heap.size rfl (.tmp 11) (.tmp 12) 22 21 (.int .i32 0) 4 rfl Tryd.underlying22 info21 rfl (by decide) (by omega) (.slice none 0 0) ([] : List Int) l A l.length c (fun _ => True) (fun _ => False) rfl rfl (Kd.R_nil _ _ _ _ (fun _ => True)) HX.out (fun _ _ h => h) (fun _ h => h.elim) (fun _ _ => trivial) HB.out (Nat.le_refl _) ?aL ?_; (case aL => simp; omega); intro v1 w1 ho0 hb hg hat; rw [List.nil_append] at ho0; obtain ⟨A1, c1, rfl, hle1, hr1⟩ := Kd.R_reads ho0; have HO1 := Aside0.mk hr1; have HB1 := Aside0.mk hb; clear ho0 hb hg hat hr1)
    | (go_at_call 14; (with_reducible refine (forms_calls A1 c1 l r w1 HO1.out hle1 hl (Glob.below HG.out HB1.out) HFR.out).mono ?_); rintro e w2 ⟨A2, c2, rfl, ho, hb⟩; have HA2 := Aside0.mk ho; have HB12 := Aside0.mk hb; have HB2 := Aside0.mk (below_step HB1.out hb); have HX2 := Aside0.mk (Kd.C_below HX.out HB2.out); clear ho hb)
    | (go_at_call 15; (with_reducible refine (refforms_calls A c l r w2 HX2.out hc hl HFR.out).mono ?_); rintro e w3 ⟨A3, c3, rfl, ho, hb⟩; have HR3 := Aside0.mk ho; have HB3 := Aside0.mk (below_step HB2.out hb); have HB13 := Aside0.mk (below_step HB12.out hb); have HA3 := Aside0.mk (Kd.R_below HA2.out hb); clear ho hb)
    | (go_at_call 16; (with_reducible refine (same_true A2 c2 A3 c3 r w3 (Kd.R_reads' HA3.out).2.2 (Kd.R_reads' HA3.out).2.1 (Kd.R_reads' HR3.out).2.2 (Kd.R_reads' HR3.out).2.1).mono ?_); rintro e w4 ⟨rfl, hb⟩; have HB4 := Aside0.mk (below_step HB3.out hb); have HB14 := Aside0.mk (below_step HB13.out hb); have HA4 := Aside0.mk (Kd.R_below HA3.out hb); have HR4 := Aside0.mk (Kd.R_below HR3.out hb); clear hb; have hcv1 := conv_runes A1 c1 l w4 (Kd.C_below HO1.out HB14.out); have hcv2 := conv_runes A c l w4 (Kd.C_below HX.out HB4.out)))
  clear hcv1 hcv2
  have HLT := Aside0.mk (Kd.R_lt HA2.out)
  go_loopg [6] r.length (fun g s6 wx => ∃ (k : Nat) (cur : List Int), Aside0 (g + k = r.length) ∧ s6 = .int .i64 (k : Int) ∧ Aside0 (cur.length = r.length) ∧ Aside0 (Kd.R (Kd.int .u8) 5 wx w1.heap.size (fun _ => True) (.slice A2 r.length c2) cur) ∧ Aside0 (Kd.R (Kd.int .u8) 5 wx w2.heap.size (fun _ => True) (.slice A3 r.length c3) r) ∧ Aside0 (Below w1.heap.size w1 wx) ∧ Aside0 (Below w.heap.size w wx))
  case atStart => exact ⟨0, r, ⟨rfl⟩, rfl, ⟨rfl⟩, HA4, HR4, HB14, HB4⟩
  case round =>
    obtain ⟨k, cur, hgk, rfl, hcl, HA, HR, HB1x, HBx⟩ := hrel
    cases gk with
    | zero =>
      have hk : ¬ (k : Int) < (r.length : Int) := by have := hgk.out; omega
      go_wp2_with (first
        | (go_at_call 14; (with_reducible refine (forms_calls A1 c1 l r wr (Kd.C_below HO1.out HB1x.out) hle1 hl (Glob.below HG.out HBx.out) HFR.out).mono ?_); rintro e w5 ⟨A5, c5, rfl, ho, hb⟩; have HA5 := Aside0.mk ho; have HB5 := Aside0.mk (below_step HBx.out hb); have HR5 := Aside0.mk (Kd.R_below HR.out hb); clear ho hb)
        | (go_at_call 16; (with_reducible refine (same_true A5 c5 A3 c3 r w5 (Kd.R_reads' HA5.out).2.2 (Kd.R_reads' HA5.out).2.1 (Kd.R_reads' HR5.out).2.2 (Kd.R_reads' HR5.out).2.1).mono ?_); rintro e w6 ⟨rfl, hb⟩; have HB6 := Aside0.mk (below_step HB5.out hb); clear hb)
        | (go_at_call 13; (with_reducible refine (works_calls w6 (Glob.below HG.out HB6.out)).mono ?_); rintro e w7 ⟨rfl, hb⟩; have HB7 := Aside0.mk (below_step HB6.out hb); clear hb))
      go_ret
      exact ⟨rfl, HB7.out⟩
    | succ g =>
      have hk : (k : Int) < (r.length : Int) := by have := hgk.out; omega
      have hk0 : (0 : Int) ≤ (k : Int) := by omega
      have hcl' := hcl.out
      have HA' : Kd.R (Kd.int .u8) 5 wr w1.heap.size (fun _ => True) (.slice A2 cur.length c2) cur := by rw [hcl']; exact HA.out
      obtain ⟨go, co, eo, gb, gl, cl, HGc⟩ := Kd.R_form HA' (by omega)
      obtain rfl : A2 = some ⟨go, 0, none⟩ := by injection eo
      have hgo2 : go < w2.heap.size := HLT.out go rfl
      obtain ⟨hx0, hf0⟩ := Kd.R_celln 0 HA' (k : Int) hk0 (by omega)
      have HP := Aside0.mk (Kd.R_putg HA' (k : Int) 9)
      have HGB := Aside0.mk gb
      have HG2 := Aside0.mk hgo2
      rw [Int.toNat_natCast] at hx0 hf0
      clear HA' cl HGc gl gb hcl' eo hgo2
      go_wp2
      go_roundg g
      case measure => omega
      case rel =>
        have hp := HP.out.1
        rw [Int.toNat_natCast, hcl.out] at hp
        refine ⟨k + 1, cur.set k 9, ⟨by have := hgk.out; omega⟩, by go_num, ⟨by rw [List.length_set]; exact hcl.out⟩, ⟨hp⟩, ⟨?_⟩, ⟨below_set HB1x.out HGB.out⟩, ⟨below_set HBx.out (Nat.le_trans HB1.out.size HGB.out)⟩⟩
        exact Kd.R_mono (Kd.R_far (p := ⟨go, k, none⟩) (Kd.R_bound HR.out) (fun k' hk' => by have := hk'.2.1; have := HG2.out; show k' ≠ go; omega) _) (fun _ _ => trivial)
theorem joiningForms_walk (a0 : Option Addr) (len0 cap0 : Nat) (z0 : List Int) (w : World) (w0 : (a0 = none ∧ len0 = 0 ∧ cap0 = 0 ∧ z0 = []) ∨ ∃ x, a0 = some x ∧ len0 ≤ cap0 ∧ cap0 ≤ maxLen ∧ z0.length = cap0 ∧ (∀ i, i < z0.length → w.cell? (x.add i) = some (.int .i32 (z0.getD i 0))) ∧ ∀ n ∈ z0, (Lit.int .i32 n).wf = true) (hG : Glob w) :
    Calls Tryd.prog 3 #[.slice a0 len0 cap0] w fun e w' => e = .returned (.bool true) ∧ Below w.heap.size w w' := by
  obtain ⟨l0, rfl, hr0, hm0, hw0, hc0⟩ := ReadsInt.ofRowC w0
  exact joiningForms_calls a0 cap0 l0 w (Kd.C_of_reads (d := (0 : Int)) (h1 := fun _ => rfl) hr0) hc0 hG
end Go.Proofs.YtffmdnckapalfaaDoor.JF
