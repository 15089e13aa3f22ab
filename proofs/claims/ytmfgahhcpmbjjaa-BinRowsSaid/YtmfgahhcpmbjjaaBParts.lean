/- BinParts: a part of a part is that part of the whole. Conditions: none. -/
import Derived.Test.YtmfgahhcpmbjjaaWB15
import Derived.Test.YtmfgahhcpmbjjaaPBinPartsx1
import Derived.OpenShut
import Derived.Deep.RegionHeld3
namespace Go.Proofs.Ytmfgahhcpmbjjaa.WB
open Go.RowKit Go.Proofs.YtmfgahhcpmbjjaaW.PrintWords
theorem all_calls (A0 : Option Addr) (c0 : Nat) (l0 : List Int) (a1 a2 : Int) (r : Bool) (w : World) (hr0 : Kd.C (Kd.int .u8) w A0 l0.length l0) (hc0 : l0.length ≤ c0) (hl : l0.length ≤ 1000000) (hr : r = decide (0 ≤ a1 ∧ 0 ≤ a2 ∧ a1 ≤ (l0.length : Int) ∧ a2 ≤ (l0.length : Int) - a1)) :
    Calls Try.prog 9 #[.slice A0 l0.length c0, .int .i64 a1, .int .i64 a2] w fun e w' => e = .returned (.bool r) ∧ Below w.heap.size w w' := by
  refine (PBinParts.calamusref04_All.calls A0 c0 l0 a1 a2 r w hr0 hc0 ?_).mono ?_
  · unfold PBinParts.calamusref04_All.f
    by_cases h1 : 0 ≤ a1
    · by_cases h2 : 0 ≤ a2
      · by_cases h3 : a1 ≤ (l0.length : Int)
        · rw [if_pos h1, if_pos h2, if_pos h3, show wrap64 ((l0.length : Int) - a1) = (l0.length : Int) - a1 by unfold wrap64; omega, hr]
          simp [h1, h2, h3]
        · rw [if_pos h1, if_pos h2, if_neg h3, hr]; simp [h3]
      · rw [if_pos h1, if_neg h2, hr]; simp [h2]
    · rw [if_neg h1, hr]; simp [h1]
  · rintro e w' ⟨rfl, h⟩
    exact ⟨rfl, below_of_drawn h⟩
theorem rd_at (l : List Int) (k : Nat) (h : k < l.length) : rd l (k : Int) = l[k] := by
  unfold rd
  rw [Int.toNat_natCast, List.getD_eq_getElem?_getD, List.getElem?_eq_getElem h]; rfl
theorem numOne (l : List Int) (k : Nat) (h : k < l.length) : numUp ((l.drop k).take 1) 1 = rd l (k : Int) := by
  rw [List.drop_eq_getElem_cons h, rd_at l k h]
  simp [numUp]
  try (rw [List.getElem?_eq_getElem h]; rfl)
theorem part_part (b : List Int) (i n j m : Nat) (h : j + m ≤ n) : ((((b.drop i).take n).drop j).take m) = (b.drop (i + j)).take m := by
  rw [List.drop_take, List.take_take, List.drop_drop, Nat.min_eq_left (by omega)]
theorem part_rd (b : List Int) (p m k : Nat) (h : k < m) (hb : p + m ≤ b.length) : rd ((b.drop p).take m) (k : Int) = rd b ((p + k : Nat) : Int) := by
  rw [rd_at _ k (by rw [List.length_take, List.length_drop]; omega), rd_at b (p + k) (by omega)]
  simp
theorem RdrOf.drew {w : World} {B S : Nat} {bad : Bool} {A : Option Addr} {xs : List Int} {c : Nat} (h : RdrOf w B S bad A xs c) : RdrOf w.drew B S bad A xs c := h.below (below_drew1 (Below.refl _ _))
theorem RdrOf.drewN {w : World} {B S : Nat} {bad : Bool} {A : Option Addr} {xs : List Int} {c : Nat} (h : RdrOf w B S bad A xs c) (m : Nat) : RdrOf (w.drewN m) B S bad A xs c := h.below (pw_below_drewN (Below.refl _ _) m)
theorem byte_atiq (ai : Int) (B S : Nat) (bad : Bool) (A : Option Addr) (xs : List Int) (c a : Nat) (w : World) (h : RdrOf w B S bad A xs c) (hai : ai = (a : Int)) (ha : a + 1 ≤ xs.length) (v : Int) (hv : v = numUp ((xs.drop a).take 1) 1) :
    Calls Try.prog 14 #[.pointer (some ⟨B, 0, none⟩), .int .i64 ai] w fun e w' => e = .returned (.int .u8 v) ∧ w' = w := by
  subst hai; exact byte_atq B S bad A xs c a w h ha v hv
theorem same_truem (m : Nat) (A0 : Option Addr) (c0 : Nat) (A1 : Option Addr) (c1 : Nat) (l : List Int) (w : World) (hm : l.length = m) (hr0 : Kd.C (Kd.int .u8) w A0 l.length l) (hc0 : l.length ≤ c0) (hr1 : Kd.C (Kd.int .u8) w A1 l.length l) (hc1 : l.length ≤ c1) :
    Calls Try.prog 23 #[.slice A0 m c0, .slice A1 m c1] w fun e w' => e = .returned (.bool true) ∧ Below w.heap.size w w' := by
  subst hm; exact same_true A0 c0 A1 c1 l w hr0 hc0 hr1 hc1
set_option maxHeartbeats 4000000 in
set_option maxRecDepth 100000 in
theorem binParts_calls (A : Option Addr) (b : List Int) (c : Nat) (i n j m : Int) (w : World) (hx : Kd.C (Kd.int .u8) w A b.length b) (hc : b.length ≤ c) (hv : ∀ x ∈ b, 0 ≤ x ∧ x ≤ 255) :
    Calls Try.prog 8 #[.slice A b.length c, .int .i64 i, .int .i64 n, .int .i64 j, .int .i64 m] w fun e w' => e = .returned (.bool true) ∧ Below w.heap.size w w' := by
  have HX := Aside0.mk hx
  have HV := Aside0.mk hv
  clear hx hv
  by_cases b1 : (2000 : Int) < (b.length : Int)
  · go_enter Try.func8, Try.ntmps8
    go_wp2_with (go_at_call 10; (with_reducible refine (works_calls _).mono ?_); rintro e w1 ⟨rfl, hb⟩)
    go_ret
    exact ⟨rfl, hb⟩
  have hl : b.length ≤ 1000000 := by omega
  by_cases ha : 0 ≤ i ∧ 0 ≤ n ∧ i ≤ (b.length : Int) ∧ n ≤ (b.length : Int) - i
  case neg =>
    have HA := Aside0.mk (all_calls A c b i n false w HX.out hc hl (by simp only [ha, decide_false]))
    clear ha
    go_enter Try.func8, Try.ntmps8
    go_wp2_with (first | (go_at_call 9; (with_reducible refine HA.out.mono ?_); rintro e w1 ⟨rfl, hb1⟩) | (go_at_call 10; (with_reducible refine (works_calls _).mono ?_); rintro e w2 ⟨rfl, hb2⟩))
    go_ret
    exact ⟨rfl, below_step hb1 hb2⟩
  have HA := Aside0.mk (all_calls A c b i n true w HX.out hc hl (by simp only [ha, decide_true, and_self]))
  obtain ⟨h1, h2, h3, h4⟩ := ha
  by_cases b2 : j < 0
  · go_enter Try.func8, Try.ntmps8
    go_wp2_with (first | (go_at_call 9; (with_reducible refine HA.out.mono ?_); rintro e w1 ⟨rfl, hb1⟩) | (go_at_call 10; (with_reducible refine (works_calls _).mono ?_); rintro e w2 ⟨rfl, hb2⟩))
    go_ret
    exact ⟨rfl, below_step hb1 hb2⟩
  by_cases b3 : m < 0
  · go_enter Try.func8, Try.ntmps8
    go_wp2_with (first | (go_at_call 9; (with_reducible refine HA.out.mono ?_); rintro e w1 ⟨rfl, hb1⟩) | (go_at_call 10; (with_reducible refine (works_calls _).mono ?_); rintro e w2 ⟨rfl, hb2⟩))
    go_ret
    exact ⟨rfl, below_step hb1 hb2⟩
  by_cases b4 : n < j
  · go_enter Try.func8, Try.ntmps8
    go_wp2_with (first | (go_at_call 9; (with_reducible refine HA.out.mono ?_); rintro e w1 ⟨rfl, hb1⟩) | (go_at_call 10; (with_reducible refine (works_calls _).mono ?_); rintro e w2 ⟨rfl, hb2⟩))
    go_ret
    exact ⟨rfl, below_step hb1 hb2⟩
  by_cases b5 : n - j < m
  · go_enter Try.func8, Try.ntmps8
    go_wp2_with (first | (go_at_call 9; (with_reducible refine HA.out.mono ?_); rintro e w1 ⟨rfl, hb1⟩) | (go_at_call 10; (with_reducible refine (works_calls _).mono ?_); rintro e w2 ⟨rfl, hb2⟩))
    go_ret
    exact ⟨rfl, below_step hb1 hb2⟩
  obtain ⟨i, rfl⟩ : ∃ i' : Nat, i = (i' : Int) := ⟨i.toNat, by omega⟩
  obtain ⟨n, rfl⟩ : ∃ n' : Nat, n = (n' : Int) := ⟨n.toNat, by omega⟩
  obtain ⟨j, rfl⟩ : ∃ j' : Nat, j = (j' : Int) := ⟨j.toNat, by omega⟩
  obtain ⟨m, rfl⟩ : ∃ m' : Nat, m = (m' : Int) := ⟨m.toNat, by omega⟩
  have g1 : i + n ≤ b.length := by omega
  have g2 : j + m ≤ n := by omega
  obtain ⟨xs, hxs⟩ : ∃ xs, xs = (b.drop (i + j)).take m := ⟨_, rfl⟩
  have hxl : xs.length = m := by rw [hxs, List.length_take, List.length_drop]; omega
  have HXS := Aside0.mk hxs
  have HXL := Aside0.mk hxl
  clear hxs hxl
  obtain ⟨i0, hi0, _, hsz, _⟩ := info_parts info5
  obtain ⟨A', hcut, hA, hC⟩ := print_mid_of (P := Try.prog) (Value.int .u8) 0 22 5 .i64 .i64 Try.underlying22 hi0 hsz A c b ((i : Int) + (j : Int)) ((i : Int) + (j : Int) + (m : Int)) (by omega) (by omega) (by omega) hc
  clear hi0 hsz
  have e1 : (b.take ((i : Int) + (j : Int) + (m : Int)).toNat).drop ((i : Int) + (j : Int)).toNat = xs := by
    rw [HXS.out, List.drop_take, show ((i : Int) + (j : Int)).toNat = i + j by omega, show ((i : Int) + (j : Int) + (m : Int)).toNat - (i + j) = m by omega]
  rw [e1] at hcut hA hC
  rw [HXL.out] at hcut
  have HAA := Aside0.mk hA
  have HCC := Aside0.mk hC
  clear hA hC e1
  have HSL : Aside0 (∀ w', Below w.heap.size w w' → Kd.C (Kd.int .u8) w' A' xs.length xs) := ⟨fun w' hb => Kd.C_of_reads (h1 := fun _ => rfl) (HAA.out _ (Kd.reads_of_C (Kd.C_below HX.out hb)))⟩
  clear HAA
  go_enter Try.func8, Try.ntmps8
  go_wp2_with (first
    | (go_at_call 9; (with_reducible refine HA.out.mono ?_); rintro e w1 ⟨rfl, hb⟩; have HB1 := Aside0.mk hb; have HX1 := Aside0.mk (Kd.C_below HX.out hb); clear hb)
    | (go_at_call 11; (with_reducible refine (open_calls A b c w1 HX1.out hc hl HV.out).mono ?_); rintro e w2 ⟨B, S, A2, c2, rfl, hr, hb⟩; have HB2 := Aside0.mk (below_step HB1.out hb); have HR2 := Aside0.mk hr; clear hb hr)
    | (go_at_call 19; (with_reducible refine (part_ati _ _ B S false A2 b c2 i n w2 HR2.out rfl rfl g1).mono ?_); rintro e w3 ⟨Bp, Ap, rfl, hr, hb⟩; have HB3 := Aside0.mk (below_step HB2.out hb); have HR3 := Aside0.mk (HR2.out.below hb); have HP3 := Aside0.mk hr; clear hb hr)
    | (go_at_call 19; (with_reducible refine (part_ati _ _ Bp S false Ap _ _ j m w3 HP3.out rfl rfl (by rw [List.length_take, List.length_drop]; omega)).mono ?_); rintro e w4 ⟨Bq, Aq, rfl, hr, hb⟩; rw [part_part b i n j m g2, ← HXS.out] at hr; have HB4 := Aside0.mk (below_step HB3.out hb); have HR4 := Aside0.mk (HR3.out.below hb); have HP4 := Aside0.mk hr; clear hb hr)
    | (go_at_call 19; (with_reducible refine (part_ati _ _ B S false A2 b c2 (i + j) m w4 HR4.out (by omega) rfl (by omega)).mono ?_); rintro e w5 ⟨Br, Ar, rfl, hr, hb⟩; rw [← HXS.out] at hr; have HB5 := Aside0.mk (below_step HB4.out hb); have HR5 := Aside0.mk (HR4.out.below hb); have HP5 := Aside0.mk (HP4.out.below hb); have HQ5 := Aside0.mk hr; clear hb hr))
  have HRD := Aside0.mk HR5.out.drew
  have HPD := Aside0.mk HP5.out.drew
  have HQD := Aside0.mk HQ5.out.drew
  have HBD := Aside0.mk (below_drew1 HB5.out)
  have hxl := HXL.out
  have q1 : IntKind.i64.wrap ((i : Int) + (j : Int)) = (i : Int) + (j : Int) := by rw [IntKind.wrap_i64]; omega
  have q2 : IntKind.i64.wrap ((i : Int) + (j : Int) + (m : Int)) = (i : Int) + (j : Int) + (m : Int) := by rw [IntKind.wrap_i64]; omega
  clear h1 h3 h2 h4
  go_region_held3 (fun _ => True) (trivial) (first
    | (go_at_call 17; (with_reducible refine (bad_calls B S false A2 _ c2 w5.drew HRD.out.h).mono ?_); rintro e w6 ⟨rfl, hb⟩; have HB6 := Aside0.mk (below_step HBD.out hb); have HR6 := Aside0.mk (HRD.out.below hb); have HP6 := Aside0.mk (HPD.out.below hb); have HQ6 := Aside0.mk (HQD.out.below hb); clear hb)
    | (go_at_call 18; (with_reducible refine (len_calls Bq S false Aq _ _ w6 HP6.out.h).mono ?_); rintro e w7 ⟨rfl, hb⟩; have HB7 := Aside0.mk (below_step HB6.out hb); have HR7 := Aside0.mk (HR6.out.below hb); have HP7 := Aside0.mk (HP6.out.below hb); have HQ7 := Aside0.mk (HQ6.out.below hb); clear hb)
    | (go_at_call 18; (with_reducible refine (len_calls Br S false Ar _ _ w7 HQ7.out.h).mono ?_); rintro e w8 ⟨rfl, hb⟩; have HB8 := Aside0.mk (below_step HB7.out hb); have HR8 := Aside0.mk (HR7.out.below hb); have HP8 := Aside0.mk (HP7.out.below hb); have HQ8 := Aside0.mk (HQ7.out.below hb); clear hb)
    | (go_at_call 20; (with_reducible refine (bytes_calls Bq S false Aq xs _ w8 HP8.out).mono ?_); rintro e w9 ⟨v, rfl, ho, hb⟩; obtain ⟨A9, c9, rfl, hle9, hr9⟩ := Kd.R_reads ho; have HB9 := Aside0.mk (below_step HB8.out hb); have HR9 := Aside0.mk (HR8.out.below hb); have HP9 := Aside0.mk (HP8.out.below hb); have HQ9 := Aside0.mk (HQ8.out.below hb); have HA9 := Aside0.mk hr9; clear hb ho hr9)
    | (go_at_call 20; (with_reducible refine (bytes_calls Br S false Ar xs _ w9 HQ9.out).mono ?_); rintro e w10 ⟨v, rfl, ho, hb⟩; obtain ⟨A10, c10, rfl, hle10, hr10⟩ := Kd.R_reads ho; have HB10 := Aside0.mk (below_step HB9.out hb); have HR10 := Aside0.mk (HR9.out.below hb); have HP10 := Aside0.mk (HP9.out.below hb); have HA10 := Aside0.mk (Kd.C_below HA9.out hb); have HC10 := Aside0.mk hr10; clear hb ho hr10)
    | (go_at_call 23; (with_reducible refine (same_truem m A9 c9 A10 c10 xs w10 HXL.out HA10.out hle9 HC10.out hle10).mono ?_); rintro e w11 ⟨rfl, hb⟩; have HB11 := Aside0.mk (below_step HB10.out hb); have HR11 := Aside0.mk (HR10.out.below hb); have HP11 := Aside0.mk (HP10.out.below hb); clear hb)
    | (go_at_call 20; (with_reducible refine (bytes_calls Bq S false Aq xs _ w11 HP11.out).mono ?_); rintro e w12 ⟨v, rfl, ho, hb⟩; obtain ⟨A12, c12, rfl, hle12, hr12⟩ := Kd.R_reads ho; have HB12 := Aside0.mk (below_step HB11.out hb); have HR12 := Aside0.mk (HR11.out.below hb); have HP12 := Aside0.mk (HP11.out.below hb); have HA12 := Aside0.mk hr12; have HS12 : Aside0 (Kd.C (Kd.int .u8) w12 A' xs.length xs) := ⟨HSL.out w12 HB12.out⟩; clear hb ho hr12)
    | (go_at_call 23; (with_reducible refine (same_truem m A12 c12 A' _ xs w12 HXL.out HA12.out hle12 HS12.out HCC.out).mono ?_); rintro e w13 ⟨rfl, hb⟩; have HB13 := Aside0.mk (below_step HB12.out hb); have HR13 := Aside0.mk (HR12.out.below hb); have HP13 := Aside0.mk (HP12.out.below hb); clear hb))
  go_wp2
  go_loopg [14] m (fun g s14 wx => ∃ k : Nat, g + k = m ∧ s14 = .int .i64 (k : Int) ∧ Aside0 (RdrOf wx B S false A2 b c2) ∧ Aside0 (RdrOf wx Bq S false Aq xs (c2 - i - j)) ∧ Aside0 (Below w.heap.size w wx))
  case atStart => exact ⟨0, rfl, rfl, HR13, HP13, HB13⟩
  case round =>
    obtain ⟨k, hgk, rfl, HR, HP, HB⟩ := hrel
    cases gk with
    | zero =>
      have hk : ¬ (k : Int) < (m : Int) := by omega
      go_wp2_with (first
        | (go_at_call 17; (with_reducible refine (bad_calls B S false A2 _ c2 _ HR.out.h).mono ?_); rintro e w14 ⟨rfl, hb⟩; have HB14 := Aside0.mk (below_step HB.out hb); clear hb)
        | (go_at_call 10; (with_reducible refine (works_calls _).mono ?_); rintro e w15 ⟨rfl, hb⟩; have HB15 := Aside0.mk (below_step HB14.out hb); clear hb))
      go_ret
      exact ⟨rfl, HB15.out⟩
    | succ g =>
      have hk : (k : Int) < (m : Int) := by omega
      have hk0 : (0 : Int) ≤ (i : Int) + (j : Int) + (k : Int) := by omega
      have hk1 : (i : Int) + (j : Int) + (k : Int) < (b.length : Int) := by omega
      have q3 : IntKind.i64.wrap ((i : Int) + (j : Int) + (k : Int)) = (i : Int) + (j : Int) + (k : Int) := by rw [IntKind.wrap_i64]; omega
      obtain ⟨ad, rfl, hc0⟩ := Kd.at_int HX.out ((i : Int) + (j : Int) + (k : Int)) hk0 hk1
      have hc1 := (HB.out.cell (World.block_lt_of_cell? w _ hc0)).trans hc0
      have ek : ((i : Int) + (j : Int) + (k : Int)) = ((i + j + k : Nat) : Int) := by omega
      obtain ⟨v, hv⟩ : ∃ v, v = rd b ((i : Int) + (j : Int) + (k : Int)) := ⟨_, rfl⟩
      have hv1 : v = numUp ((xs.drop k).take 1) 1 := by
        rw [numOne xs k (by rw [HXL.out]; omega), HXS.out, part_rd b (i + j) m k (by omega) (by omega), hv, ek]
      have hv2 : v = numUp ((b.drop (i + j + k)).take 1) 1 := by
        rw [numOne b (i + j + k) (by omega), hv, ek]
      rw [← hv] at hc1
      have HV1 := Aside0.mk hv1
      have HV2 := Aside0.mk hv2
      have HK := Aside0.mk ek
      have HKL : Aside0 (i + j + k + 1 ≤ b.length) := ⟨by omega⟩
      clear hv1 hv2 hv hc0 ek
      go_wp2
      go_quiet (first
        | (go_at_call 14; refine Calls.quiet_of_same (byte_atiq _ Bq S false Aq xs _ k _ (HP.out.drewN _) rfl (by rw [HXL.out]; omega) v HV1.out))
        | (go_at_call 14; refine Calls.quiet_of_same (byte_atiq _ B S false A2 b c2 (i + j + k) _ (HR.out.drewN _) HK.out HKL.out v HV2.out)))
      go_wp2
      go_roundg g
      case measure => omega
      case rel => exact ⟨k + 1, by omega, by go_num, ⟨HR.out.drewN _⟩, ⟨HP.out.drewN _⟩, ⟨pw_below_drewN HB.out _⟩⟩
theorem binParts_walk (a0 : Option Addr) (len0 cap0 : Nat) (z0 : List Int) (a1 a2 a3 a4 : Int) (w : World) (w0 : (a0 = none ∧ len0 = 0 ∧ cap0 = 0 ∧ z0 = []) ∨ ∃ x, a0 = some x ∧ len0 ≤ cap0 ∧ cap0 ≤ maxLen ∧ z0.length = cap0 ∧ (∀ i, i < z0.length → w.cell? (x.add i) = some (.int .u8 (z0.getD i 0))) ∧ ∀ n ∈ z0, (Lit.int .u8 n).wf = true) (_w1 : (Lit.int .i64 a1).wf = true) (_w2 : (Lit.int .i64 a2).wf = true) (_w3 : (Lit.int .i64 a3).wf = true) (_w4 : (Lit.int .i64 a4).wf = true) :
    Calls Try.prog 8 #[.slice a0 len0 cap0, .int .i64 a1, .int .i64 a2, .int .i64 a3, .int .i64 a4] w fun e w' => e = .returned (.bool true) ∧ Below w.heap.size w w' := by
  obtain ⟨l0, rfl, hr0, hm0, hw0, hc0⟩ := ReadsInt.ofRowC w0
  exact binParts_calls a0 l0 cap0 a1 a2 a3 a4 w (Kd.C_of_reads (d := (0 : Int)) (h1 := fun _ => rfl) hr0) hc0 (fun x hx => bounds_u8 (hw0 x hx))
end Go.Proofs.Ytmfgahhcpmbjjaa.WB
