/- BinRows: Words are as many Words, one behind the other; Long is two of them, Word two Bytes. Conditions: none. -/
import Derived.Test.YtmfgahhcpmbjjaaWB16
import Derived.Test.YtmfgahhcpmbjjaaBParts
import Derived.Test.YtmfgahhcpmbjjaaBW2
namespace Go.Proofs.Ytmfgahhcpmbjjaa.WB
open Go.RowKit Go.Proofs.YtmfgahhcpmbjjaaW.PrintWords
theorem num2at (b : List Int) (p : Nat) (h : p + 2 ≤ b.length) : numUp ((b.drop p).take 2) 2 = rd b (p : Int) * 256 + rd b ((p + 1 : Nat) : Int) := by
  rw [List.drop_eq_getElem_cons (show p < b.length by omega), List.drop_eq_getElem_cons (show p + 1 < b.length by omega), rd_at b p (by omega), rd_at b (p + 1) (by omega)]
  simp [numUp]
  rw [List.getElem?_eq_getElem (show p < b.length by omega), List.getElem?_eq_getElem (show p + 1 < b.length by omega)]; rfl
theorem num4at (b : List Int) (p : Nat) (h : p + 4 ≤ b.length) : numUp ((b.drop p).take 4) 4 = numUp ((b.drop p).take 2) 2 * 65536 + numUp ((b.drop (p + 2)).take 2) 2 := by
  rw [List.drop_eq_getElem_cons (show p < b.length by omega), List.drop_eq_getElem_cons (show p + 1 < b.length by omega), List.drop_eq_getElem_cons (show p + 1 + 1 < b.length by omega), List.drop_eq_getElem_cons (show p + 1 + 1 + 1 < b.length by omega)]
  simp [numUp, Nat.add_assoc]
  omega
theorem wd_at (b : List Int) (a n k : Nat) (h : a + 2 * n ≤ b.length) (hk : k < n) : rd ((List.range n).map (wd ((b.drop a).take (2 * n)))) (k : Int) = numUp ((b.drop (a + 2 * k)).take 2) 2 := by
  rw [rd_at _ k (by simp; omega), num2at b (a + 2 * k) (by omega)]
  simp only [List.getElem_map, List.getElem_range, wd]
  rw [part_rd b a (2 * n) (2 * k) (by omega) (by omega), part_rd b a (2 * n) (2 * k + 1) (by omega) (by omega)]
  rfl
theorem i16_back (v : Int) (h : 0 ≤ v ∧ v ≤ 65535) : IntKind.i16.wrap v % 65536 = v := by
  have e : IntKind.i16.wrap v = (v + 32768) % 65536 - 32768 := by
    simp [IntKind.wrap, IntKind.bits, IntKind.signed]
    split <;> omega
  rw [e]; omega
set_option maxHeartbeats 4000000 in
set_option maxRecDepth 100000 in
theorem binRows_calls (A : Option Addr) (b : List Int) (c : Nat) (at_ n : Int) (w : World) (hx : Kd.C (Kd.int .u8) w A b.length b) (hc : b.length ≤ c) (hv : ∀ x ∈ b, 0 ≤ x ∧ x ≤ 255) :
    Calls Try.prog 3 #[.slice A b.length c, .int .i64 at_, .int .i64 n] w fun e w' => e = .returned (.bool true) ∧ Below w.heap.size w w' := by
  have HX := Aside0.mk hx
  have HV := Aside0.mk hv
  clear hx hv
  by_cases b1 : (2000 : Int) < (b.length : Int)
  · go_enter Try.func3, Try.ntmps3
    go_wp2_with (go_at_call 10; (with_reducible refine (works_calls _).mono ?_); rintro e w1 ⟨rfl, hb⟩)
    go_ret
    exact ⟨rfl, hb⟩
  have hl : b.length ≤ 1000000 := by omega
  by_cases b2 : n < 0
  · go_enter Try.func3, Try.ntmps3
    go_wp2_with (go_at_call 10; (with_reducible refine (works_calls _).mono ?_); rintro e w1 ⟨rfl, hb⟩)
    go_ret
    exact ⟨rfl, hb⟩
  by_cases b3 : (1000 : Int) < n
  · go_enter Try.func3, Try.ntmps3
    go_wp2_with (go_at_call 10; (with_reducible refine (works_calls _).mono ?_); rintro e w1 ⟨rfl, hb⟩)
    go_ret
    exact ⟨rfl, hb⟩
  by_cases ha : 0 ≤ at_ ∧ 0 ≤ 2 * n ∧ at_ ≤ (b.length : Int) ∧ 2 * n ≤ (b.length : Int) - at_
  case neg =>
    have HA := Aside0.mk (all_calls A c b at_ (2 * n) false w HX.out hc hl (by simp only [ha, decide_false]))
    clear ha
    go_enter Try.func3, Try.ntmps3
    go_wp2_with (first | (go_at_call 9; (with_reducible refine HA.out.mono ?_); rintro e w1 ⟨rfl, hb1⟩) | (go_at_call 10; (with_reducible refine (works_calls _).mono ?_); rintro e w2 ⟨rfl, hb2⟩))
    go_ret
    exact ⟨rfl, below_step hb1 hb2⟩
  have HA := Aside0.mk (all_calls A c b at_ (2 * n) true w HX.out hc hl (by simp only [ha, decide_true, and_self]))
  obtain ⟨h1, h2, h3, h4⟩ := ha
  obtain ⟨a, rfl⟩ : ∃ a : Nat, at_ = (a : Int) := ⟨at_.toNat, by omega⟩
  obtain ⟨n, rfl⟩ : ∃ n' : Nat, n = (n' : Int) := ⟨n.toNat, by omega⟩
  have g1 : a + 2 * n ≤ b.length := by omega
  have g2 : n ≤ 1000 := by omega
  obtain ⟨ws, hws⟩ : ∃ ws, ws = (List.range n).map (wd ((b.drop a).take (2 * n))) := ⟨_, rfl⟩
  have hwl : ws.length = n := by rw [hws]; simp
  have HWS := Aside0.mk hws
  have HWL := Aside0.mk hwl
  clear hws hwl
  go_enter Try.func3, Try.ntmps3
  go_wp2_with (first
    | (go_at_call 9; (with_reducible refine HA.out.mono ?_); rintro e w1 ⟨rfl, hb⟩; have HB1 := Aside0.mk hb; have HX1 := Aside0.mk (Kd.C_below HX.out hb); clear hb)
    | (go_at_call 11; (with_reducible refine (open_calls A b c w1 HX1.out hc hl HV.out).mono ?_); rintro e w2 ⟨B, S, A2, c2, rfl, hr, hb⟩; have HB2 := Aside0.mk (below_step HB1.out hb); have HR2 := Aside0.mk hr; clear hb hr)
    | (go_at_call 12; (with_reducible refine (words_calls B S false A2 b c2 a n w2 HR2.out g1 g2 _ rfl).mono ?_); rintro e w3 ⟨A3, c3, rfl, hle3, hr3, hb⟩; rw [← HWS.out] at hr3; have HB3 := Aside0.mk (below_step HB2.out hb); have HR3 := Aside0.mk (HR2.out.below hb); have HW3 := Aside0.mk hr3; clear hb hr3))
  go_loopg [9] n (fun g s9 wx => ∃ k : Nat, g + k = n ∧ s9 = .int .i64 (k : Int) ∧ Aside0 (RdrOf wx B S false A2 b c2) ∧ Aside0 (Kd.C (Kd.int .u16) wx A3 n ws) ∧ Aside0 (Below w.heap.size w wx))
  case atStart => exact ⟨0, rfl, rfl, HR3, HW3, HB3⟩
  case round =>
    obtain ⟨k, hgk, rfl, HR, HW, HB⟩ := hrel
    cases gk with
    | zero =>
      have hk : ¬ (k : Int) < (n : Int) := by omega
      go_wp2_with (first
        | (go_at_call 17; (with_reducible refine (bad_calls B S false A2 _ c2 _ HR.out.h).mono ?_); rintro e w14 ⟨rfl, hb⟩; have HB14 := Aside0.mk (below_step HB.out hb); clear hb)
        | (go_at_call 10; (with_reducible refine (works_calls _).mono ?_); rintro e w15 ⟨rfl, hb⟩; have HB15 := Aside0.mk (below_step HB14.out hb); clear hb))
      go_ret
      exact ⟨rfl, HB15.out⟩
    | succ g =>
      have hk : (k : Int) < (n : Int) := by omega
      have hk0 : (0 : Int) ≤ (k : Int) := by omega
      obtain ⟨ad, rfl, hc0⟩ := Kd.at_int (xs := ws) (n := n) HW.out (k : Int) hk0 hk
      obtain ⟨v, hvv⟩ : ∃ v, v = rd ws (k : Int) := ⟨_, rfl⟩
      obtain ⟨y0, hy0⟩ : ∃ y, y = rd b ((a + 2 * k : Nat) : Int) := ⟨_, rfl⟩
      obtain ⟨y1, hy1⟩ : ∃ y, y = rd b ((a + 2 * k + 1 : Nat) : Int) := ⟨_, rfl⟩
      have hw : v = numUp ((b.drop (a + 2 * k)).take 2) 2 := by rw [hvv, HWS.out]; exact wd_at b a n k g1 (by omega)
      have hv2 : v = y0 * 256 + y1 := by rw [hw, num2at b (a + 2 * k) (by omega), hy0, hy1]
      have r0 : 0 ≤ y0 ∧ y0 ≤ 255 := by rw [hy0, rd_at b _ (by omega)]; exact HV.out _ (List.getElem_mem _)
      have r1 : 0 ≤ y1 ∧ y1 ≤ 255 := by rw [hy1, rd_at b _ (by omega)]; exact HV.out _ (List.getElem_mem _)
      have hb0 : y0 = numUp ((b.drop (a + 2 * k)).take 1) 1 := by rw [numOne b _ (by omega)]; exact hy0
      have hb1 : y1 = numUp ((b.drop (a + 2 * k + 1)).take 1) 1 := by rw [numOne b _ (by omega)]; exact hy1
      have HWV := Aside0.mk hw
      have HY0 := Aside0.mk hb0
      have HY1 := Aside0.mk hb1
      rw [Int.toNat_natCast, ← hvv] at hc0
      obtain ⟨u, hu⟩ : ∃ u, u = IntKind.i16.wrap v := ⟨_, rfl⟩
      have HUU := Aside0.mk hu
      have hub : u % 65536 = v := by rw [hu]; exact i16_back v (by omega)
      have hub2 : IntKind.u16.wrap u = y0 * 256 + y1 := by
        have e : IntKind.u16.wrap u = u % 65536 := by simp [IntKind.wrap, IntKind.bits, IntKind.signed]
        rw [e, hub, hv2]
      have hm1 : y0 * 256 % 65536 = y0 * 256 := by omega
      have hm2 : (y0 * 256 + y1) % 65536 = v := by omega
      have HVS := Aside0.mk hv2
      have q1 : IntKind.i64.wrap ((a : Int) + 2 * (k : Int)) = (a : Int) + 2 * (k : Int) := by rw [IntKind.wrap_i64]; omega
      clear hvv hy0 hy1 hw hb0 hb1 hu
      go_wp2
      go_quiet (first
        | (go_at_call 13; refine Calls.quiet_of_same (word_atiq _ B S false A2 b c2 (a + 2 * k) _ (HR.out.drewN _) (by omega) (by omega) v HWV.out))
        | (go_at_call 14; refine Calls.quiet_of_same (byte_atiq _ B S false A2 b c2 (a + 2 * k) _ (HR.out.drewN _) (by omega) (by omega) y0 HY0.out))
        | (go_at_call 14; refine Calls.quiet_of_same (byte_atiq _ B S false A2 b c2 (a + 2 * k + 1) _ (HR.out.drewN _) (by omega) (by omega) y1 HY1.out))
        | (go_at_call 15; refine Calls.quiet_of_same (int_atiq _ B S false A2 b c2 (a + 2 * k) _ (HR.out.drewN _) (by omega) (by omega) v u HWV.out HUU.out)))
      have HRq := Aside0.mk (HR.out.drewN nq)
      have HWq := Aside0.mk (Kd.C_drewN HW.out nq)
      have HBq := Aside0.mk (pw_below_drewN HB.out nq)
      clear HR HW HB
      rcases Nat.eq_zero_or_pos k with hk00 | hkp
      · have d0 : decide ((0 : Int) < (k : Int)) = false := decide_eq_false (by omega)
        clear q1
        generalize wr.drewN nq = wq at HRq HWq HBq ⊢
        go_wp2
        go_quiet (fail)
        go_wp2
        go_roundg g
        case measure => omega
        case rel => exact ⟨k + 1, by omega, by go_num, ⟨HRq.out.drewN _⟩, ⟨Kd.C_drewN HWq.out _⟩, ⟨pw_below_drewN HBq.out _⟩⟩
      · obtain ⟨j, hkj⟩ : ∃ j, k = j + 1 := ⟨k - 1, by omega⟩
        have HKJ := Aside0.mk hkj
        have d0 : decide ((0 : Int) < (k : Int)) = true := decide_eq_true (by omega)
        obtain ⟨ad', e', hcj⟩ := Kd.at_int (xs := ws) (n := n) HWq.out (j : Int) (by omega) (by omega)
        cases e'
        obtain ⟨v0, hv0⟩ : ∃ v0, v0 = rd ws (j : Int) := ⟨_, rfl⟩
        have hw0 : v0 = numUp ((b.drop (a + 2 * j)).take 2) 2 := by rw [hv0, HWS.out]; exact wd_at b a n j g1 (by omega)
        rw [Int.toNat_natCast, ← hv0] at hcj
        have hr0 := numUp_range _ (part_range HV.out (a + 2 * j) 2) 2
        rw [← hw0] at hr0
        have h256 : (256 : Int) ^ 2 = 65536 := by decide
        rw [h256] at hr0
        have hL : v0 * 65536 + v = numUp ((b.drop (a + 2 * j)).take 4) 4 := by
          rw [num4at b (a + 2 * j) (by omega), ← hw0, show a + 2 * j + 2 = a + 2 * k by omega, ← HWV.out]
        have HLL := Aside0.mk hL
        have hvr : 0 ≤ v ∧ v ≤ 65535 := by omega
        have hm3 : v0 * 65536 % 4294967296 = v0 * 65536 := by omega
        have hm4 : (v0 * 65536 + v) % 4294967296 = v0 * 65536 + v := by omega
        have hm5 : v0 % 4294967296 = v0 := by omega
        have hm6 : v % 4294967296 = v := by omega
        have hj2 : (j : Int) < (n : Int) := by omega
        have hck : (wr.drewN nq).cell? (ad.add k) = some (.int .u16 v) := hc0
        have q3 : IntKind.i64.wrap ((k : Int) - 1) = (j : Int) := by rw [IntKind.wrap_i64]; omega
        have q4 : IntKind.i64.wrap ((a : Int) + 2 * (k : Int) - 2) = ((a + 2 * j : Nat) : Int) := by rw [IntKind.wrap_i64]; omega
        have q7 : IntKind.i64.wrap (j : Int) = (j : Int) := by rw [IntKind.wrap_i64]; omega
        have s1 : IntKind.u32.wrap v0 = v0 := by rw [IntKind.wrap_u32]; exact hm5
        have s2 : IntKind.u32.wrap (v0 * 65536) = v0 * 65536 := by rw [IntKind.wrap_u32]; exact hm3
        have s3 : IntKind.u32.wrap (y0 * 256 + y1) = y0 * 256 + y1 := by rw [IntKind.wrap_u32]; omega
        have s4 : IntKind.u32.wrap (v0 * 65536 + (y0 * 256 + y1)) = v0 * 65536 + (y0 * 256 + y1) := by rw [IntKind.wrap_u32]; omega
        have HLE : Aside0 (a + 2 * j + 4 ≤ b.length) := ⟨by omega⟩
        clear hw0 hv0 hL h256 hc0 q1 hkj
        generalize wr.drewN nq = wq at HRq HWq HBq hcj hck ⊢
        go_wp2
        have HSS : Aside0 (wq.drew.cell? (ad.add j) = some (.int .u16 v0) ∧ wq.drew.cell? (ad.add k) = some (.int .u16 v)) := ⟨hcj, hck⟩
        go_region_held3 (fun w' => w'.cell? (ad.add j) = some (.int .u16 v0) ∧ w'.cell? (ad.add k) = some (.int .u16 v)) (first | exact HSS.out) (first
          | (go_at_call 16; (with_reducible refine (long_atiq _ B S false A2 b c2 (a + 2 * j) _ HRq.out.drew (by omega) HLE.out (v0 * 65536 + v) HLL.out).mono ?_); rintro e w' ⟨rfl, rfl⟩))
        go_wp2
        go_roundg g
        case measure => omega
        case rel => exact ⟨k + 1, by omega, by go_num, ⟨HRq.out.drew⟩, ⟨Kd.C_drew HWq.out⟩, ⟨below_drew1 HBq.out⟩⟩
theorem binRows_walk (a0 : Option Addr) (len0 cap0 : Nat) (z0 : List Int) (a1 a2 : Int) (w : World) (w0 : (a0 = none ∧ len0 = 0 ∧ cap0 = 0 ∧ z0 = []) ∨ ∃ x, a0 = some x ∧ len0 ≤ cap0 ∧ cap0 ≤ maxLen ∧ z0.length = cap0 ∧ (∀ i, i < z0.length → w.cell? (x.add i) = some (.int .u8 (z0.getD i 0))) ∧ ∀ n ∈ z0, (Lit.int .u8 n).wf = true) (_w1 : (Lit.int .i64 a1).wf = true) (_w2 : (Lit.int .i64 a2).wf = true) :
    Calls Try.prog 3 #[.slice a0 len0 cap0, .int .i64 a1, .int .i64 a2] w fun e w' => e = .returned (.bool true) ∧ Below w.heap.size w w' := by
  obtain ⟨l0, rfl, hr0, hm0, hw0, hc0⟩ := ReadsInt.ofRowC w0
  exact binRows_calls a0 l0 cap0 a1 a2 w (Kd.C_of_reads (d := (0 : Int)) (h1 := fun _ => rfl) hr0) hc0 (fun x hx => bounds_u8 (hw0 x hx))
end Go.Proofs.Ytmfgahhcpmbjjaa.WB
