/- BinPuts: numbers by a plan. Conditions: none. -/
import Derived.Test.YtmfgahhcpmbjjaaWB14
import Derived.Test.YtmfgahhcpmbjjaaPBinPutsx1
namespace Go.Proofs.Ytmfgahhcpmbjjaa.WB
open Go.RowKit Go.Proofs.YtmfgahhcpmbjjaaW.PrintWords Go.Proofs.YtmfgahhcpmbjjaaW.PrintMore
open Go.Proofs.Ytmfgahhcpmbjjaa.PBinPuts (calamusref04_Put.f calamusref04_Put.l0 calamusref04_Put.l1 calamusref04_fits.f calamusref04_size.f calamusref04_size.j0 calamusref04_Put.calls)
theorem four_cases (ch : Int) : ch = 98 ∨ ch = 72 ∨ ch = 104 ∨ ch = 73 ∨ (ch ≠ 98 ∧ ch ≠ 72 ∧ ch ≠ 104 ∧ ch ≠ 73) := by omega
theorem wayOf_le' {ch : Int} {s : Nat} {lo hi : Int} (h : wayOf ch = some (s, lo, hi)) : s ≤ 4 := by
  unfold wayOf at h
  rcases four_cases ch with rfl | rfl | rfl | rfl | ⟨h1, h2, h3, h4⟩
  · simp at h; omega
  · simp at h; omega
  · simp at h; omega
  · simp at h; omega
  · simp [h1, h2, h3, h4] at h
theorem fits_in {ch n : Int} {s : Nat} {lo hi : Int} (h : wayOf ch = some (s, lo, hi)) : calamusref04_fits.f ch n = some (decide (lo ≤ n ∧ n ≤ hi)) := by
  unfold wayOf at h
  unfold calamusref04_fits.f
  rcases four_cases ch with rfl | rfl | rfl | rfl | ⟨h1, h2, h3, h4⟩
  · simp at h; obtain ⟨rfl, rfl, rfl⟩ := h
    by_cases h0 : 0 ≤ n <;> by_cases h1 : n ≤ 255 <;> simp [h0, h1]
  · simp at h; obtain ⟨rfl, rfl, rfl⟩ := h
    by_cases h0 : 0 ≤ n <;> by_cases h1 : n ≤ 65535 <;> simp [h0, h1]
  · simp at h; obtain ⟨rfl, rfl, rfl⟩ := h
    by_cases h0 : -32768 ≤ n <;> by_cases h1 : n ≤ 32767 <;> simp [h0, h1]
  · simp at h; obtain ⟨rfl, rfl, rfl⟩ := h
    by_cases h0 : 0 ≤ n <;> by_cases h1 : n ≤ 4294967295 <;> simp [h0, h1]
  · simp [h1, h2, h3, h4] at h
theorem fits_no {ch n : Int} (h : wayOf ch = none) : calamusref04_fits.f ch n = some false := by
  unfold wayOf at h
  unfold calamusref04_fits.f
  rcases four_cases ch with rfl | rfl | rfl | rfl | ⟨h1, h2, h3, h4⟩
  · simp at h
  · simp at h
  · simp at h
  · simp at h
  · simp [h1, h2, h3, h4]
theorem size_of {ch : Int} {s : Nat} {lo hi : Int} (h : wayOf ch = some (s, lo, hi)) (k : Nat) : calamusref04_size.f (k + 1) ch = some (s : Int) := by
  unfold wayOf at h
  unfold calamusref04_size.f
  rcases four_cases ch with rfl | rfl | rfl | rfl | ⟨h1, h2, h3, h4⟩
  · simp at h; obtain ⟨rfl, rfl, rfl⟩ := h; simp
  · simp at h; obtain ⟨rfl, rfl, rfl⟩ := h; simp [calamusref04_size.j0]
  · simp at h; obtain ⟨rfl, rfl, rfl⟩ := h; simp [calamusref04_size.j0]
  · simp at h; obtain ⟨rfl, rfl, rfl⟩ := h; simp [calamusref04_size.j0]
  · simp [h1, h2, h3, h4] at h
theorem shr_byte (n : Int) (s : Nat) (h : s ≤ 3) : (shr .u32 (n % 4294967296) (wrap64 (8 * (s : Int)))) % 256 = (n / 2 ^ (8 * s)) % 256 := by
  have : s = 0 ∨ s = 1 ∨ s = 2 ∨ s = 3 := by omega
  unfold shr
  rcases this with rfl | rfl | rfl | rfl
  · rw [show wrap64 (8 * ((0 : Nat) : Int)) = 0 by unfold wrap64; omega, show min (0 : Int).toNat IntKind.u32.bits = 0 by rfl]
    simp
  · rw [show wrap64 (8 * ((1 : Nat) : Int)) = 8 by unfold wrap64; omega, show min (8 : Int).toNat IntKind.u32.bits = 8 by rfl, show (2 : Int) ^ 8 = 256 by decide]
    omega
  · rw [show wrap64 (8 * ((2 : Nat) : Int)) = 16 by unfold wrap64; omega, show min (16 : Int).toNat IntKind.u32.bits = 16 by rfl, show (2 : Int) ^ 16 = 65536 by decide]
    omega
  · rw [show wrap64 (8 * ((3 : Nat) : Int)) = 24 by unfold wrap64; omega, show min (24 : Int).toNat IntKind.u32.bits = 24 by rfl, show (2 : Int) ^ 24 = 16777216 by decide]
    omega
theorem l1_run (l : List Int) (plan : ByteArray) (n i : Int) : ∀ (s : Nat) (k : Nat) (cur : List Int) (j : Int), s ≤ 4 → j = (s : Int) - 1 → cur.length + s ≤ 1000000 →
    calamusref04_Put.l1 (k + s + 1) l plan cur i (n % 4294967296) j = calamusref04_Put.l0 k l plan (cur ++ putB n s) (wrap64 (i + 1))
  | 0, k, cur, j, _, hj, _ => by
    subst hj
    unfold calamusref04_Put.l1
    rw [if_neg (by omega)]
    simp [putB]
  | s + 1, k, cur, j, hs, hj, hc => by
    have hj2 : j = (s : Int) := by omega
    subst hj2
    rw [show k + (s + 1) + 1 = (k + s + 1) + 1 by omega, calamusref04_Put.l1, if_pos (by omega), if_pos (by unfold wrap64; omega), if_pos (by omega), shr_byte n s (by omega),
      show wrap64 ((s : Int) - 1) = (s : Int) - 1 by unfold wrap64; omega,
      l1_run l plan n i s k _ _ (by omega) rfl (by rw [List.length_append, List.length_singleton]; omega)]
    simp [putB]
theorem l0_run (l : List Int) (plan : ByteArray) (hl : l.length ≤ 1000) (hp : l.length = plan.size) : ∀ (g i k : Nat) (cur : List Int), g + i = l.length → 7 * g + 1 ≤ k → cur.length ≤ 4 * i →
    calamusref04_Put.l0 k l plan cur (i : Int) = some (match putL l plan g i with | some r => (cur ++ r, 0) | none => ([], 2))
  | 0, i, k, cur, hi, hk, hc => by
    obtain ⟨k', rfl⟩ : ∃ k', k = k' + 1 := ⟨k - 1, by omega⟩
    rw [calamusref04_Put.l0, if_neg (by omega)]
    simp [putL]
  | g + 1, i, k, cur, hi, hk, hc => by
    obtain ⟨k', rfl⟩ : ∃ k', k = k' + 7 := ⟨k - 7, by omega⟩
    rw [show k' + 7 = (k' + 6) + 1 by omega, calamusref04_Put.l0, if_pos (by omega), if_pos (by omega), if_pos (by omega)]
    cases hw : wayOf (bt plan i) with
    | none =>
      rw [fits_no hw, putL_no hw]
      simp
    | some x =>
      obtain ⟨s, lo, hi'⟩ := x
      rw [fits_in hw]
      by_cases hin : lo ≤ rd l i ∧ rd l i ≤ hi'
      · have hs := wayOf_le' hw
        rw [putL_yes hw hin.1 hin.2]
        simp only [hin, and_self, decide_true, Option.bind_some, if_true]
        rw [size_of hw (k' + 5), Option.bind_some, show wrap64 ((s : Int) - 1) = (s : Int) - 1 by unfold wrap64; omega,
          show k' + 6 = (k' + 5 - s) + s + 1 by omega, l1_run l plan (rd l i) i s (k' + 5 - s) cur _ hs rfl (by omega),
          show wrap64 ((i : Int) + 1) = ((i + 1 : Nat) : Int) by unfold wrap64; omega,
          l0_run l plan hl hp g (i + 1) _ _ (by omega) (by omega) (by rw [List.length_append, putB_len]; omega)]
        cases putL l plan g (i + 1) <;> simp
      · rw [putL_out hw hin]
        simp [hin]
theorem refput_f (l : List Int) (plan : ByteArray) (hl : l.length ≤ 1000) (en : Int) (rs : List Int) (hen : en = if (putS l plan).isSome then 0 else 2) (hrs : rs = (putS l plan).getD []) : calamusref04_Put.f (7 * l.length + 1) l plan = some (rs, en) := by
  subst hen hrs
  unfold calamusref04_Put.f putS
  rw [if_neg (by omega)]
  by_cases h : l.length = plan.size
  · rw [if_pos (by omega), if_pos h]
    have := l0_run l plan hl h l.length 0 (7 * l.length + 1) [] rfl (Nat.le_refl _) (by simp)
    rw [show (0 : Int) = ((0 : Nat) : Int) by rfl, this]
    cases putL l plan l.length 0 <;> simp
  · rw [if_neg (by omega), if_neg h]
    simp
theorem refput_calls (A : Option Addr) (l : List Int) (c : Nat) (plan : ByteArray) (w : World) (hx : Kd.C (Kd.int .i64) w A l.length l) (hc : l.length ≤ c) (hl : l.length ≤ 1000) (en : Int) (rs : List Int) (hen : en = if (putS l plan).isSome then 0 else 2) (hrs : rs = (putS l plan).getD []) :
    Calls Try.prog 22 #[.slice A l.length c, .string plan] w fun e w' => ∃ v, e = .returned (.tuple #[v, .int .i64 en]) ∧ Kd.R (Kd.int .u8) 5 w' w.heap.size (fun _ => True) v rs ∧ Below w.heap.size w w' :=
  calamusref04_Put.calls (7 * l.length + 1) A c l plan rs en w hx hc (refput_f l plan hl en rs hen hrs)
set_option maxHeartbeats 2000000 in
set_option maxRecDepth 100000 in
theorem binPuts_calls (A : Option Addr) (l : List Int) (c : Nat) (plan : ByteArray) (w : World) (hx : Kd.C (Kd.int .i64) w A l.length l) (hc : l.length ≤ c) :
    Calls Try.prog 5 #[.slice A l.length c, .string plan] w fun e w' => e = .returned (.bool true) ∧ Below w.heap.size w w' := by
  have HX := Aside0.mk hx
  clear hx
  by_cases b1 : (500 : Int) < (l.length : Int)
  · go_enter Try.func5, Try.ntmps5
    go_wp2_with (go_at_call 10; (with_reducible refine (works_calls _).mono ?_); rintro e w1 ⟨rfl, hb⟩)
    go_ret
    exact ⟨rfl, hb⟩
  by_cases b2 : (1000 : Int) < (plan.size : Int)
  · go_enter Try.func5, Try.ntmps5
    go_wp2_with (go_at_call 10; (with_reducible refine (works_calls _).mono ?_); rintro e w1 ⟨rfl, hb⟩)
    go_ret
    exact ⟨rfl, hb⟩
  have hl : l.length ≤ 1000 := by omega
  obtain ⟨en, hen⟩ : ∃ en : Int, en = if (putS l plan).isSome then 0 else 2 := ⟨_, rfl⟩
  obtain ⟨rs, hrs⟩ : ∃ rs, rs = (putS l plan).getD [] := ⟨_, rfl⟩
  have HEN := Aside0.mk hen
  have HRS := Aside0.mk hrs
  clear hen hrs
  go_enter Try.func5, Try.ntmps5
  go_wp2_with (first
    | (go_at_call 21; refine (put_calls A l c plan w HX.out hc hl en rs HEN.out HRS.out).mono ?_; rintro e w1 ⟨v, rfl, ho, hb⟩; obtain ⟨A1, c1, rfl, hle1, hr⟩ := Kd.R_reads ho; have HR1 := Aside0.mk hr; have HB1 := Aside0.mk hb; have HX1 := Aside0.mk (Kd.C_below HX.out hb); clear ho hb hr)
    | (go_at_call 22; refine (refput_calls A l c plan w1 HX1.out hc hl en rs HEN.out HRS.out).mono ?_; rintro e w2 ⟨v, rfl, ho, hb⟩; obtain ⟨A2, c2, rfl, hle2, hr⟩ := Kd.R_reads ho; have HR2 := Aside0.mk hr; have HB2 := Aside0.mk (below_step HB1.out hb); have HR12 := Aside0.mk (Kd.C_below HR1.out hb); clear ho hb hr)
    | (go_at_call 23; refine (same_true A1 c1 A2 c2 rs w2 HR12.out hle1 HR2.out hle2).mono ?_; rintro e w3 ⟨rfl, hb⟩; have HB3 := Aside0.mk (below_step HB2.out hb); clear hb)
    | (go_at_call 10; (with_reducible refine (works_calls _).mono ?_); rintro e w4 ⟨rfl, hb⟩; have HB4 := Aside0.mk (below_step HB3.out hb); clear hb))
  go_ret
  exact ⟨rfl, HB4.out⟩
theorem binPuts_walk (a0 : Option Addr) (len0 cap0 : Nat) (z0 : List Int) (a1 : ByteArray) (w : World) (w0 : (a0 = none ∧ len0 = 0 ∧ cap0 = 0 ∧ z0 = []) ∨ ∃ x, a0 = some x ∧ len0 ≤ cap0 ∧ cap0 ≤ maxLen ∧ z0.length = cap0 ∧ (∀ i, i < z0.length → w.cell? (x.add i) = some (.int .i64 (z0.getD i 0))) ∧ ∀ n ∈ z0, (Lit.int .i64 n).wf = true) :
    Calls Try.prog 5 #[.slice a0 len0 cap0, .string a1] w fun e w' => e = .returned (.bool true) ∧ Below w.heap.size w w' := by
  obtain ⟨l0, rfl, hr0, hm0, hw0, hc0⟩ := ReadsInt.ofRowC w0
  exact binPuts_calls a0 l0 cap0 a1 w (Kd.C_of_reads (d := (0 : Int)) (h1 := fun _ => rfl) hr0) hc0
end Go.Proofs.Ytmfgahhcpmbjjaa.WB
