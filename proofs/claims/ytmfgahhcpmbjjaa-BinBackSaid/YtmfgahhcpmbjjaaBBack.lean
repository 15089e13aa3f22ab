/- BinBack: what was put is read again. Conditions: none. -/
import Derived.Test.YtmfgahhcpmbjjaaWB14
namespace Go.Proofs.Ytmfgahhcpmbjjaa.WB
open Go.RowKit Go.Proofs.YtmfgahhcpmbjjaaW.PrintWords
theorem wrap_i16' (n : Int) : IntKind.i16.wrap n = (n + 32768) % 65536 - 32768 := by
  simp [IntKind.wrap, IntKind.bits, IntKind.signed]
  split <;> omega
theorem putB_range (n : Int) : ∀ k, ∀ x ∈ putB n k, 0 ≤ x ∧ x ≤ 255
  | 0 => by simp [putB]
  | k + 1 => by
    intro x hx
    rcases List.mem_cons.1 hx with rfl | hx
    · omega
    · exact putB_range n k x hx
theorem wayOf_le {ch : Int} {s : Nat} {lo hi : Int} (h : wayOf ch = some (s, lo, hi)) : s ≤ 4 := by
  rcases way_cases ch with ⟨s', lo', hi', hw⟩ | hno
  · obtain ⟨m, rfl, hm, h'⟩ := wayOf_of hw
    rw [h] at h'
    simp only [Option.some.injEq, Prod.mk.injEq] at h'
    omega
  · rw [wayOf_no hno] at h; cases h
theorem wayOf_four {ch : Int} {s : Nat} {lo hi : Int} (h : wayOf ch = some (s, lo, hi)) :
    (ch = 98 ∧ s = 1 ∧ lo = 0 ∧ hi = 255) ∨ (ch = 72 ∧ s = 2 ∧ lo = 0 ∧ hi = 65535) ∨ (ch = 104 ∧ s = 2 ∧ lo = -32768 ∧ hi = 32767) ∨ (ch = 73 ∧ s = 4 ∧ lo = 0 ∧ hi = 4294967295) := by
  unfold wayOf at h
  split at h
  · rename_i h0; simp only [Option.some.injEq, Prod.mk.injEq] at h; exact .inl ⟨h0, h.1.symm, h.2.1.symm, h.2.2.symm⟩
  split at h
  · rename_i h0; simp only [Option.some.injEq, Prod.mk.injEq] at h; exact .inr (.inl ⟨h0, h.1.symm, h.2.1.symm, h.2.2.symm⟩)
  split at h
  · rename_i h0; simp only [Option.some.injEq, Prod.mk.injEq] at h; exact .inr (.inr (.inl ⟨h0, h.1.symm, h.2.1.symm, h.2.2.symm⟩))
  split at h
  · rename_i h0; simp only [Option.some.injEq, Prod.mk.injEq] at h; exact .inr (.inr (.inr ⟨h0, h.1.symm, h.2.1.symm, h.2.2.symm⟩))
  · cases h
theorem putL_cases {l : List Int} {plan : ByteArray} {g k : Nat} {rest : List Int} (h : putL l plan (g + 1) k = some rest) :
    ∃ s lo hi r, wayOf (bt plan k) = some (s, lo, hi) ∧ lo ≤ rd l k ∧ rd l k ≤ hi ∧ putL l plan g (k + 1) = some r ∧ rest = putB (rd l k) s ++ r := by
  simp only [putL] at h
  cases hw : wayOf (bt plan k) with
  | none => rw [hw] at h; cases h
  | some x =>
    obtain ⟨s, lo, hi⟩ := x
    rw [hw] at h
    dsimp only at h
    by_cases hin : lo ≤ rd l k ∧ rd l k ≤ hi
    · rw [if_pos hin] at h
      obtain ⟨r, hr, rfl⟩ := Option.map_eq_some_iff.1 h
      exact ⟨s, lo, hi, r, rfl, hin.1, hin.2, hr, rfl⟩
    · rw [if_neg hin] at h; cases h
theorem putL_good {l : List Int} {plan : ByteArray} : ∀ (g k : Nat) (rest : List Int), putL l plan g k = some rest → rest.length ≤ 4 * g ∧ ∀ x ∈ rest, 0 ≤ x ∧ x ≤ 255
  | 0, k, rest, h => by simp [putL] at h; subst h; simp
  | g + 1, k, rest, h => by
    obtain ⟨s, lo, hi, r, hw, _, _, hr, rfl⟩ := putL_cases h
    obtain ⟨h1, h2⟩ := putL_good g (k + 1) r hr
    have := wayOf_le hw
    refine ⟨by rw [List.length_append, putB_len]; omega, fun x hx => ?_⟩
    rcases List.mem_append.1 hx with hx | hx
    · exact putB_range _ _ x hx
    · exact h2 x hx
theorem num1 (n : Int) (r : List Int) : numUp ((putB n 1 ++ r).take 1) 1 = n % 256 := by simp [putB, numUp]
theorem num2 (n : Int) (r : List Int) : numUp ((putB n 2 ++ r).take 2) 2 = n % 65536 := by simp [putB, numUp]; omega
theorem num4 (n : Int) (r : List Int) : numUp ((putB n 4 ++ r).take 4) 4 = n % 4294967296 := by simp [putB, numUp]; omega
set_option maxHeartbeats 2000000 in
set_option maxRecDepth 100000 in
theorem binBack_calls (A : Option Addr) (l : List Int) (c : Nat) (plan : ByteArray) (w : World) (hx : Kd.C (Kd.int .i64) w A l.length l) (hc : l.length ≤ c) :
    Calls Try.prog 7 #[.slice A l.length c, .string plan] w fun e w' => e = .returned (.bool true) ∧ Below w.heap.size w w' := by
  have HX := Aside0.mk hx
  clear hx
  by_cases b1 : (500 : Int) < (l.length : Int)
  · go_enter Try.func7, Try.ntmps7
    go_wp2_with (go_at_call 10; (with_reducible refine (works_calls _).mono ?_); rintro e w1 ⟨rfl, hb⟩)
    go_ret
    exact ⟨rfl, hb⟩
  by_cases b2 : (1000 : Int) < (plan.size : Int)
  · go_enter Try.func7, Try.ntmps7
    go_wp2_with (go_at_call 10; (with_reducible refine (works_calls _).mono ?_); rintro e w1 ⟨rfl, hb⟩)
    go_ret
    exact ⟨rfl, hb⟩
  have hl : l.length ≤ 500 := by omega
  cases hs : putS l plan with
  | none =>
    have HP := Aside0.mk (put_calls A l c plan w HX.out hc (by omega) 2 [] (by rw [hs]; rfl) (by rw [hs]; rfl))
    clear hs
    go_enter Try.func7, Try.ntmps7
    go_wp2_with (first | (go_at_call 21; refine HP.out.mono ?_; rintro e w1 ⟨v, rfl, ho, hb1⟩; obtain ⟨A1, c1, rfl⟩ := Kd.R_slice ho; dsimp only [List.length_nil]) | (go_at_call 10; (with_reducible refine (works_calls _).mono ?_); rintro e w2 ⟨rfl, hb2⟩))
    go_ret
    exact ⟨rfl, below_step hb1 hb2⟩
  | some bs =>
    have hpl : l.length = plan.size ∧ putL l plan l.length 0 = some bs := by
      unfold putS at hs
      split at hs
      · rename_i h; exact ⟨h, hs⟩
      · cases hs
    obtain ⟨hpl1, hpl2⟩ := hpl
    have hgood := putL_good _ _ _ hpl2
    have HG := Aside0.mk hgood.2
    have hbl : bs.length ≤ 2000 := by have := hgood.1; omega
    have HP := Aside0.mk (put_calls A l c plan w HX.out hc (by omega) 0 bs (by rw [hs]; rfl) (by rw [hs]; rfl))
    have HL := Aside0.mk hpl1
    have HL2 := Aside0.mk hpl2
    clear hs hgood hpl1 hpl2
    go_enter Try.func7, Try.ntmps7
    go_wp2_with (first | (go_at_call 21; refine HP.out.mono ?_; rintro e w1 ⟨v, rfl, ho, hb1⟩; obtain ⟨A1, c1, rfl, hle1, hr1⟩ := Kd.R_reads ho; have HR1 := Aside0.mk hr1; clear hr1 ho) | (go_at_call 11; refine (open_calls A1 bs c1 _ HR1.out hle1 (by omega) HG.out).mono ?_; rintro e w2 ⟨B, S, A2, c2, rfl, hr2, hb2⟩; have HR2 := Aside0.mk hr2; have HB2 := Aside0.mk (below_step hb1 hb2); clear hr2 hb2))
    go_loopg [8, 9] l.length (fun g s8 s9 wx => ∃ (k p : Nat) (rest : List Int), Aside0 (g + k = l.length) ∧ s9 = .int .i64 (k : Int) ∧ s8 = .int .i64 (p : Int) ∧ Aside0 (putL l plan g k = some rest) ∧ Aside0 (bs.drop p = rest) ∧ Aside0 (p + rest.length = bs.length) ∧ Aside0 (RdrOf wx B S false A2 bs c2) ∧ Aside0 (Below w.heap.size w wx))
    case atStart => exact ⟨0, 0, bs, ⟨rfl⟩, rfl, rfl, HL2, ⟨rfl⟩, ⟨by simp⟩, HR2, HB2⟩
    case round =>
      obtain ⟨k, p, rest, hgk, rfl, rfl, HPL, HD, HPB, HR, HB⟩ := hrel
      cases gk with
      | zero =>
        have hk : ¬ (k : Int) < (l.length : Int) := by have := hgk.out; omega
        have hrest : rest = [] := by have := HPL.out; simp only [putL, Option.some.injEq] at this; exact this.symm
        have hp : p = bs.length := by have := HPB.out; rw [hrest] at this; simpa using this
        subst hp
        clear hrest HD HPB HPL
        go_wp2_with (first | (go_at_call 18; refine (len_calls B S false A2 _ c2 _ HR.out.h).mono ?_; rintro e w3 ⟨rfl, hb3⟩; have HR3 := Aside0.mk (HR.out.below hb3)) | (go_at_call 17; refine (bad_calls B S false A2 _ c2 _ HR3.out.h).mono ?_; rintro e w4 ⟨rfl, hb4⟩) | (go_at_call 10; (with_reducible refine (works_calls _).mono ?_); rintro e w5 ⟨rfl, hb5⟩))
        go_ret
        exact ⟨rfl, below_step (below_step (below_step HB.out hb3) hb4) hb5⟩
      | succ g =>
        have hk : (k : Int) < (l.length : Int) := by have := hgk.out; omega
        have hk2 : (k : Int) < (plan.size : Int) := by have := hgk.out; have := HL.out; omega
        have hk0 : (0 : Int) ≤ (k : Int) := by omega
        obtain ⟨s, lo, hi, r, hw, hlo, hhi, hr, hrest⟩ := putL_cases HPL.out
        obtain ⟨ad, rfl, hc0⟩ := Kd.at_int HX.out (k : Int) hk0 hk
        have hc1 := (HB.out.cell (World.block_lt_of_cell? w _ hc0)).trans hc0
        have hbt := bt_at plan (k : Int)
        obtain ⟨n, hn⟩ : ∃ n, n = rd l (k : Int) := ⟨_, rfl⟩
        obtain ⟨ch, hch⟩ : ∃ ch, ch = bt plan (k : Int) := ⟨_, rfl⟩
        rw [← hn] at hc1 hlo hhi hrest
        rw [← hch] at hbt hw
        rw [Int.toNat_natCast] at hc1
        simp only [Int.toNat_natCast] at hbt
        have hkn : k < plan.size := by omega
        replace hbt := hbt hkn
        have HR0 := Aside0.mk hr
        have hlen := congrArg List.length hrest
        rw [List.length_append, putB_len] at hlen
        have hD := HD.out.trans hrest
        have hps : p + s + r.length = bs.length := by have := HPB.out; omega
        have HD2 : Aside0 (bs.drop (p + s) = r) := ⟨by rw [← List.drop_drop, hD, List.drop_append_of_le_length (by rw [putB_len]; exact Nat.le_refl _), List.drop_eq_nil_of_le (by rw [putB_len]; exact Nat.le_refl _), List.nil_append]⟩
        have HDD := Aside0.mk hD
        have HPS := Aside0.mk hps
        have hps2 : p + s ≤ 2000 := by omega
        clear HPL HD hr hrest hlen hD hc0 hch hn hps
        have h4 := wayOf_four hw
        clear hw
        rcases h4 with ⟨rfl, rfl, rfl, rfl⟩ | ⟨rfl, rfl, rfl, rfl⟩ | ⟨rfl, rfl, rfl, rfl⟩ | ⟨rfl, rfl, rfl, rfl⟩
        · have hlenp : p + 1 ≤ bs.length := by have := HPS.out; omega
          go_wp2_with (first | (go_at_call 14; refine (byte_ati _ B S false A2 bs c2 p _ HR.out rfl hlenp n (by rw [HDD.out, num1]; omega)).mono ?_; rintro e w3 ⟨rfl, hb3⟩; have hc3 := (hb3.cell (World.block_lt_of_cell? _ _ hc1)).trans hc1))
          go_roundg g
          case measure => omega
          case rel => exact ⟨k + 1, p + 1, r, ⟨by have := hgk.out; omega⟩, by go_num, by go_num, HR0, HD2, ⟨by have := HPS.out; omega⟩, ⟨HR.out.below hb3⟩, ⟨below_step HB.out hb3⟩⟩
        · have hlenp : p + 2 ≤ bs.length := by have := HPS.out; omega
          go_wp2_with (first | (go_at_call 13; refine (word_ati _ B S false A2 bs c2 p _ HR.out rfl hlenp n (by rw [HDD.out, num2]; omega)).mono ?_; rintro e w3 ⟨rfl, hb3⟩; have hc3 := (hb3.cell (World.block_lt_of_cell? _ _ hc1)).trans hc1))
          go_roundg g
          case measure => omega
          case rel => exact ⟨k + 1, p + 2, r, ⟨by have := hgk.out; omega⟩, by go_num, by go_num, HR0, HD2, ⟨by have := HPS.out; omega⟩, ⟨HR.out.below hb3⟩, ⟨below_step HB.out hb3⟩⟩
        · have hlenp : p + 2 ≤ bs.length := by have := HPS.out; omega
          go_wp2_with (first | (go_at_call 15; refine (int_ati _ B S false A2 bs c2 p _ HR.out rfl hlenp (n % 65536) n (by rw [HDD.out, num2]) (by rw [wrap_i16']; omega)).mono ?_; rintro e w3 ⟨rfl, hb3⟩; have hc3 := (hb3.cell (World.block_lt_of_cell? _ _ hc1)).trans hc1))
          go_roundg g
          case measure => omega
          case rel => exact ⟨k + 1, p + 2, r, ⟨by have := hgk.out; omega⟩, by go_num, by go_num, HR0, HD2, ⟨by have := HPS.out; omega⟩, ⟨HR.out.below hb3⟩, ⟨below_step HB.out hb3⟩⟩
        · have hlenp : p + 4 ≤ bs.length := by have := HPS.out; omega
          go_wp2_with (first | (go_at_call 16; refine (long_ati _ B S false A2 bs c2 p _ HR.out rfl hlenp n (by rw [HDD.out, num4]; omega)).mono ?_; rintro e w3 ⟨rfl, hb3⟩; have hc3 := (hb3.cell (World.block_lt_of_cell? _ _ hc1)).trans hc1))
          go_roundg g
          case measure => omega
          case rel => exact ⟨k + 1, p + 4, r, ⟨by have := hgk.out; omega⟩, by go_num, by go_num, HR0, HD2, ⟨by have := HPS.out; omega⟩, ⟨HR.out.below hb3⟩, ⟨below_step HB.out hb3⟩⟩
theorem binBack_walk (a0 : Option Addr) (len0 cap0 : Nat) (z0 : List Int) (a1 : ByteArray) (w : World) (w0 : (a0 = none ∧ len0 = 0 ∧ cap0 = 0 ∧ z0 = []) ∨ ∃ x, a0 = some x ∧ len0 ≤ cap0 ∧ cap0 ≤ maxLen ∧ z0.length = cap0 ∧ (∀ i, i < z0.length → w.cell? (x.add i) = some (.int .i64 (z0.getD i 0))) ∧ ∀ n ∈ z0, (Lit.int .i64 n).wf = true) :
    Calls Try.prog 7 #[.slice a0 len0 cap0, .string a1] w fun e w' => e = .returned (.bool true) ∧ Below w.heap.size w w' := by
  obtain ⟨l0, rfl, hr0, hm0, hw0, hc0⟩ := ReadsInt.ofRowC w0
  exact binBack_calls a0 l0 cap0 a1 w (Kd.C_of_reads (d := (0 : Int)) (h1 := fun _ => rfl) hr0) hc0
end Go.Proofs.Ytmfgahhcpmbjjaa.WB
