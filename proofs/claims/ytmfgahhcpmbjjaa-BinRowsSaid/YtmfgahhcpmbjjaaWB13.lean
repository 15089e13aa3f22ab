/- Package bin: Put. Conditions: at most 1000 numbers. -/
import Derived.Test.YtmfgahhcpmbjjaaWB12
namespace Go.Proofs.Ytmfgahhcpmbjjaa.WB
open Go.RowKit Go.Proofs.YtmfgahhcpmbjjaaW.PrintWords
/-- A letter's size, lowest and highest number. -/
def wayOf (ch : Int) : Option (Nat × Int × Int) := if ch = 98 then some (1, 0, 255) else if ch = 72 then some (2, 0, 65535) else if ch = 104 then some (2, -32768, 32767) else if ch = 73 then some (4, 0, 4294967295) else none
theorem wayOf_of {ch s lo hi : Int} (hw : Way ch s lo hi) : ∃ m : Nat, s = (m : Int) ∧ m ≤ 4 ∧ wayOf ch = some (m, lo, hi) := by
  cases hw
  · exact ⟨1, rfl, by decide, by decide⟩
  · exact ⟨2, rfl, by decide, by decide⟩
  · exact ⟨2, rfl, by decide, by decide⟩
  · exact ⟨4, rfl, by decide, by decide⟩
theorem wayOf_no {ch : Int} (h : ∀ s lo hi, ¬ Way ch s lo hi) : wayOf ch = none := by
  unfold wayOf
  rw [if_neg, if_neg, if_neg, if_neg] <;> rintro rfl
  · exact h _ _ _ .I
  · exact h _ _ _ .h
  · exact h _ _ _ .H
  · exact h _ _ _ .b
/-- Numbers put by a plan's letters from the k-th on: g of them. -/
def putL (l : List Int) (plan : ByteArray) : Nat → Nat → Option (List Int)
  | 0, _ => some []
  | g + 1, k => match wayOf (bt plan k) with
    | none => none
    | some (s, lo, hi) => if lo ≤ rd l k ∧ rd l k ≤ hi then (putL l plan g (k + 1)).map (putB (rd l k) s ++ ·) else none
theorem putL_yes {l : List Int} {plan : ByteArray} {g k s : Nat} {lo hi : Int} (h : wayOf (bt plan k) = some (s, lo, hi)) (h1 : lo ≤ rd l k) (h2 : rd l k ≤ hi) : putL l plan (g + 1) k = (putL l plan g (k + 1)).map (putB (rd l k) s ++ ·) := by
  simp only [putL, h]
  exact if_pos ⟨h1, h2⟩
theorem putL_out {l : List Int} {plan : ByteArray} {g k s : Nat} {lo hi : Int} (h : wayOf (bt plan k) = some (s, lo, hi)) (h1 : ¬ (lo ≤ rd l k ∧ rd l k ≤ hi)) : putL l plan (g + 1) k = none := by
  simp only [putL, h]
  exact if_neg h1
theorem putL_no {l : List Int} {plan : ByteArray} {g k : Nat} (h : wayOf (bt plan k) = none) : putL l plan (g + 1) k = none := by
  simp only [putL, h]
/-- What Put answers. -/
def putS (l : List Int) (plan : ByteArray) : Option (List Int) := if l.length = plan.size then putL l plan l.length 0 else none
theorem putB_len (n : Int) : ∀ k, (putB n k).length = k
  | 0 => rfl
  | k + 1 => by simp [putB, putB_len n k]
theorem way_cases (ch : Int) : (∃ s lo hi, Way ch s lo hi) ∨ ∀ s lo hi, ¬ Way ch s lo hi := by
  by_cases h1 : ch = 98
  · subst h1; exact .inl ⟨_, _, _, .b⟩
  by_cases h2 : ch = 72
  · subst h2; exact .inl ⟨_, _, _, .H⟩
  by_cases h3 : ch = 104
  · subst h3; exact .inl ⟨_, _, _, .h⟩
  by_cases h4 : ch = 73
  · subst h4; exact .inl ⟨_, _, _, .I⟩
  exact .inr fun s lo hi hw => by cases hw <;> omega
theorem way_one {ch s lo hi s' lo' hi' : Int} (hw : Way ch s lo hi) (hw' : Way ch s' lo' hi') : s' = s ∧ lo' = lo ∧ hi' = hi := by
  cases hw <;> cases hw' <;> exact ⟨rfl, rfl, rfl⟩
theorem by_yes (ch s lo hi : Int) (w : World) (hw : Way ch s lo hi) :
    Calls Try.prog 30 #[.int .u8 ch] w fun e w' => ∃ p q r, e = .returned (.tuple #[byFn p q r, .bool true]) ∧ Held w' p q r lo hi s ∧ Below w.heap.size w w' := by
  refine (by_calls ch w).mono ?_
  rintro e w' ⟨⟨p, q, r, s', lo', hi', rfl, hh, hw'⟩ | ⟨rfl, hno⟩, hb⟩
  · obtain ⟨rfl, rfl, rfl⟩ := way_one hw hw'
    exact ⟨p, q, r, rfl, hh, hb⟩
  · exact absurd hw (hno _ _ _)
theorem by_no (ch : Int) (w : World) (hno : ∀ s lo hi, ¬ Way ch s lo hi) :
    Calls Try.prog 30 #[.int .u8 ch] w fun e w' => e = .returned (.tuple #[.nilFunc, .bool false]) ∧ Below w.heap.size w w' := by
  refine (by_calls ch w).mono ?_
  rintro e w' ⟨⟨p, q, r, s', lo', hi', rfl, hh, hw'⟩ | ⟨rfl, _⟩, hb⟩
  · exact absurd hw' (hno _ _ _)
  · exact ⟨rfl, hb⟩
set_option maxHeartbeats 1000000 in
set_option maxRecDepth 100000 in
theorem put_calls (A : Option Addr) (l : List Int) (c : Nat) (plan : ByteArray) (w : World) (hx : Kd.C (Kd.int .i64) w A l.length l) (hc : l.length ≤ c) (hl : l.length ≤ 1000) (en : Int) (rs : List Int) (hen : en = if (putS l plan).isSome then 0 else 2) (hrs : rs = (putS l plan).getD []) :
    Calls Try.prog 21 #[.slice A l.length c, .string plan] w fun e w' => ∃ v, e = .returned (.tuple #[v, .int .i64 en]) ∧ Kd.R (Kd.int .u8) 5 w' w.heap.size (fun _ => True) v rs ∧ Below w.heap.size w w' := by
  have HX := Aside0.mk hx
  have HRS := Aside0.mk hrs
  have HEN := Aside0.mk hen
  clear hx hen hrs
  have f1 : ¬ (l.length : Int) > 16777216 := by omega
  have f1' : ¬ 16777216 < (l.length : Int) := by omega
  by_cases he : (l.length : Int) = (plan.size : Int)
  · have hs : putS l plan = putL l plan l.length 0 := by unfold putS; rw [if_pos (by omega)]
    have HS := Aside0.mk hs
    have hsz : l.length = plan.size := by omega
    have f2 : ¬ 16777216 < (plan.size : Int) := by omega
    have f3 : (plan.size : Int) ≤ 16777216 := by omega
    clear hs f1 f1'
    have HSZ := Aside0.mk hsz
    clear hsz
    go_enter Try.func21, Try.ntmps21
    go_wp2
    go_loopg [6, 23] l.length (fun g s6 s23 wx => ∃ (k : Nat) (cur : List Int), Aside0 (g + k = l.length) ∧ s23 = .int .i64 (k : Int) ∧ Aside0 (cur.length ≤ 4 * k) ∧ Aside0 ((putL l plan g k).map (cur ++ ·) = putS l plan) ∧ Aside0 (Kd.R (Kd.int .u8) 5 wx w.heap.size (fun _ => True) s6 cur) ∧ Aside0 (Below w.heap.size w wx))
    case atStart => exact ⟨0, [], ⟨rfl⟩, rfl, ⟨by simp⟩, ⟨by rw [HS.out]; simp⟩, ⟨Kd.R_nil _ _ _ _ _⟩, ⟨Below.refl _ _⟩⟩
    case round =>
      obtain ⟨k, cur, hgk, rfl, hcur, HE, HC, HW⟩ := hrel
      cases gk with
      | zero =>
        have hk : ¬ (k : Int) < (plan.size : Int) := by have := hgk.out; have := HSZ.out; omega
        have h := HE.out
        simp only [putL, Option.map_some, List.append_nil] at h
        have h0 : en = 0 := by rw [HEN.out, ← h]; rfl
        have h1 : rs = cur := by rw [HRS.out, ← h]; rfl
        subst h0 h1
        clear h HE
        go_wp2
        go_ret2
        exact ⟨_, rfl, HC.out, HW.out⟩
      | succ g =>
        have hk : (k : Int) < (plan.size : Int) := by have := hgk.out; have := HSZ.out; omega
        have hk1 : (k : Int) < (l.length : Int) := by have := hgk.out; omega
        have hk0 : (0 : Int) ≤ (k : Int) := by omega
        obtain ⟨ad, rfl, hc0⟩ := Kd.at_int HX.out (k : Int) hk0 hk1
        have hc1 := (HW.out.cell (World.block_lt_of_cell? w _ hc0)).trans hc0
        have hbt := bt_at plan (k : Int)
        obtain ⟨n, hn⟩ : ∃ n, n = rd l (k : Int) := ⟨_, rfl⟩
        obtain ⟨ch, hch⟩ : ∃ ch, ch = bt plan (k : Int) := ⟨_, rfl⟩
        rw [← hn] at hc1
        rw [← hch] at hbt
        simp only [Int.toNat_natCast] at hbt
        rw [Int.toNat_natCast] at hc1
        have HN := Aside0.mk hn
        have HCH := Aside0.mk hch
        clear hc0 hn hch he
        rcases way_cases ch with ⟨s, lo, hi, hw⟩ | hno
        · have HY := Aside0.mk (by_yes ch s lo hi)
          obtain ⟨m, rfl, hm, hwo⟩ := wayOf_of hw
          have HWO := Aside0.mk hwo
          have HWAY := Aside0.mk hw
          clear hw hwo
          by_cases hin : lo ≤ n ∧ n ≤ hi
          · obtain ⟨hi1, hi2⟩ := hin
            have HE2 : Aside0 ((putL l plan g (k + 1)).map ((cur ++ putB n m) ++ ·) = putS l plan) := ⟨by
              rw [← HE.out, putL_yes (by rw [← HCH.out]; exact HWO.out) (by rw [← HN.out]; exact hi1) (by rw [← HN.out]; exact hi2), ← HN.out, Option.map_map]
              congr 1
              funext x
              simp⟩
            clear HE
            go_wp2_with (first | (go_at_call 30; rw [hbt (by omega)]; refine (HY.out _ HWAY.out).mono ?_; rintro e w' ⟨p, q, r, rfl, hh, hb⟩; unfold byFn) | (go_at_call 36; refine (put1_calls w.heap.size _ cur lo hi n m p q r _ (Kd.R_below HC.out hb) (Nat.le_trans HW.out.size hb.size) (by have := hcur.out; have := hgk.out; omega) hh hm hi1 hi2).mono ?_; rintro e w2 ⟨v2, rfl, ho2, hb2⟩))
            go_roundg g
            case measure => omega
            case rel => exact ⟨k + 1, cur ++ putB n m, ⟨by have := hgk.out; omega⟩, by go_num, ⟨by have := hcur.out; rw [List.length_append, putB_len]; omega⟩, HE2, ⟨ho2⟩, ⟨(below_step HW.out hb).trans hb2⟩⟩
          · have hout : n < lo ∨ hi < n := by omega
            have hnone : putS l plan = none := by
              rw [← HE.out, putL_out (by rw [← HCH.out]; exact HWO.out) (by rw [← HN.out]; exact hin)]
              rfl
            have h0 : en = 2 := by rw [HEN.out, hnone]; rfl
            have h1 : rs = [] := by rw [HRS.out, hnone]; rfl
            subst h0 h1
            clear hnone HE hin
            go_wp2_with (first | (go_at_call 30; rw [hbt (by omega)]; refine (HY.out _ HWAY.out).mono ?_; rintro e w' ⟨p, q, r, rfl, hh, hb⟩; unfold byFn) | (go_at_call 36; refine (put1_no _ lo hi m n p q r _ hh hout).mono ?_; rintro e w2 ⟨rfl, hb2⟩))
            go_ret2
            exact ⟨_, rfl, Kd.R_nil _ _ _ _ _, below_step (below_step HW.out hb) hb2⟩
        · have hnone : putS l plan = none := by
            rw [← HE.out, putL_no (by rw [← HCH.out]; exact wayOf_no hno)]
            rfl
          have h0 : en = 2 := by rw [HEN.out, hnone]; rfl
          have h1 : rs = [] := by rw [HRS.out, hnone]; rfl
          subst h0 h1
          have HNO := Aside0.mk hno
          clear hnone HE hno
          go_wp2_with (first | (go_at_call 30; rw [hbt (by omega)]; refine (by_no _ _ HNO.out).mono ?_; rintro e w' ⟨rfl, hb⟩))
          go_ret2
          exact ⟨_, rfl, Kd.R_nil _ _ _ _ _, below_step HW.out hb⟩
  · have hs : putS l plan = none := by unfold putS; rw [if_neg (by omega)]
    have h0 : en = 2 := by rw [HEN.out, hs]; rfl
    have h1 : rs = [] := by rw [HRS.out, hs]; rfl
    subst h0 h1
    clear hs
    go_enter Try.func21, Try.ntmps21
    go_wp2
    go_ret2
    exact ⟨_, rfl, Kd.R_nil _ _ _ _ _, Below.refl _ _⟩
end Go.Proofs.Ytmfgahhcpmbjjaa.WB
