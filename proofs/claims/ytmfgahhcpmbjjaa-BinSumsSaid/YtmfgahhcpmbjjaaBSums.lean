/- BinSums: sums of tables. Conditions: none. -/
import Derived.Test.YtmfgahhcpmbjjaaWB14
import Derived.OpenShut
namespace Go.Proofs.Ytmfgahhcpmbjjaa.WB
open Go.RowKit Go.Proofs.YtmfgahhcpmbjjaaW.PrintWords Go.Proofs.Ytmfgahhcpmbjjaa.PBinSums
/-- The weight of the i-th byte. -/
def wt (i : Nat) : Int := if i % 4 = 0 then 16777216 else if i % 4 = 1 then 65536 else if i % 4 = 2 then 256 else 1
/-- The bytes from the i-th place on, weighed. -/
def T : List Int → Nat → Int
  | [], _ => 0
  | c :: l, i => c * wt i + T l (i + 1)
def sumT (l : List Int) : Int := T l 0 % 4294967296
theorem T_append : ∀ (a b : List Int) (i : Nat), T (a ++ b) i = T a i + T b (i + a.length)
  | [], b, i => by simp [T]
  | c :: a, b, i => by
    rw [List.cons_append, T, T, T_append a b (i + 1), List.length_cons, show i + 1 + a.length = i + (a.length + 1) by omega]
    omega
theorem wt_four (i m : Nat) : wt (i + 4 * m) = wt i := by
  unfold wt
  rw [show (i + 4 * m) % 4 = i % 4 by omega]
theorem T_four : ∀ (b : List Int) (i m : Nat), T b (i + 4 * m) = T b i
  | [], _, _ => rfl
  | c :: b, i, m => by rw [T, T, wt_four, show i + 4 * m + 1 = (i + 1) + 4 * m by omega, T_four b (i + 1) m]
theorem shl_wt (c : Int) (i : Nat) (h : 0 ≤ c ∧ c ≤ 255) : 0 ≤ wrap64 (24 - wrap64 (8 * Int.tmod (i : Int) 4)) ∧ shl .u32 (c % 4294967296) (wrap64 (24 - wrap64 (8 * Int.tmod (i : Int) 4))) = c * wt i := by
  have h4 : Int.tmod (i : Int) 4 = ((i % 4 : Nat) : Int) := by
    rw [Int.tmod_eq_emod_of_nonneg (by omega)]; omega
  rw [h4]
  have : i % 4 = 0 ∨ i % 4 = 1 ∨ i % 4 = 2 ∨ i % 4 = 3 := by omega
  unfold wt
  rcases this with h | h | h | h <;> rw [h]
  · have e : wrap64 (24 - wrap64 (8 * ((0 : Nat) : Int))) = 24 := by unfold wrap64; omega
    rw [e]
    refine ⟨by decide, ?_⟩
    unfold shl
    rw [IntKind.wrap_u32, show min (24 : Int).toNat IntKind.u32.bits = 24 by rfl, show (2 : Int) ^ 24 = 16777216 by decide]
    simp
    omega
  · have e : wrap64 (24 - wrap64 (8 * ((1 : Nat) : Int))) = 16 := by unfold wrap64; omega
    rw [e]
    refine ⟨by decide, ?_⟩
    unfold shl
    rw [IntKind.wrap_u32, show min (16 : Int).toNat IntKind.u32.bits = 16 by rfl, show (2 : Int) ^ 16 = 65536 by decide]
    simp
    omega
  · have e : wrap64 (24 - wrap64 (8 * ((2 : Nat) : Int))) = 8 := by unfold wrap64; omega
    rw [e]
    refine ⟨by decide, ?_⟩
    unfold shl
    rw [IntKind.wrap_u32, show min (8 : Int).toNat IntKind.u32.bits = 8 by rfl, show (2 : Int) ^ 8 = 256 by decide]
    simp
    omega
  · have e : wrap64 (24 - wrap64 (8 * ((3 : Nat) : Int))) = 0 := by unfold wrap64; omega
    rw [e]
    refine ⟨by decide, ?_⟩
    unfold shl
    rw [IntKind.wrap_u32, show min (0 : Int).toNat IntKind.u32.bits = 0 by rfl, show (2 : Int) ^ 0 = 1 by decide]
    simp
    omega
theorem rd_cons (l : List Int) (i : Nat) (h : i < l.length) : l.drop i = rd l (i : Int) :: l.drop (i + 1) := by
  rw [List.drop_eq_getElem_cons h]
  simp [rd, h]
theorem rd_mem (l : List Int) (i : Nat) (h : i < l.length) : rd l (i : Int) ∈ l := by
  have e : rd l (i : Int) = l[i] := by simp [rd, h]
  rw [e]; exact List.getElem_mem h
theorem sum_l0 (l : List Int) (hl : l.length ≤ 1000000) (hv : ∀ x ∈ l, 0 ≤ x ∧ x ≤ 255) : ∀ (g i : Nat) (acc : Int), g + i = l.length → 0 ≤ acc ∧ acc < 4294967296 → bin_Sum.l0 (g + 1) acc l (l.length : Int) (i : Int) = some ((acc + T (l.drop i) i) % 4294967296)
  | 0, i, acc, hi, ha => by
    unfold bin_Sum.l0
    rw [if_neg (by omega), List.drop_eq_nil_of_le (by omega)]
    simp only [T]
    congr 1
    omega
  | g + 1, i, acc, hi, ha => by
    have h1 := shl_wt (rd l i) i (hv _ (rd_mem l i (by omega)))
    unfold bin_Sum.l0
    rw [if_pos (by omega), if_pos (by omega), if_pos (by omega), if_pos h1.1, h1.2, show wrap64 ((i : Int) + 1) = ((i + 1 : Nat) : Int) by unfold wrap64; omega, sum_l0 l hl hv g (i + 1) _ (by omega) ⟨by omega, by omega⟩, rd_cons l i (by omega), T]
    congr 1
    omega
theorem sum_f (l : List Int) (hl : l.length ≤ 1000000) (hv : ∀ x ∈ l, 0 ≤ x ∧ x ≤ 255) : bin_Sum.f (l.length + 1) l = some (sumT l) := by
  have := sum_l0 l hl hv l.length 0 0 rfl ⟨by omega, by omega⟩
  unfold bin_Sum.f sumT
  rw [show (0 : Int) = ((0 : Nat) : Int) by rfl]
  simpa using this
theorem ref_l0 (l : List Int) (hl : l.length ≤ 1000000) (hv : ∀ x ∈ l, 0 ≤ x ∧ x ≤ 255) : ∀ (g i : Nat) (acc : Int), g + i = l.length → 0 ≤ acc ∧ acc < 4294967296 → calamusref04_Sum.l0 (g + 1) l acc (i : Int) = some ((acc + T (l.drop i) i) % 4294967296)
  | 0, i, acc, hi, ha => by
    unfold calamusref04_Sum.l0
    rw [if_neg (by omega), List.drop_eq_nil_of_le (by omega)]
    simp only [T]
    congr 1
    omega
  | g + 1, i, acc, hi, ha => by
    have h1 := shl_wt (rd l i) i (hv _ (rd_mem l i (by omega)))
    unfold calamusref04_Sum.l0
    rw [if_pos (by omega), if_pos (by omega), if_pos h1.1, h1.2, show wrap64 ((i : Int) + 1) = ((i + 1 : Nat) : Int) by unfold wrap64; omega, ref_l0 l hl hv g (i + 1) _ (by omega) ⟨by omega, by omega⟩, rd_cons l i (by omega), T]
    congr 1
    omega
theorem ref_f (l : List Int) (hl : l.length ≤ 1000000) (hv : ∀ x ∈ l, 0 ≤ x ∧ x ≤ 255) : calamusref04_Sum.f (l.length + 1) l = some (sumT l) := by
  have := ref_l0 l hl hv l.length 0 0 rfl ⟨by omega, by omega⟩
  unfold calamusref04_Sum.f sumT
  rw [show (0 : Int) = ((0 : Nat) : Int) by rfl]
  simpa using this
theorem sum_at (A0 : Option Addr) (c0 : Nat) (l : List Int) (r : Int) (w : World) (hr0 : Kd.C (Kd.int .u8) w A0 l.length l) (hc0 : l.length ≤ c0) (hl : l.length ≤ 1000000) (hv : ∀ x ∈ l, 0 ≤ x ∧ x ≤ 255) (hr : r = sumT l) :
    Calls Try.prog 24 #[.slice A0 l.length c0] w fun e w' => e = .returned (.int .u32 r) ∧ Below w.heap.size w w' :=
  sum_calls (l.length + 1) A0 c0 l r w hr0 hc0 (hr ▸ sum_f l hl hv)
theorem refsum_at (A0 : Option Addr) (c0 : Nat) (l : List Int) (r : Int) (w : World) (hr0 : Kd.C (Kd.int .u8) w A0 l.length l) (hc0 : l.length ≤ c0) (hl : l.length ≤ 1000000) (hv : ∀ x ∈ l, 0 ≤ x ∧ x ≤ 255) (hr : r = sumT l) :
    Calls Try.prog 25 #[.slice A0 l.length c0] w fun e w' => e = .returned (.int .u32 r) ∧ Below w.heap.size w w' := by
  refine (calamusref04_Sum.calls (l.length + 1) A0 c0 l r w hr0 hc0 (hr ▸ ref_f l hl hv)).mono ?_
  rintro e w' ⟨rfl, h⟩
  exact ⟨rfl, below_of_drawn h⟩
theorem sum_zeros (a : List Int) : sumT (a ++ [0, 0, 0]) = sumT a := by
  unfold sumT
  rw [T_append]
  simp [T]
theorem sum_both (a b : List Int) (h : a.length % 4 = 0) : sumT (a ++ b) = (sumT a + sumT b) % 4294967296 := by
  unfold sumT
  rw [T_append, show 0 + a.length = 0 + 4 * (a.length / 4) by omega, T_four]
  omega
set_option maxHeartbeats 4000000 in
set_option maxRecDepth 100000 in
theorem binSums_calls (A B : Option Addr) (a b : List Int) (c d : Nat) (w : World) (hx : Kd.C (Kd.int .u8) w A a.length a) (hc : a.length ≤ c) (hy : Kd.C (Kd.int .u8) w B b.length b) (hd : b.length ≤ d) (hv : ∀ x ∈ a, 0 ≤ x ∧ x ≤ 255) (hu : ∀ x ∈ b, 0 ≤ x ∧ x ≤ 255) :
    Calls Try.prog 6 #[.slice A a.length c, .slice B b.length d] w fun e w' => e = .returned (.bool true) ∧ Below w.heap.size w w' := by
  have HX := Aside0.mk hx
  have HY := Aside0.mk hy
  have HV := Aside0.mk hv
  have HU := Aside0.mk hu
  clear hx hy hv hu
  by_cases b1 : (2000 : Int) < (a.length : Int)
  · go_enter Try.func6, Try.ntmps6
    go_wp2_with (go_at_call 10; (with_reducible refine (works_calls _).mono ?_); rintro e w1 ⟨rfl, hb⟩)
    go_ret
    exact ⟨rfl, hb⟩
  by_cases b2 : (2000 : Int) < (b.length : Int)
  · go_enter Try.func6, Try.ntmps6
    go_wp2_with (go_at_call 10; (with_reducible refine (works_calls _).mono ?_); rintro e w1 ⟨rfl, hb⟩)
    go_ret
    exact ⟨rfl, hb⟩
  have hal : a.length ≤ 2000 := by omega
  have hbl : b.length ≤ 2000 := by omega
  have HV3 : Aside0 (∀ x ∈ a ++ [0, 0, 0], 0 ≤ x ∧ x ≤ 255) := ⟨fun x hx => by
    rcases List.mem_append.1 hx with h | h
    · exact HV.out x h
    · simp at h; omega⟩
  have HVB : Aside0 (∀ x ∈ a ++ b, 0 ≤ x ∧ x ≤ 255) := ⟨fun x hx => by
    rcases List.mem_append.1 hx with h | h
    · exact HV.out x h
    · exact HU.out x h⟩
  have HZ := Aside0.mk (sum_zeros a)
  obtain ⟨l3, hl3⟩ : ∃ l3, l3 = a ++ [0, 0, 0] := ⟨_, rfl⟩
  obtain ⟨lb, hlb⟩ : ∃ lb, lb = a ++ b := ⟨_, rfl⟩
  have hn3 : l3.length ≤ 2003 := by rw [hl3]; simp; omega
  have hnb : lb.length ≤ 4000 := by rw [hlb]; simp; omega
  have HL3 := Aside0.mk hl3
  have HLB := Aside0.mk hlb
  clear hl3 hlb
  have HT := Aside0.mk (sum_both a b)
  obtain ⟨x, hx⟩ : ∃ x, x = sumT a := ⟨_, rfl⟩
  obtain ⟨y, hy⟩ : ∃ y, y = sumT b := ⟨_, rfl⟩
  obtain ⟨z, hz⟩ : ∃ z, z = sumT (a ++ b) := ⟨_, rfl⟩
  have HXX := Aside0.mk hx
  have HYY := Aside0.mk hy
  have HZZ := Aside0.mk hz
  clear hx hy hz
  by_cases b4 : ((a.length : Nat) : Int) % 4 = 0
  · have hzz : z = (x + y) % 4294967296 := by
      rw [HZZ.out, HXX.out, HYY.out]; exact HT.out (by omega)
    go_enter Try.func6, Try.ntmps6
    go_wp2_with (first
      | (go_at_call 24; (with_reducible refine (sum_at A c a x w HX.out hc (by omega) HV.out HXX.out).mono ?_); rintro e w1 ⟨rfl, hb⟩; have HB1 := Aside0.mk hb; have HY1 := Aside0.mk (Kd.C_below HY.out hb); clear hb)
      | (go_at_call 24; (with_reducible refine (sum_at B d b y w1 HY1.out hd (by omega) HU.out HYY.out).mono ?_); rintro e w2 ⟨rfl, hb⟩; have HB2 := Aside0.mk (below_step HB1.out hb); have HX2 := Aside0.mk (Kd.C_below HX.out HB2.out); clear hb)
      | (go_at_call 25; (with_reducible refine (refsum_at A c a x w2 HX2.out hc (by omega) HV.out HXX.out).mono ?_); rintro e w3 ⟨rfl, hb⟩; have HB3 := Aside0.mk (below_step HB2.out hb); have HY3 := Aside0.mk (Kd.C_below HY.out HB3.out); clear hb)
      | (go_at_call 25; (with_reducible refine (refsum_at B d b y w3 HY3.out hd (by omega) HU.out HYY.out).mono ?_); rintro e w4 ⟨rfl, hb⟩; have HB4 := Aside0.mk (below_step HB3.out hb); clear hb; have HB4a := Aside0.mk (below_alloc HB4.out (.cells (nums .u8 []).toArray 5)); have HO4 := Aside0.mk (R_lit w4 w.heap.size 5 .u8 [] HB4.out.size (by simp)); have HX4 := Aside0.mk (Kd.C_below HX.out HB4a.out))
      | ((with_reducible refine gate_builtin (b := .append) (xs := #[.tmp 31, .tmp 32]) rfl ?_); at_builtin; refine Kd.R_append_rows (Kd.int .u8) (w0 := w) w.heap.size rfl (.tmp 31) (.tmp 32) 22 5 (.int .u8 0) 1 rfl Try.underlying22 info5 rfl (by decide) (by omega) (.slice (some ⟨w4.heap.size, 0, none⟩) 0 0) ([] : List Int) (a) A a.length c (fun _ => True) (fun k => some k ≠ _) rfl rfl (HO4.out) (HX4.out) (fun _ _ h => h) (fun _ h => ⟨trivial, h⟩) (fun _ _ => trivial) (HB4a.out) (below_size (HB4a.out)) ?aL ?_; (case aL => simp; omega); intro v5 w5 ho0 hb hg hat; have HB5 := Aside0.mk hb; have HO5 := Aside0.mk (Kd.R_alloc ho0 (.cells (nums .u8 [0, 0, 0]).toArray 5)); have HB5a := Aside0.mk (below_alloc hb (.cells (nums .u8 [0, 0, 0]).toArray 5)); have HL5 := Aside0.mk (lit_C w5 5 .u8 [0, 0, 0] (by decide)); clear ho0 hb hg hat)
      | ((with_reducible refine gate_builtin (b := .append) (xs := #[.tmp 33, .tmp 34]) rfl ?_); at_builtin; refine Kd.R_append_rows (Kd.int .u8) (w0 := w) w.heap.size rfl (.tmp 33) (.tmp 34) 22 5 (.int .u8 0) 1 rfl Try.underlying22 info5 rfl (by decide) (by omega) v5 ([] ++ a) ([0, 0, 0] : List Int) (some ⟨w5.heap.size, 0, none⟩) 3 3 (fun _ => True) (fun k => some k ≠ _) rfl rfl (HO5.out) (HL5.out) (fun _ _ h => h) (fun _ h => ⟨trivial, h⟩) (fun _ _ => trivial) (HB5a.out) (below_size (HB5a.out)) ?aL ?_; (case aL => simp; omega); intro v6 w6 ho0 hb hg hat; rw [List.nil_append, ← HL3.out] at ho0; have HB6 := Aside0.mk hb; obtain ⟨A6, c6, rfl, hle6, hr6⟩ := Kd.R_reads ho0; have HR6 := Aside0.mk hr6; clear ho0 hb hg hat hr6)
      | (go_at_call 24; (with_reducible refine (sum_at A6 c6 l3 x w6 HR6.out hle6 (by omega) (by rw [HL3.out]; exact HV3.out) (by rw [HL3.out, HZ.out]; exact HXX.out)).mono ?_); rintro e w7 ⟨rfl, hb⟩; have HB7 := Aside0.mk (below_step HB6.out hb); clear hb; have HB7a := Aside0.mk (below_alloc HB7.out (.cells (nums .u8 []).toArray 5)); have HO7 := Aside0.mk (R_lit w7 w.heap.size 5 .u8 [] HB7.out.size (by simp)); have HX7 := Aside0.mk (Kd.C_below HX.out HB7a.out))
      | ((with_reducible refine gate_builtin (b := .append) (xs := #[.tmp 40, .tmp 41]) rfl ?_); at_builtin; refine Kd.R_append_rows (Kd.int .u8) (w0 := w) w.heap.size rfl (.tmp 40) (.tmp 41) 22 5 (.int .u8 0) 1 rfl Try.underlying22 info5 rfl (by decide) (by omega) (.slice (some ⟨w7.heap.size, 0, none⟩) 0 0) ([] : List Int) (a) A a.length c (fun _ => True) (fun k => some k ≠ _) rfl rfl (HO7.out) (HX7.out) (fun _ _ h => h) (fun _ h => ⟨trivial, h⟩) (fun _ _ => trivial) (HB7a.out) (below_size (HB7a.out)) ?aL ?_; (case aL => simp; omega); intro v8 w8 ho0 hb hg hat; have HB8 := Aside0.mk hb; have HO8 := Aside0.mk ho0; have HY8 := Aside0.mk (Kd.C_below HY.out hb); clear ho0 hb hg hat)
      | ((with_reducible refine gate_builtin (b := .append) (xs := #[.tmp 42, .tmp 43]) rfl ?_); at_builtin; refine Kd.R_append_rows (Kd.int .u8) (w0 := w) w.heap.size rfl (.tmp 42) (.tmp 43) 22 5 (.int .u8 0) 1 rfl Try.underlying22 info5 rfl (by decide) (by omega) v8 ([] ++ a) (b) B b.length d (fun _ => True) (fun k => some k ≠ _) rfl rfl (HO8.out) (HY8.out) (fun _ _ h => h) (fun _ h => ⟨trivial, h⟩) (fun _ _ => trivial) (HB8.out) (below_size (HB8.out)) ?aL ?_; (case aL => simp; omega); intro v9 w9 ho0 hb hg hat; rw [List.nil_append, ← HLB.out] at ho0; have HB9 := Aside0.mk hb; obtain ⟨A9, c9, rfl, hle9, hr9⟩ := Kd.R_reads ho0; have HR9 := Aside0.mk hr9; clear ho0 hb hg hat hr9)
      | (go_at_call 24; (with_reducible refine (sum_at A9 c9 lb z w9 HR9.out hle9 (by omega) (by rw [HLB.out]; exact HVB.out) (by rw [HLB.out]; exact HZZ.out)).mono ?_); rintro e w10 ⟨rfl, hb⟩; have HB10 := Aside0.mk (below_step HB9.out hb); clear hb)
      | (go_at_call 10; (with_reducible refine (works_calls _).mono ?_); rintro e w11 ⟨rfl, hb⟩; have HB11 := Aside0.mk (below_step HB10.out hb); clear hb))
    go_ret
    exact ⟨rfl, HB11.out⟩
  · go_enter Try.func6, Try.ntmps6
    go_wp2_with (first
      | (go_at_call 24; (with_reducible refine (sum_at A c a x w HX.out hc (by omega) HV.out HXX.out).mono ?_); rintro e w1 ⟨rfl, hb⟩; have HB1 := Aside0.mk hb; have HY1 := Aside0.mk (Kd.C_below HY.out hb); clear hb)
      | (go_at_call 24; (with_reducible refine (sum_at B d b y w1 HY1.out hd (by omega) HU.out HYY.out).mono ?_); rintro e w2 ⟨rfl, hb⟩; have HB2 := Aside0.mk (below_step HB1.out hb); have HX2 := Aside0.mk (Kd.C_below HX.out HB2.out); clear hb)
      | (go_at_call 25; (with_reducible refine (refsum_at A c a x w2 HX2.out hc (by omega) HV.out HXX.out).mono ?_); rintro e w3 ⟨rfl, hb⟩; have HB3 := Aside0.mk (below_step HB2.out hb); have HY3 := Aside0.mk (Kd.C_below HY.out HB3.out); clear hb)
      | (go_at_call 25; (with_reducible refine (refsum_at B d b y w3 HY3.out hd (by omega) HU.out HYY.out).mono ?_); rintro e w4 ⟨rfl, hb⟩; have HB4 := Aside0.mk (below_step HB3.out hb); clear hb; have HB4a := Aside0.mk (below_alloc HB4.out (.cells (nums .u8 []).toArray 5)); have HO4 := Aside0.mk (R_lit w4 w.heap.size 5 .u8 [] HB4.out.size (by simp)); have HX4 := Aside0.mk (Kd.C_below HX.out HB4a.out))
      | ((with_reducible refine gate_builtin (b := .append) (xs := #[.tmp 31, .tmp 32]) rfl ?_); at_builtin; refine Kd.R_append_rows (Kd.int .u8) (w0 := w) w.heap.size rfl (.tmp 31) (.tmp 32) 22 5 (.int .u8 0) 1 rfl Try.underlying22 info5 rfl (by decide) (by omega) (.slice (some ⟨w4.heap.size, 0, none⟩) 0 0) ([] : List Int) (a) A a.length c (fun _ => True) (fun k => some k ≠ _) rfl rfl (HO4.out) (HX4.out) (fun _ _ h => h) (fun _ h => ⟨trivial, h⟩) (fun _ _ => trivial) (HB4a.out) (below_size (HB4a.out)) ?aL ?_; (case aL => simp; omega); intro v5 w5 ho0 hb hg hat; have HB5 := Aside0.mk hb; have HO5 := Aside0.mk (Kd.R_alloc ho0 (.cells (nums .u8 [0, 0, 0]).toArray 5)); have HB5a := Aside0.mk (below_alloc hb (.cells (nums .u8 [0, 0, 0]).toArray 5)); have HL5 := Aside0.mk (lit_C w5 5 .u8 [0, 0, 0] (by decide)); clear ho0 hb hg hat)
      | ((with_reducible refine gate_builtin (b := .append) (xs := #[.tmp 33, .tmp 34]) rfl ?_); at_builtin; refine Kd.R_append_rows (Kd.int .u8) (w0 := w) w.heap.size rfl (.tmp 33) (.tmp 34) 22 5 (.int .u8 0) 1 rfl Try.underlying22 info5 rfl (by decide) (by omega) v5 ([] ++ a) ([0, 0, 0] : List Int) (some ⟨w5.heap.size, 0, none⟩) 3 3 (fun _ => True) (fun k => some k ≠ _) rfl rfl (HO5.out) (HL5.out) (fun _ _ h => h) (fun _ h => ⟨trivial, h⟩) (fun _ _ => trivial) (HB5a.out) (below_size (HB5a.out)) ?aL ?_; (case aL => simp; omega); intro v6 w6 ho0 hb hg hat; rw [List.nil_append, ← HL3.out] at ho0; have HB6 := Aside0.mk hb; obtain ⟨A6, c6, rfl, hle6, hr6⟩ := Kd.R_reads ho0; have HR6 := Aside0.mk hr6; clear ho0 hb hg hat hr6)
      | (go_at_call 24; (with_reducible refine (sum_at A6 c6 l3 x w6 HR6.out hle6 (by omega) (by rw [HL3.out]; exact HV3.out) (by rw [HL3.out, HZ.out]; exact HXX.out)).mono ?_); rintro e w7 ⟨rfl, hb⟩; have HB7 := Aside0.mk (below_step HB6.out hb); clear hb; have HB7a := Aside0.mk (below_alloc HB7.out (.cells (nums .u8 []).toArray 5)); have HO7 := Aside0.mk (R_lit w7 w.heap.size 5 .u8 [] HB7.out.size (by simp)); have HX7 := Aside0.mk (Kd.C_below HX.out HB7a.out))
      | ((with_reducible refine gate_builtin (b := .append) (xs := #[.tmp 40, .tmp 41]) rfl ?_); at_builtin; refine Kd.R_append_rows (Kd.int .u8) (w0 := w) w.heap.size rfl (.tmp 40) (.tmp 41) 22 5 (.int .u8 0) 1 rfl Try.underlying22 info5 rfl (by decide) (by omega) (.slice (some ⟨w7.heap.size, 0, none⟩) 0 0) ([] : List Int) (a) A a.length c (fun _ => True) (fun k => some k ≠ _) rfl rfl (HO7.out) (HX7.out) (fun _ _ h => h) (fun _ h => ⟨trivial, h⟩) (fun _ _ => trivial) (HB7a.out) (below_size (HB7a.out)) ?aL ?_; (case aL => simp; omega); intro v8 w8 ho0 hb hg hat; have HB8 := Aside0.mk hb; have HO8 := Aside0.mk ho0; have HY8 := Aside0.mk (Kd.C_below HY.out hb); clear ho0 hb hg hat)
      | ((with_reducible refine gate_builtin (b := .append) (xs := #[.tmp 42, .tmp 43]) rfl ?_); at_builtin; refine Kd.R_append_rows (Kd.int .u8) (w0 := w) w.heap.size rfl (.tmp 42) (.tmp 43) 22 5 (.int .u8 0) 1 rfl Try.underlying22 info5 rfl (by decide) (by omega) v8 ([] ++ a) (b) B b.length d (fun _ => True) (fun k => some k ≠ _) rfl rfl (HO8.out) (HY8.out) (fun _ _ h => h) (fun _ h => ⟨trivial, h⟩) (fun _ _ => trivial) (HB8.out) (below_size (HB8.out)) ?aL ?_; (case aL => simp; omega); intro v9 w9 ho0 hb hg hat; rw [List.nil_append, ← HLB.out] at ho0; have HB9 := Aside0.mk hb; obtain ⟨A9, c9, rfl, hle9, hr9⟩ := Kd.R_reads ho0; have HR9 := Aside0.mk hr9; clear ho0 hb hg hat hr9)
      | (go_at_call 10; (with_reducible refine (works_calls _).mono ?_); rintro e w11 ⟨rfl, hb⟩; have HB11 := Aside0.mk (below_step HB9.out hb); clear hb))
    go_ret
    exact ⟨rfl, HB11.out⟩
theorem binSums_walk (a0 : Option Addr) (len0 cap0 : Nat) (z0 : List Int) (a1 : Option Addr) (len1 cap1 : Nat) (z1 : List Int) (w : World) (w0 : (a0 = none ∧ len0 = 0 ∧ cap0 = 0 ∧ z0 = []) ∨ ∃ x, a0 = some x ∧ len0 ≤ cap0 ∧ cap0 ≤ maxLen ∧ z0.length = cap0 ∧ (∀ i, i < z0.length → w.cell? (x.add i) = some (.int .u8 (z0.getD i 0))) ∧ ∀ n ∈ z0, (Lit.int .u8 n).wf = true) (w1 : (a1 = none ∧ len1 = 0 ∧ cap1 = 0 ∧ z1 = []) ∨ ∃ x, a1 = some x ∧ len1 ≤ cap1 ∧ cap1 ≤ maxLen ∧ z1.length = cap1 ∧ (∀ i, i < z1.length → w.cell? (x.add i) = some (.int .u8 (z1.getD i 0))) ∧ ∀ n ∈ z1, (Lit.int .u8 n).wf = true) :
    Calls Try.prog 6 #[.slice a0 len0 cap0, .slice a1 len1 cap1] w fun e w' => e = .returned (.bool true) ∧ Below w.heap.size w w' := by
  obtain ⟨l0, rfl, hr0, hm0, hw0, hc0⟩ := ReadsInt.ofRowC w0
  obtain ⟨l1, rfl, hr1, hm1, hw1, hc1⟩ := ReadsInt.ofRowC w1
  exact binSums_calls a0 a1 l0 l1 cap0 cap1 w (Kd.C_of_reads (d := (0 : Int)) (h1 := fun _ => rfl) hr0) hc0 (Kd.C_of_reads (d := (0 : Int)) (h1 := fun _ => rfl) hr1) hc1 (fun x hx => bounds_u8 (hw0 x hx)) (fun x hx => bounds_u8 (hw1 x hx))
end Go.Proofs.Ytmfgahhcpmbjjaa.WB
