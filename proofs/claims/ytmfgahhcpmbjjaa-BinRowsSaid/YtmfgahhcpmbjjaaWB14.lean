/- Package calamuslaw04: works answers true. Conditions: none. -/
import Derived.Test.YtmfgahhcpmbjjaaWB13
import Derived.Test.YtmfgahhcpmbjjaaPBinSumsx1
namespace Go.Proofs.Ytmfgahhcpmbjjaa.WB
open Go.RowKit Go.Proofs.YtmfgahhcpmbjjaaW.PrintWords Go.Proofs.Ytmfgahhcpmbjjaa.PBinSums
theorem word_ati (ai : Int) (B S : Nat) (bad : Bool) (A : Option Addr) (xs : List Int) (c a : Nat) (w : World) (h : RdrOf w B S bad A xs c) (hai : ai = (a : Int)) (ha : a + 2 ≤ xs.length) (v : Int) (hv : v = numUp ((xs.drop a).take 2) 2) :
    Calls Try.prog 13 #[.pointer (some ⟨B, 0, none⟩), .int .i64 ai] w fun e w' => e = .returned (.int .u16 v) ∧ Below w.heap.size w w' := by
  subst hai; exact word_at B S bad A xs c a w h ha v hv
theorem int_ati (ai : Int) (B S : Nat) (bad : Bool) (A : Option Addr) (xs : List Int) (c a : Nat) (w : World) (h : RdrOf w B S bad A xs c) (hai : ai = (a : Int)) (ha : a + 2 ≤ xs.length) (v u : Int) (hv : v = numUp ((xs.drop a).take 2) 2) (hu : u = IntKind.i16.wrap v) :
    Calls Try.prog 15 #[.pointer (some ⟨B, 0, none⟩), .int .i64 ai] w fun e w' => e = .returned (.int .i16 u) ∧ Below w.heap.size w w' := by
  subst hai hu; exact int_at B S bad A xs c a w h ha v hv
theorem long_ati (ai : Int) (B S : Nat) (bad : Bool) (A : Option Addr) (xs : List Int) (c a : Nat) (w : World) (h : RdrOf w B S bad A xs c) (hai : ai = (a : Int)) (ha : a + 4 ≤ xs.length) (v : Int) (hv : v = numUp ((xs.drop a).take 4) 4) :
    Calls Try.prog 16 #[.pointer (some ⟨B, 0, none⟩), .int .i64 ai] w fun e w' => e = .returned (.int .u32 v) ∧ Below w.heap.size w w' := by
  subst hai hv; exact long_at B S bad A xs c a w h ha
theorem byte_ati (ai : Int) (B S : Nat) (bad : Bool) (A : Option Addr) (xs : List Int) (c a : Nat) (w : World) (h : RdrOf w B S bad A xs c) (hai : ai = (a : Int)) (ha : a + 1 ≤ xs.length) (v : Int) (hv : v = numUp ((xs.drop a).take 1) 1) :
    Calls Try.prog 14 #[.pointer (some ⟨B, 0, none⟩), .int .i64 ai] w fun e w' => e = .returned (.int .u8 v) ∧ Below w.heap.size w w' := by
  subst hai; exact byte_at B S bad A xs c a w h ha v hv
theorem part_ati (ai mi : Int) (B S : Nat) (bad : Bool) (A : Option Addr) (xs : List Int) (c a m : Nat) (w : World) (h : RdrOf w B S bad A xs c) (hai : ai = (a : Int)) (hmi : mi = (m : Int)) (ha : a + m ≤ xs.length) :
    Calls Try.prog 19 #[.pointer (some ⟨B, 0, none⟩), .int .i64 ai, .int .i64 mi] w fun e w' => ∃ (B' : Nat) (A' : Option Addr), e = .returned (.pointer (some ⟨B', 0, none⟩)) ∧ RdrOf w' B' S bad A' ((xs.drop a).take m) (c - a) ∧ Below w.heap.size w w' := by
  subst hai hmi; exact part_at B S bad A xs c a m w h ha
theorem below_of_drawn {w w' : World} (h : Drawn0 w w') : Below w.heap.size w w' := by
  obtain ⟨m, rfl⟩ := h
  exact pw_below_drewN (Below.refl _ _) m
theorem same_true (A0 : Option Addr) (c0 : Nat) (A1 : Option Addr) (c1 : Nat) (l : List Int) (w : World) (hr0 : Kd.C (Kd.int .u8) w A0 l.length l) (hc0 : l.length ≤ c0) (hr1 : Kd.C (Kd.int .u8) w A1 l.length l) (hc1 : l.length ≤ c1) :
    Calls Try.prog 23 #[.slice A0 l.length c0, .slice A1 l.length c1] w fun e w' => e = .returned (.bool true) ∧ Below w.heap.size w w' := by
  refine (calamuskit_SameBytes.calls A0 c0 l A1 c1 l true w hr0 hc0 hr1 hc1 (by simp [calamuskit_SameBytes.f])).mono ?_
  rintro e w' ⟨rfl, h⟩
  exact ⟨rfl, below_of_drawn h⟩
theorem sum_calls (k : Nat) (A0 : Option Addr) (c0 : Nat) (l : List Int) (r : Int) (w : World) (hr0 : Kd.C (Kd.int .u8) w A0 l.length l) (hc0 : l.length ≤ c0) (h : bin_Sum.f k l = some r) :
    Calls Try.prog 24 #[.slice A0 l.length c0] w fun e w' => e = .returned (.int .u32 r) ∧ Below w.heap.size w w' := by
  refine (bin_Sum.calls k A0 c0 l r w hr0 hc0 h).mono ?_
  rintro e w' ⟨rfl, h⟩
  exact ⟨rfl, below_of_drawn h⟩
theorem lit_C (W : World) (e : TypeId) (k : IntKind) (cs : List Int) (hm : cs.length ≤ 1000000) : Kd.C (Kd.int k) (W.alloc (.cells (nums k cs).toArray e)) (some ⟨W.heap.size, 0, none⟩) cs.length cs :=
  (Kd.R_reads' (R_lit W W.heap.size e k cs (Nat.le_refl _) hm)).2.2
theorem works_open (w : World) : Calls Try.prog 11 #[.slice (some ⟨w.heap.size, 0, none⟩) 4 4] (w.alloc (.cells #[.int .u8 1, .int .u8 2, .int .u8 255, .int .u8 254] 5)) fun e w' => ∃ (B S : Nat) (A' : Option Addr) (c' : Nat), e = .returned (.pointer (some ⟨B, 0, none⟩)) ∧ RdrOf w' B S false A' [1, 2, 255, 254] c' ∧ Below (w.alloc (.cells #[.int .u8 1, .int .u8 2, .int .u8 255, .int .u8 254] 5)).heap.size (w.alloc (.cells #[.int .u8 1, .int .u8 2, .int .u8 255, .int .u8 254] 5)) w' :=
  open_calls (some ⟨w.heap.size, 0, none⟩) [1, 2, 255, 254] 4 _ (lit_C w 5 .u8 [1, 2, 255, 254] (by decide)) (Nat.le_refl _) (by decide) (by decide)
theorem works_put (w : World) : Calls Try.prog 21 #[.slice (some ⟨w.heap.size, 0, none⟩) 3 3, .string { data := #[72, 104, 98] }] (w.alloc (.cells #[.int .i64 258, .int .i64 (-2), .int .i64 5] 2)) fun e w' => ∃ v, e = .returned (.tuple #[v, .int .i64 0]) ∧ Kd.R (Kd.int .u8) 5 w' (w.alloc (.cells #[.int .i64 258, .int .i64 (-2), .int .i64 5] 2)).heap.size (fun _ => True) v [1, 2, 255, 254, 5] ∧ Below (w.alloc (.cells #[.int .i64 258, .int .i64 (-2), .int .i64 5] 2)).heap.size (w.alloc (.cells #[.int .i64 258, .int .i64 (-2), .int .i64 5] 2)) w' :=
  put_calls (some ⟨w.heap.size, 0, none⟩) [258, -2, 5] 3 { data := #[72, 104, 98] } _ (lit_C w 2 .i64 [258, -2, 5] (by decide)) (Nat.le_refl _) (by decide) 0 [1, 2, 255, 254, 5] (by decide +kernel) (by decide +kernel)
theorem works_sum (w : World) : Calls Try.prog 24 #[.slice (some ⟨w.heap.size, 0, none⟩) 5 5] (w.alloc (.cells #[.int .u8 0, .int .u8 0, .int .u8 0, .int .u8 1, .int .u8 128] 5)) fun e w' => e = .returned (.int .u32 2147483649) ∧ Below (w.alloc (.cells #[.int .u8 0, .int .u8 0, .int .u8 0, .int .u8 1, .int .u8 128] 5)).heap.size (w.alloc (.cells #[.int .u8 0, .int .u8 0, .int .u8 0, .int .u8 1, .int .u8 128] 5)) w' :=
  sum_calls 10 (some ⟨w.heap.size, 0, none⟩) 5 [0, 0, 0, 1, 128] 2147483649 _ (lit_C w 5 .u8 [0, 0, 0, 1, 128] (by decide)) (Nat.le_refl _) (by decide +kernel)
theorem works_same (A0 : Option Addr) (c0 : Nat) (w : World) (h0 : Kd.C (Kd.int .u8) w A0 5 [1, 2, 255, 254, 5]) (hc : 5 ≤ c0) : Calls Try.prog 23 #[.slice A0 5 c0, .slice (some ⟨w.heap.size, 0, none⟩) 5 5] (w.alloc (.cells #[.int .u8 1, .int .u8 2, .int .u8 255, .int .u8 254, .int .u8 5] 5)) fun e w' => e = .returned (.bool true) ∧ Below (w.alloc (.cells #[.int .u8 1, .int .u8 2, .int .u8 255, .int .u8 254, .int .u8 5] 5)).heap.size (w.alloc (.cells #[.int .u8 1, .int .u8 2, .int .u8 255, .int .u8 254, .int .u8 5] 5)) w' :=
  same_true A0 c0 (some ⟨w.heap.size, 0, none⟩) 5 [1, 2, 255, 254, 5] _ (Kd.C_alloc h0 _) hc (lit_C w 5 .u8 [1, 2, 255, 254, 5] (by decide)) (Nat.le_refl _)
set_option maxHeartbeats 2000000 in
set_option maxRecDepth 100000 in
theorem works_calls (w : World) : Calls Try.prog 10 #[] w fun e w' => e = .returned (.bool true) ∧ Below w.heap.size w w' := by
  have HB := Aside0.mk (Below.refl w.heap.size w)
  go_enter Try.func10, Try.ntmps10
  go_wp2_with (first
    | (go_at_call 11; (with_reducible refine (works_open _).mono ?_); rintro e w1 ⟨B, S, A', c', rfl, hr1, hb1⟩; have HR1 := Aside0.mk hr1; have HB1 := Aside0.mk (below_step (below_alloc HB.out _) hb1); clear hr1 hb1)
    | (go_at_call 21; (with_reducible refine (works_put _).mono ?_); rintro e w2 ⟨v, rfl, ho2, hb2⟩; have HB2 := Aside0.mk (below_step (below_alloc HB1.out _) hb2); have HR2 := Aside0.mk ((HR1.out.below (below_alloc (Below.refl _ _) _)).below hb2); obtain ⟨Ab, cb, rfl, hlb, hrb⟩ := Kd.R_reads ho2; have HP2 := Aside0.mk hrb; have HL := Aside0.mk hlb; clear hrb hlb ho2 hb2)
    | (go_at_call 13; (with_reducible refine (word_ati 0 B S false A' [1, 2, 255, 254] c' 0 w2 HR2.out rfl (by decide) 258 (by decide)).mono ?_); rintro e w3 ⟨rfl, hb3⟩; have HB3 := Aside0.mk (below_step HB2.out hb3); have HR3 := Aside0.mk (HR2.out.below hb3); have HP3 := Aside0.mk (Kd.C_below HP2.out hb3); clear hb3)
    | (go_at_call 15; (with_reducible refine (int_ati 2 B S false A' [1, 2, 255, 254] c' 2 w3 HR3.out rfl (by decide) 65534 (-2) (by decide) (by decide)).mono ?_); rintro e w4 ⟨rfl, hb4⟩; have HB4 := Aside0.mk (below_step HB3.out hb4); have HR4 := Aside0.mk (HR3.out.below hb4); have HP4 := Aside0.mk (Kd.C_below HP3.out hb4); clear hb4)
    | (go_at_call 16; (with_reducible refine (long_ati 0 B S false A' [1, 2, 255, 254] c' 0 w4 HR4.out rfl (by decide) 16973822 (by decide)).mono ?_); rintro e w5 ⟨rfl, hb5⟩; have HB5 := Aside0.mk (below_step HB4.out hb5); have HR5 := Aside0.mk (HR4.out.below hb5); have HP5 := Aside0.mk (Kd.C_below HP4.out hb5); clear hb5)
    | (go_at_call 17; (with_reducible refine (bad_calls B S false A' _ c' w5 HR5.out.h).mono ?_); rintro e w6 ⟨rfl, hb6⟩; have HB6 := Aside0.mk (below_step HB5.out hb6); have HR6 := Aside0.mk (HR5.out.below hb6); have HP6 := Aside0.mk (Kd.C_below HP5.out hb6); clear hb6)
    | (go_at_call 19; (with_reducible refine (part_ati 1 2 B S false A' [1, 2, 255, 254] c' 1 2 w6 HR6.out rfl rfl (by decide)).mono ?_); rintro e w7 ⟨B2, A2, rfl, hr7, hb7⟩; have HB7 := Aside0.mk (below_step HB6.out hb7); have HR7 := Aside0.mk hr7; have HP7 := Aside0.mk (Kd.C_below HP6.out hb7); clear hb7 hr7)
    | (go_at_call 13; (with_reducible refine (word_ati 0 B2 S false A2 _ _ 0 w7 HR7.out rfl (by decide) 767 (by decide)).mono ?_); rintro e w8 ⟨rfl, hb8⟩; have HB8 := Aside0.mk (below_step HB7.out hb8); have HP8 := Aside0.mk (Kd.C_below HP7.out hb8); clear hb8)
    | (go_at_call 23; refine (works_same Ab cb w8 HP8.out HL.out).mono ?_; rintro e w9 ⟨rfl, hb9⟩; have HB9 := Aside0.mk (below_step (below_alloc HB8.out _) hb9); clear hb9)
    | (go_at_call 24; (with_reducible refine (works_sum w9).mono ?_); rintro e w10 ⟨rfl, hb10⟩; have HB10 := Aside0.mk (below_step (below_alloc HB9.out _) hb10); clear hb10))
  go_ret
  exact ⟨rfl, HB10.out⟩
end Go.Proofs.Ytmfgahhcpmbjjaa.WB
