/- JoiningKnown: the examples hold; rows of all types. Conditions: the program's tables read as laid (Glob). -/
import Derived.Test.YtffmdnckapalfaaDoorJP
import Derived.Test.YtffmdnckapalfaaDoorPureJoiningPairs
import Derived.Test.YtffmdnckapalfaaDoorPureJoiningAgree
namespace Go.Proofs.YtffmdnckapalfaaDoor.JF
open Go.RowKit Go.Proofs.YtffmdnckapalfaaDoorW.PrintWords Go.Proofs.YtffmdnckapalfaaDoor.ExtJ Go.Proofs.YtffmdnckapalfaaDoor.T Go.Proofs.YtffmdnckapalfaaDoor.J Go.Proofs.YtffmdnckapalfaaDoor.SpecJ Go.Proofs.YtffmdnckapalfaaDoor.PurJ
theorem agree_calls (A : Option Addr) (c : Nat) (l : List Int) (w : World) (hx : Kd.C (Kd.int .i32) w A l.length l) (hc : l.length ≤ c) (hl : l.length ≤ 1000) (hv : ∀ x ∈ l, (Lit.int .i32 x).wf = true) (hG : Glob w) :
    Calls Tryd.prog 6 #[.slice A l.length c] w fun e w' => e = .returned (.bool true) ∧ Below w.heap.size w w' := by
  obtain ⟨k, h⟩ := Pure.JoiningAgree l (by simp only [maxLen]; omega) (by omega) hv
  exact calamuslaw15_JoiningAgree.calls k A c l true w hx hc hG h
theorem pairs_calls (a b : Int) (w : World) (ha : (Lit.int .i32 a).wf = true) (hb : (Lit.int .i32 b).wf = true) (hG : Glob w) :
    Calls Tryd.prog 4 #[.int .i32 a, .int .i32 b] w fun e w' => e = .returned (.bool true) ∧ Below w.heap.size w w' := by
  obtain ⟨k, h⟩ := Pure.JoiningPairs a b ha hb
  exact calamuslaw15_JoiningPairs.calls k a b true w hG h
theorem passes_callsm (m : Nat) (A : Option Addr) (c : Nat) (l : List Int) (n : Int) (w : World) (hm : l.length = m) (hx : Kd.C (Kd.int .i32) w A l.length l) (hc : l.length ≤ c) (hG : Glob w) :
    Calls Tryd.prog 5 #[.slice A m c, .int .i64 n] w fun e w' => e = .returned (.bool true) ∧ Below w.heap.size w w' := by
  subst hm; exact joiningPasses_calls A c l n w hx hc hG
def row : List Int := [1576, 1575, 1614, 1600, 97, 1604, 1583, 8205, 32, 1587]
theorem row_wf : ∀ i : Nat, i < 10 → (Lit.int .i32 (rd row (i : Int))).wf = true := by
  have h : ∀ i : Fin 10, (Lit.int .i32 (rd row ((i.1 : Nat) : Int))).wf = true := by decide
  exact fun i hi => h ⟨i, hi⟩
set_option maxHeartbeats 8000000 in
set_option maxRecDepth 100000 in
theorem joiningKnown_calls (w : World) (hG : Glob w) :
    Calls Tryd.prog 7 #[] w fun e w' => e = .returned (.bool true) ∧ Below w.heap.size w w' := by
  have HGW : Aside0 (∀ w', Below w.heap.size w w' → Glob w') := ⟨fun w' hb => Glob.below hG hb⟩
  have HR0 := Aside0.mk (lit_C w 21 .i32 row (by decide))
  have HB0 := Aside0.mk (below_alloc (Below.refl w.heap.size w) (.cells (nums .i32 row).toArray 21))
  clear hG
  go_enter Tryd.func7, Tryd.ntmps7
  go_wp2
  obtain ⟨ad, had⟩ : ∃ ad : Addr, ad = ⟨w.heap.size, 0, none⟩ := ⟨_, rfl⟩
  obtain ⟨w1, hw1⟩ : ∃ w1, w1 = w.alloc (.cells (nums .i32 row).toArray 21) := ⟨_, rfl⟩
  rw [← had, show w.alloc (.cells #[Value.int IntKind.i32 1576, Value.int IntKind.i32 1575, Value.int IntKind.i32 1614, Value.int IntKind.i32 1600, Value.int IntKind.i32 97, Value.int IntKind.i32 1604, Value.int IntKind.i32 1583, Value.int IntKind.i32 8205, Value.int IntKind.i32 32, Value.int IntKind.i32 1587] 21) = w1 by rw [hw1]; rfl]
  rw [← had, ← hw1] at HR0
  rw [← hw1] at HB0
  clear had hw1
  have HRW : Aside0 (∀ w', Below w1.heap.size w1 w' → Kd.C (Kd.int .i32) w' (some ad) 10 row) := ⟨fun w' hb => Kd.C_below HR0.out hb⟩
  have HCE : Aside0 (∀ w', Below w1.heap.size w1 w' → ∀ i : Nat, i < 10 → w'.cell? (ad.add i) = some (.int .i32 (rd row (i : Int)))) := ⟨fun w' hb i hi => by
    obtain ⟨ad', e, h⟩ := Kd.at_int (HRW.out w' hb) (i : Int) (by omega) (by show (i : Int) < 10; omega)
    cases e
    rwa [Int.toNat_natCast] at h⟩
  have HGC : Aside0 (∀ w', Below w1.heap.size w1 w' → Glob w') := ⟨fun w' hb => HGW.out w' (below_step HB0.out hb)⟩
  clear HRW HR0
  go_loopg [2] 10 (fun g s2 wx => ∃ i : Nat, g + i = 10 ∧ s2 = .int .i64 (i : Int) ∧ Aside0 (Below w1.heap.size w1 wx))
  case atStart => exact ⟨0, rfl, rfl, ⟨Below.refl _ _⟩⟩
  case round =>
    obtain ⟨i, hgi, rfl, HBi⟩ := hrel
    cases gk with
    | zero =>
      have hi : ¬ (i : Int) < 10 := by omega
      go_wp2_with (first
        | (go_at_call 3; refine (joiningForms_calls none 0 [] wr (Kd.C_nil _ _) (Nat.le_refl _) (HGC.out _ HBi.out)).mono ?_; rintro e w2 ⟨rfl, hb⟩; have HB2 := Aside0.mk (below_step HBi.out hb); clear hb)
        | (go_at_call 4; refine (pairs_calls (-1) 1114112 w2 (by decide) (by decide) (HGC.out _ HB2.out)).mono ?_; rintro e w3 ⟨rfl, hb⟩; have HB3 := Aside0.mk (below_step HB2.out hb); clear hb)
        | (go_at_call 13; refine (works_calls w3 (HGC.out _ HB3.out)).mono ?_; rintro e w4 ⟨rfl, hb⟩; have HB4 := Aside0.mk (below_step HB3.out hb); clear hb))
      go_ret
      exact ⟨rfl, below_step HB0.out HB4.out⟩
    | succ gi =>
      have hi : (i : Int) < 10 := by omega
      go_wp2
      go_loopg [3] 10 (fun g s3 wx => ∃ k : Nat, g + k = 10 ∧ s3 = .int .i64 (k : Int) ∧ Aside0 (Below w1.heap.size w1 wx))
      case atStart => exact ⟨0, rfl, rfl, HBi⟩
      case round =>
        clear HBi
        obtain ⟨k, hgk, rfl, HBk⟩ := hrel
        cases gk with
        | zero =>
          have hk : ¬ (k : Int) < 10 := by omega
          go_wp2
          go_roundg gi
          case measure => omega
          case rel => exact ⟨i + 1, by omega, by go_num, HBk⟩
        | succ gq =>
          have hk : (k : Int) < 10 := by omega
          go_wp2
          go_loopg [4] 10 (fun g s4 wx => ∃ j : Nat, g + j = 10 ∧ s4 = .int .i64 (j : Int) ∧ Aside0 (Below w1.heap.size w1 wx))
          case atStart => exact ⟨0, rfl, rfl, HBk⟩
          case round =>
            clear HBk
            obtain ⟨j, hgj, rfl, HBj⟩ := hrel
            cases gk with
            | zero =>
              have hj : ¬ (j : Int) < 10 := by omega
              go_wp2
              go_region_held3 (fun w' => w'.cell? (ad.add i) = some (.int .i32 (rd row (i : Int))) ∧ w'.cell? (ad.add k) = some (.int .i32 (rd row (k : Int)))) (first | exact ⟨HCE.out _ (below_step HBj.out (below_drew1 (Below.refl _ _))) i (by omega), HCE.out _ (below_step HBj.out (below_drew1 (Below.refl _ _))) k (by omega)⟩ | exact ⟨HCE.out _ HBp.out i (by omega), HCE.out _ HBp.out k (by omega)⟩) (first
                | (go_at_call 4; (with_reducible refine (pairs_calls _ _ wr.drew (row_wf i (by omega)) (row_wf k (by omega)) (HGC.out _ (below_step HBj.out (below_drew1 (Below.refl _ _))))).mono ?_); rintro e w2 ⟨rfl, hb⟩; have HBp := Aside0.mk (below_step (below_step HBj.out (below_drew1 (Below.refl _ _))) hb); clear hb))
              go_wp2
              go_roundg gq
              case measure => omega
              case rel => exact ⟨k + 1, by omega, by go_num, HBp⟩
            | succ gj =>
              have hj : (j : Int) < 10 := by omega
              obtain ⟨m, hm⟩ : ∃ m : Nat, m = (i + k + j) % 10 := ⟨_, rfl⟩
              have hm10 : m < 10 := by omega
              have hm2 : (m : Int) < 10 := by omega
              have q1 : IntKind.i64.wrap ((i : Int) + (k : Int)) = (i : Int) + (k : Int) := by rw [IntKind.wrap_i64]; omega
              have q2 : IntKind.i64.wrap ((i : Int) + (k : Int) + (j : Int)) = (i : Int) + (k : Int) + (j : Int) := by rw [IntKind.wrap_i64]; omega
              have q3 : Int.tmod ((i : Int) + (k : Int) + (j : Int)) 10 = (m : Int) := by rw [Int.tmod_eq_emod_of_nonneg (by omega)]; omega
              have q4 : IntKind.i64.wrap (Int.tmod ((i : Int) + (k : Int) + (j : Int)) 10) = (m : Int) := by rw [q3, IntKind.wrap_i64]; omega
              have q5 : IntKind.i64.wrap (m : Int) = (m : Int) := by rw [IntKind.wrap_i64]; omega
              clear hm
              obtain ⟨x1, hx1⟩ : ∃ x, x = rd row (i : Int) := ⟨_, rfl⟩
              obtain ⟨x2, hx2⟩ : ∃ x, x = rd row (k : Int) := ⟨_, rfl⟩
              obtain ⟨x3, hx3⟩ : ∃ x, x = rd row (j : Int) := ⟨_, rfl⟩
              obtain ⟨x4, hx4⟩ : ∃ x, x = rd row (m : Int) := ⟨_, rfl⟩
              have HC4 : Aside0 (∀ w', Below w1.heap.size w1 w' → w'.cell? (ad.add i) = some (.int .i32 x1) ∧ w'.cell? (ad.add k) = some (.int .i32 x2) ∧ w'.cell? (ad.add j) = some (.int .i32 x3) ∧ w'.cell? (ad.add m) = some (.int .i32 x4)) := ⟨fun w' hb => by
                rw [hx1, hx2, hx3, hx4]; exact ⟨HCE.out w' hb i (by omega), HCE.out w' hb k (by omega), HCE.out w' hb j (by omega), HCE.out w' hb m hm10⟩⟩
              have HWF : Aside0 (∀ x ∈ [x1, x2, x3, x4], (Lit.int .i32 x).wf = true) := ⟨by
                rw [hx1, hx2, hx3, hx4]
                intro x hx
                simp only [List.mem_cons, List.not_mem_nil, or_false] at hx
                rcases hx with rfl | rfl | rfl | rfl
                · exact row_wf i (by omega)
                · exact row_wf k (by omega)
                · exact row_wf j (by omega)
                · exact row_wf m hm10⟩
              have HBD := Aside0.mk (below_step HBj.out (below_drew1 (Below.refl _ _)))
              have HBA := Aside0.mk (below_alloc HBD.out (.cells (nums .i32 [x1, x2, x3, x4]).toArray 21))
              have HL4 := Aside0.mk (lit_C wr.drew 21 .i32 [x1, x2, x3, x4] (by simp))
              clear hx1 hx2 hx3 hx4
              go_wp2
              go_region_held3 (fun w' => w'.cell? (ad.add i) = some (.int .i32 x1) ∧ w'.cell? (ad.add k) = some (.int .i32 x2) ∧ w'.cell? (ad.add j) = some (.int .i32 x3) ∧ w'.cell? (ad.add m) = some (.int .i32 x4)) (first | exact HC4.out _ HBD.out | exact HC4.out _ HBA.out) (first | fail)
              have HW4 := Aside0.mk (Kd.C_drew (lit_C wr 21 .i32 [x1, x2, x3, x4] (by simp)))
              have HB4 := Aside0.mk (below_drew1 (below_alloc HBj.out (.cells (nums .i32 [x1, x2, x3, x4]).toArray 21)))
              obtain ⟨xs, hxs⟩ : ∃ xs, xs = [x1, x2, x3, x4] := ⟨_, rfl⟩
              have hxl : xs.length = 4 := by rw [hxs]; rfl
              obtain ⟨a4, ha4⟩ : ∃ a4 : Addr, a4 = ⟨wr.heap.size, 0, none⟩ := ⟨_, rfl⟩
              obtain ⟨w4, hw4⟩ : ∃ w4, w4 = (wr.alloc (.cells (nums .i32 [x1, x2, x3, x4]).toArray 21)).drew := ⟨_, rfl⟩
              rw [← ha4, show (wr.alloc (.cells #[Value.int IntKind.i32 x1, Value.int IntKind.i32 x2, Value.int IntKind.i32 x3, Value.int IntKind.i32 x4] 21)).drew = w4 by rw [hw4]; rfl]
              rw [← ha4, ← hw4, ← hxs] at HW4
              rw [← hw4] at HB4
              rw [← hxs] at HWF
              have HXC : Aside0 (∀ w', Below w4.heap.size w4 w' → Kd.C (Kd.int .i32) w' (some a4) xs.length xs) := ⟨fun w' hb => Kd.C_below HW4.out hb⟩
              have HG4 : Aside0 (∀ w', Below w4.heap.size w4 w' → Glob w') := ⟨fun w' hb => HGC.out w' (below_step HB4.out hb)⟩
              have HXL := Aside0.mk hxl
              clear hxs ha4 hw4 hxl HW4 HL4 HBA HBD HC4 q1 q2 q3 q4 q5 hm2 hm10
              go_wp2
              go_loopg [6] 5 (fun g s6 wx => ∃ p : Nat, g + p = 5 ∧ s6 = .int .i64 (p : Int) ∧ Aside0 (Below w4.heap.size w4 wx))
              case atStart => exact ⟨0, rfl, rfl, ⟨Below.refl _ _⟩⟩
              case round =>
                obtain ⟨p, hgp, rfl, HBp⟩ := hrel
                cases gk with
                | zero =>
                  have hp : ¬ (p : Int) ≤ 4 := by omega
                  go_wp2
                  go_roundg gj
                  case measure => omega
                  case rel => exact ⟨j + 1, by omega, by go_num, ⟨below_step HB4.out HBp.out⟩⟩
                | succ gp =>
                  have hp : (p : Int) ≤ 4 := by omega
                  have hp4 : (p : Int) ≤ (xs.length : Int) := by rw [HXL.out]; omega
                  obtain ⟨i21, hi21, _, hsz21, _⟩ := info_parts info21
                  obtain ⟨hcut, hA, hC⟩ := print_take_of (P := Tryd.prog) (Value.int .i32) 0 22 21 .i64 Tryd.underlying22 hi21 hsz21 (some a4) 4 xs (p : Int) (by omega) hp4 (by rw [HXL.out]; exact Nat.le_refl _)
                  obtain ⟨l1, hl1⟩ : ∃ l1, l1 = xs.take p := ⟨_, rfl⟩
                  rw [Int.toNat_natCast, ← hl1, HXL.out] at hcut
                  rw [Int.toNat_natCast, ← hl1] at hA hC
                  have HC1 : Aside0 (∀ w', Below w4.heap.size w4 w' → Kd.C (Kd.int .i32) w' (some a4) l1.length l1) := ⟨fun w' hb => Kd.C_of_reads (h1 := fun _ => rfl) (hA _ (Kd.reads_of_C (HXC.out w' hb)))⟩
                  have HLC := Aside0.mk hC
                  have HW1 : Aside0 (∀ x ∈ l1, (Lit.int .i32 x).wf = true) := ⟨fun x hx => HWF.out x (List.mem_of_mem_take (by rw [hl1] at hx; exact hx))⟩
                  have hln : l1.length ≤ 4 := by rw [hl1, List.length_take, HXL.out]; omega
                  clear hi21 hsz21 hA hC hl1 hp4
                  go_wp2_with (first
                    | (go_at_call 3; (with_reducible refine (joiningForms_calls (some a4) 4 l1 _ (HC1.out _ HBp.out) HLC.out (HG4.out _ HBp.out)).mono ?_); rintro e u1 ⟨rfl, hb⟩; have HU1 := Aside0.mk (below_step HBp.out hb); clear hb)
                    | (go_at_call 5; (with_reducible refine (passes_callsm 4 (some a4) 4 xs (p : Int) u1 HXL.out (HXC.out _ HU1.out) (by rw [HXL.out]; exact Nat.le_refl _) (HG4.out _ HU1.out)).mono ?_); rintro e u2 ⟨rfl, hb⟩; have HU2 := Aside0.mk (below_step HU1.out hb); clear hb)
                    | (go_at_call 6; (with_reducible refine (agree_calls (some a4) 4 l1 u2 (HC1.out _ HU2.out) HLC.out (by omega) HW1.out (HG4.out _ HU2.out)).mono ?_); rintro e u3 ⟨rfl, hb⟩; have HU3 := Aside0.mk (below_step HU2.out hb); clear hb))
                  go_roundg gp
                  case measure => omega
                  case rel => exact ⟨p + 1, by omega, by go_num, HU3⟩
end Go.Proofs.YtffmdnckapalfaaDoor.JF
