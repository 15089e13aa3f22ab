/- JoiningPasses: what is passed over changes nothing; nor does what does not join. Conditions: the program's tables read as laid (Glob). -/
import Derived.Test.YtffmdnckapalfaaDoorJQ
import Derived.OpenShut
import Derived.Deep.RegionHeld3
namespace Go.Proofs.YtffmdnckapalfaaDoor.JF
open Go.RowKit Go.Proofs.YtffmdnckapalfaaDoorW.PrintWords Go.Proofs.YtffmdnckapalfaaDoor.ExtJ Go.Proofs.YtffmdnckapalfaaDoor.T Go.Proofs.YtffmdnckapalfaaDoor.J Go.Proofs.YtffmdnckapalfaaDoor.SpecJ Go.Proofs.YtffmdnckapalfaaDoor.PurJ
theorem R_lit (W : World) (base : Nat) (e : TypeId) (k : IntKind) (cs : List Int) (hb : base ≤ W.heap.size) (hm : cs.length ≤ 1000000) :
    Kd.R (Kd.int k) e (W.alloc (.cells (nums k cs).toArray e)) base (fun _ => True) (.slice (some ⟨W.heap.size, 0, none⟩) cs.length cs.length) cs :=
  Kd.R_of_own (own_lit W base e k cs hb (by omega)) (fun _ _ => trivial)
theorem lit_C (W : World) (e : TypeId) (k : IntKind) (cs : List Int) (hm : cs.length ≤ 1000000) : Kd.C (Kd.int k) (W.alloc (.cells (nums k cs).toArray e)) (some ⟨W.heap.size, 0, none⟩) cs.length cs :=
  (Kd.R_reads' (R_lit W W.heap.size e k cs (Nat.le_refl _) hm)).2.2
theorem forms_callsm (m : Nat) (A0 : Option Addr) (c0 : Nat) (l0 : List Int) (r : List Int) (w : World) (hr0 : Kd.C (Kd.int .i32) w A0 l0.length l0) (hc0 : l0.length ≤ c0) (hl : l0.length ≤ 1000000) (hG : Glob w) (h : r = forms l0) (hm : r.length = m) :
    Calls Tryd.prog 14 #[.slice A0 l0.length c0] w fun e w' => ∃ A c, e = .returned (.slice A m c) ∧ Kd.R (Kd.int .u8) 5 w' w.heap.size (fun _ => True) (.slice A m c) r ∧ Below w.heap.size w w' := by
  subst hm; exact forms_calls A0 c0 l0 r w hr0 hc0 hl hG h
theorem info5' : (Tryd.prog.info? 5).map (fun i => (i.zero, i.size, i.bytes)) = some (some (.int .u8 0), 1, 1) := by kernel_rfl
theorem joins_calls (a b : Int) (r : Bool) (w : World) (hG : Glob w) (h : r = jb (jn a) (jn b)) : Calls Tryd.prog 17 #[.int .i32 a, .int .i32 b] w fun e w' => e = .returned (.bool r) ∧ Below w.heap.size w w' := by
  subst h; exact Joins_calls a b w hG
theorem pick_calls (n m r : Int) (w : World) (h : calamuskit_Pick.f n m = some r) : Calls Tryd.prog 20 #[.int .i64 n, .int .i64 m] w fun e w' => e = .returned (.int .i64 r) ∧ Below w.heap.size w w' := by
  refine (calamuskit_Pick.calls n m r w h).mono ?_
  rintro e w' ⟨rfl, h⟩
  exact ⟨rfl, below_of_drawn h⟩
theorem drop_rd (l : List Int) (k : Nat) (h : k < l.length) : l.drop k = rd l (k : Int) :: l.drop (k + 1) := by
  rw [List.drop_eq_getElem_cons h]
  unfold rd
  rw [Int.toNat_natCast, List.getD_eq_getElem?_getD, List.getElem?_eq_getElem h]; rfl
theorem rd_el (l : List Int) (k : Nat) (h : k < l.length) : rd l (k : Int) = l[k] := by
  unfold rd
  rw [Int.toNat_natCast, List.getD_eq_getElem?_getD, List.getElem?_eq_getElem h]; rfl
set_option maxHeartbeats 8000000 in
set_option maxRecDepth 100000 in
theorem joiningPasses_calls (A : Option Addr) (c : Nat) (l : List Int) (n : Int) (w : World) (hx : Kd.C (Kd.int .i32) w A l.length l) (hc : l.length ≤ c) (hG : Glob w) :
    Calls Tryd.prog 5 #[.slice A l.length c, .int .i64 n] w fun e w' => e = .returned (.bool true) ∧ Below w.heap.size w w' := by
  have HX := Aside0.mk hx
  have HG := Aside0.mk hG
  have HB := Aside0.mk (Below.refl w.heap.size w)
  clear hx hG
  by_cases b1 : (600 : Int) < (l.length : Int)
  · go_enter Tryd.func5, Tryd.ntmps5
    go_wp2_with (go_at_call 13; (with_reducible refine (works_calls _ HG.out).mono ?_); rintro e w1 ⟨rfl, hb⟩)
    go_ret
    exact ⟨rfl, hb⟩
  have hl : l.length ≤ 600 := by omega
  have HGW : Aside0 (∀ w', Below w.heap.size w w' → Glob w') := ⟨fun w' hb => Glob.below HG.out hb⟩
  obtain ⟨al, hal⟩ : ∃ al, al = forms l := ⟨_, rfl⟩
  have HAL := Aside0.mk hal
  have hall : al.length = l.length := by rw [hal, forms_length]
  have HALL := Aside0.mk hall
  obtain ⟨L, hL⟩ : ∃ L, L = less l := ⟨_, rfl⟩
  have HL := Aside0.mk hL
  have hLl : L.length ≤ 600 := by rw [hL]; have := less_len l; omega
  obtain ⟨F, hF⟩ : ∃ F, F = forms L := ⟨_, rfl⟩
  have HF := Aside0.mk hF
  have hFl : F.length = L.length := by rw [hF, forms_length]
  have HFL := Aside0.mk hFl
  have hFl2 : F.length ≤ 600 := by omega
  have HSF : Aside0 (sel l al = F) := ⟨by rw [HAL.out, HF.out, HL.out, sel_forms]⟩
  clear hal hL hF hall hFl
  go_enter Tryd.func5, Tryd.ntmps5
  go_wp2_with (first
    | (go_at_call 14; (with_reducible refine (forms_callsm l.length A c l al w HX.out hc (by omega) HG.out HAL.out HALL.out).mono ?_); rintro e w2 ⟨A2, c2, rfl, ho, hb⟩; have HA2 := Aside0.mk ho; have HB2 := Aside0.mk hb; clear ho hb))
  have HAC : Aside0 (∀ w', Below w2.heap.size w2 w' → Kd.C (Kd.int .u8) w' A2 al.length al) := ⟨fun w' hb => Kd.C_below (Kd.R_reads' (show Kd.R (Kd.int .u8) 5 w2 w.heap.size (fun _ => True) (.slice A2 al.length c2) al by rw [HALL.out]; exact HA2.out)).2.2 hb⟩
  have HLC : Aside0 (∀ w', Below w2.heap.size w2 w' → Kd.C (Kd.int .i32) w' A l.length l) := ⟨fun w' hb => Kd.C_below HX.out (below_step HB2.out hb)⟩
  have HGC : Aside0 (∀ w', Below w2.heap.size w2 w' → Glob w') := ⟨fun w' hb => HGW.out w' (below_step HB2.out hb)⟩
  go_loopg [6, 7, 8] l.length (fun g s6 s7 s8 wx => ∃ (k : Nat) (cu cf : List Int), Aside0 (g + k = l.length) ∧ s8 = .int .i64 (k : Int) ∧ Aside0 (cu ++ less (l.drop k) = L) ∧ Aside0 (cf ++ sel (l.drop k) (al.drop k) = F) ∧ Aside0 (Kd.R (Kd.int .i32) 21 wx w2.heap.size (fun _ => True) s6 cu) ∧ Aside0 (Kd.R (Kd.int .u8) 5 wx w2.heap.size (fun _ => True) s7 cf) ∧ Aside0 (Below w2.heap.size w2 wx))
  case atStart => exact ⟨0, [], [], ⟨rfl⟩, rfl, ⟨by rw [HL.out]; rfl⟩, ⟨by rw [← HSF.out]; rfl⟩, ⟨Kd.R_nil _ _ _ _ _⟩, ⟨Kd.R_nil _ _ _ _ _⟩, ⟨Below.refl _ _⟩⟩
  case round =>
    obtain ⟨k, cu, cf, hgk, rfl, HCU, HCF, HO6, HO7, HBx⟩ := hrel
    cases gk with
    | zero =>
      have hk : ¬ (k : Int) < (l.length : Int) := by have := hgk.out; omega
      have hd : l.drop k = [] := List.drop_eq_nil_of_le (by have := hgk.out; omega)
      have e1 := HCU.out
      have e2 := HCF.out
      rw [hd] at e1 e2
      simp only [less, List.filter_nil, List.append_nil, sel] at e1 e2
      subst e1 e2
      clear HCU HCF hd
      obtain ⟨A6, c6, rfl, hle6, hr6⟩ := Kd.R_reads HO6.out
      obtain ⟨A7, c7, rfl, hle7, hr7⟩ := Kd.R_reads HO7.out
      have HR6 : Aside0 (∀ w', Below wr.heap.size wr w' → Kd.C (Kd.int .i32) w' A6 cu.length cu) := ⟨fun w' hb => Kd.C_below hr6 hb⟩
      have HR7 : Aside0 (∀ w', Below wr.heap.size wr w' → Kd.C (Kd.int .u8) w' A7 cf.length cf) := ⟨fun w' hb => Kd.C_below hr7 hb⟩
      have HGr : Aside0 (∀ w', Below wr.heap.size wr w' → Glob w') := ⟨fun w' hb => HGC.out w' (below_step HBx.out hb)⟩
      clear hr6 hr7 HO6 HO7
      obtain ⟨p, hp, hpick⟩ := pick_ok n cu.length (by omega)
      obtain ⟨P, hP⟩ : ∃ P : Int, P = (p : Int) := ⟨_, rfl⟩
      have HP := Aside0.mk hP
      have hP0 : 0 ≤ P := by omega
      have hP1 : P ≤ (cu.length : Int) := by omega
      rw [← hP] at hpick
      have HPK := Aside0.mk hpick
      have h4 := HL.out ▸ less_ok l
      have HCUT := Aside0.mk (forms_cut cu h4 p hp)
      clear h4 hpick
      obtain ⟨L1, hL1⟩ : ∃ L1, L1 = cu.take p := ⟨_, rfl⟩
      obtain ⟨L2, hL2⟩ : ∃ L2, L2 = cu.drop p := ⟨_, rfl⟩
      obtain ⟨F1, hF1⟩ : ∃ F1, F1 = cf.take p := ⟨_, rfl⟩
      obtain ⟨F2, hF2⟩ : ∃ F2, F2 = cf.drop p := ⟨_, rfl⟩
      have hpf : P ≤ (cf.length : Int) := by have := HFL.out; omega
      obtain ⟨i21, hi21, _, hsz21, _⟩ := info_parts info21
      obtain ⟨i5, hi5, _, hsz5, _⟩ := info_parts info5'
      obtain ⟨hcut1, hA1, hC1⟩ := print_take_of (P := Tryd.prog) (Value.int .i32) 0 22 21 .i64 Tryd.underlying22 hi21 hsz21 A6 c6 cu P hP0 hP1 hle6
      obtain ⟨B2, hcut2, hA2, hC2⟩ := print_drop_of (P := Tryd.prog) (Value.int .i32) 0 22 21 .i64 Tryd.underlying22 hi21 hsz21 A6 c6 cu P hP0 hP1 hle6
      obtain ⟨hcut3, hA3, hC3⟩ := print_take_of (P := Tryd.prog) (Value.int .u8) 0 24 5 .i64 Tryd.underlying24 hi5 hsz5 A7 c7 cf P hP0 hpf hle7
      obtain ⟨B4, hcut4, hA4, hC4⟩ := print_drop_of (P := Tryd.prog) (Value.int .u8) 0 24 5 .i64 Tryd.underlying24 hi5 hsz5 A7 c7 cf P hP0 hpf hle7
      rw [show P.toNat = p by omega, ← hL1] at hcut1 hA1 hC1
      rw [show P.toNat = p by omega, ← hL2] at hcut2 hA2 hC2
      rw [show P.toNat = p by omega, ← hF1] at hcut3 hA3 hC3
      rw [show P.toNat = p by omega, ← hF2] at hcut4 hA4 hC4
      have HC1 : Aside0 (∀ w', Below wr.heap.size wr w' → Kd.C (Kd.int .i32) w' A6 L1.length L1) := ⟨fun w' hb => Kd.C_of_reads (h1 := fun _ => rfl) (hA1 _ (Kd.reads_of_C (HR6.out w' hb)))⟩
      have HC2 : Aside0 (∀ w', Below wr.heap.size wr w' → Kd.C (Kd.int .i32) w' B2 L2.length L2) := ⟨fun w' hb => Kd.C_of_reads (h1 := fun _ => rfl) (hA2 _ (Kd.reads_of_C (HR6.out w' hb)))⟩
      have HC3 : Aside0 (∀ w', Below wr.heap.size wr w' → Kd.C (Kd.int .u8) w' A7 F1.length F1) := ⟨fun w' hb => Kd.C_of_reads (h1 := fun _ => rfl) (hA3 _ (Kd.reads_of_C (HR7.out w' hb)))⟩
      have HC4 : Aside0 (∀ w', Below wr.heap.size wr w' → Kd.C (Kd.int .u8) w' B4 F2.length F2) := ⟨fun w' hb => Kd.C_of_reads (h1 := fun _ => rfl) (hA4 _ (Kd.reads_of_C (HR7.out w' hb)))⟩
      have hn1 : L1.length ≤ 600 := by rw [hL1, List.length_take]; omega
      have hn2 : L2.length ≤ 600 := by rw [hL2, List.length_drop]; omega
      have HLC1 := Aside0.mk hC1
      have HLC2 := Aside0.mk hC2
      have HLC3 := Aside0.mk hC3
      have HLC4 := Aside0.mk hC4
      have HL1 := Aside0.mk hL1
      have HL2 := Aside0.mk hL2
      have HF1 := Aside0.mk hF1
      have HF2 := Aside0.mk hF2
      clear hP hi21 hsz21 hi5 hsz5 hA1 hA2 hA3 hA4 hC1 hC2 hC3 hC4 hL1 hL2 hF1 hF2
      by_cases hin : 0 < p ∧ p < cu.length
      · obtain ⟨hp0, hp1⟩ := hin
        have hpm : p - 1 < cu.length := by omega
        have hPp := HP.out
        have z0 : (0 : Int) < P := by omega
        have z1 : P < (cu.length : Int) := by omega
        obtain ⟨q, hq⟩ : ∃ q : Int, P - 1 = q := ⟨_, rfl⟩
        have hqw : IntKind.i64.wrap (P - 1) = q := by rw [IntKind.wrap_i64]; omega
        have z2 : (0 : Int) ≤ q := by omega
        have z3 : q < (cu.length : Int) := by omega
        have hqp : q = ((p - 1 : Nat) : Int) := by omega
        obtain ⟨ad, rfl, hca⟩ := Kd.at_int (HR6.out wr (Below.refl _ _)) q z2 z3
        obtain ⟨ad', e', hcb⟩ := Kd.at_int (HR6.out wr (Below.refl _ _)) P hP0 z1
        cases e'
        obtain ⟨x, hx⟩ : ∃ x, x = rd cu q := ⟨_, rfl⟩
        obtain ⟨y, hy⟩ : ∃ y, y = rd cu P := ⟨_, rfl⟩
        rw [← hx] at hca
        rw [← hy] at hcb
        have HCA : Aside0 (∀ w', Below wr.heap.size wr w' → w'.cell? (ad.add q.toNat) = some (.int .i32 x)) := ⟨fun w' hb => (hb.cell (World.block_lt_of_cell? wr _ hca)).trans hca⟩
        have HCB : Aside0 (∀ w', Below wr.heap.size wr w' → w'.cell? (ad.add P.toNat) = some (.int .i32 y)) := ⟨fun w' hb => (hb.cell (World.block_lt_of_cell? wr _ hcb)).trans hcb⟩
        have ex : x = cu[p - 1]'hpm := by rw [hx, hqp, rd_el cu (p - 1) (by omega)]
        have ey : y = cu[p]'hp1 := by rw [hy, hPp, rd_el cu p hp1]
        have HJXY : Aside0 (jb (jn x) (jn y) = false → ∀ (h0 : 0 < p) (h1 : p < cu.length), jb (jn (cu[p - 1]'hpm)) (jn (cu[p]'h1)) = false) := ⟨fun h _ _ => by rw [← ex, ← ey]; exact h⟩
        clear hca hcb hx hy ex ey hPp hqp hq
        obtain ⟨j, hj⟩ : ∃ j, j = jb (jn x) (jn y) := ⟨_, rfl⟩
        have HJ := Aside0.mk hj
        clear hj
        cases j with
        | true =>
          go_wp2_with (first
            | (go_at_call 14; (with_reducible refine (forms_calls _ c6 cu cf wr (HR6.out _ (Below.refl _ _)) hle6 (by omega) (HGr.out _ (Below.refl _ _)) HF.out).mono ?_); rintro e w8 ⟨A8, c8, rfl, ho, hb⟩; have HB8 := Aside0.mk hb; have HA8 := Aside0.mk ho; clear hb ho)
            | (go_at_call 16; (with_reducible refine (same_true A8 c8 A7 c7 cf w8 (Kd.R_reads' HA8.out).2.2 (Kd.R_reads' HA8.out).2.1 (HR7.out _ HB8.out) hle7).mono ?_); rintro e w9 ⟨rfl, hb⟩; have HB9 := Aside0.mk (below_step HB8.out hb); clear hb)
            | (go_at_call 20; (with_reducible refine (pick_calls n _ _ w9 HPK.out).mono ?_); rintro e w10 ⟨rfl, hb⟩; have HB10 := Aside0.mk (below_step HB9.out hb); clear hb))
          go_region_held3 (fun w' => w'.cell? (ad.add q.toNat) = some (.int .i32 x) ∧ w'.cell? (ad.add P.toNat) = some (.int .i32 y)) (first | exact ⟨HCA.out _ (below_step HB10.out (below_drew1 (Below.refl _ _))), HCB.out _ (below_step HB10.out (below_drew1 (Below.refl _ _)))⟩ | exact ⟨HCA.out _ HB10b.out, HCB.out _ HB10b.out⟩) (first
            | (go_at_call 17; (with_reducible refine (joins_calls x y _ w10.drew (HGr.out _ (below_step HB10.out (below_drew1 (Below.refl _ _)))) HJ.out).mono ?_); rintro e w10b ⟨rfl, hb⟩; have HB10b := Aside0.mk (below_step (below_step HB10.out (below_drew1 (Below.refl _ _))) hb); clear hb))
          all_goals go_wp2_with (first | (go_at_call 13; (with_reducible refine (works_calls _ (HGr.out _ HB10b.out)).mono ?_); rintro e w11 ⟨rfl, hb⟩; have HB11 := Aside0.mk (below_step HB10b.out hb); clear hb))
          all_goals go_ret
          all_goals exact ⟨rfl, below_step HB2.out (below_step HBx.out HB11.out)⟩
        | false =>
          go_wp2_with (first
            | (go_at_call 14; (with_reducible refine (forms_calls _ c6 cu cf wr (HR6.out _ (Below.refl _ _)) hle6 (by omega) (HGr.out _ (Below.refl _ _)) HF.out).mono ?_); rintro e w8 ⟨A8, c8, rfl, ho, hb⟩; have HB8 := Aside0.mk hb; have HA8 := Aside0.mk ho; clear hb ho)
            | (go_at_call 16; (with_reducible refine (same_true A8 c8 A7 c7 cf w8 (Kd.R_reads' HA8.out).2.2 (Kd.R_reads' HA8.out).2.1 (HR7.out _ HB8.out) hle7).mono ?_); rintro e w9 ⟨rfl, hb⟩; have HB9 := Aside0.mk (below_step HB8.out hb); clear hb)
            | (go_at_call 20; (with_reducible refine (pick_calls n _ _ w9 HPK.out).mono ?_); rintro e w10 ⟨rfl, hb⟩; have HB10 := Aside0.mk (below_step HB9.out hb); clear hb))
          go_region_held3 (fun w' => w'.cell? (ad.add q.toNat) = some (.int .i32 x) ∧ w'.cell? (ad.add P.toNat) = some (.int .i32 y)) (first | exact ⟨HCA.out _ (below_step HB10.out (below_drew1 (Below.refl _ _))), HCB.out _ (below_step HB10.out (below_drew1 (Below.refl _ _)))⟩ | exact ⟨HCA.out _ HB10b.out, HCB.out _ HB10b.out⟩) (first
            | (go_at_call 17; (with_reducible refine (joins_calls x y _ w10.drew (HGr.out _ (below_step HB10.out (below_drew1 (Below.refl _ _)))) HJ.out).mono ?_); rintro e w10b ⟨rfl, hb⟩; have HB10b := Aside0.mk (below_step (below_step HB10.out (below_drew1 (Below.refl _ _))) hb); clear hb))
          go_wp2
          have hff := HCUT.out (HJXY.out HJ.out.symm)
          have HF1F : Aside0 (F1 = forms L1) := ⟨by rw [HF1.out, HL1.out, hff.1, HF.out]⟩
          have HF2F : Aside0 (F2 = forms L2) := ⟨by rw [HF2.out, HL2.out, hff.2, HF.out]⟩
          clear hff
          go_region_held3 (fun _ => True) (trivial) (first
            | (go_at_call 14; (with_reducible refine (forms_calls _ c6 L1 F1 w10b.drew (HC1.out _ (below_step HB10b.out (below_drew1 (Below.refl _ _)))) HLC1.out (by omega) (HGr.out _ (below_step HB10b.out (below_drew1 (Below.refl _ _)))) HF1F.out).mono ?_); rintro e w11 ⟨A11, c11, rfl, ho, hb⟩; have HB11 := Aside0.mk (below_step (below_step HB10b.out (below_drew1 (Below.refl _ _))) hb); have HA11 := Aside0.mk ho; clear hb ho)
            | (go_at_call 16; (with_reducible refine (same_true A11 c11 A7 c7 F1 w11 (Kd.R_reads' HA11.out).2.2 (Kd.R_reads' HA11.out).2.1 (HC3.out _ HB11.out) HLC3.out).mono ?_); rintro e w12 ⟨rfl, hb⟩; have HB12 := Aside0.mk (below_step HB11.out hb); clear hb)
            | (go_at_call 14; (with_reducible refine (forms_calls B2 _ L2 F2 w12 (HC2.out _ HB12.out) HLC2.out (by omega) (HGr.out _ HB12.out) HF2F.out).mono ?_); rintro e w13 ⟨A13, c13, rfl, ho, hb⟩; have HB13 := Aside0.mk (below_step HB12.out hb); have HA13 := Aside0.mk ho; clear hb ho)
            | (go_at_call 16; (with_reducible refine (same_true A13 c13 B4 _ F2 w13 (Kd.R_reads' HA13.out).2.2 (Kd.R_reads' HA13.out).2.1 (HC4.out _ HB13.out) HLC4.out).mono ?_); rintro e w14 ⟨rfl, hb⟩; have HB14 := Aside0.mk (below_step HB13.out hb); clear hb)
            | (go_at_call 13; (with_reducible refine (works_calls w14 (HGr.out _ HB14.out)).mono ?_); rintro e w15 ⟨rfl, hb⟩; have HB15 := Aside0.mk (below_step HB14.out hb); clear hb))
          all_goals go_wp2
          all_goals go_ret
          all_goals exact ⟨rfl, below_step HB2.out (below_step HBx.out HB15.out)⟩
      · by_cases z0 : 0 < P
        · have z1 : decide (P < (cu.length : Int)) = false := decide_eq_false (by have := HP.out; omega)
          have z2 : decide (0 < P) = true := decide_eq_true z0
          go_wp2_with (first
            | (go_at_call 14; (with_reducible refine (forms_calls _ c6 cu cf wr (HR6.out _ (Below.refl _ _)) hle6 (by omega) (HGr.out _ (Below.refl _ _)) HF.out).mono ?_); rintro e w8 ⟨A8, c8, rfl, ho, hb⟩; have HB8 := Aside0.mk hb; have HA8 := Aside0.mk ho; clear hb ho)
            | (go_at_call 16; (with_reducible refine (same_true A8 c8 A7 c7 cf w8 (Kd.R_reads' HA8.out).2.2 (Kd.R_reads' HA8.out).2.1 (HR7.out _ HB8.out) hle7).mono ?_); rintro e w9 ⟨rfl, hb⟩; have HB9 := Aside0.mk (below_step HB8.out hb); clear hb)
            | (go_at_call 20; (with_reducible refine (pick_calls n _ _ w9 HPK.out).mono ?_); rintro e w10 ⟨rfl, hb⟩; have HB10 := Aside0.mk (below_step HB9.out hb); clear hb))
          go_quiet (fail)
          have HB10c := Aside0.mk (pw_below_drewN HB10.out nq)
          generalize w10.drewN nq = w10c at HB10c ⊢
          go_wp2
          have hff := HCUT.out (fun h0 h1 => absurd ⟨h0, h1⟩ hin)
          have HF1F : Aside0 (F1 = forms L1) := ⟨by rw [HF1.out, HL1.out, hff.1, HF.out]⟩
          have HF2F : Aside0 (F2 = forms L2) := ⟨by rw [HF2.out, HL2.out, hff.2, HF.out]⟩
          clear hff
          go_region_held3 (fun _ => True) (trivial) (first
            | (go_at_call 14; (with_reducible refine (forms_calls _ c6 L1 F1 w10c.drew (HC1.out _ (below_step HB10c.out (below_drew1 (Below.refl _ _)))) HLC1.out (by omega) (HGr.out _ (below_step HB10c.out (below_drew1 (Below.refl _ _)))) HF1F.out).mono ?_); rintro e w11 ⟨A11, c11, rfl, ho, hb⟩; have HB11 := Aside0.mk (below_step (below_step HB10c.out (below_drew1 (Below.refl _ _))) hb); have HA11 := Aside0.mk ho; clear hb ho)
            | (go_at_call 16; (with_reducible refine (same_true A11 c11 A7 c7 F1 w11 (Kd.R_reads' HA11.out).2.2 (Kd.R_reads' HA11.out).2.1 (HC3.out _ HB11.out) HLC3.out).mono ?_); rintro e w12 ⟨rfl, hb⟩; have HB12 := Aside0.mk (below_step HB11.out hb); clear hb)
            | (go_at_call 14; (with_reducible refine (forms_calls B2 _ L2 F2 w12 (HC2.out _ HB12.out) HLC2.out (by omega) (HGr.out _ HB12.out) HF2F.out).mono ?_); rintro e w13 ⟨A13, c13, rfl, ho, hb⟩; have HB13 := Aside0.mk (below_step HB12.out hb); have HA13 := Aside0.mk ho; clear hb ho)
            | (go_at_call 16; (with_reducible refine (same_true A13 c13 B4 _ F2 w13 (Kd.R_reads' HA13.out).2.2 (Kd.R_reads' HA13.out).2.1 (HC4.out _ HB13.out) HLC4.out).mono ?_); rintro e w14 ⟨rfl, hb⟩; have HB14 := Aside0.mk (below_step HB13.out hb); clear hb)
            | (go_at_call 13; (with_reducible refine (works_calls w14 (HGr.out _ HB14.out)).mono ?_); rintro e w15 ⟨rfl, hb⟩; have HB15 := Aside0.mk (below_step HB14.out hb); clear hb))
          all_goals go_wp2
          all_goals go_ret
          all_goals exact ⟨rfl, below_step HB2.out (below_step HBx.out HB15.out)⟩
        · have z2 : decide (0 < P) = false := decide_eq_false z0
          clear z0
          go_wp2_with (first
            | (go_at_call 14; (with_reducible refine (forms_calls _ c6 cu cf wr (HR6.out _ (Below.refl _ _)) hle6 (by omega) (HGr.out _ (Below.refl _ _)) HF.out).mono ?_); rintro e w8 ⟨A8, c8, rfl, ho, hb⟩; have HB8 := Aside0.mk hb; have HA8 := Aside0.mk ho; clear hb ho)
            | (go_at_call 16; (with_reducible refine (same_true A8 c8 A7 c7 cf w8 (Kd.R_reads' HA8.out).2.2 (Kd.R_reads' HA8.out).2.1 (HR7.out _ HB8.out) hle7).mono ?_); rintro e w9 ⟨rfl, hb⟩; have HB9 := Aside0.mk (below_step HB8.out hb); clear hb)
            | (go_at_call 20; (with_reducible refine (pick_calls n _ _ w9 HPK.out).mono ?_); rintro e w10 ⟨rfl, hb⟩; have HB10 := Aside0.mk (below_step HB9.out hb); clear hb))
          go_quiet (fail)
          have HB10c := Aside0.mk (pw_below_drewN HB10.out nq)
          generalize w10.drewN nq = w10c at HB10c ⊢
          go_wp2
          have hff := HCUT.out (fun h0 h1 => absurd ⟨h0, h1⟩ hin)
          have HF1F : Aside0 (F1 = forms L1) := ⟨by rw [HF1.out, HL1.out, hff.1, HF.out]⟩
          have HF2F : Aside0 (F2 = forms L2) := ⟨by rw [HF2.out, HL2.out, hff.2, HF.out]⟩
          clear hff
          go_region_held3 (fun _ => True) (trivial) (first
            | (go_at_call 14; (with_reducible refine (forms_calls _ c6 L1 F1 w10c.drew (HC1.out _ (below_step HB10c.out (below_drew1 (Below.refl _ _)))) HLC1.out (by omega) (HGr.out _ (below_step HB10c.out (below_drew1 (Below.refl _ _)))) HF1F.out).mono ?_); rintro e w11 ⟨A11, c11, rfl, ho, hb⟩; have HB11 := Aside0.mk (below_step (below_step HB10c.out (below_drew1 (Below.refl _ _))) hb); have HA11 := Aside0.mk ho; clear hb ho)
            | (go_at_call 16; (with_reducible refine (same_true A11 c11 A7 c7 F1 w11 (Kd.R_reads' HA11.out).2.2 (Kd.R_reads' HA11.out).2.1 (HC3.out _ HB11.out) HLC3.out).mono ?_); rintro e w12 ⟨rfl, hb⟩; have HB12 := Aside0.mk (below_step HB11.out hb); clear hb)
            | (go_at_call 14; (with_reducible refine (forms_calls B2 _ L2 F2 w12 (HC2.out _ HB12.out) HLC2.out (by omega) (HGr.out _ HB12.out) HF2F.out).mono ?_); rintro e w13 ⟨A13, c13, rfl, ho, hb⟩; have HB13 := Aside0.mk (below_step HB12.out hb); have HA13 := Aside0.mk ho; clear hb ho)
            | (go_at_call 16; (with_reducible refine (same_true A13 c13 B4 _ F2 w13 (Kd.R_reads' HA13.out).2.2 (Kd.R_reads' HA13.out).2.1 (HC4.out _ HB13.out) HLC4.out).mono ?_); rintro e w14 ⟨rfl, hb⟩; have HB14 := Aside0.mk (below_step HB13.out hb); clear hb)
            | (go_at_call 13; (with_reducible refine (works_calls w14 (HGr.out _ HB14.out)).mono ?_); rintro e w15 ⟨rfl, hb⟩; have HB15 := Aside0.mk (below_step HB14.out hb); clear hb))
          all_goals go_wp2
          all_goals go_ret
          all_goals exact ⟨rfl, below_step HB2.out (below_step HBx.out HB15.out)⟩
    | succ g =>
      have hk : (k : Int) < (l.length : Int) := by have := hgk.out; omega
      have hk0 : (0 : Int) ≤ (k : Int) := by omega
      have hka : (k : Int) < (al.length : Int) := by have := HALL.out; omega
      obtain ⟨ad, rfl, hc0⟩ := Kd.at_int HX.out (k : Int) hk0 hk
      obtain ⟨ad2, rfl, hd0⟩ := Kd.at_int (HAC.out w2 (Below.refl _ _)) (k : Int) hk0 hka
      obtain ⟨x, hx⟩ : ∃ x, x = rd l (k : Int) := ⟨_, rfl⟩
      obtain ⟨y, hy⟩ : ∃ y, y = rd al (k : Int) := ⟨_, rfl⟩
      rw [Int.toNat_natCast, ← hx] at hc0
      rw [Int.toNat_natCast, ← hy] at hd0
      have HCX : Aside0 (∀ w', Below w2.heap.size w2 w' → w'.cell? (ad.add k) = some (.int .i32 x)) := ⟨fun w' hb => ((below_step HB2.out hb).cell (World.block_lt_of_cell? w _ hc0)).trans hc0⟩
      have HDY : Aside0 (∀ w', Below w2.heap.size w2 w' → w'.cell? (ad2.add k) = some (.int .u8 y)) := ⟨fun w' hb => (hb.cell (World.block_lt_of_cell? w2 _ hd0)).trans hd0⟩
      have hcw := HCX.out wr HBx.out
      have hd1 := drop_rd l k (by omega)
      have hd2 := drop_rd al k (by omega)
      rw [← hx] at hd1
      rw [← hy] at hd2
      have eu := HCU.out
      have ef := HCF.out
      rw [hd1, less_cons] at eu
      rw [hd1, hd2, sel] at ef
      have HY0 : Aside0 (jn x = 4 → y = 0) := ⟨fun h => by rw [hy, HAL.out]; exact pass_none l k (by omega) (by rw [← hx]; exact h)⟩
      clear hc0 hd0 hd1 hd2 hx hy HCU HCF
      by_cases h4 : jn x = 4
      · rw [if_pos h4] at eu ef
        obtain rfl : y = 0 := HY0.out h4
        have HEU := Aside0.mk eu
        have HEF := Aside0.mk ef
        have HJ : Aside0 (calamusref02_Joining.f x = some 4) := ⟨congrArg some h4⟩
        clear h4 eu ef
        go_wp2_with (first
          | (go_at_call 19; (with_reducible refine (calamusref02_Joining.calls x 4 wr HJ.out).mono ?_); rintro e w5 ⟨rfl, hb⟩; have HB5 := Aside0.mk (below_step HBx.out hb); have HO65 := Aside0.mk (Kd.R_below HO6.out hb); have HO75 := Aside0.mk (Kd.R_below HO7.out hb); have hd5 := HDY.out w5 HB5.out; clear hb))
        go_roundg g
        case measure => omega
        case rel => exact ⟨k + 1, cu, cf, ⟨by have := hgk.out; omega⟩, by go_num, HEU, HEF, HO65, HO75, HB5⟩
      · rw [if_neg h4] at eu ef
        have hlu : cu.length ≤ 600 := by have := congrArg List.length eu; simp only [List.length_append, List.length_cons] at this; omega
        have hlf : cf.length ≤ 600 := by have := congrArg List.length ef; simp only [List.length_append, List.length_cons] at this; omega
        have HEU : Aside0 ((cu ++ [x]) ++ less (l.drop (k + 1)) = L) := ⟨by rw [← eu]; simp⟩
        have HEF : Aside0 ((cf ++ [y]) ++ sel (l.drop (k + 1)) (al.drop (k + 1)) = F) := ⟨by rw [← ef]; simp⟩
        obtain ⟨t, ht⟩ : ∃ t, t = jn x := ⟨_, rfl⟩
        rw [← ht] at h4
        have HJ : Aside0 (calamusref02_Joining.f x = some t) := ⟨by rw [ht]; rfl⟩
        clear eu ef ht
        go_wp2_with (first
          | (go_at_call 19; (with_reducible refine (calamusref02_Joining.calls x t wr HJ.out).mono ?_); rintro e w5 ⟨rfl, hb⟩; have HB5 := Aside0.mk (below_step HBx.out hb); have HO65 := Aside0.mk (Kd.R_alloc (Kd.R_below HO6.out hb) (.cells (nums .i32 [x]).toArray 21)); have HO75 := Aside0.mk (Kd.R_alloc (Kd.R_below HO7.out hb) (.cells (nums .i32 [x]).toArray 21)); have hc5 := HCX.out w5 HB5.out; have HB5a := Aside0.mk (below_alloc HB5.out (.cells (nums .i32 [x]).toArray 21)); have HX5 := Aside0.mk (lit_C w5 21 .i32 [x] (by simp)); clear hb)
          | ((with_reducible refine gate_builtin (b := .append) (xs := #[.tmp 38, .tmp 43]) rfl ?_); at_builtin; refine Kd.R_append_rows (Kd.int .i32) (w0 := w2) w2.heap.size rfl (.tmp 38) (.tmp 43) 22 21 (.int .i32 0) 4 rfl Tryd.underlying22 info21 rfl (by decide) (by omega) u6 (cu) ([x]) (some ⟨w5.heap.size, 0, none⟩) 1 1 (fun _ => True) (fun k => some k ≠ _) rfl rfl (HO65.out) (HX5.out) (fun _ _ h => h) (fun _ h => ⟨trivial, h⟩) (fun _ _ => trivial) (HB5a.out) (below_size (HB5a.out)) ?aL ?_; (case aL => omega); intro v6 w6 ho0 hb hg hat; have HB6 := Aside0.mk hb; have HO66 := Aside0.mk (Kd.R_alloc ho0 (.cells (nums .u8 [y]).toArray 5)); have HO76 := Aside0.mk (Kd.R_alloc (Kd.R_over' HO75.out (Kd.R_typed HO65.out) (by decide) hg) (.cells (nums .u8 [y]).toArray 5)); have hd6 := HDY.out w6 hb; have HB6a := Aside0.mk (below_alloc hb (.cells (nums .u8 [y]).toArray 5)); have HX6 := Aside0.mk (lit_C w6 5 .u8 [y] (by simp)); clear ho0 hb hg hat)
          | ((with_reducible refine gate_builtin (b := .append) (xs := #[.tmp 45, .tmp 50]) rfl ?_); at_builtin; refine Kd.R_append_rows (Kd.int .u8) (w0 := w2) w2.heap.size rfl (.tmp 45) (.tmp 50) 24 5 (.int .u8 0) 1 rfl Tryd.underlying24 info5' rfl (by decide) (by omega) u7 (cf) ([y]) (some ⟨w6.heap.size, 0, none⟩) 1 1 (fun _ => True) (fun k => some k ≠ _) rfl rfl (HO76.out) (HX6.out) (fun _ _ h => h) (fun _ h => ⟨trivial, h⟩) (fun _ _ => trivial) (HB6a.out) (below_size (HB6a.out)) ?aL ?_; (case aL => omega); intro v7 w7 ho0 hb hg hat; have HB7 := Aside0.mk hb; have HO77 := Aside0.mk ho0; have HO67 := Aside0.mk (Kd.R_over' HO66.out (Kd.R_typed HO76.out) (by decide) hg); clear ho0 hb hg hat))
        go_roundg g
        case measure => omega
        case rel => exact ⟨k + 1, cu ++ [x], cf ++ [y], ⟨by have := hgk.out; omega⟩, by go_num, HEU, HEF, HO67, HO77, HB7⟩
theorem joiningPasses_walk (a0 : Option Addr) (len0 cap0 : Nat) (z0 : List Int) (a1 : Int) (w : World) (w0 : (a0 = none ∧ len0 = 0 ∧ cap0 = 0 ∧ z0 = []) ∨ ∃ x, a0 = some x ∧ len0 ≤ cap0 ∧ cap0 ≤ maxLen ∧ z0.length = cap0 ∧ (∀ i, i < z0.length → w.cell? (x.add i) = some (.int .i32 (z0.getD i 0))) ∧ ∀ n ∈ z0, (Lit.int .i32 n).wf = true) (_w1 : (Lit.int .i64 a1).wf = true) (hG : Glob w) :
    Calls Tryd.prog 5 #[.slice a0 len0 cap0, .int .i64 a1] w fun e w' => e = .returned (.bool true) ∧ Below w.heap.size w w' := by
  obtain ⟨l0, rfl, hr0, hm0, hw0, hc0⟩ := ReadsInt.ofRowC w0
  exact joiningPasses_calls a0 cap0 l0 a1 w (Kd.C_of_reads (d := (0 : Int)) (h1 := fun _ => rfl) hr0) hc0 hG
end Go.Proofs.YtffmdnckapalfaaDoor.JF
