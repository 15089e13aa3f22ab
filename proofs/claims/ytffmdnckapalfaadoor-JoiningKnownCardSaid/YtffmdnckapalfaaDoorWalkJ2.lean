import Derived.RangeFuncNested
import Derived.RangeFuncBound
import Derived.RangeFuncCalls
import Derived.RangeFuncLeaves
import Derived.RangeFuncBox
import Derived.Shelf.Abstract
import Derived.Shelf.RegionOpen
import Derived.WalkKit
import Derived.OwnWalkIn
import Derived.TacticsInMore
import Derived.LoopNIn
import Derived.LoopIn
import Derived.Test.YtffmdnckapalfaaDoorWalkJ1
import Derived.Test.YtffmdnckapalfaaDoorMarksJ
namespace Go.Proofs.YtffmdnckapalfaaDoor.ExtJ
open Go.RowKit Go.Shelf Go.Proofs.YtffmdnckapalfaaDoor.SpecJ Go.Proofs.YtffmdnckapalfaaDoorW.PrintWords
attribute [local go_sem] Oper.semAt_some

def lastI : Option Nat → Int
  | none => -1
  | some a => a
abbrev Pr (n : Nat) := { x : Nat × Nat // x.1 < x.2 ∧ x.2 < n }
set_option maxRecDepth 100000 in
set_option maxHeartbeats 2000000 in
theorem nb1_in (n : Nat) (hn : 1 ≤ n) (l Bs : Nat) (w₀ : World) (A : Option Addr) (c : Nat) (xs : List Int) (hxs : Kd.C (Kd.int .i32) w₀ A xs.length xs) (hG : Glob w₀) (hreach : xs.length ≤ 1000000)
    (J Jx : List (Pr xs.length) → World → Prop) (W : World) (hW : Below w₀.heap.size w₀ W) (hJ : AbidesFrom W.heap.size J)
    (hY : ∀ (pre : List (Pr xs.length)) (x : Pr xs.length) (W : World), J pre W → pre.length < xs.length → YieldAt Fence.wide (n - 1) Tryd.prog l #[.int .i64 (x.1.1 : Int), .int .i64 (x.1.2 : Int)] W fun e W' =>
      (e = .returned (.bool true) ∧ J (pre ++ [x]) W' ∧ Below w₀.heap.size W W') ∨ (e = .returned (.bool false) ∧ Jx (pre ++ [x]) W'))
    (hBs : W.cell? ⟨Bs, 0, none⟩ = some (.slice A xs.length c)) (h0 : J [] W) :
    CallsIn Fence.wide n Tryd.prog 45 #[.func (.yield l) #[] #[], .pointer (some ⟨Bs, 0, none⟩)] W fun e W' => (∃ v, e = .returned v) ∧
      ((∃ ys : List (Pr xs.length), ys.map Subtype.val = prsUp (tyAt xs) xs.length ∧ J ys W') ∨ (∃ pre, True ∧ Jx pre W')) := by
  refine callsIn_of_wp Tryd.func45 rfl trivial ?_ rfl
  simp only [Tryd.ntmps45, List.size_toArray, List.length_cons, List.length_nil, Nat.reduceAdd, Nat.reduceSub, Array.replicate_succ, Array.replicate_zero, List.push_toArray, List.append_toArray, List.nil_append, List.cons_append]
  gi_wp2
  gi_loopw [3, 8] (fun la i wr => ∃ k : Nat, k ≤ xs.length ∧ la = .int .i64 (lastI (lastUp (tyAt xs) k)) ∧ i = .int .i64 k ∧ (∃ pre : List (Pr xs.length), pre.map Subtype.val = prsUp (tyAt xs) k ∧ J pre wr) ∧ Below w₀.heap.size w₀ wr)
    (fun _ i _ => xs.length - (intOf i).toNat)
  case atStart => exact ⟨0, Nat.zero_le _, rfl, rfl, ⟨[], rfl, h0⟩, hW⟩
  case round =>
    obtain ⟨k, hk, rfl, rfl, ⟨pre, hpre, hJs⟩, hB⟩ := hrel
    by_cases hlt : k < xs.length
    · have hGr := Aside0.mk (hG.below hB)
      obtain ⟨ad, rfl, hc0⟩ := Kd.at_int (Kd.C_below hxs hB) (k : Int) (by omega) (by omega)
      obtain ⟨y, hy⟩ : ∃ y, y = xs[k]?.getD 0 := ⟨_, rfl⟩
      have hc : wr.cell? (ad.add k) = some (.int .i32 y) := by rw [hy]; simpa [rd] using hc0
      have hty : tyAt xs k = jn y := by rw [hy]; rfl
      clear hc0 hy
      have hxs' := Aside0.mk hxs
      have hG' := Aside0.mk hG
      have hBs' := Aside0.mk hBs
      clear hxs hG hBs
      by_cases h4 : jn y = 4
      · have hla : lastUp (tyAt xs) (k + 1) = lastUp (tyAt xs) k := by simp [lastUp, hty, h4]
        have hpr : prsUp (tyAt xs) (k + 1) = prsUp (tyAt xs) k := by simp [prsUp, hty, h4]
        have Hl := Aside0.mk hla
        have Hp := Aside0.mk hpr
        have Hpre := Aside0.mk hpre
        have e4 : (jn y == 4) = true := by simp [h4]
        clear hla hpr hty h4 hpre
        gi_wp2_with (refine ⟨trivial, ?_⟩; gi_at_call 30; refine (callsIn_wide.2 (ucd_Joining.calls _ _ _ hGr.out rfl)).mono ?_; rintro e w' ⟨rfl, hb⟩)
        go_roundw
        case rel => exact ⟨k + 1, by omega, by rw [Hl.out], by go_num, ⟨pre, by rw [Hp.out]; exact Hpre.out, hJ pre wr w' none hJs (grown_of_below hb none) (fun r e => by cases e)⟩, hB.trans (hb.mono hB.size)⟩
        case measure => simp [intOf]; omega
      · have hla : lastUp (tyAt xs) (k + 1) = some k := by simp [lastUp, hty, h4]
        have e4 : (jn y == 4) = false := by simp [h4]
        cases hl : lastUp (tyAt xs) k with
        | none =>
          have hpr : prsUp (tyAt xs) (k + 1) = prsUp (tyAt xs) k := by simp [prsUp, hty, h4, hl]
          have Hl := Aside0.mk hla
          have Hp := Aside0.mk hpr
          have Hpre := Aside0.mk hpre
          clear hla hpr hty h4 hpre hl
          simp only [lastI]
          gi_wp2_with (refine ⟨trivial, ?_⟩; gi_at_call 30; refine (callsIn_wide.2 (ucd_Joining.calls _ _ _ hGr.out rfl)).mono ?_; rintro e w' ⟨rfl, hb⟩)
          refine ⟨fun _ h => (by cases h), ?_⟩
          gi_wp2
          go_roundw
          case rel => exact ⟨k + 1, by omega, by rw [Hl.out], by go_num, ⟨pre, by rw [Hp.out]; exact Hpre.out, hJ pre wr w' none hJs (grown_of_below hb none) (fun r e => by cases e)⟩, hB.trans (hb.mono hB.size)⟩
          case measure => simp [intOf]; omega
        | some a =>
          have ha : a < k := lastUp_lt _ _ _ hl
          have hpr : prsUp (tyAt xs) (k + 1) = prsUp (tyAt xs) k ++ [(a, k)] := by simp [prsUp, hty, h4, hl]
          have hlen : pre.length < xs.length := by
            have := congrArg List.length hpre
            have h2 := prsUp_length (tyAt xs) k
            simp at this; omega
          have Hl := Aside0.mk hla
          have Hp := Aside0.mk hpr
          have Hpre := Aside0.mk hpre
          have HJ := Aside0.mk hJ
          have HY := Aside0.mk (fun W1 (h : J pre W1) => hY pre ⟨(a, k), ha, hlt⟩ W1 h hlen)
          clear hla hpr hty h4 hpre hl hlen hJ hY
          simp only [lastI]
          gi_wp2_with (refine ⟨trivial, ?_⟩; gi_at_call 30; refine (callsIn_wide.2 (ucd_Joining.calls _ _ _ hGr.out rfl)).mono ?_; rintro e w' ⟨rfl, hb⟩; have hJ1 := HJ.out pre wr w' none hJs (grown_of_below hb none) (fun r e => by cases e); obtain ⟨fn, tmps, assign, body, hy, hR⟩ := HY.out w' hJ1; dsimp only at hy)
          refine hR.mono ?_
          rintro e W3 (⟨rfl, hJ3, hk3⟩ | ⟨rfl, hJx3⟩)
          · gi_wp2
            go_roundw
            case rel => exact ⟨k + 1, by omega, by rw [Hl.out], by go_num, ⟨_, by rw [Hp.out, List.map_append, Hpre.out]; rfl, hJ3⟩, (hB.trans (hb.mono hB.size)).trans hk3⟩
            case measure => simp [intOf]; omega
          · gi_wp2
            refine bodyPost_ret (results_none rfl _ _ _) rfl ?_
            exact ⟨⟨_, rfl⟩, .inr ⟨_, trivial, hJx3⟩⟩
    · obtain rfl : k = xs.length := by omega
      have Hpre := Aside0.mk hpre
      clear hpre
      gi_wp2
      go_end0
      exact ⟨⟨_, rfl⟩, .inl ⟨pre, Hpre.out, hJs⟩⟩

theorem neighbours_in (n : Nat) (A : Option Addr) (len cap : Nat) (w : World) :
    CallsIn Fence.wide n Tryd.prog 29 #[.slice A len cap] w fun e w' => e = .returned (.func (.func 45) #[] #[.pointer (some ⟨w.heap.size, 0, none⟩)]) ∧ w' = w.alloc (.cells #[.slice A len cap] 22) := by
  refine callsIn_of_wp Tryd.func29 rfl trivial ?_ rfl
  simp only [Tryd.ntmps29, List.size_toArray, List.length_cons, List.length_nil, Nat.reduceAdd, Nat.reduceSub, Array.replicate_succ, Array.replicate_zero, List.push_toArray, List.append_toArray, List.nil_append, List.cons_append]
  gi_wp2
  go_ret
  exact ⟨rfl, rfl⟩
end Go.Proofs.YtffmdnckapalfaaDoor.ExtJ
