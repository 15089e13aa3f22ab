/- slices.Chunk of a row of bytes, two at a time: the iterator. Conditions: the row is there. -/
import Derived.RangeFuncNested
import Derived.RangeFuncBound
import Derived.RangeFuncCalls
import Derived.RangeFuncLeaves
import Derived.RangeFuncBox
import Derived.Shelf.Abstract
import Derived.Shelf.RegionOpen
import Derived.WalkKit
import Derived.OwnWalkIn
import Derived.TacticsInMore
import Derived.LoopNIn
import Derived.LoopIn
import Derived.Laws.EntriesVeiled
import Derived.Test.YtmfgahhcpmbjjaaWB15
namespace Go.Proofs.Ytmfgahhcpmbjjaa.WB
open Go.RowKit Go.Shelf Go.Proofs.YtmfgahhcpmbjjaaW.PrintWords Go.Proofs.YtmfgahhcpmbjjaaW.PrintLast Go.Proofs.YtmfgahhcpmbjjaaW.PrintMore
attribute [local go_sem] Oper.semAt_some min2_int min_two
theorem chunk_in (n : Nat) (A : Option Addr) (len cap : Nat) (w : World) :
    CallsIn Fence.wide n Try.prog 28 #[.slice A len cap, .int .i64 2] w fun e w' => e = .returned (.func (.func 34) #[] #[.pointer (some ⟨w.heap.size, 0, none⟩), .pointer (some ⟨w.heap.size + 1, 0, none⟩)]) ∧ w' = (w.alloc (.cells #[.slice A len cap] 22)).alloc (.cells #[.int .i64 2] 3) := by
  have hu3 := Try.underlying3
  have hu22 := Try.underlying22
  refine callsIn_of_wp Try.func28 rfl trivial ?_ rfl
  simp only [Try.ntmps28, List.size_toArray, List.length_cons, List.length_nil, Nat.reduceAdd, Nat.reduceSub, Array.replicate_succ, Array.replicate_zero, List.push_toArray, List.append_toArray, List.nil_append, List.cons_append]
  gi_wp2
  go_ret
  exact ⟨rfl, rfl⟩
/-- The j-th two bytes of a row. -/
def cutAt (ad : Addr) (j : Nat) : Value := .slice (some (ad.add (2 * j))) 2 2
/-- What lay below b is as it was, and so are the two boxes. -/
def KS (b S N : Nat) (A B : World) : Prop := Below b A B ∧ B.cell? ⟨S, 0, none⟩ = A.cell? ⟨S, 0, none⟩ ∧ B.cell? ⟨N, 0, none⟩ = A.cell? ⟨N, 0, none⟩
theorem KS.trans {b S N : Nat} {A B C : World} (h : KS b S N A B) (k : KS b S N B C) : KS b S N A C := ⟨h.1.trans k.1, k.2.1.trans h.2.1, k.2.2.trans h.2.2⟩
set_option maxRecDepth 100000 in
set_option maxHeartbeats 2000000 in
theorem chunk1_in (m : Nat) (n : Nat) (hn : 1 ≤ n) (l S N : Nat) (w₀ : World) (A : Option Addr) (ad : Addr) (hA : 0 < m → A = some ad) (c : Nat) (hc : 2 * m ≤ c) (hreach : m ≤ 1000000)
    (J Jx : List (Fin m) → World → Prop) (W : World) (hW : Below w₀.heap.size w₀ W) (hJ : AbidesFrom W.heap.size J)
    (hY : ∀ (pre : List (Fin m)) (x : Fin m) (W : World), J pre W → pre.length < m → YieldAt Fence.wide (n - 1) Try.prog l #[cutAt ad x.1] W fun e W' =>
      (e = .returned (.bool true) ∧ J (pre ++ [x]) W' ∧ KS w₀.heap.size S N W W') ∨ (e = .returned (.bool false) ∧ Jx (pre ++ [x]) W'))
    (hS : W.cell? ⟨S, 0, none⟩ = some (.slice A (2 * m) c)) (hN : W.cell? ⟨N, 0, none⟩ = some (.int .i64 2)) (h0 : J [] W) :
    CallsIn Fence.wide n Try.prog 34 #[.func (.yield l) #[] #[], .pointer (some ⟨S, 0, none⟩), .pointer (some ⟨N, 0, none⟩)] W fun e W' => (∃ v, e = .returned v) ∧
      ((∃ ys : List (Fin m), ys.map Fin.val = List.range m ∧ J ys W') ∨ (∃ pre, True ∧ Jx pre W')) := by
  have hu3 := Try.underlying3
  have hu22 := Try.underlying22
  refine callsIn_of_wp Try.func34 rfl trivial ?_ rfl
  simp only [Try.ntmps34, List.size_toArray, List.length_cons, List.length_nil, Nat.reduceAdd, Nat.reduceSub, Array.replicate_succ, Array.replicate_zero, List.push_toArray, List.append_toArray, List.nil_append, List.cons_append]
  gi_wp2
  gi_loopw [4] (fun s4 wr => ∃ k : Nat, k ≤ m ∧ s4 = .int .i64 ((2 * k : Nat) : Int) ∧ (∃ pre : List (Fin m), pre.map Fin.val = List.range k ∧ J pre wr) ∧ Below w₀.heap.size w₀ wr ∧ wr.cell? ⟨S, 0, none⟩ = some (.slice A (2 * m) c) ∧ wr.cell? ⟨N, 0, none⟩ = some (.int .i64 2))
    (fun i _ => 2 * m - (intOf i).toNat)
  case atStart => exact ⟨0, Nat.zero_le _, rfl, ⟨[], rfl, h0⟩, hW, hS, hN⟩
  case round =>
    clear hS hN
    obtain ⟨k, hk, rfl, ⟨pre, hpre, hJs⟩, hB, hs, hN⟩ := hrel
    by_cases hlt : k < m
    · obtain rfl := hA (by omega)
      have hi : ((2 * k : Nat) : Int) < ((2 * m : Nat) : Int) := by omega
      obtain ⟨i0, hi0, _, hsz, _⟩ := info_parts info5
      obtain ⟨A', hcut, _⟩ := print_cut (P := Try.prog) 22 5 .i64 Try.underlying22 hi0 hsz (some ad) (2 * m) c (2 * k) (by omega)
      have hmin : min (2 : Int) ((2 * m - 2 * k : Nat) : Int) = 2 := by omega
      gi_wp2
      have hpl : pre.length = k := by have := congrArg List.length hpre; simpa using this
      have q1 : (0 : Int) ≤ ((2 * k : Nat) : Int) := by omega
      have q2 : ((2 * k : Nat) : Int) ≤ ((2 * k : Nat) : Int) + 2 := by omega
      have q3 : ((2 * k : Nat) : Int) + 2 ≤ (c : Int) := by omega
      gi_region
      have hJ1 := hJ pre wr wr.drew none hJs (grown_of_below (below_drew1 (Below.refl _ _)) none) (fun r e => by cases e)
      obtain ⟨fn, tmps, assign, body, hy, hR⟩ := hY pre ⟨k, hlt⟩ wr.drew hJ1 (by omega)
      dsimp only [cutAt] at hy
      have HR := Aside0.mk hR
      have hB2 := Aside0.mk (below_drew1 hB)
      have HJJ := Aside0.mk hJ
      have HYY := Aside0.mk hY
      clear hR hcut hJs hJ hY hJ1
      have hs2 : wr.drew.cell? ⟨S, 0, none⟩ = _ := hs
      have hN2 : wr.drew.cell? ⟨N, 0, none⟩ = _ := hN
      gi_wp2
      refine HR.out.mono ?_
      rintro e W3 (⟨rfl, hJ3, hk3⟩ | ⟨rfl, hJx3⟩)
      · have hs3 := hk3.2.1.trans hs2
        have hN3 := hk3.2.2.trans hN2
        gi_wp2
        go_roundw
        case rel => exact ⟨k + 1, by omega, by first | go_num | (congr 1; omega), ⟨pre ++ [⟨k, hlt⟩], by rw [List.map_append, hpre, List.range_succ]; rfl, hJ3⟩, hB2.out.trans hk3.1, hs3, hN3⟩
        case measure => simp [intOf]; omega
      · gi_wp2
        refine bodyPost_ret (results_none rfl _ _ _) rfl ?_
        exact ⟨⟨_, rfl⟩, .inr ⟨_, trivial, hJx3⟩⟩
    · obtain rfl : k = m := by omega
      have hi : ¬ ((2 * k : Nat) : Int) < ((2 * k : Nat) : Int) := by omega
      gi_wp2
      go_end0
      exact ⟨⟨_, rfl⟩, .inl ⟨pre, hpre, hJs⟩⟩
theorem chunk_stops (m n : Nat) (hn : 1 ≤ n) (S N : Nat) (w₀ : World) (A : Option Addr) (ad : Addr) (hA : 0 < m → A = some ad) (c : Nat) (hc : 2 * m ≤ c) (hreach : m ≤ 1000000)
    (w : World) (hw : Below w₀.heap.size w₀ w) (hS : w.cell? ⟨S, 0, none⟩ = some (.slice A (2 * m) c)) (hN : w.cell? ⟨N, 0, none⟩ = some (.int .i64 2)) :
    SeqStopsK Fence.wide n Try.prog 34 #[.pointer (some ⟨S, 0, none⟩), .pointer (some ⟨N, 0, none⟩)] (fun x : Fin m => #[cutAt ad x.1]) (KS w₀.heap.size S N)
      (fun ys => ys.map Fin.val = List.range m) (fun _ => True) m w := fun l J Jx W hW hJ _ hY h0 =>
  chunk1_in m n hn l S N w₀ A ad hA c hc hreach J Jx W (hw.trans (hW.mono hw.size)) hJ hY ((hW.cell (World.block_lt_of_cell? w _ hS)).trans hS) ((hW.cell (World.block_lt_of_cell? w _ hN)).trans hN) h0
end Go.Proofs.Ytmfgahhcpmbjjaa.WB
