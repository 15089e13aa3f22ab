/- The reader of package bin: slices.Clone of a row of bytes. Conditions: the row is there. -/
import Derived.Test.YtmfgahhcpmbjjaaWB8
import Derived.Lib.SliceRun
namespace Go.Proofs.Ytmfgahhcpmbjjaa.WB
open Go.RowKit Go.Proofs.YtmfgahhcpmbjjaaW.PrintWords
theorem R_lit (W : World) (base : Nat) (e : TypeId) (k : IntKind) (cs : List Int) (hb : base ≤ W.heap.size) (hm : cs.length ≤ 1000000) :
    Kd.R (Kd.int k) e (W.alloc (.cells (nums k cs).toArray e)) base (fun _ => True) (.slice (some ⟨W.heap.size, 0, none⟩) cs.length cs.length) cs :=
  Kd.R_of_own (own_lit W base e k cs hb (by omega)) (fun _ _ => trivial)
theorem clone_calls (A : Option Addr) (xs : List Int) (c : Nat) (w : World) (hx : Kd.C (Kd.int .u8) w A xs.length xs) (hc : xs.length ≤ c) (hl : xs.length ≤ 1000000) :
    Calls Try.prog 26 #[.slice A xs.length c] w fun e w' => ∃ v, e = .returned v ∧ Kd.R (Kd.int .u8) 5 w' w.heap.size (fun _ => True) v xs ∧ Below w.heap.size w w' := by
  have HR := Aside0.mk hx
  clear hx
  have HB := Aside0.mk (Below.refl w.heap.size w)
  have hE : ∀ (w : World) (A : Option Addr) (n c : Nat), (binOp .eql 22 (.slice A n c) (.slice none 0 0)).run Try.prog w = .ok (.bool A.isNone) w := fun w A n c => Lib.run_eql_slice_nil w 22 5 A n c 0 0 Try.underlying22
  have hu22 := Try.underlying22
  cases A with
  | none =>
    obtain rfl : xs = [] := by
      rcases Nat.eq_zero_or_pos xs.length with h0 | h0
      · exact List.eq_nil_of_length_eq_zero h0
      · obtain ⟨ad, h, _⟩ := HR.out.2.2 h0
        cases h
    go_enter Try.func26, Try.ntmps26
    go_wp2
    go_ret
    exact ⟨_, rfl, Kd.R_nil _ _ _ _ _, Below.refl _ _⟩
  | some ad =>
    have HO := Aside0.mk (R_lit w w.heap.size 5 .u8 [] (Nat.le_refl _) (by simp))
    have HA := Aside0.mk (Kd.C_alloc HR.out (.cells (nums .u8 []).toArray 5))
    have HB1 := Aside0.mk (below_alloc HB.out (.cells (nums .u8 []).toArray 5))
    go_enter Try.func26, Try.ntmps26
    go_wp2_with (first | ((with_reducible refine gate_builtin (b := .append) (xs := #[.tmp 5, .tmp 6]) rfl ?_); at_builtin; refine Kd.R_append_rows (Kd.int .u8) (w0 := w) w.heap.size rfl (.tmp 5) (.tmp 6) 22 5 (.int .u8 0) 1 rfl Try.underlying22 info5 rfl (by decide) (by omega) (.slice (some ⟨w.heap.size, 0, none⟩) 0 0) ([] : List Int) xs (some ad) xs.length c (fun _ => True) (fun _ => False) rfl rfl HO.out HA.out (fun _ _ h => h) (fun _ h => h.elim) (fun _ _ => trivial) HB1.out (below_size HB1.out) ?aL ?_; (case aL => simp; omega); intro v1 w1 ho0 hb hg hat))
    go_ret
    exact ⟨_, rfl, ho0, hb⟩
end Go.Proofs.Ytmfgahhcpmbjjaa.WB
