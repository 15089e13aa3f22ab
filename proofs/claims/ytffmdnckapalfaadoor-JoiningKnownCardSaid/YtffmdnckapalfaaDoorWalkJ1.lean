import Derived.Test.YtffmdnckapalfaaDoorSpecJ
import Derived.Test.YtffmdnckapalfaaDoorWalkT
namespace Go.Proofs.YtffmdnckapalfaaDoor.ExtJ
open Go.RowKit Go.Proofs.YtffmdnckapalfaaDoor.U Go.Proofs.YtffmdnckapalfaaDoor.SpecJ Go.Proofs.YtffmdnckapalfaaDoorW.PrintWords Go.Proofs.YtffmdnckapalfaaDoor.T

structure Glob (w : World) : Prop where
  cells : ∀ i x, jtab[i]? = some x → w.cell? ⟨1, i * 3, none⟩ = some (.int .i32 x.a) ∧ w.cell? ⟨1, i * 3 + 1, none⟩ = some (.int .i32 x.b) ∧ w.cell? ⟨1, i * 3 + 2, none⟩ = some (.int .u8 x.v)
  f0 : w.cell? ⟨0, 0, none⟩ = some (.int .u8 1)
  f1 : w.cell? ⟨0, 1, none⟩ = some (.int .u8 2)
  f2 : w.cell? ⟨0, 2, none⟩ = some (.int .u8 4)
  f3 : w.cell? ⟨0, 3, none⟩ = some (.int .u8 3)
theorem Glob.below {w w1 : World} (h : Glob w) (hb : Below w.heap.size w w1) : Glob w1 :=
  ⟨fun i x hx => ⟨pw_cell_below hb (h.cells i x hx).1, pw_cell_below hb (h.cells i x hx).2.1, pw_cell_below hb (h.cells i x hx).2.2⟩, pw_cell_below hb h.f0, pw_cell_below hb h.f1, pw_cell_below hb h.f2, pw_cell_below hb h.f3⟩

theorem of_jn (r : Int) : ucd_of.f 100 r (jtab.map toS) 0 = some (jn r) := by
  have hl : jtab.length = 62 := by decide
  have h := look_loop r 0 jtab (by omega) 62 99 0 (by omega) (by omega)
  unfold ucd_of.f jn
  by_cases h0 : r < 0
  · rw [if_pos h0, if_pos h0]; simp [ucd_of.j0]
  · rw [if_neg h0, if_neg h0]
    by_cases h1 : r ≥ 1114112
    · rw [if_pos h1]; simp [ucd_of.j0, h1]
    · rw [if_neg h1]
      simp only [ucd_of.j0]
      rw [if_neg (by simpa using h1), List.length_map]
      exact h

theorem Glob.reads {w : World} (h : Glob w) : Kd.C k64 w (some ⟨1, 0, none⟩) (jtab.map toS).length (jtab.map toS) := by
  refine ⟨rfl, by simp; decide, fun _ => ⟨_, rfl, fun j p hj => ?_⟩⟩
  rw [List.getElem?_map, Option.map_eq_some_iff] at hj
  obtain ⟨x, hx, rfl⟩ := hj
  obtain ⟨h1, h2, h3⟩ := h.cells j x hx
  refine ⟨_, rfl, k64_mk w (toS x), ?_⟩
  intro i u hu
  have hsz : k64.sz = 3 := rfl
  rw [hsz, add_plain]
  rcases i with _ | _ | _ | i
  · simp at hu; subst hu; exact h1
  · simp at hu; subst hu; exact h2
  · simp at hu; subst hu; exact h3
  · simp at hu

def ucd_Joining.f (a0 : Int) : Option Int := some (jn a0)
set_option maxHeartbeats 400000 in
theorem ucd_Joining.calls (a0 : Int) (r : Int) (w : World) (hG : Glob w) (h : ucd_Joining.f a0 = some r) :
    Calls Tryd.prog 30 #[.int .i32 a0] w fun e w' => e = .returned (.int .u8 r) ∧ Below w.heap.size w w' := by
  obtain rfl := Option.some.inj h
  clear h
  have hn : (jtab.map toS).length = 62 := by decide
  have C0 := ucd_of.calls 100 a0 (some ⟨1, 0, none⟩) 62 (jtab.map toS) 0 (jn a0) w hG.reads (by rw [hn]; exact Nat.le_refl _) (of_jn a0)
  rw [hn] at C0
  have C := Aside0.mk C0
  clear C0 hn hG
  go_enter Tryd.func30, Tryd.ntmps30
  go_wp2_with (go_at_call 46; refine C.out.mono ?_; rintro e w' ⟨rfl, hb⟩)
  go_ret
  exact ⟨rfl, hb⟩
end Go.Proofs.YtffmdnckapalfaaDoor.ExtJ
