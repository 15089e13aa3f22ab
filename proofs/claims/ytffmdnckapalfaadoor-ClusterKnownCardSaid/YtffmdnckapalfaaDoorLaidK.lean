/- What the listed tables read as, cell by cell. -/
import Derived.Test.YtffmdnckapalfaaDoorRows
import Derived.Test.YtffmdnckapalfaaDoorSpecC
import Derived.ProofKit
import Derived.LaidMore
import Derived.OpenShut
import Derived.Deep.Strs
import Derived.MakeChecks
namespace Go.Proofs.YtffmdnckapalfaaDoor.LaidK
open Go Go.Deep Go.ChangeShapes Go.ChangeAt Go.Proofs.YtffmdnckapalfaaDoor.SpecJ Go.Proofs.YtffmdnckapalfaaDoor.SpecC
section
variable {H : Type} {enc : TypeId × Value → H} {w : World} {base : Nat} {sp : Nat → Bool} {held : Bool}
def spD {H : Type} (x : Sp) : DataW H := .agg [.lit (.int .i32 x.a), .lit (.int .i32 x.b), .lit (.int .u8 x.v)]
theorem c64 : Tryd.prog.cellsOf 64 = 3 := by kernel_rfl
theorem c21 : Tryd.prog.cellsOf 21 = 1 := by kernel_rfl
theorem c5 : Tryd.prog.cellsOf 5 = 1 := by kernel_rfl
theorem spans_of_trod {n T fuel : Nat} {cs : List Value} {l : List Sp} {q : List MemPlace} (hT : Tryd.prog.underlying T = some (.array n 64)) (hn : l.length = n)
    (h : DataW.trod enc Tryd.prog w base sp held fuel T cs = some (.agg (l.map spD), q)) (i : Nat) (x : Sp) (hx : l[i]? = some x) :
    cs[i * 3]? = some (.int .i32 x.a) ∧ cs[i * 3 + 1]? = some (.int .i32 x.b) ∧ cs[i * 3 + 2]? = some (.int .u8 x.v) := by
  obtain ⟨xs, m, _, he, hl, hlen, hel⟩ := DataW.trod_array hT h
  simp only [Prod.mk.injEq, DataW.agg.injEq] at he
  have hi : i < n := by rw [← hn]; exact (List.getElem?_eq_some_iff.1 hx).1
  have h1 := hel i hi
  rw [c64] at h1
  have h2 : (xs.map (·.1))[i]? = some (spD x) := by rw [← he.1, List.getElem?_map, hx]; rfl
  rw [List.getElem?_map, Option.map_eq_some_iff] at h2
  obtain ⟨y, hy, hyd⟩ := h2
  rw [hy] at h1
  obtain ⟨y0, y1, y2, k, rfl, hlc, e0, e1, e2⟩ := trod_struct3 Tryd.underlying64 h1
  dsimp only at e0 e1 e2
  rw [c21] at e0 e1
  rw [c5] at e2
  obtain ⟨a, ha, rfl, _⟩ := DataW.trod_int Tryd.underlying21 e0
  obtain ⟨b, hb, rfl, _⟩ := DataW.trod_int Tryd.underlying21 e1
  obtain ⟨v, hv, rfl, _⟩ := DataW.trod_int Tryd.underlying5 e2
  simp only [spD, DataW.agg.injEq, List.cons.injEq, DataW.lit.injEq, Lit.int.injEq, true_and, and_true] at hyd
  obtain ⟨rfl, rfl, rfl⟩ := hyd
  have get : ∀ (j : Nat) (c : Value), (((cs.drop (i * 3)).take 3).drop j).take 1 = [c] → j < 3 → cs[i * 3 + j]? = some c := by
    intro j c hc hj
    have := congrArg (fun l : List Value => l[0]?) hc
    simp only [List.getElem?_take, List.getElem?_drop] at this
    simpa [hj] using this
  exact ⟨get 0 _ ha (by omega), get 1 _ hb (by omega), get 2 _ hv (by omega)⟩
end
theorem laidJ : (Rows.laid_calamus_ucd_joinings : DataW Unit) = .agg (jtab.map spD) := by kernel_rfl
theorem laidC : (Rows.laid_calamus_ucd_clusters : DataW Unit) = .agg (ctab.map spD) := by kernel_rfl
theorem gJ : Tryd.prog.globalNamed "calamus/ucd.joinings" = some 1 := by kernel_rfl
theorem gF : Tryd.prog.globalNamed "calamus/joining.forms" = some 0 := by kernel_rfl
theorem gC : Tryd.prog.globalNamed "calamus/ucd.clusters" = some 2 := by kernel_rfl
theorem tJ : (Tryd.prog.globals[1]?).map (·.type) = some 65 := by kernel_rfl
theorem tF : (Tryd.prog.globals[0]?).map (·.type) = some 43 := by kernel_rfl
theorem tC : (Tryd.prog.globals[2]?).map (·.type) = some 68 := by kernel_rfl
theorem c42 : Tryd.prog.cellsOf 42 = 2 := by kernel_rfl
section
variable {H : Type} {enc : TypeId × Value → H} {w : World} {base : Nat} {sp : Nat → Bool} {held : Bool}
theorem pair_of_trod {fuel : Nat} {cs : List Value} {a b : Int} {q : List MemPlace}
    (h : DataW.trod enc Tryd.prog w base sp held fuel 42 cs = some (.agg [.lit (.int .u8 a), .lit (.int .u8 b)], q)) : cs[0]? = some (.int .u8 a) ∧ cs[1]? = some (.int .u8 b) := by
  obtain ⟨xs, m, _, he, hl, hlen, hel⟩ := DataW.trod_array Tryd.underlying42 h
  simp only [Prod.mk.injEq, DataW.agg.injEq] at he
  have h0 := hel 0 (by omega)
  have h1 := hel 1 (by omega)
  rw [c5] at h0 h1
  match xs, hlen, he, h0, h1 with
  | [x0, x1], _, he, h0, h1 =>
    simp only [List.map_cons, List.map_nil, List.cons.injEq] at he
    simp only [List.getElem?_cons_zero, List.getElem?_cons_succ] at h0 h1
    obtain ⟨n0, e0, rfl, _⟩ := DataW.trod_int Tryd.underlying5 h0
    obtain ⟨n1, e1, rfl, _⟩ := DataW.trod_int Tryd.underlying5 h1
    simp at he
    obtain ⟨⟨rfl, rfl⟩, _⟩ := he
    have g0 := congrArg (fun l : List Value => l[0]?) e0
    have g1 := congrArg (fun l : List Value => l[0]?) e1
    simp only [List.getElem?_take, List.getElem?_drop] at g0 g1
    exact ⟨by simpa using g0, by simpa using g1⟩
theorem four_of_trod {fuel : Nat} {cs : List Value} {a b c d : Int} {q : List MemPlace}
    (h : DataW.trod enc Tryd.prog w base sp held fuel 43 cs = some (.agg [.agg [.lit (.int .u8 a), .lit (.int .u8 b)], .agg [.lit (.int .u8 c), .lit (.int .u8 d)]], q)) :
    cs[0]? = some (.int .u8 a) ∧ cs[1]? = some (.int .u8 b) ∧ cs[2]? = some (.int .u8 c) ∧ cs[3]? = some (.int .u8 d) := by
  obtain ⟨xs, m, _, he, hl, hlen, hel⟩ := DataW.trod_array Tryd.underlying43 h
  simp only [Prod.mk.injEq, DataW.agg.injEq] at he
  have h0 := hel 0 (by omega)
  have h1 := hel 1 (by omega)
  rw [c42] at h0 h1
  match xs, hlen, he, h0, h1 with
  | [(x0, q0), (x1, q1)], _, he, h0, h1 =>
    simp only [List.map_cons, List.map_nil, List.cons.injEq] at he
    obtain ⟨⟨rfl, rfl, _⟩, _⟩ := he
    simp only [List.getElem?_cons_zero, List.getElem?_cons_succ] at h0 h1
    obtain ⟨g0, g1⟩ := pair_of_trod h0
    obtain ⟨g2, g3⟩ := pair_of_trod h1
    simp only [List.getElem?_take, List.getElem?_drop] at g0 g1 g2 g3
    exact ⟨by simpa using g0, by simpa using g1, by simpa using g2, by simpa using g3⟩
end
end Go.Proofs.YtffmdnckapalfaaDoor.LaidK
