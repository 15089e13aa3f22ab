/- ClusterKnown: the examples of the chapter; all pairs of classes; long rows. Conditions: the program's tables read as laid (Glob). -/
import Derived.Test.YtffmdnckapalfaaDoorCx4
import Derived.Test.YtffmdnckapalfaaDoorCx5
import Derived.Test.YtffmdnckapalfaaDoorPureClusterBounds
import Derived.Test.YtffmdnckapalfaaDoorPureClusterParted
import Derived.Test.YtffmdnckapalfaaDoorPureClusterAlone
import Derived.Test.YtffmdnckapalfaaDoorPureClusterBehind
import Derived.Deep.RegionHeld3
import Derived.StillTailTactics
namespace Go.Proofs.YtffmdnckapalfaaDoor.CK
open Go.RowKit Go.Proofs.YtffmdnckapalfaaDoorW.PrintWords Go.Proofs.YtffmdnckapalfaaDoor.ExtC Go.Proofs.YtffmdnckapalfaaDoor.T Go.Proofs.YtffmdnckapalfaaDoor.C Go.Proofs.YtffmdnckapalfaaDoor.SpecC
theorem below_of_drawn {w w' : World} (h : Drawn0 w w') : Below w.heap.size w w' := by
  obtain ⟨m, rfl⟩ := h
  exact pw_below_drewN (Below.refl _ _) m
theorem R_lit (W : World) (base : Nat) (e : TypeId) (k : IntKind) (cs : List Int) (hb : base ≤ W.heap.size) (hm : cs.length ≤ 1000000) :
    Kd.R (Kd.int k) e (W.alloc (.cells (nums k cs).toArray e)) base (fun _ => True) (.slice (some ⟨W.heap.size, 0, none⟩) cs.length cs.length) cs :=
  Kd.R_of_own (own_lit W base e k cs hb (by omega)) (fun _ _ => trivial)
theorem lit_C (W : World) (e : TypeId) (k : IntKind) (cs : List Int) (hm : cs.length ≤ 1000000) : Kd.C (Kd.int k) (W.alloc (.cells (nums k cs).toArray e)) (some ⟨W.heap.size, 0, none⟩) cs.length cs :=
  (Kd.R_reads' (R_lit W W.heap.size e k cs (Nat.le_refl _) hm)).2.2
theorem works_calls (w : World) (hG : Glob w) : Calls Tryd.prog 21 #[] w fun e w' => e = .returned (.bool true) ∧ Below w.heap.size w w' :=
  calamuslaw03_works.calls 11 true w hG (PurD.works_ok 11 (by decide))
theorem cb_calls (n : Nat) (A : Option Addr) (c : Nat) (l : List Int) (w : World) (hn : l.length = n) (hx : Kd.C (Kd.int .i32) w A l.length l) (hc : l.length ≤ c) (hl : l.length ≤ 1000) (hv : ∀ x ∈ l, (Lit.int .i32 x).wf = true) (hG : Glob w) :
    Calls Tryd.prog 8 #[.slice A n c] w fun e w' => e = .returned (.bool true) ∧ Below w.heap.size w w' := by
  obtain ⟨k, h⟩ := Pure.ClusterBounds l (by simp only [maxLen]; omega) (by omega) hv
  subst hn
  exact calamuslaw03_ClusterBounds.calls k A c l true w hx hc hG h
theorem cp_calls (n : Nat) (a : Int) (A : Option Addr) (c : Nat) (l : List Int) (w : World) (hn : l.length = n) (hx : Kd.C (Kd.int .i32) w A l.length l) (hc : l.length ≤ c) (hl : l.length ≤ 1000) (hv : ∀ x ∈ l, (Lit.int .i32 x).wf = true) (ha : (Lit.int .i64 a).wf = true) (hG : Glob w) :
    Calls Tryd.prog 9 #[.slice A n c, .int .i64 a] w fun e w' => e = .returned (.bool true) ∧ Below w.heap.size w w' := by
  obtain ⟨k, h⟩ := Pure.ClusterParted l a (by simp only [maxLen]; omega) (by omega) hv ha
  subst hn
  exact calamuslaw03_ClusterParted.calls k A c l a true w hx hc hG h
theorem ca_calls (n : Nat) (A : Option Addr) (c : Nat) (l : List Int) (w : World) (hn : l.length = n) (hx : Kd.C (Kd.int .i32) w A l.length l) (hc : l.length ≤ c) (hl : l.length ≤ 1000) (hv : ∀ x ∈ l, (Lit.int .i32 x).wf = true) (hG : Glob w) :
    Calls Tryd.prog 10 #[.slice A n c] w fun e w' => e = .returned (.bool true) ∧ Below w.heap.size w w' := by
  obtain ⟨k, h⟩ := Pure.ClusterAlone l (by simp only [maxLen]; omega) (by omega) hv
  subst hn
  exact calamuslaw03_ClusterAlone.calls k A c l true w hx hc hG h
theorem ch_calls (A B : Option Addr) (x y : Int) (w : World) (hx : Kd.C (Kd.int .i32) w A 1 [x]) (hy : Kd.C (Kd.int .i32) w B 1 [y]) (hv : (Lit.int .i32 x).wf = true) (hu : (Lit.int .i32 y).wf = true) (hG : Glob w) :
    Calls Tryd.prog 11 #[.slice A 1 1, .slice B 1 1] w fun e w' => e = .returned (.bool true) ∧ Below w.heap.size w w' := by
  obtain ⟨k, h⟩ := Pure.ClusterBehind [x] [y] (by simp [maxLen]) (by simp) (by intro z hz; rw [List.mem_singleton.1 hz]; exact hv) (by simp [maxLen]) (by simp) (by intro z hz; rw [List.mem_singleton.1 hz]; exact hu)
  exact calamuslaw03_ClusterBehind.calls k A 1 [x] B 1 [y] true w hx (Nat.le_refl _) hy (Nat.le_refl _) hG h
theorem ch_xy (x y : Int) (W : World) (hv : (Lit.int .i32 x).wf = true) (hu : (Lit.int .i32 y).wf = true) (hG : Glob ((W.alloc (.cells #[.int .i32 x] 21)).alloc (.cells #[.int .i32 y] 21))) :
    Calls Tryd.prog 11 #[.slice (some ⟨W.heap.size, 0, none⟩) 1 1, .slice (some ⟨W.heap.size + 1, 0, none⟩) 1 1] ((W.alloc (.cells #[.int .i32 x] 21)).alloc (.cells #[.int .i32 y] 21)) fun e w' => e = .returned (.bool true) ∧ Below ((W.alloc (.cells #[.int .i32 x] 21)).alloc (.cells #[.int .i32 y] 21)).heap.size ((W.alloc (.cells #[.int .i32 x] 21)).alloc (.cells #[.int .i32 y] 21)) w' := by
  have h2 := lit_C (W.alloc (.cells #[.int .i32 x] 21)) 21 .i32 [y] (by simp)
  rw [World.size_alloc] at h2
  exact ch_calls _ _ x y _ (Kd.C_alloc (lit_C W 21 .i32 [x] (by simp)) _) h2 hv hu hG
theorem ch_yx (x y : Int) (W : World) (hv : (Lit.int .i32 x).wf = true) (hu : (Lit.int .i32 y).wf = true) (hG : Glob ((W.alloc (.cells #[.int .i32 y] 21)).alloc (.cells #[.int .i32 x] 21))) :
    Calls Tryd.prog 11 #[.slice (some ⟨W.heap.size + 1, 0, none⟩) 1 1, .slice (some ⟨W.heap.size, 0, none⟩) 1 1] ((W.alloc (.cells #[.int .i32 y] 21)).alloc (.cells #[.int .i32 x] 21)) fun e w' => e = .returned (.bool true) ∧ Below ((W.alloc (.cells #[.int .i32 y] 21)).alloc (.cells #[.int .i32 x] 21)).heap.size ((W.alloc (.cells #[.int .i32 y] 21)).alloc (.cells #[.int .i32 x] 21)) w' := by
  have h2 := lit_C (W.alloc (.cells #[.int .i32 y] 21)) 21 .i32 [x] (by simp)
  rw [World.size_alloc] at h2
  exact ch_calls _ _ x y _ h2 (Kd.C_alloc (lit_C W 21 .i32 [y] (by simp)) _) hv hu hG
theorem bo_calls (A : Option Addr) (c : Nat) (l r : List Int) (n m : Nat) (w : World) (hx : Kd.C (Kd.int .i32) w A l.length l) (hn : l.length = n) (hm : r.length = m) (hl : l.length ≤ 1000) (hr : r = outUp l l.length) (hG : Glob w) :
    Calls Tryd.prog 23 #[.slice A n c] w fun e w' => ∃ A' c', e = .returned (.slice A' m c') ∧ m ≤ c' ∧ Kd.C (Kd.int .i64) w' A' m r ∧ Below w.heap.size w w' := by
  subst hn hm hr
  refine (Bounds_any A c l w hx hG (by omega)).mono ?_
  rintro e w' ⟨v, rfl, ho, hb⟩
  obtain ⟨A', c', rfl, hle, hr⟩ := Kd.R_reads ho
  exact ⟨A', c', rfl, hle, hr, hb⟩
theorem sm_calls (A : Option Addr) (c : Nat) (B : Option Addr) (d : Nat) (r : List Int) (m : Nat) (w : World) (hm : r.length = m) (hx : Kd.C (Kd.int .i64) w A m r) (hc : m ≤ c) (hy : Kd.C (Kd.int .i64) w B m r) (hd : m ≤ d) (hl : m ≤ 1000) :
    Calls Tryd.prog 24 #[.slice A m c, .slice B m d] w fun e w' => e = .returned (.bool true) ∧ Below w.heap.size w w' := by
  subst hm
  refine (calamuslaw03_same.calls (r.length + 1) A c r B d r true w hx hc hy hd (PurD.same_ok r (by omega) _ (by omega))).mono ?_
  rintro e w' ⟨rfl, h⟩
  exact ⟨rfl, below_of_drawn h⟩
theorem ex0 (w : World) (hG : Glob (w.alloc (.cells #[Value.int IntKind.i32 10, Value.int IntKind.i32 13] 21))) : Calls Tryd.prog 23 #[.slice (some ⟨w.heap.size, 0, none⟩) 2 2] (w.alloc (.cells #[Value.int IntKind.i32 10, Value.int IntKind.i32 13] 21)) fun e w' => ∃ A' c', e = .returned (.slice A' 2 c') ∧ 2 ≤ c' ∧ Kd.C (Kd.int .i64) w' A' 2 [0, 1] ∧ Below (w.alloc (.cells #[Value.int IntKind.i32 10, Value.int IntKind.i32 13] 21)).heap.size (w.alloc (.cells #[Value.int IntKind.i32 10, Value.int IntKind.i32 13] 21)) w' :=
  bo_calls (some ⟨w.heap.size, 0, none⟩) 2 [10, 13] [0, 1] 2 2 _ (lit_C w 21 .i32 [10, 13] (by decide)) rfl rfl (by decide) (by decide +kernel) hG
theorem sa0 (A : Option Addr) (c : Nat) (w : World) (hx : Kd.C (Kd.int .i64) w A 2 [0, 1]) (hc : 2 ≤ c) : Calls Tryd.prog 24 #[.slice A 2 c, .slice (some ⟨w.heap.size, 0, none⟩) 2 2] (w.alloc (.cells #[Value.int IntKind.i64 0, Value.int IntKind.i64 1] 3)) fun e w' => e = .returned (.bool true) ∧ Below (w.alloc (.cells #[Value.int IntKind.i64 0, Value.int IntKind.i64 1] 3)).heap.size (w.alloc (.cells #[Value.int IntKind.i64 0, Value.int IntKind.i64 1] 3)) w' :=
  sm_calls A c (some ⟨w.heap.size, 0, none⟩) 2 [0, 1] 2 _ rfl (Kd.C_alloc hx _) hc (lit_C w 3 .i64 [0, 1] (by decide)) (Nat.le_refl _) (by decide)
theorem ex1 (w : World) (hG : Glob (w.alloc (.cells #[Value.int IntKind.i32 4352, Value.int IntKind.i32 4449, Value.int IntKind.i32 4520, Value.int IntKind.i32 44032, Value.int IntKind.i32 4520, Value.int IntKind.i32 4520, Value.int IntKind.i32 4352] 21))) : Calls Tryd.prog 23 #[.slice (some ⟨w.heap.size, 0, none⟩) 7 7] (w.alloc (.cells #[Value.int IntKind.i32 4352, Value.int IntKind.i32 4449, Value.int IntKind.i32 4520, Value.int IntKind.i32 44032, Value.int IntKind.i32 4520, Value.int IntKind.i32 4520, Value.int IntKind.i32 4352] 21)) fun e w' => ∃ A' c', e = .returned (.slice A' 3 c') ∧ 3 ≤ c' ∧ Kd.C (Kd.int .i64) w' A' 3 [0, 3, 6] ∧ Below (w.alloc (.cells #[Value.int IntKind.i32 4352, Value.int IntKind.i32 4449, Value.int IntKind.i32 4520, Value.int IntKind.i32 44032, Value.int IntKind.i32 4520, Value.int IntKind.i32 4520, Value.int IntKind.i32 4352] 21)).heap.size (w.alloc (.cells #[Value.int IntKind.i32 4352, Value.int IntKind.i32 4449, Value.int IntKind.i32 4520, Value.int IntKind.i32 44032, Value.int IntKind.i32 4520, Value.int IntKind.i32 4520, Value.int IntKind.i32 4352] 21)) w' :=
  bo_calls (some ⟨w.heap.size, 0, none⟩) 7 [4352, 4449, 4520, 44032, 4520, 4520, 4352] [0, 3, 6] 7 3 _ (lit_C w 21 .i32 [4352, 4449, 4520, 44032, 4520, 4520, 4352] (by decide)) rfl rfl (by decide) (by decide +kernel) hG
theorem sa1 (A : Option Addr) (c : Nat) (w : World) (hx : Kd.C (Kd.int .i64) w A 3 [0, 3, 6]) (hc : 3 ≤ c) : Calls Tryd.prog 24 #[.slice A 3 c, .slice (some ⟨w.heap.size, 0, none⟩) 3 3] (w.alloc (.cells #[Value.int IntKind.i64 0, Value.int IntKind.i64 3, Value.int IntKind.i64 6] 3)) fun e w' => e = .returned (.bool true) ∧ Below (w.alloc (.cells #[Value.int IntKind.i64 0, Value.int IntKind.i64 3, Value.int IntKind.i64 6] 3)).heap.size (w.alloc (.cells #[Value.int IntKind.i64 0, Value.int IntKind.i64 3, Value.int IntKind.i64 6] 3)) w' :=
  sm_calls A c (some ⟨w.heap.size, 0, none⟩) 3 [0, 3, 6] 3 _ rfl (Kd.C_alloc hx _) hc (lit_C w 3 .i64 [0, 3, 6] (by decide)) (Nat.le_refl _) (by decide)
theorem ex2 (w : World) (hG : Glob (w.alloc (.cells #[Value.int IntKind.i32 127462, Value.int IntKind.i32 127463, Value.int IntKind.i32 127464, Value.int IntKind.i32 127465, Value.int IntKind.i32 127466] 21))) : Calls Tryd.prog 23 #[.slice (some ⟨w.heap.size, 0, none⟩) 5 5] (w.alloc (.cells #[Value.int IntKind.i32 127462, Value.int IntKind.i32 127463, Value.int IntKind.i32 127464, Value.int IntKind.i32 127465, Value.int IntKind.i32 127466] 21)) fun e w' => ∃ A' c', e = .returned (.slice A' 3 c') ∧ 3 ≤ c' ∧ Kd.C (Kd.int .i64) w' A' 3 [0, 2, 4] ∧ Below (w.alloc (.cells #[Value.int IntKind.i32 127462, Value.int IntKind.i32 127463, Value.int IntKind.i32 127464, Value.int IntKind.i32 127465, Value.int IntKind.i32 127466] 21)).heap.size (w.alloc (.cells #[Value.int IntKind.i32 127462, Value.int IntKind.i32 127463, Value.int IntKind.i32 127464, Value.int IntKind.i32 127465, Value.int IntKind.i32 127466] 21)) w' :=
  bo_calls (some ⟨w.heap.size, 0, none⟩) 5 [127462, 127463, 127464, 127465, 127466] [0, 2, 4] 5 3 _ (lit_C w 21 .i32 [127462, 127463, 127464, 127465, 127466] (by decide)) rfl rfl (by decide) (by decide +kernel) hG
theorem sa2 (A : Option Addr) (c : Nat) (w : World) (hx : Kd.C (Kd.int .i64) w A 3 [0, 2, 4]) (hc : 3 ≤ c) : Calls Tryd.prog 24 #[.slice A 3 c, .slice (some ⟨w.heap.size, 0, none⟩) 3 3] (w.alloc (.cells #[Value.int IntKind.i64 0, Value.int IntKind.i64 2, Value.int IntKind.i64 4] 3)) fun e w' => e = .returned (.bool true) ∧ Below (w.alloc (.cells #[Value.int IntKind.i64 0, Value.int IntKind.i64 2, Value.int IntKind.i64 4] 3)).heap.size (w.alloc (.cells #[Value.int IntKind.i64 0, Value.int IntKind.i64 2, Value.int IntKind.i64 4] 3)) w' :=
  sm_calls A c (some ⟨w.heap.size, 0, none⟩) 3 [0, 2, 4] 3 _ rfl (Kd.C_alloc hx _) hc (lit_C w 3 .i64 [0, 2, 4] (by decide)) (Nat.le_refl _) (by decide)
theorem ex3 (w : World) (hG : Glob (w.alloc (.cells #[Value.int IntKind.i32 128104, Value.int IntKind.i32 8205, Value.int IntKind.i32 128105, Value.int IntKind.i32 769, Value.int IntKind.i32 8205, Value.int IntKind.i32 128102, Value.int IntKind.i32 97, Value.int IntKind.i32 8205, Value.int IntKind.i32 128102] 21))) : Calls Tryd.prog 23 #[.slice (some ⟨w.heap.size, 0, none⟩) 9 9] (w.alloc (.cells #[Value.int IntKind.i32 128104, Value.int IntKind.i32 8205, Value.int IntKind.i32 128105, Value.int IntKind.i32 769, Value.int IntKind.i32 8205, Value.int IntKind.i32 128102, Value.int IntKind.i32 97, Value.int IntKind.i32 8205, Value.int IntKind.i32 128102] 21)) fun e w' => ∃ A' c', e = .returned (.slice A' 3 c') ∧ 3 ≤ c' ∧ Kd.C (Kd.int .i64) w' A' 3 [0, 6, 8] ∧ Below (w.alloc (.cells #[Value.int IntKind.i32 128104, Value.int IntKind.i32 8205, Value.int IntKind.i32 128105, Value.int IntKind.i32 769, Value.int IntKind.i32 8205, Value.int IntKind.i32 128102, Value.int IntKind.i32 97, Value.int IntKind.i32 8205, Value.int IntKind.i32 128102] 21)).heap.size (w.alloc (.cells #[Value.int IntKind.i32 128104, Value.int IntKind.i32 8205, Value.int IntKind.i32 128105, Value.int IntKind.i32 769, Value.int IntKind.i32 8205, Value.int IntKind.i32 128102, Value.int IntKind.i32 97, Value.int IntKind.i32 8205, Value.int IntKind.i32 128102] 21)) w' :=
  bo_calls (some ⟨w.heap.size, 0, none⟩) 9 [128104, 8205, 128105, 769, 8205, 128102, 97, 8205, 128102] [0, 6, 8] 9 3 _ (lit_C w 21 .i32 [128104, 8205, 128105, 769, 8205, 128102, 97, 8205, 128102] (by decide)) rfl rfl (by decide) (by decide +kernel) hG
theorem sa3 (A : Option Addr) (c : Nat) (w : World) (hx : Kd.C (Kd.int .i64) w A 3 [0, 6, 8]) (hc : 3 ≤ c) : Calls Tryd.prog 24 #[.slice A 3 c, .slice (some ⟨w.heap.size, 0, none⟩) 3 3] (w.alloc (.cells #[Value.int IntKind.i64 0, Value.int IntKind.i64 6, Value.int IntKind.i64 8] 3)) fun e w' => e = .returned (.bool true) ∧ Below (w.alloc (.cells #[Value.int IntKind.i64 0, Value.int IntKind.i64 6, Value.int IntKind.i64 8] 3)).heap.size (w.alloc (.cells #[Value.int IntKind.i64 0, Value.int IntKind.i64 6, Value.int IntKind.i64 8] 3)) w' :=
  sm_calls A c (some ⟨w.heap.size, 0, none⟩) 3 [0, 6, 8] 3 _ rfl (Kd.C_alloc hx _) hc (lit_C w 3 .i64 [0, 6, 8] (by decide)) (Nat.le_refl _) (by decide)
theorem ex4 (w : World) (hG : Glob (w.alloc (.cells #[Value.int IntKind.i32 1536, Value.int IntKind.i32 97, Value.int IntKind.i32 769] 21))) : Calls Tryd.prog 23 #[.slice (some ⟨w.heap.size, 0, none⟩) 3 3] (w.alloc (.cells #[Value.int IntKind.i32 1536, Value.int IntKind.i32 97, Value.int IntKind.i32 769] 21)) fun e w' => ∃ A' c', e = .returned (.slice A' 1 c') ∧ 1 ≤ c' ∧ Kd.C (Kd.int .i64) w' A' 1 [0] ∧ Below (w.alloc (.cells #[Value.int IntKind.i32 1536, Value.int IntKind.i32 97, Value.int IntKind.i32 769] 21)).heap.size (w.alloc (.cells #[Value.int IntKind.i32 1536, Value.int IntKind.i32 97, Value.int IntKind.i32 769] 21)) w' :=
  bo_calls (some ⟨w.heap.size, 0, none⟩) 3 [1536, 97, 769] [0] 3 1 _ (lit_C w 21 .i32 [1536, 97, 769] (by decide)) rfl rfl (by decide) (by decide +kernel) hG
theorem sa4 (A : Option Addr) (c : Nat) (w : World) (hx : Kd.C (Kd.int .i64) w A 1 [0]) (hc : 1 ≤ c) : Calls Tryd.prog 24 #[.slice A 1 c, .slice (some ⟨w.heap.size, 0, none⟩) 1 1] (w.alloc (.cells #[Value.int IntKind.i64 0] 3)) fun e w' => e = .returned (.bool true) ∧ Below (w.alloc (.cells #[Value.int IntKind.i64 0] 3)).heap.size (w.alloc (.cells #[Value.int IntKind.i64 0] 3)) w' :=
  sm_calls A c (some ⟨w.heap.size, 0, none⟩) 1 [0] 1 _ rfl (Kd.C_alloc hx _) hc (lit_C w 3 .i64 [0] (by decide)) (Nat.le_refl _) (by decide)
theorem ex5 (w : World) (hG : Glob (w.alloc (.cells #[Value.int IntKind.i32 769, Value.int IntKind.i32 769] 21))) : Calls Tryd.prog 23 #[.slice (some ⟨w.heap.size, 0, none⟩) 2 2] (w.alloc (.cells #[Value.int IntKind.i32 769, Value.int IntKind.i32 769] 21)) fun e w' => ∃ A' c', e = .returned (.slice A' 1 c') ∧ 1 ≤ c' ∧ Kd.C (Kd.int .i64) w' A' 1 [0] ∧ Below (w.alloc (.cells #[Value.int IntKind.i32 769, Value.int IntKind.i32 769] 21)).heap.size (w.alloc (.cells #[Value.int IntKind.i32 769, Value.int IntKind.i32 769] 21)) w' :=
  bo_calls (some ⟨w.heap.size, 0, none⟩) 2 [769, 769] [0] 2 1 _ (lit_C w 21 .i32 [769, 769] (by decide)) rfl rfl (by decide) (by decide +kernel) hG
theorem sa5 (A : Option Addr) (c : Nat) (w : World) (hx : Kd.C (Kd.int .i64) w A 1 [0]) (hc : 1 ≤ c) : Calls Tryd.prog 24 #[.slice A 1 c, .slice (some ⟨w.heap.size, 0, none⟩) 1 1] (w.alloc (.cells #[Value.int IntKind.i64 0] 3)) fun e w' => e = .returned (.bool true) ∧ Below (w.alloc (.cells #[Value.int IntKind.i64 0] 3)).heap.size (w.alloc (.cells #[Value.int IntKind.i64 0] 3)) w' :=
  sm_calls A c (some ⟨w.heap.size, 0, none⟩) 1 [0] 1 _ rfl (Kd.C_alloc hx _) hc (lit_C w 3 .i64 [0] (by decide)) (Nat.le_refl _) (by decide)
theorem ex6 (w : World) (hG : Glob (w.alloc (.cells #[Value.int IntKind.i32 10, Value.int IntKind.i32 769] 21))) : Calls Tryd.prog 23 #[.slice (some ⟨w.heap.size, 0, none⟩) 2 2] (w.alloc (.cells #[Value.int IntKind.i32 10, Value.int IntKind.i32 769] 21)) fun e w' => ∃ A' c', e = .returned (.slice A' 2 c') ∧ 2 ≤ c' ∧ Kd.C (Kd.int .i64) w' A' 2 [0, 1] ∧ Below (w.alloc (.cells #[Value.int IntKind.i32 10, Value.int IntKind.i32 769] 21)).heap.size (w.alloc (.cells #[Value.int IntKind.i32 10, Value.int IntKind.i32 769] 21)) w' :=
  bo_calls (some ⟨w.heap.size, 0, none⟩) 2 [10, 769] [0, 1] 2 2 _ (lit_C w 21 .i32 [10, 769] (by decide)) rfl rfl (by decide) (by decide +kernel) hG
theorem sa6 (A : Option Addr) (c : Nat) (w : World) (hx : Kd.C (Kd.int .i64) w A 2 [0, 1]) (hc : 2 ≤ c) : Calls Tryd.prog 24 #[.slice A 2 c, .slice (some ⟨w.heap.size, 0, none⟩) 2 2] (w.alloc (.cells #[Value.int IntKind.i64 0, Value.int IntKind.i64 1] 3)) fun e w' => e = .returned (.bool true) ∧ Below (w.alloc (.cells #[Value.int IntKind.i64 0, Value.int IntKind.i64 1] 3)).heap.size (w.alloc (.cells #[Value.int IntKind.i64 0, Value.int IntKind.i64 1] 3)) w' :=
  sm_calls A c (some ⟨w.heap.size, 0, none⟩) 2 [0, 1] 2 _ rfl (Kd.C_alloc hx _) hc (lit_C w 3 .i64 [0, 1] (by decide)) (Nat.le_refl _) (by decide)
theorem ex_nil (w : World) (hG : Glob w) : Calls Tryd.prog 23 #[.slice none 0 0] w fun e w' => ∃ A' c', e = .returned (.slice A' 0 c') ∧ Below w.heap.size w w' := by
  refine (bo_calls none 0 [] [] 0 0 w (Kd.C_nil _ _) rfl rfl (by decide) (by decide +kernel) hG).mono ?_
  rintro e w' ⟨A', c', rfl, _, _, hb⟩
  exact ⟨A', c', rfl, hb⟩
def row : List Int := [97, 13, 10, 0, 769, 8205, 127462, 1536, 4352, 4449, 4520, 44032, 44033, 128104, 8203, -1, 1114111]
theorem row_wf : ∀ i : Nat, i < 17 → (Lit.int .i32 (rd row (i : Int))).wf = true := by
  have h : ∀ i : Fin 17, (Lit.int .i32 (rd row ((i.1 : Nat) : Int))).wf = true := by decide
  exact fun i hi => h ⟨i, hi⟩
set_option maxHeartbeats 16000000 in
set_option maxRecDepth 100000 in
theorem clusterKnown_calls (w : World) (hG : Glob w) :
    Calls Tryd.prog 12 #[] w fun e w' => e = .returned (.bool true) ∧ Below w.heap.size w w' := by
  have HGW : Aside0 (∀ w', Below w.heap.size w w' → Glob w') := ⟨fun w' hb => Glob.below hG hb⟩
  have HBz := Aside0.mk (Below.refl w.heap.size w)
  clear hG
  go_enter Tryd.func12, Tryd.ntmps12
  go_wp2_with (first
    | (go_at_call 23; (with_reducible refine (ex0 _ (HGW.out _ (below_alloc HBz.out _))).mono ?_); rintro e u0 ⟨A0, c0, rfl, hle0, hr, hb⟩; have HE0 := Aside0.mk hr; have HBe0 := Aside0.mk (below_step (below_alloc HBz.out _) hb); clear hb hr)
    | (go_at_call 24; (with_reducible refine (sa0 A0 c0 u0 HE0.out hle0).mono ?_); rintro e v0 ⟨rfl, hb⟩; have HB1 := Aside0.mk (below_step (below_alloc HBe0.out _) hb); clear hb)
    | (go_at_call 23; (with_reducible refine (ex1 _ (HGW.out _ (below_alloc HB1.out _))).mono ?_); rintro e u1 ⟨A1, c1, rfl, hle1, hr, hb⟩; have HE1 := Aside0.mk hr; have HBe1 := Aside0.mk (below_step (below_alloc HB1.out _) hb); clear hb hr)
    | (go_at_call 24; (with_reducible refine (sa1 A1 c1 u1 HE1.out hle1).mono ?_); rintro e v1 ⟨rfl, hb⟩; have HB2 := Aside0.mk (below_step (below_alloc HBe1.out _) hb); clear hb)
    | (go_at_call 23; (with_reducible refine (ex2 _ (HGW.out _ (below_alloc HB2.out _))).mono ?_); rintro e u2 ⟨A2, c2, rfl, hle2, hr, hb⟩; have HE2 := Aside0.mk hr; have HBe2 := Aside0.mk (below_step (below_alloc HB2.out _) hb); clear hb hr)
    | (go_at_call 24; (with_reducible refine (sa2 A2 c2 u2 HE2.out hle2).mono ?_); rintro e v2 ⟨rfl, hb⟩; have HB3 := Aside0.mk (below_step (below_alloc HBe2.out _) hb); clear hb)
    | (go_at_call 23; (with_reducible refine (ex3 _ (HGW.out _ (below_alloc HB3.out _))).mono ?_); rintro e u3 ⟨A3, c3, rfl, hle3, hr, hb⟩; have HE3 := Aside0.mk hr; have HBe3 := Aside0.mk (below_step (below_alloc HB3.out _) hb); clear hb hr)
    | (go_at_call 24; (with_reducible refine (sa3 A3 c3 u3 HE3.out hle3).mono ?_); rintro e v3 ⟨rfl, hb⟩; have HB4 := Aside0.mk (below_step (below_alloc HBe3.out _) hb); clear hb)
    | (go_at_call 23; (with_reducible refine (ex4 _ (HGW.out _ (below_alloc HB4.out _))).mono ?_); rintro e u4 ⟨A4, c4, rfl, hle4, hr, hb⟩; have HE4 := Aside0.mk hr; have HBe4 := Aside0.mk (below_step (below_alloc HB4.out _) hb); clear hb hr)
    | (go_at_call 24; (with_reducible refine (sa4 A4 c4 u4 HE4.out hle4).mono ?_); rintro e v4 ⟨rfl, hb⟩; have HB5 := Aside0.mk (below_step (below_alloc HBe4.out _) hb); clear hb)
    | (go_at_call 23; (with_reducible refine (ex5 _ (HGW.out _ (below_alloc HB5.out _))).mono ?_); rintro e u5 ⟨A5, c5, rfl, hle5, hr, hb⟩; have HE5 := Aside0.mk hr; have HBe5 := Aside0.mk (below_step (below_alloc HB5.out _) hb); clear hb hr)
    | (go_at_call 24; (with_reducible refine (sa5 A5 c5 u5 HE5.out hle5).mono ?_); rintro e v5 ⟨rfl, hb⟩; have HB6 := Aside0.mk (below_step (below_alloc HBe5.out _) hb); clear hb)
    | (go_at_call 23; (with_reducible refine (ex6 _ (HGW.out _ (below_alloc HB6.out _))).mono ?_); rintro e u6 ⟨A6, c6, rfl, hle6, hr, hb⟩; have HE6 := Aside0.mk hr; have HBe6 := Aside0.mk (below_step (below_alloc HB6.out _) hb); clear hb hr)
    | (go_at_call 24; (with_reducible refine (sa6 A6 c6 u6 HE6.out hle6).mono ?_); rintro e v6 ⟨rfl, hb⟩; have HB7 := Aside0.mk (below_step (below_alloc HBe6.out _) hb); clear hb)
    | (go_at_call 23; (with_reducible refine (ex_nil v6 (HGW.out _ HB7.out)).mono ?_); rintro e w0 ⟨A7, c7, rfl, hb⟩; have HB8 := Aside0.mk (below_step HB7.out hb); clear hb))
  obtain ⟨ad, had⟩ : ∃ ad : Addr, ad = ⟨w0.heap.size, 0, none⟩ := ⟨_, rfl⟩
  obtain ⟨w1, hw1⟩ : ∃ w1, w1 = w0.alloc (.cells (nums .i32 row).toArray 21) := ⟨_, rfl⟩
  have HR0 := Aside0.mk (lit_C w0 21 .i32 row (by decide))
  have HBw1 := Aside0.mk (below_alloc HB8.out (.cells (nums .i32 row).toArray 21))
  rw [← had, show w0.alloc (.cells #[Value.int IntKind.i32 97, Value.int IntKind.i32 13, Value.int IntKind.i32 10, Value.int IntKind.i32 0, Value.int IntKind.i32 769, Value.int IntKind.i32 8205, Value.int IntKind.i32 127462, Value.int IntKind.i32 1536, Value.int IntKind.i32 4352, Value.int IntKind.i32 4449, Value.int IntKind.i32 4520, Value.int IntKind.i32 44032, Value.int IntKind.i32 44033, Value.int IntKind.i32 128104, Value.int IntKind.i32 8203, Value.int IntKind.i32 (-1), Value.int IntKind.i32 1114111] 21) = w1 by rw [hw1]; rfl]
  rw [← had, ← hw1] at HR0
  rw [← hw1] at HBw1
  clear had hw1
  have HRW : Aside0 (∀ w', Below w1.heap.size w1 w' → Kd.C (Kd.int .i32) w' (some ad) 17 row) := ⟨fun w' hb => Kd.C_below HR0.out hb⟩
  have HCE : Aside0 (∀ w', Below w1.heap.size w1 w' → ∀ i : Nat, i < 17 → w'.cell? (ad.add i) = some (.int .i32 (rd row (i : Int)))) := ⟨fun w' hb i hi => by
    obtain ⟨ad', e, h⟩ := Kd.at_int (HRW.out w' hb) (i : Int) (by omega) (by show (i : Int) < 17; omega)
    cases e
    rwa [Int.toNat_natCast] at h⟩
  have HGC : Aside0 (∀ w', Below w1.heap.size w1 w' → Glob w') := ⟨fun w' hb => HGW.out w' (below_step HBw1.out hb)⟩
  clear HRW HR0
  go_loopg [3, 4] 17 (fun g s3 s4 wx => ∃ (i : Nat) (cur : List Int), g + i = 17 ∧ s4 = .int .i64 (i : Int) ∧ Aside0 (cur.length = 34 * i) ∧ Aside0 (∀ x ∈ cur, (Lit.int .i32 x).wf = true) ∧ Aside0 (Kd.R (Kd.int .i32) 21 wx w1.heap.size (fun _ => True) s3 cur) ∧ Aside0 (Below w1.heap.size w1 wx))
  case atStart => exact ⟨0, [], rfl, rfl, ⟨rfl⟩, ⟨by simp⟩, ⟨Kd.R_nil _ _ _ _ _⟩, ⟨Below.refl _ _⟩⟩
  case round =>
    obtain ⟨i, cur, hgi, rfl, HLn, HWf, HO, HBi⟩ := hrel
    cases gk with
    | zero =>
      obtain ⟨wo, rfl⟩ : ∃ wo, wo = wr := ⟨_, rfl⟩
      have hi : ¬ (i : Int) < 17 := by omega
      have hln : cur.length = 578 := by have := HLn.out; omega
      obtain ⟨Aa, ca, rfl, hlea, hra⟩ := Kd.R_reads HO.out
      have HRA : Aside0 (∀ w', Below wo.heap.size wo w' → Kd.C (Kd.int .i32) w' Aa cur.length cur) := ⟨fun w' hb => Kd.C_below hra hb⟩
      have HGr : Aside0 (∀ w', Below wo.heap.size wo w' → Glob w') := ⟨fun w' hb => HGC.out w' (below_step HBi.out hb)⟩
      have HLN := Aside0.mk hln
      clear hra HO HLn
      go_wp2
      go_loopg [6, 7] 599 (fun g s6 s7 wx => ∃ (k : Nat) (mn : List Int), g + k = 599 ∧ s7 = .int .i64 (k : Int) ∧ Aside0 (mn.length = k) ∧ Aside0 (∀ x ∈ mn, (Lit.int .i32 x).wf = true) ∧ Aside0 (Kd.R (Kd.int .i32) 21 wx wo.heap.size (fun _ => True) s6 mn) ∧ Aside0 (Below wo.heap.size wo wx))
      case atStart => exact ⟨0, [], rfl, rfl, ⟨rfl⟩, ⟨by simp⟩, ⟨Kd.R_nil _ _ _ _ _⟩, ⟨Below.refl _ _⟩⟩
      case round =>
        obtain ⟨k, mn, hgk, rfl, HLm, HWm, HOm, HBm⟩ := hrel
        cases gk with
        | zero =>
          have hk : ¬ (k : Int) < 599 := by omega
          obtain ⟨Am, cm, rfl, hlem, hrm⟩ := Kd.R_reads HOm.out
          have hlm : mn.length = 599 := by have := HLm.out; omega
          have HLM := Aside0.mk hlm
          have HRM := Aside0.mk hrm
          obtain ⟨i21, hi21, _, hsz21, _⟩ := info_parts info21
          obtain ⟨hcut, hA, hC⟩ := print_take_of (P := Tryd.prog) (Value.int .i32) 0 22 21 .i64 Tryd.underlying22 hi21 hsz21 Aa ca cur (90 : Int) (by omega) (by omega) hlea
          obtain ⟨l9, hl9⟩ : ∃ l9, l9 = cur.take 90 := ⟨_, rfl⟩
          rw [show (90 : Int).toNat = 90 by rfl, ← hl9] at hcut hA hC
          have hn9 : l9.length = 90 := by rw [hl9, List.length_take]; omega
          have HC9 : Aside0 (∀ w', Below wo.heap.size wo w' → Kd.C (Kd.int .i32) w' Aa l9.length l9) := ⟨fun w' hb => Kd.C_of_reads (h1 := fun _ => rfl) (hA _ (Kd.reads_of_C (HRA.out w' hb)))⟩
          have HW9 : Aside0 (∀ x ∈ l9, (Lit.int .i32 x).wf = true) := ⟨fun x hx => HWf.out x (List.mem_of_mem_take (by rw [hl9] at hx; exact hx))⟩
          have HN9 := Aside0.mk hn9
          have HL9 := Aside0.mk hC
          rw [hn9] at hcut
          rw [hln] at hcut
          clear hrm hi21 hsz21 hA hC hl9 hn9 hlm HOm
          rw [hln] at hlea
          go_wp2_with (first
            | (go_at_call 8; (first | (with_reducible refine (cb_calls 578 Aa ca cur wr HLN.out (HRA.out _ HBm.out) (by rw [HLN.out]; exact hlea) (by rw [HLN.out]; decide) HWf.out (HGr.out _ HBm.out)).mono ?_) | (with_reducible refine (cb_calls cur.length Aa ca cur wr rfl (HRA.out _ HBm.out) (by rw [HLN.out]; exact hlea) (by rw [HLN.out]; decide) HWf.out (HGr.out _ HBm.out)).mono ?_)); rintro e u1 ⟨rfl, hb⟩; have HU1 := Aside0.mk (below_step HBm.out hb); have HRM1 := Aside0.mk (Kd.C_below HRM.out hb); clear hb)
            | (go_at_call 8; (first | (with_reducible refine (cb_calls mn.length Am cm mn u1 rfl HRM1.out hlem (by rw [HLM.out]; decide) HWm.out (HGr.out _ HU1.out)).mono ?_) | (with_reducible refine (cb_calls 599 Am cm mn u1 HLM.out HRM1.out hlem (by rw [HLM.out]; decide) HWm.out (HGr.out _ HU1.out)).mono ?_)); rintro e u2 ⟨rfl, hb⟩; have HU2 := Aside0.mk (below_step HU1.out hb); clear hb)
            | (go_at_call 9; (with_reducible refine (cp_calls 90 _ Aa ca l9 u2 HN9.out (HC9.out _ HU2.out) (by rw [HN9.out]; omega) (by rw [HN9.out]; decide) HW9.out (by decide) (HGr.out _ HU2.out)).mono ?_); rintro e u3 ⟨rfl, hb⟩; have HU3 := Aside0.mk (below_step HU2.out hb); clear hb)
            | (go_at_call 21; (with_reducible refine (works_calls u3 (HGr.out _ HU3.out)).mono ?_); rintro e u4 ⟨rfl, hb⟩; have HU4 := Aside0.mk (below_step HU3.out hb); clear hb))
          go_ret
          exact ⟨rfl, below_step HBw1.out (below_step HBi.out HU4.out)⟩
        | succ gm =>
          have hk : (k : Int) < 599 := by omega
          have HO2 := Aside0.mk (Kd.R_alloc HOm.out (.cells (nums .i32 [127462]).toArray 21))
          have HB2 := Aside0.mk (below_alloc HBm.out (.cells (nums .i32 [127462]).toArray 21))
          have HX2 := Aside0.mk (lit_C wr 21 .i32 [127462] (by decide))
          have hml : mn.length ≤ 600 := by have := HLm.out; omega
          go_wp2_with (first
            | ((with_reducible refine gate_builtin (b := .append) (xs := #[.tmp 127, .tmp 128]) rfl ?_); at_builtin; refine Kd.R_append_rows (Kd.int .i32) (w0 := wo) wo.heap.size rfl (.tmp 127) (.tmp 128) 22 21 (.int .i32 0) 4 rfl Tryd.underlying22 info21 rfl (by decide) (by omega) u6 (mn) ([127462]) (some ⟨wr.heap.size, 0, none⟩) 1 1 (fun _ => True) (fun k => some k ≠ _) rfl rfl (HO2.out) (HX2.out) (fun _ _ h => h) (fun _ h => ⟨trivial, h⟩) (fun _ _ => trivial) (HB2.out) (below_size (HB2.out)) ?aL ?_; (case aL => omega); intro v6 w3 ho0 hb hg hat; have HB3 := Aside0.mk hb; have HO3 := Aside0.mk ho0; clear ho0 hb hg hat))
          go_roundg gm
          case measure => omega
          case rel => exact ⟨k + 1, mn ++ [127462], by omega, by go_num, ⟨by rw [List.length_append, HLm.out]; rfl⟩, ⟨fun x hx => by
            rcases List.mem_append.1 hx with h | h
            · exact HWm.out x h
            · rw [List.mem_singleton.1 h]; decide⟩, HO3, HB3⟩
    | succ gi =>
      have hi : (i : Int) < 17 := by omega
      go_wp2
      go_loopg [3, 5] 17 (fun g s3 s5 wx => ∃ (k : Nat) (cur : List Int), g + k = 17 ∧ s5 = .int .i64 (k : Int) ∧ Aside0 (cur.length = 34 * i + 2 * k) ∧ Aside0 (∀ x ∈ cur, (Lit.int .i32 x).wf = true) ∧ Aside0 (Kd.R (Kd.int .i32) 21 wx w1.heap.size (fun _ => True) s3 cur) ∧ Aside0 (Below w1.heap.size w1 wx))
      case atStart => exact ⟨0, cur, rfl, rfl, HLn, HWf, HO, HBi⟩
      case round =>
        clear HLn HWf HO HBi
        obtain ⟨k, cur, hgk, rfl, HLn, HWf, HO, HBk⟩ := hrel
        cases gk with
        | zero =>
          have hk : ¬ (k : Int) < 17 := by omega
          go_wp2
          go_roundg gi
          case measure => omega
          case rel => exact ⟨i + 1, cur, by omega, by go_num, ⟨by have := HLn.out; omega⟩, HWf, HO, HBk⟩
        | succ gq =>
          have hk : (k : Int) < 17 := by omega
          obtain ⟨x, hx⟩ : ∃ x, x = rd row (i : Int) := ⟨_, rfl⟩
          obtain ⟨y, hy⟩ : ∃ y, y = rd row (k : Int) := ⟨_, rfl⟩
          have HXY : Aside0 (∀ w', Below w1.heap.size w1 w' → w'.cell? (ad.add i) = some (.int .i32 x) ∧ w'.cell? (ad.add k) = some (.int .i32 y)) := ⟨fun w' hb => by rw [hx, hy]; exact ⟨HCE.out w' hb i (by omega), HCE.out w' hb k (by omega)⟩⟩
          have HWX : Aside0 ((Lit.int .i32 x).wf = true) := ⟨by rw [hx]; exact row_wf i (by omega)⟩
          have HWY : Aside0 ((Lit.int .i32 y).wf = true) := ⟨by rw [hy]; exact row_wf k (by omega)⟩
          have hcl : cur.length ≤ 600 := by have := HLn.out; omega
          clear hx hy
          have HO1 := Aside0.mk (Kd.R_drew (Kd.R_alloc HO.out (.cells (nums .i32 [x, y]).toArray 21)))
          have HBD := Aside0.mk (below_drew1 HBk.out)
          have HBA := Aside0.mk (below_drew1 (below_alloc HBk.out (.cells (nums .i32 [x, y]).toArray 21)))
          have HX1 := Aside0.mk (Kd.C_drew (lit_C wr 21 .i32 [x, y] (by simp)))
          go_wp2
          go_region_held3 (fun w' => w'.cell? (ad.add i) = some (.int .i32 x) ∧ w'.cell? (ad.add k) = some (.int .i32 y)) (first | exact HXY.out _ HBD.out | exact HXY.out _ HBA.out | exact HXY.out _ HB5.out) (first
            | (refine Kd.R_append_rows_step (Kd.int .i32) (w0 := w1) w1.heap.size (by rfl) (.tmp 66) (.tmp 75) 22 21 (.int .i32 0) 4 rfl Tryd.underlying22 info21 rfl (by decide) (by omega) _ cur [x, y] (some ⟨wr.heap.size, 0, none⟩) 2 2 (fun _ => True) (fun k => some k ≠ _) rfl rfl HO1.out HX1.out (fun _ _ h => h) (fun _ h => ⟨trivial, h⟩) (fun _ _ => trivial) HBA.out (below_size HBA.out) ?aL ?_; (case aL => omega); intro v5 w5 ho0 hb hg hat; have HB5 := Aside0.mk hb; have HO5 := Aside0.mk ho0; clear ho0 hb hg hat))
          go_wp2
          have HXY5 : Aside0 (∀ w', Below w5.heap.size w5 w' → w'.cell? (ad.add i) = some (.int .i32 x) ∧ w'.cell? (ad.add k) = some (.int .i32 y)) := ⟨fun w' hb => HXY.out w' (below_step HB5.out hb)⟩
          have HG5 : Aside0 (∀ w', Below w5.heap.size w5 w' → Glob w') := ⟨fun w' hb => HGC.out w' (below_step HB5.out hb)⟩
          have HD5 := Aside0.mk (below_drew1 (Below.refl w5.heap.size w5))
          have HD5a := Aside0.mk (below_drew1 (below_alloc (Below.refl w5.heap.size w5) (.cells (nums .i32 [x, y, x, y, 128104]).toArray 21)))
          have HL5 : Aside0 (∀ z ∈ [x, y, x, y, 128104], (Lit.int .i32 z).wf = true) := ⟨fun z hz => by
            simp only [List.mem_cons, List.not_mem_nil, or_false] at hz
            rcases hz with rfl | rfl | rfl | rfl | rfl
            · exact HWX.out
            · exact HWY.out
            · exact HWX.out
            · exact HWY.out
            · decide⟩
          have HL3 : Aside0 (∀ z ∈ [x, 769, y], (Lit.int .i32 z).wf = true) := ⟨fun z hz => by
            simp only [List.mem_cons, List.not_mem_nil, or_false] at hz
            rcases hz with rfl | rfl | rfl
            · exact HWX.out
            · decide
            · exact HWY.out⟩
          have HC5 := Aside0.mk (Kd.C_drew (lit_C w5 21 .i32 [x, y, x, y, 128104] (by simp)))
          clear HO HO1 HX1 HBD HBA HBk hcl
          go_region_held3 (fun w' => w'.cell? (ad.add i) = some (.int .i32 x) ∧ w'.cell? (ad.add k) = some (.int .i32 y)) (first | exact HXY5.out _ HD5.out | exact HXY5.out _ HD5a.out | exact HXY5.out _ HU1.out | exact HXY5.out _ (below_alloc HU1.out _) | exact HXY5.out _ HU2.out | exact HXY5.out _ (below_alloc HU2.out _) | exact HXY5.out _ (below_alloc (below_alloc HU2.out _) _) | exact HXY5.out _ HU3.out) (first
            | (go_at_call 8; refine (cb_calls 5 (some ⟨w5.heap.size, 0, none⟩) 5 [x, y, x, y, 128104] _ rfl HC5.out (Nat.le_refl _) (by simp) HL5.out (HG5.out _ HD5a.out)).mono ?_; rintro e u1 ⟨rfl, hb⟩; have HU1 := Aside0.mk (below_step HD5a.out hb); clear hb)
            | (go_at_call 10; refine (ca_calls 3 (some ⟨u1.heap.size, 0, none⟩) 3 [x, 769, y] _ rfl (lit_C u1 21 .i32 [x, 769, y] (by simp)) (Nat.le_refl _) (by simp) HL3.out (HG5.out _ (below_alloc HU1.out _))).mono ?_; rintro e u2 ⟨rfl, hb⟩; have HU2 := Aside0.mk (below_step (below_alloc HU1.out _) hb); clear hb)
            | (go_at_call 11; (with_reducible refine (ch_xy x y u2 HWX.out HWY.out (HG5.out _ (below_alloc (below_alloc HU2.out _) _))).mono ?_); rintro e u3 ⟨rfl, hb⟩; have HU3 := Aside0.mk (below_step (below_alloc (below_alloc HU2.out _) _) hb); clear hb)
            | (go_at_call 11; (with_reducible refine (ch_yx x y u2 HWX.out HWY.out (HG5.out _ (below_alloc (below_alloc HU2.out _) _))).mono ?_); rintro e u3 ⟨rfl, hb⟩; have HU3 := Aside0.mk (below_step (below_alloc (below_alloc HU2.out _) _) hb); clear hb))
          all_goals go_wp2
          all_goals go_roundg gq
          all_goals first
            | (case measure => omega)
            | skip
          all_goals exact ⟨k + 1, cur ++ [x, y], by omega, by go_num, ⟨by have := HLn.out; rw [List.length_append, List.length_cons, List.length_cons, List.length_nil]; omega⟩, ⟨fun z hz => by
            rcases List.mem_append.1 hz with h | h
            · exact HWf.out z h
            · simp only [List.mem_cons, List.not_mem_nil, or_false] at h
              rcases h with rfl | rfl
              · exact HWX.out
              · exact HWY.out⟩, ⟨Kd.R_below HO5.out HU3.out⟩, ⟨below_step HB5.out HU3.out⟩⟩

end Go.Proofs.YtffmdnckapalfaaDoor.CK
