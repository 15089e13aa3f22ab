/- The bounds of any row are the reference's, and asking leaves the row as it was. No conditions. -/
import Derived.Test.YtffmdnckapalfaaDoorCx3
import Derived.Test.YtffmdnckapalfaaDoorPurD
namespace Go.Proofs.YtffmdnckapalfaaDoor.Pure
open Go.RowKit Go.Proofs.YtffmdnckapalfaaDoor.C Go.Proofs.YtffmdnckapalfaaDoor.PurC Go.Proofs.YtffmdnckapalfaaDoor.PurD Go.Proofs.YtffmdnckapalfaaDoor.ExtC
theorem cb_l1 (x0 x3 x4 : List Int) (x5 : Int) : ∀ (d j k : Nat) (t : List Int), t.length ≤ 1000000 → j + d = t.length → calamuslaw03_ClusterBounds.l1 (k + d + 1) x0 x3 x4 x5 t (j : Int) = calamuslaw03_ClusterBounds.l0 k x0 x3 x4 (wrap64 (x5 + 1))
  | 0, j, k, t, hn, h => by
    rw [calamuslaw03_ClusterBounds.l1, if_neg (by omega)]
  | d + 1, j, k, t, hn, h => by
    have hw : wrap64 ((j : Int) + 1) = ((j + 1 : Nat) : Int) := by unfold wrap64; omega
    rw [calamuslaw03_ClusterBounds.l1, if_pos (by omega), if_pos (by omega), hw]
    exact cb_l1 x0 x3 x4 x5 d (j + 1) k _ (by rw [List.length_set]; exact hn) (by rw [List.length_set]; omega)
theorem cb_l2 (x : List Int) (hn : x.length ≤ 1000000) : ∀ (d j k : Nat), j + d = x.length → d + 20 < k → calamuslaw03_ClusterBounds.l2 k x x (j : Int) = some true
  | 0, j, k, h, hk => by
    obtain ⟨k, rfl⟩ : ∃ q, k = q + 1 := ⟨k - 1, by omega⟩
    rw [calamuslaw03_ClusterBounds.l2, if_neg (by omega), works_ok k (by omega)]; rfl
  | d + 1, j, k, h, hk => by
    obtain ⟨k, rfl⟩ : ∃ q, k = q + 1 := ⟨k - 1, by omega⟩
    have hw : wrap64 ((j : Int) + 1) = ((j + 1 : Nat) : Int) := by unfold wrap64; omega
    rw [calamuslaw03_ClusterBounds.l2, if_pos (by omega), if_pos (by omega), if_pos (by omega), if_pos rfl, hw]
    exact cb_l2 x hn d (j + 1) k (by omega) (by omega)
theorem cb_round (x : List Int) (hn : x.length ≤ 600) (x5 : Int) (h5 : x5 < 2) (k : Nat) (hk : x.length < k) : calamuslaw03_ClusterBounds.l0 (k + (outUp x x.length).length + 2) x x (outUp x x.length) x5 = calamuslaw03_ClusterBounds.l0 k x x (outUp x x.length) (wrap64 (x5 + 1)) := by
  have hle := outUp_le x x.length
  rw [calamuslaw03_ClusterBounds.l0, if_pos h5, cluster_Bounds.f, if_pos (by omega)]
  simp only [Option.bind_some]
  rw [same_ok _ (by omega) _ (by omega)]
  simp only [Option.bind_some, if_true]
  exact cb_l1 x x _ x5 (outUp x x.length).length 0 k _ (by omega) (by omega)
theorem ClusterBounds : calamuslaw03_ClusterBounds.Pure := by
  intro x _ _ _
  by_cases hc : (x.length : Int) > 600
  · refine ⟨11, ?_⟩
    unfold calamuslaw03_ClusterBounds.f
    rw [if_pos hc, works_ok 11 (by omega)]; rfl
  · have hle := outUp_le x x.length
    refine ⟨(2000 + (outUp x x.length).length + 2) + (outUp x x.length).length + 2, ?_⟩
    unfold calamuslaw03_ClusterBounds.f
    rw [if_neg hc, if_pos (by simp; omega), Bounds_ok x (by omega) _ (by omega)]
    simp only [Option.bind_some, List.nil_append]
    rw [cb_round x (by omega) 0 (by decide) _ (by omega), show wrap64 (0 + 1) = 1 by decide +kernel, cb_round x (by omega) 1 (by decide) _ (by omega), show wrap64 (1 + 1) = 2 by decide +kernel, calamuslaw03_ClusterBounds.l0, if_neg (by decide)]
    exact cb_l2 x (by omega) x.length 0 1999 (by omega) (by omega)
end Go.Proofs.YtffmdnckapalfaaDoor.Pure
