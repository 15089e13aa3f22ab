/- The program's bound at any place of any row is the reference's. No conditions. -/
import Derived.Test.YtffmdnckapalfaaDoorCx3
import Derived.Test.YtffmdnckapalfaaDoorPurD
namespace Go.Proofs.YtffmdnckapalfaaDoor.Pure
open Go.RowKit Go.Proofs.YtffmdnckapalfaaDoor.C Go.Proofs.YtffmdnckapalfaaDoor.PurC Go.Proofs.YtffmdnckapalfaaDoor.PurD Go.Proofs.YtffmdnckapalfaaDoor.ExtC
theorem cp_l0 (x : List Int) (hn : x.length ≤ 600) (a : Int) : ∀ (d k : Nat) (j : Int), -1 ≤ j → j + d = (x.length : Int) + 2 → d + 1000 < k → calamuslaw03_ClusterParted.l0 k x a j = some true
  | 0, k, j, hj, h, hk => by
    obtain ⟨k, rfl⟩ : ∃ q, k = q + 1 := ⟨k - 1, by omega⟩
    have hw : wrap64 ((x.length : Int) + 1) = (x.length : Int) + 1 := by unfold wrap64; omega
    rw [calamuslaw03_ClusterParted.l0, hw, if_neg (by omega), cluster_Parted_ok x (by omega), Parted_ok x (by omega) a k (by omega), works_ok k (by omega)]
    simp
  | d + 1, k, j, hj, h, hk => by
    obtain ⟨k, rfl⟩ : ∃ q, k = q + 1 := ⟨k - 1, by omega⟩
    have hw : wrap64 ((x.length : Int) + 1) = (x.length : Int) + 1 := by unfold wrap64; omega
    have hw2 : wrap64 (j + 1) = j + 1 := by unfold wrap64; omega
    rw [calamuslaw03_ClusterParted.l0, hw, if_pos (by omega), cluster_Parted_ok x (by omega), Parted_ok x (by omega) j k (by omega)]
    simp only [Option.bind_some, bne_self_eq_false, Bool.false_eq_true, if_false]
    rw [hw2]
    exact cp_l0 x hn a d k (j + 1) (by omega) (by omega) (by omega)
theorem ClusterParted : calamuslaw03_ClusterParted.Pure := by
  intro x a _ _ _ _
  by_cases hc : (x.length : Int) > 600
  · refine ⟨11, ?_⟩
    unfold calamuslaw03_ClusterParted.f
    rw [if_pos hc, works_ok 11 (by omega)]; rfl
  · refine ⟨3000, ?_⟩
    unfold calamuslaw03_ClusterParted.f
    rw [if_neg hc]
    exact cp_l0 x (by omega) a (x.length + 3) 3000 (-1) (by omega) (by omega) (by omega)
end Go.Proofs.YtffmdnckapalfaaDoor.Pure
