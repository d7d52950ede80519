/- ClusterDone: the plain law. Conditions: none but the argument's own size. -/
import Derived.Test.YteommboffflkbaaGreatRounds
import Derived.Test.YteommboffflkbaaGreatClusActs
namespace Go.E
open Go.RowKit Go.Proofs
set_option linter.unusedSimpArgs false
set_option linter.unusedVariables false

theorem zdk {fuel : Nat} {x : D.Cluster} (hf : 18446744073709551616 ≤ fuel) (_hw : D.Cluster.wf x) (hs : x.sz ≤ 1048576) : ∃ b, z54 fuel x = some b ∧ z5h fuel x = some b := by
  unfold z54 z5h
  rw [zbA hf hs, zbB hf hs, Option.bind_some, Option.bind_some]
  cases h : clusN x with
  | false => exact ⟨_, rfl, rfl⟩
  | true =>
    obtain ⟨hS, hC, hk, hl⟩ := zaJ hs h
    rw [if_pos rfl, if_pos rfl, zhd hf hS hC hk hl, zhe hf hS hC hk]
    exact ⟨_, rfl, rfl⟩
theorem lawClusterDone {x0 : D.Cluster} (h0 : D.Cluster.wf x0) : ∃ fuel, z2W fuel x0 = some true := by
  obtain ⟨fuel, hf⟩ : ∃ n : Nat, 18446744073709551616 ≤ n := ⟨_, Nat.le_refl _⟩
  refine ⟨fuel, ?_⟩
  unfold z2W
  obtain ⟨r0, e0, s0⟩ := z7y (l := (1048576 : Int)) hf h0 (by decide) (by omega)
  rw [e0, Option.bind_some]
  rcases s0 with s0 | ⟨s0, t0⟩
  · rw [if_pos (by simp [s0])]
  rw [if_neg (by simp [s0])]
  have z0 : D.Cluster.sz x0 ≤ 1048576 := by omega
  obtain ⟨q, a0, a1⟩ := zdk hf h0 z0
  simp only [Option.bind_some, a0, a1, z6G hf z0, z6K hf z0]
  simp
end Go.E

