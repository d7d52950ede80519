/- InTransit: the plain law. Conditions: none but the argument's own size. -/
import Derived.Test.YteommboffflkbaaGreatRounds
import Derived.Test.YteommboffflkbaaGreatClusSum
namespace Go.E
open Go.RowKit Go.Proofs
set_option linter.unusedSimpArgs false
set_option linter.unusedVariables false

theorem zeP {fuel : Nat} {x : D.Cluster} (hf : 18446744073709551616 ≤ fuel) (_hw : D.Cluster.wf x) (hs : x.sz ≤ 1048576) : ∃ b, z6u fuel x = some b ∧ z6D fuel x = some b := by
  unfold z6u z6D
  rw [zbA hf hs, zbB hf hs, Option.bind_some, Option.bind_some]
  cases h : clusN x with
  | false => exact ⟨_, rfl, rfl⟩
  | true =>
    obtain ⟨hS, hC, hk, hl⟩ := zaJ hs h
    rw [if_neg (by simp), if_neg (by simp), zjD hf hC, zjE hf hC]
    exact ⟨_, rfl, rfl⟩
theorem lawInTransit {x0 : D.Cluster} (h0 : D.Cluster.wf x0) : ∃ fuel, z3X fuel x0 = some true := by
  obtain ⟨fuel, hf⟩ : ∃ n : Nat, 18446744073709551616 ≤ n := ⟨_, Nat.le_refl _⟩
  refine ⟨fuel, ?_⟩
  unfold z3X
  obtain ⟨r0, e0, s0⟩ := z7y (l := (1048576 : Int)) hf h0 (by decide) (by omega)
  rw [e0, Option.bind_some]
  rcases s0 with s0 | ⟨s0, t0⟩
  · rw [if_pos (by simp [s0])]
  rw [if_neg (by simp [s0])]
  have z0 : D.Cluster.sz x0 ≤ 1048576 := by omega
  obtain ⟨q, a0, a1⟩ := zeP hf h0 z0
  simp only [Option.bind_some, a0, a1, z6G hf z0, z6K hf z0]
  simp [z1C, z6G hf z0, z6K hf z0]
end Go.E

