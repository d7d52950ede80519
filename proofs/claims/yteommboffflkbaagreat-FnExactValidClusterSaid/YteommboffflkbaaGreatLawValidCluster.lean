/- ValidCluster: the plain law. Conditions: none but the argument's own size. -/
import Derived.Test.YteommboffflkbaaGreatSizesV
import Derived.Test.YteommboffflkbaaGreatClusAll
namespace Go.E
open Go.RowKit Go.Proofs
set_option linter.unusedSimpArgs false
set_option linter.unusedVariables false

theorem z9i {fuel : Nat} {x : D.Cluster} (hf : 18446744073709551616 ≤ fuel) (_hw : D.Cluster.wf x) (hs : x.sz ≤ 1048576) : ∃ b, z3c fuel x = some b ∧ z26 fuel x = some b :=
  ⟨_, by unfold z3c; rw [zg1 hf hs, Option.bind_some], zg3 hf hs⟩
theorem lawValidCluster {x0 : D.Cluster} (h0 : D.Cluster.wf x0) : ∃ fuel, z1Y fuel x0 = some true := by
  obtain ⟨fuel, hf⟩ : ∃ n : Nat, 18446744073709551616 ≤ n := ⟨_, Nat.le_refl _⟩
  refine ⟨fuel, ?_⟩
  unfold z1Y
  obtain ⟨r0, e0, s0⟩ := zaQ (l := (1048576 : Int)) hf h0 (by decide) (by omega)
  rw [e0, Option.bind_some]
  rcases s0 with s0 | ⟨s0, t0⟩
  · rw [if_pos (by simp [s0])]
  rw [if_neg (by simp [s0])]
  have z0 : D.Cluster.sz x0 ≤ 1048576 := by omega
  obtain ⟨q, a0, a1⟩ := z9i hf h0 z0
  simp only [Option.bind_some, a0, a1, zaN hf z0, zaV hf z0]
  simp
end Go.E

