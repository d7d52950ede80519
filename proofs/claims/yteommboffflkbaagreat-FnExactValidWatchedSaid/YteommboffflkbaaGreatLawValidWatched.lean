/- ValidWatched: the plain law. Conditions: none but the argument's own size. -/
import Derived.Test.YteommboffflkbaaGreatWatchOk
import Derived.Test.YteommboffflkbaaGreatHWL
namespace Go.E
open Go.RowKit Go.Proofs
set_option linter.unusedSimpArgs false
set_option linter.unusedVariables false

theorem zbp {fuel : Nat} {x : D.Watched} (hf : 18446744073709551616 ≤ fuel) (_hw : D.Watched.wf x) (hs : x.sz ≤ 1048576) : ∃ b, z3V fuel x = some b ∧ z24 fuel x = some b :=
  ⟨_, by unfold z3V; rw [zfW hf hs, Option.bind_some], zfX hf hs⟩
theorem lawValidWatched {x0 : D.Watched} (h0 : D.Watched.wf x0) : ∃ fuel, z2y fuel x0 = some true := by
  obtain ⟨fuel, hf⟩ : ∃ n : Nat, 18446744073709551616 ≤ n := ⟨_, Nat.le_refl _⟩
  refine ⟨fuel, ?_⟩
  unfold z2y
  obtain ⟨r0, e0, s0⟩ := zax (l := (1048576 : Int)) hf h0 (by decide) (by omega)
  rw [e0, Option.bind_some]
  rcases s0 with s0 | ⟨s0, t0⟩
  · rw [if_pos (by simp [s0])]
  rw [if_neg (by simp [s0])]
  have z0 : D.Watched.sz x0 ≤ 1048576 := by omega
  obtain ⟨q, a0, a1⟩ := zbp hf h0 z0
  simp only [Option.bind_some, a0, a1, zav hf z0, zaC hf z0]
  simp
end Go.E

