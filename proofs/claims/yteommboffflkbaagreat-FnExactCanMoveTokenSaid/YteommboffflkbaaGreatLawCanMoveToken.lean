/- CanMoveToken: the plain law. Conditions: none but the argument's own size. -/
import Derived.Test.YteommboffflkbaaGreatSizesD
import Derived.Test.YteommboffflkbaaGreatDetOk
import Derived.Test.YteommboffflkbaaGreatHK
namespace Go.E
open Go.RowKit Go.Proofs
set_option linter.unusedSimpArgs false
set_option linter.unusedVariables false

theorem zcV {fuel : Nat} {x : D.Detector} (hf : 18446744073709551616 ≤ fuel) (_hw : D.Detector.wf x) (hs : x.sz ≤ 1048576) : ∃ b, z4r fuel x = some b ∧ z4y fuel x = some b := by
  unfold D.Detector.sz at hs
  have h : x.Cluster.sz ≤ 1048576 := by omega
  unfold z4r z4y
  rw [zig hf h, zih hf h, Option.bind_some, Option.bind_some]
  cases hd : detN x with
  | false => exact ⟨_, rfl, rfl⟩
  | true =>
    unfold detN at hd
    simp only [Bool.and_eq_true, decide_eq_true_eq] at hd
    have h2 := hd.2.2.1
    obtain ⟨s, hh⟩ := z4a (xs := x.Cluster.Grid.Shards) (i := x.Holder.toNat) (by omega)
    have e : x.Holder = (x.Holder.toNat : Int) := by omega
    unfold z9E z3Z
    rw [e, za hh, Option.bind_some]
    cases x.Announced with
    | false => exact ⟨_, rfl, rfl⟩
    | true => exact ⟨_, rfl, rfl⟩
theorem lawCanMoveToken {x0 : D.Detector} (h0 : D.Detector.wf x0) : ∃ fuel, z2G fuel x0 = some true := by
  obtain ⟨fuel, hf⟩ : ∃ n : Nat, 18446744073709551616 ≤ n := ⟨_, Nat.le_refl _⟩
  refine ⟨fuel, ?_⟩
  unfold z2G
  obtain ⟨r0, e0, s0⟩ := zbb (l := (1048576 : Int)) hf h0 (by decide) (by omega)
  rw [e0, Option.bind_some]
  rcases s0 with s0 | ⟨s0, t0⟩
  · rw [if_pos (by simp [s0])]
  rw [if_neg (by simp [s0])]
  have z0 : D.Detector.sz x0 ≤ 1048576 := by omega
  obtain ⟨q, a0, a1⟩ := zcV hf h0 z0
  simp only [Option.bind_some, a0, a1, zba hf z0, zby hf z0]
  simp
end Go.E

