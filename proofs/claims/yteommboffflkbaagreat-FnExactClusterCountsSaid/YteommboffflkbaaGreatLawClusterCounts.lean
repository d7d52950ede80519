/- ClusterCounts: the plain law. Conditions: none but the argument's own size. -/
import Derived.Test.YteommboffflkbaaGreatMarksC
import Derived.Test.YteommboffflkbaaGreatClusCounts
namespace Go.E
open Go.RowKit Go.Proofs
set_option linter.unusedSimpArgs false
set_option linter.unusedVariables false

theorem zck {fuel : Nat} {x : D.Cluster} (hf : 18446744073709551616 ≤ fuel) (_hw : D.Cluster.wf x) (hs : x.sz ≤ 1048576) : ∃ r, z3C fuel x = some r ∧ z2D fuel x = some r ∧ r.1.length ≤ 1048576 := by
  unfold z3C z2D
  rw [zbA hf hs, zbB hf hs, Option.bind_some, Option.bind_some]
  cases h : clusN x with
  | false => exact ⟨_, rfl, rfl, Nat.zero_le _⟩
  | true =>
    obtain ⟨z1, z2, z3, z4, z5, z6, z7⟩ := zd7 hs
    have h7 : ∀ y, y ∈ x.Counts → y.length = 7 := fun y hy => zmc hs h hy
    have h1 := zje h7
    have h8 : decide (0 ≤ (7 : Int) ∧ (7 : Int) ≤ 4294967296) = true := by decide
    simp only [Bool.not_true, Bool.false_eq_true, if_false]
    rw [if_pos h8, if_pos h8, zmv hf z4 h7, zmw hf z4 h7]
    exact ⟨_, rfl, rfl, by dsimp only; omega⟩

theorem lawClusterCounts {x0 : D.Cluster} (h0 : D.Cluster.wf x0) : ∃ fuel, z2r fuel x0 = some true := by
  obtain ⟨fuel, hf⟩ : ∃ n : Nat, 18446744073709551616 ≤ n := ⟨_, Nat.le_refl _⟩
  refine ⟨fuel, ?_⟩
  unfold z2r
  obtain ⟨r0, e0, s0⟩ := z7y (l := (1048576 : Int)) hf h0 (by decide) (by omega)
  rw [e0, Option.bind_some]
  rcases s0 with s0 | ⟨s0, t0⟩
  · rw [if_pos (by simp [s0])]
  rw [if_neg (by simp [s0])]
  have z0 : D.Cluster.sz x0 ≤ 1048576 := by omega
  obtain ⟨r, a0, a1, b0⟩ := zck hf h0 z0
  have m0 := fun {β : Type} (g : _ → Option β) => z7x (g := g) a0
  have m1 := fun {β : Type} (g : _ → Option β) => z7x (g := g) a1
  have m2 := fun {β : Type} (g : _ → Option β) => z7x (g := g) (z6G hf z0)
  have m3 := fun {β : Type} (g : _ → Option β) => z7x (g := g) (z6K hf z0)
  have m4 := fun {β : Type} (g : _ → Option β) (k : Int) (h0 : 0 ≤ k) (h1 : k + (ctCluster x0 : Nat) ≤ 2147483648) => z7x (g := g) (zb2 hf z0 h0 h1)
  have c0 := zda (x := x0)
  have m5 := fun {β : Type} (g : _ → Option β) => z7x (g := g) (z8H hf b0)
  have m6 := fun {β : Type} (g : _ → Option β) (k : Int) (h0 : 0 ≤ k) (h1 : k + (z30 r.1 : Nat) ≤ 2147483648) => z7x (g := g) (z5J hf b0 h0 h1)
  have m7 := fun {β : Type} (g : _ → Option β) (k : Int) (h0 : 0 ≤ k) (h1 : k + (z30 r.1 : Nat) ≤ 2147483648) => z7x (g := g) (zeh hf b0 h0 h1)
  have d0 := z8X (xs := r.1)
  simp (disch := omega) only [↓reduceIte, ↓m0, ↓m1, ↓m2, ↓m3, ↓m4, ↓m5, ↓m6, ↓m7, lt_f, Bool.not_true, Bool.false_eq_true, bne_self_eq_false]
  simp (disch := omega) only [↓reduceIte, ↓z1d, ↓m0, ↓m1, ↓m2, ↓m3, ↓m4, ↓m5, ↓m6, ↓m7, lt_f, Bool.not_true, Bool.false_eq_true, bne_self_eq_false]
  simp (disch := omega) only [↓reduceIte, ↓zO, ↓m0, ↓m1, ↓m2, ↓m3, ↓m4, ↓m5, ↓m6, ↓m7, lt_f, Bool.not_true, Bool.false_eq_true, bne_self_eq_false]
  simp (disch := omega) only [↓reduceIte, ↓z1c, ↓m0, ↓m1, ↓m2, ↓m3, ↓m4, ↓m5, ↓m6, ↓m7, lt_f, Bool.not_true, Bool.false_eq_true, bne_self_eq_false]
end Go.E

