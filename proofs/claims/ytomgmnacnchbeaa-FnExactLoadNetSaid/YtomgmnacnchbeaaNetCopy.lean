/- Nets: their copies, links and sizes. Conditions: each lemma names its own. -/
import Derived.Test.YtomgmnacnchbeaaSzDefs
import Derived.Test.YtomgmnacnchbeaaNetOps
namespace Go.E
open Go.RowKit Go.Proofs
set_option linter.unusedSimpArgs false
set_option linter.unusedVariables false

theorem zcq {x : D.Net} (h : x.sz ≤ 1048576) : x.Agents.length ≤ 1048576 ∧ sumL (fun a : D.Agent => a.Ports.length) x.Agents ≤ 1048576 ∧ ∀ a, a ∈ x.Agents → a.Data.length ≤ maxLen ∧ a.Ports.length ≤ maxLen := by
  have hm : maxLen = 9223372036854775807 := rfl
  unfold D.Net.sz szL at h
  have h1 : ∀ xs : List D.Agent, sumL (fun a : D.Agent => a.Ports.length) xs ≤ sumL D.Agent.sz xs := by
    intro xs
    induction xs with
    | nil => exact Nat.le_refl _
    | cons y ys ih => unfold sumL; have : y.Ports.length ≤ y.sz := by unfold D.Agent.sz; omega
                      omega
  refine ⟨by omega, Nat.le_trans (h1 _) (by omega), fun a ha => ?_⟩
  have := z5M (f := D.Agent.sz) ha
  have h9 : a.sz = a.Data.length + (a.Ports.length + 0) := rfl
  omega
theorem z8h {x : D.Net} (h : x.sz ≤ 1048576) {a : D.Agent} (ha : a ∈ x.Agents) : a.Data.length ≤ 1048576 ∧ a.Ports.length ≤ 1048576 := by
  unfold D.Net.sz szL at h
  have := z5M (f := D.Agent.sz) ha
  have h9 : a.sz = a.Data.length + (a.Ports.length + 0) := rfl
  omega
end Go.E

