/- Nets: copies, wires laid; what they do to the ports and to the shape. Conditions: each lemma names its own. -/
import Derived.Test.YtomgmnacnchbeaaOkNet
namespace Go.E
open Go.RowKit Go.Proofs
set_option linter.unusedSimpArgs false
set_option linter.unusedVariables false


theorem z6h {n : D.Net} {p : D.Port} (h : hasN n.Agents p = true) : ∃ q, portAt n p = some q := by
  obtain ⟨_, _, a, q, _, h4, _, h6, _⟩ := z6A h
  exact ⟨q, by unfold portAt; rw [h4, Option.bind_some, h6]⟩

theorem z5O {n : D.Net} (hn : netN n = true) {p q : D.Port} (hp : hasN n.Agents p = true) (hq : portAt n p = some q) : q ≠ p ∧ hasN n.Agents q = true ∧ portAt n q = some p := by
  unfold netN at hn
  rw [Bool.and_eq_true] at hn
  obtain ⟨h1, h2, a, o, h3, h4, h5, h6, h7, h8⟩ := z6A hp
  have hqo : q = o := by
    unfold portAt at hq
    rw [h4, Option.bind_some, h6] at hq
    exact (Option.some.inj hq).symm
  subst hqo
  have h9 := (z5U (xs := n.Agents) (p := fun i a => a.Ports.zipIdx.all fun y => chkN n i y.2 y.1)).1 hn.2 _ _ h3
  simp only [Nat.zero_add] at h9
  have h11 := (z5U (xs := a.Ports) (p := fun k q => chkN n p.Agent.toNat k q)).1 h9 _ _ h5
  simp only [Nat.zero_add] at h11
  have hpe : prt p.Agent.toNat p.Slot.toNat = p := by
    obtain ⟨x, y⟩ := p
    unfold prt
    dsimp only at h1 h2 ⊢
    congr 1 <;> omega
  unfold chkN at h11
  rw [hpe] at h11
  simp only [Bool.and_eq_true, Bool.not_eq_true', decide_eq_false_iff_not, decide_eq_true_eq] at h11
  exact ⟨h11.1, h11.2.1, h11.2.2⟩
end Go.E

