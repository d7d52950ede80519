/- IsChannelDone: the plain law. Conditions: none but the argument's own size. -/
import Derived.Test.YtlepmbkfpfnnfaaLawValidChannel
namespace Go.E
open Go.RowKit Go.Proofs
set_option linter.unusedSimpArgs false
set_option linter.unusedVariables false

theorem same_IsChannelDone {fuel : Nat} {x : D.Channel} (hf : 18446744073709551616 ≤ fuel) (hw : x.wf) (hs : x.sz ≤ 1048576) : ∃ r, m_spec_IsChannelDone fuel x = some r ∧ m_impl_IsChannelDone fuel x = some r := by
  obtain ⟨r, h1, h2⟩ := same_ValidChannel hf hw hs
  have h3 : m_spec_l28Ok fuel x = some r := by
    unfold m_spec_ValidChannel at h1
    obtain ⟨a, ha, hb⟩ := bind_some h1
    cases hb
    exact ha
  simp only [m_spec_IsChannelDone, m_impl_IsChannelDone, h2, h3, Option.bind_some, m_spec_l28Done, m_impl_Channel_isDone]
  cases r <;> simp

theorem lawIsChannelDone {x0 : D.Channel} (h0 : D.Channel.wf x0) : ∃ fuel, m_laws_FnExactIsChannelDone fuel x0 = some true := by
  obtain ⟨fuel, hf⟩ : ∃ n : Nat, 18446744073709551616 ≤ n := ⟨_, Nat.le_refl _⟩
  refine ⟨fuel, ?_⟩
  unfold m_laws_FnExactIsChannelDone
  obtain ⟨r0, e0, s0⟩ := szChannel_pure (l := (1048576 : Int)) hf h0 (by decide) (by omega)
  rw [e0, Option.bind_some]
  rcases s0 with s0 | ⟨s0, t0⟩
  · rw [if_pos (by simp [s0])]
  rw [if_neg (by simp [s0])]
  have z0 : D.Channel.sz x0 ≤ 1048576 := by omega
  obtain ⟨q, a0, a1⟩ := same_IsChannelDone hf h0 z0
  simp only [Option.bind_some, a0, a1, toChannel_pure hf z0, eqChannel_pure hf z0]
  simp
end Go.E
