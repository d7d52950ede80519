/- Nets: their copies, links and sizes. Conditions: each lemma names its own. -/
import Derived.Test.YtomgmnacnchbeaaSzDefs
import Derived.Test.YtomgmnacnchbeaaNetOps
namespace Go.E
open Go.RowKit Go.Proofs
set_option linter.unusedSimpArgs false
set_option linter.unusedVariables false

theorem net_sz {x : D.Net} (h : x.sz ≤ 1048576) : x.Agents.length ≤ 1048576 ∧ sumL (fun a : D.Agent => a.Ports.length) x.Agents ≤ 1048576 ∧ ∀ a, a ∈ x.Agents → a.Data.length ≤ maxLen ∧ a.Ports.length ≤ maxLen := by
  have hm : maxLen = 9223372036854775807 := rfl
  unfold D.Net.sz szL at h
  have h1 : ∀ xs : List D.Agent, sumL (fun a : D.Agent => a.Ports.length) xs ≤ sumL D.Agent.sz xs := by
    intro xs
    induction xs with
    | nil => exact Nat.le_refl _
    | cons y ys ih => unfold sumL; have : y.Ports.length ≤ y.sz := by unfold D.Agent.sz; omega
                      omega
  refine ⟨by omega, Nat.le_trans (h1 _) (by omega), fun a ha => ?_⟩
  have := sumL_mem (f := D.Agent.sz) ha
  have h9 : a.sz = a.Data.length + (a.Ports.length + 0) := rfl
  omega
theorem own_agent {a : D.Agent} {fuel : Nat} (h1 : a.Data.length ≤ 1048576) (h2 : a.Ports.length ≤ 1048576) : m_spec_l11OwnAgent fuel a = some a := by
  unfold m_spec_l11OwnAgent m_spec_l00Own
  rw [if_pos (by simp; omega), Option.bind_some, if_pos (by simp; omega)]
  simp
theorem copy_agent {a : D.Agent} {fuel : Nat} (h1 : a.Data.length ≤ 1048576) (h2 : a.Ports.length ≤ 1048576) : m_impl_copyAgent fuel a = some a := by
  unfold m_impl_copyAgent m_slices_Clone_int64_int64 m_slices_Clone_impl_Port_impl_Port
  rw [if_pos (by simp; omega), Option.bind_some, if_pos (by simp; omega)]
  simp
theorem agent_sz {x : D.Net} (h : x.sz ≤ 1048576) {a : D.Agent} (ha : a ∈ x.Agents) : a.Data.length ≤ 1048576 ∧ a.Ports.length ≤ 1048576 := by
  unfold D.Net.sz szL at h
  have := sumL_mem (f := D.Agent.sz) ha
  have h9 : a.sz = a.Data.length + (a.Ports.length + 0) := rfl
  omega
theorem own_net {x : D.Net} {fuel : Nat} (hf : 18446744073709551616 ≤ fuel) (h : x.sz ≤ 1048576) : m_spec_l11Own fuel x = some x := by
  have hl := (net_sz h).1
  unfold m_spec_l11Own
  rw [mapLoop (xs := x.Agents) (g := fun a => a) hl hf (fun i a s ha hs => by
    have hil := (List.getElem?_eq_some_iff.1 ha).1
    obtain ⟨z1, z2⟩ := agent_sz h (List.mem_of_getElem? ha)
    unfold m_spec_l11Own_b1
    rw [if_pos (by simpa using hil), idx_at ha, Option.bind_some, own_agent z1 z2, Option.bind_some, if_pos (by simp; omega)]) (fun s => by unfold m_spec_l11Own_b1; rw [if_neg (by simp)])]
  simp [aft, m_spec_l11Own_j1]
theorem copy_net {x : D.Net} {fuel : Nat} (hf : 18446744073709551616 ≤ fuel) (h : x.sz ≤ 1048576) : m_impl_copyNet fuel x = some x := by
  have hl := (net_sz h).1
  unfold m_impl_copyNet
  rw [if_pos (by simp; omega), mapLoop (xs := x.Agents) (g := fun a => a) hl hf (fun i a s ha hs => by
    have hil := (List.getElem?_eq_some_iff.1 ha).1
    obtain ⟨z1, z2⟩ := agent_sz h (List.mem_of_getElem? ha)
    unfold m_impl_copyNet_b1
    rw [if_pos (by simpa using hil), idx_at ha, Option.bind_some, copy_agent z1 z2, Option.bind_some, if_pos (by simp; omega)]) (fun s => by unfold m_impl_copyNet_b1; rw [if_neg (by simp)])]
  simp [aft, m_impl_copyNet_j1]
theorem link_eq {n : D.Net} {p q : D.Port} {fuel : Nat} : m_impl_Net_link fuel n p q = linkN n p q := by
  unfold m_impl_Net_link linkN setPort
  cases idx n.Agents p.Agent with
  | none => rfl
  | some a =>
    simp only [Option.bind_some]
    split
    · simp only [Option.bind_some]
    · rfl
theorem link_spec {n : D.Net} {p q : D.Port} {fuel : Nat} : m_spec_l11Link fuel n p q = linkN n p q := link_eq (fuel := fuel)
theorem peer_spec {n : D.Net} {p : D.Port} {fuel : Nat} : m_spec_l11Peer fuel n p = portAt n p := peer_impl (fuel := fuel)
theorem sz_shp {n m : D.Net} (h : m.Agents.map shp = n.Agents.map shp) : m.sz = n.sz := by
  unfold D.Net.sz szL
  have h1 : m.Agents.length = n.Agents.length := by simpa using congrArg List.length h
  have h2 : sumL D.Agent.sz m.Agents = sumL D.Agent.sz n.Agents := shp_sum h (fun x => x.2.2.2.1.length + (x.2.2.2.2 + 0))
  omega
end Go.E
