/- CellsFor: the plain law. Conditions: none but the argument's own size. -/
import Derived.Test.YtomgmnacnchbeaaSizesC
import Derived.Test.YtomgmnacnchbeaaNetWires
namespace Go.E
open Go.RowKit Go.Proofs
set_option linter.unusedSimpArgs false
set_option linter.unusedVariables false

theorem net_sz {x : D.Net} (h : x.sz ≤ 1048576) : x.Agents.length ≤ 1048576 ∧ sumL (fun a : D.Agent => a.Ports.length) x.Agents ≤ 1048576 ∧ ∀ a, a ∈ x.Agents → a.Data.length ≤ maxLen ∧ a.Ports.length ≤ maxLen := by
  have hm : maxLen = 9223372036854775807 := rfl
  unfold D.Net.sz szL at h
  have h1 : ∀ xs : List D.Agent, sumL (fun a : D.Agent => a.Ports.length) xs ≤ sumL D.Agent.sz xs := by
    intro xs
    induction xs with
    | nil => exact Nat.le_refl _
    | cons y ys ih => unfold sumL; have : y.Ports.length ≤ y.sz := by unfold D.Agent.sz; omega
                      omega
  refine ⟨by omega, Nat.le_trans (h1 _) (by omega), fun a ha => ?_⟩
  have := sumL_mem (f := D.Agent.sz) ha
  have h9 : a.sz = a.Data.length + (a.Ports.length + 0) := rfl
  omega
theorem net_kind {n : D.Net} (hn : netN n = true) {i : Nat} {a : D.Agent} (ha : n.Agents[i]? = some a) : (a.Kind == 1) = decide (i = 0) := by
  unfold netN at hn
  rw [Bool.and_eq_true] at hn
  have h1 := hn.1
  unfold agentsN at h1
  rw [Bool.and_eq_true] at h1
  have h2 := (zip_all (xs := n.Agents) (p := fun i a => agN a && ((a.Kind == 1) == (i == 0)))).1 h1.2 _ _ ha
  simp only [Nat.zero_add, Bool.and_eq_true] at h2
  have h3 := h2.2
  by_cases h0 : i = 0
  · subst h0; simpa using h3
  · simp only [h0, decide_false]
    rw [show (i == 0) = false by simpa using h0] at h3
    simpa using h3
def auxN (p : D.Port) : Bool := decide (p.Slot > 0) || decide (p.Agent = 0)
theorem aux_impl {n : D.Net} {p : D.Port} {fuel : Nat} (hn : netN n = true) (hp : hasN n.Agents p = true) : m_impl_needsVariable_c1 fuel p n = some (auxN p) := by
  obtain ⟨h1, h2, a, q, h3, h4, _⟩ := has_at hp
  unfold m_impl_needsVariable_c1 auxN
  by_cases hs : p.Slot > 0
  · simp [hs]
  · rw [if_neg (by simpa using hs), h4, Option.bind_some, net_kind hn h3]
    congr 1
    by_cases h0 : p.Agent = 0
    · simp [h0, hs]
    · have : ¬ p.Agent.toNat = 0 := by omega
      simp [h0, hs, this]
theorem needs_impl {n : D.Net} {p q : D.Port} {fuel : Nat} (hn : netN n = true) (hp : hasN n.Agents p = true) (hq : hasN n.Agents q = true) : m_impl_needsVariable fuel n p q = some (auxN p && auxN q) := by
  unfold m_impl_needsVariable
  rw [aux_impl hn hp, Option.bind_some]
  cases auxN p with
  | true => rw [if_pos rfl, aux_impl hn hq]; rfl
  | false => rfl
def varW (w : D.Wire) : Nat := if auxN w.A = true ∧ w.B.Slot > 0 then 1 else 0
def varP (n : D.Net) (p : D.Port) : Nat := match portAt n p with
  | some q => if befN p q = true ∧ (auxN p && auxN q) = true then 1 else 0
  | none => 0
theorem var_same {n : D.Net} {p : D.Port} (hn : netN n = true) (hp : hasN n.Agents p = true) : sumL varW (wireAt n p) = varP n p := by
  obtain ⟨q, hq⟩ := has_port hp
  obtain ⟨h1, h2, h3⟩ := net_peer hn hp hq
  obtain ⟨a1, a2, _⟩ := has_at hp
  obtain ⟨b1, b2, _⟩ := has_at h2
  unfold wireAt varP
  rw [hq]
  dsimp only
  by_cases hb : befN p q = true
  · rw [if_pos hb]
    simp only [sumL, varW, Nat.add_zero]
    have hk : auxN q = decide (q.Slot > 0) := by
      unfold auxN
      unfold befN at hb
      simp only [Bool.or_eq_true, Bool.and_eq_true, decide_eq_true_eq] at hb
      by_cases hs : q.Slot > 0
      · simp [hs]
      · have : ¬ q.Agent = 0 := by omega
        simp [hs, this]
    rw [hk]
    by_cases hs : q.Slot > 0 <;> cases auxN p <;> simp [hb, hs]
  · rw [if_neg hb, if_neg (fun h => hb h.1)]; rfl
theorem port_has {n : D.Net} {p : D.Port} (h : p ∈ portsL n) : hasN n.Agents p = true := by
  obtain ⟨i, a, k, h1, h2, rfl⟩ := mem_ports.1 h
  exact has_iff.2 ⟨by simp [prt], by simp [prt], a, by simpa [prt] using h1, by simpa [prt] using h2⟩
theorem same_CellsFor {fuel : Nat} {x : D.Net} (hf : 18446744073709551616 ≤ fuel) (hw : D.Net.wf x) (hs : x.sz ≤ 1048576) :
    ∃ r : Int × Int, m_spec_CellsFor fuel x = some r ∧ m_impl_CellsFor fuel x = some r := by
  obtain ⟨z1, z2, z3⟩ := net_sz hs
  have hm : maxLen = 9223372036854775807 := rfl
  unfold m_spec_CellsFor m_impl_CellsFor
  rw [net_spec hf z1 z3, net_impl hf z1 z2 z3, Option.bind_some, Option.bind_some]
  cases hn : netN x with
  | false => exact ⟨_, rfl, rfl⟩
  | true =>
    rw [if_neg (by simp), if_neg (by simp)]
    have hw1 : (wiresL x).length ≤ 1048576 := by
      have := flat_one (g := wireAt x) (fun p => wire_one) (portsL x)
      rw [portsL_len] at this
      exact Nat.le_trans this z2
    have hsum : sumL varW (wiresL x) = sumL (varP x) (portsL x) := by
      unfold wiresL
      rw [sumL_flatMap]
      exact sumL_same fun p hp => var_same hn (port_has hp)
    have hbd : sumL varW (wiresL x) ≤ 1048576 := by
      have := sumL_le (f := varW) (b := 1) (xs := wiresL x) (fun w _ => by unfold varW; split <;> omega)
      omega
    have hS : m_spec_l21Vars fuel x true = some ((sumL varW (wiresL x) : Nat) : Int) := by
      unfold m_spec_l21Vars
      have h := sumLoop (xs := wiresL x) (body := m_spec_l21Vars_b1 fuel true (wiresL x)) (mk := fun i c => (c, i)) (out := fun c => c) (f := varW) (c0 := 0) hw1 hf (fun i w hw => by
        have hil := (List.getElem?_eq_some_iff.1 hw).1
        have hle := sumL_take_le (f := varW) (xs := wiresL x) i
        have hc0 : 0 ≤ (0 : Int) + (sumL varW ((wiresL x).take i) : Nat) ∧ (0 : Int) + (sumL varW ((wiresL x).take i) : Nat) ≤ 1048576 := by omega
        generalize ((0 : Int) + (sumL varW ((wiresL x).take i) : Nat)) = c at *
        unfold m_spec_l21Vars_b1
        simp only [idx_at hw, Option.bind_some]
        rw [if_pos (by simpa using hil)]
        unfold m_spec_l21Vars_j2 m_spec_l21Vars_j3 varW auxN
        by_cases h1 : w.B.Slot > 0
        · by_cases h2 : w.A.Slot > 0
          · simp [h1, h2, i64_small (show -9223372036854775808 ≤ c + 1 by omega) (by omega)]
          · by_cases h3 : w.A.Agent = 0
            · simp [h1, h2, h3, i64_small (show -9223372036854775808 ≤ c + 1 by omega) (by omega)]
            · simp [h1, h2, h3]
        · simp [h1]) (fun c => by unfold m_spec_l21Vars_b1; rw [if_neg (by simp)])
      rw [wires_spec hf z1 z2, Option.bind_some, h]
      simp [aft, m_spec_l21Vars_j1]
    have hI : m_impl_cellsFor fuel x = some (((x.Agents.length : Int) - 1) + ((sumL (varP x) (portsL x) : Nat) : Int)) := by
      have hpl : (portsL x).length ≤ 1048576 := by rw [portsL_len]; exact z2
      unfold m_impl_cellsFor
      have h := sumLoop (xs := portsL x) (body := m_impl_cellsFor_b1 fuel x (portsL x)) (mk := fun i c => (c, i)) (out := fun c => c) (f := varP x) (c0 := (x.Agents.length : Int) - 1) hpl hf (fun i p hp => by
        have hil := (List.getElem?_eq_some_iff.1 hp).1
        have hle := sumL_take_le (f := varP x) (xs := portsL x) i
        have hph := port_has (List.mem_of_getElem? hp)
        obtain ⟨q, hq⟩ := has_port hph
        obtain ⟨h1, h2, h3⟩ := net_peer hn hph hq
        have hc0 : -1 ≤ (x.Agents.length : Int) - 1 + (sumL (varP x) ((portsL x).take i) : Nat) ∧ (x.Agents.length : Int) - 1 + (sumL (varP x) ((portsL x).take i) : Nat) ≤ 4194304 := by omega
        generalize ((x.Agents.length : Int) - 1 + (sumL (varP x) ((portsL x).take i) : Nat)) = c at *
        unfold m_impl_cellsFor_b1
        simp only [idx_at hp, Option.bind_some]
        rw [if_pos (by simpa using hil), peer_impl, hq, Option.bind_some, before_impl, Option.bind_some, needs_impl hn hph h2]
        unfold m_impl_cellsFor_j2 m_impl_truth varP
        rw [hq]
        dsimp only
        cases befN p q with
        | false => simp
        | true =>
          cases (auxN p && auxN q) with
          | false => simp [i64_small (show -9223372036854775808 ≤ c by omega) (by omega)]
          | true => simp [i64_small (show -9223372036854775808 ≤ c + 1 by omega) (by omega)]) (fun c => by unfold m_impl_cellsFor_b1; rw [if_neg (by simp)])
      rw [netPorts hf z1 z2, Option.bind_some, fields_w (by omega), h]
      simp [aft, m_impl_cellsFor_j1]
    rw [hS, hI, Option.bind_some, Option.bind_some, fields_w (by omega), i64_small (by omega) (by omega), hsum]
    exact ⟨_, rfl, rfl⟩

theorem lawCellsFor {x0 : D.Net} (h0 : D.Net.wf x0) : ∃ fuel, m_laws_FnExactCellsFor fuel x0 = some true := by
  obtain ⟨fuel, hf⟩ : ∃ n : Nat, 18446744073709551616 ≤ n := ⟨_, Nat.le_refl _⟩
  refine ⟨fuel, ?_⟩
  unfold m_laws_FnExactCellsFor
  obtain ⟨r0, e0, s0⟩ := szNet_pure (l := (1048576 : Int)) hf h0 (by decide) (by omega)
  rw [e0, Option.bind_some]
  rcases s0 with s0 | ⟨s0, t0⟩
  · rw [if_pos (by simp [s0])]
  rw [if_neg (by simp [s0])]
  have z0 : D.Net.sz x0 ≤ 1048576 := by omega
  obtain ⟨q, a0, a1⟩ := same_CellsFor hf h0 z0
  simp only [Option.bind_some, a0, a1, toNet_pure hf z0, eqNet_pure hf z0]
  simp [m_laws_FnExactCellsFor_j1, toNet_pure hf z0, eqNet_pure hf z0]
end Go.E
