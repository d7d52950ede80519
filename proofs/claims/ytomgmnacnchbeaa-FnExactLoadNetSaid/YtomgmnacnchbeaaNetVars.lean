/- Nets: which ports and wires want a variable; how many, at both sides. Conditions: the net is valid. -/
import Derived.Test.YtomgmnacnchbeaaNetWires
import Derived.Test.YtomgmnacnchbeaaNetCopy
import Derived.Test.YtomgmnacnchbeaaFLd
namespace Go.E
open Go.RowKit Go.Proofs
set_option linter.unusedSimpArgs false
set_option linter.unusedVariables false

theorem z6d {n : D.Net} (hn : netN n = true) {i : Nat} {a : D.Agent} (ha : n.Agents[i]? = some a) : (a.Kind == 1) = decide (i = 0) := by
  unfold netN at hn
  rw [Bool.and_eq_true] at hn
  have h1 := hn.1
  unfold agentsN at h1
  rw [Bool.and_eq_true] at h1
  have h2 := (z5U (xs := n.Agents) (p := fun i a => agN a && ((a.Kind == 1) == (i == 0)))).1 h1.2 _ _ ha
  simp only [Nat.zero_add, Bool.and_eq_true] at h2
  have h3 := h2.2
  by_cases h0 : i = 0
  · subst h0; simpa using h3
  · simp only [h0, decide_false]
    rw [show (i == 0) = false by simpa using h0] at h3
    simpa using h3
def auxN (p : D.Port) : Bool := decide (p.Slot > 0) || decide (p.Agent = 0)
theorem z9Q {n : D.Net} {p : D.Port} {fuel : Nat} (hn : netN n = true) (hp : hasN n.Agents p = true) : zt fuel p n = some (auxN p) := by
  obtain ⟨h1, h2, a, q, h3, h4, _⟩ := z6A hp
  unfold zt auxN
  by_cases hs : p.Slot > 0
  · simp [hs]
  · rw [if_neg (by simpa using hs), h4, Option.bind_some, z6d hn h3]
    congr 1
    by_cases h0 : p.Agent = 0
    · simp [h0, hs]
    · have : ¬ p.Agent.toNat = 0 := by omega
      simp [h0, hs, this]
theorem z7R {n : D.Net} {p q : D.Port} {fuel : Nat} (hn : netN n = true) (hp : hasN n.Agents p = true) (hq : hasN n.Agents q = true) : zM fuel n p q = some (auxN p && auxN q) := by
  unfold zM
  rw [z9Q hn hp, Option.bind_some]
  cases auxN p with
  | true => rw [if_pos rfl, z9Q hn hq]; rfl
  | false => rfl
def varW (w : D.Wire) : Nat := if auxN w.A = true ∧ w.B.Slot > 0 then 1 else 0
def varP (n : D.Net) (p : D.Port) : Nat := match portAt n p with
  | some q => if befN p q = true ∧ (auxN p && auxN q) = true then 1 else 0
  | none => 0
theorem zbE {n : D.Net} {p : D.Port} (hn : netN n = true) (hp : hasN n.Agents p = true) : sumL varW (wireAt n p) = varP n p := by
  obtain ⟨q, hq⟩ := z6h hp
  obtain ⟨h1, h2, h3⟩ := z5O hn hp hq
  obtain ⟨a1, a2, _⟩ := z6A hp
  obtain ⟨b1, b2, _⟩ := z6A h2
  unfold wireAt varP
  rw [hq]
  dsimp only
  by_cases hb : befN p q = true
  · rw [if_pos hb]
    simp only [sumL, varW, Nat.add_zero]
    have hk : auxN q = decide (q.Slot > 0) := by
      unfold auxN
      unfold befN at hb
      simp only [Bool.or_eq_true, Bool.and_eq_true, decide_eq_true_eq] at hb
      by_cases hs : q.Slot > 0
      · simp [hs]
      · have : ¬ q.Agent = 0 := by omega
        simp [hs, this]
    rw [hk]
    by_cases hs : q.Slot > 0 <;> cases auxN p <;> simp [hb, hs]
  · rw [if_neg hb, if_neg (fun h => hb h.1)]; rfl
theorem z6N {n : D.Net} {p : D.Port} (h : p ∈ portsL n) : hasN n.Agents p = true := by
  obtain ⟨i, a, k, h1, h2, rfl⟩ := z5B.1 h
  exact z4p.2 ⟨by simp [prt], by simp [prt], a, by simpa [prt] using h1, by simpa [prt] using h2⟩
theorem zau {fuel : Nat} {x : D.Net} (hf : 18446744073709551616 ≤ fuel) (hs : x.sz ≤ 1048576) (hn : netN x = true) :
    z31 fuel x true = some ((sumL varW (wiresL x) : Nat) : Int) ∧ z2A fuel x = some (((x.Agents.length : Int) - 1) + ((sumL varW (wiresL x) : Nat) : Int)) ∧ sumL varW (wiresL x) ≤ 1048576 ∧ (wiresL x).length ≤ 1048576 := by
  obtain ⟨z1, z2, z3⟩ := zcq hs
  have hm : maxLen = 9223372036854775807 := rfl
  have hw1 : (wiresL x).length ≤ 1048576 := by
    have := z6i (g := wireAt x) (fun p => z7V) (portsL x)
    rw [z5N] at this
    exact Nat.le_trans this z2
  have hsum : sumL varW (wiresL x) = sumL (varP x) (portsL x) := by
    unfold wiresL
    rw [z6y]
    exact z8w fun p hp => zbE hn (z6N hp)
  have hbd : sumL varW (wiresL x) ≤ 1048576 := by
    have := z83 (f := varW) (b := 1) (xs := wiresL x) (fun w _ => by unfold varW; split <;> omega)
    omega
  have hS : z31 fuel x true = some ((sumL varW (wiresL x) : Nat) : Int) := by
    unfold z31
    have h := sumLoop (xs := wiresL x) (body := z2j fuel true (wiresL x)) (mk := fun i c => (c, i)) (out := fun c => c) (f := varW) (c0 := 0) hw1 hf (fun i w hw => by
      have hil := (List.getElem?_eq_some_iff.1 hw).1
      have hle := z5u (f := varW) (xs := wiresL x) i
      have hc0 : 0 ≤ (0 : Int) + (sumL varW ((wiresL x).take i) : Nat) ∧ (0 : Int) + (sumL varW ((wiresL x).take i) : Nat) ≤ 1048576 := by omega
      generalize ((0 : Int) + (sumL varW ((wiresL x).take i) : Nat)) = c at *
      unfold z2j
      simp only [zg hw, Option.bind_some]
      rw [if_pos (by simpa using hil)]
      unfold zP z2i varW auxN
      by_cases h1 : w.B.Slot > 0
      · by_cases h2 : w.A.Slot > 0
        · simp [h1, h2, z7 (show -9223372036854775808 ≤ c + 1 by omega) (by omega)]
        · by_cases h3 : w.A.Agent = 0
          · simp [h1, h2, h3, z7 (show -9223372036854775808 ≤ c + 1 by omega) (by omega)]
          · simp [h1, h2, h3]
      · simp [h1]) (fun c => by unfold z2j; rw [if_neg (by simp)])
    rw [z7E hf z1 z2, Option.bind_some, h]
    simp [aft, z4j]
  have hI : z2A fuel x = some (((x.Agents.length : Int) - 1) + ((sumL (varP x) (portsL x) : Nat) : Int)) := by
    have hpl : (portsL x).length ≤ 1048576 := by rw [z5N]; exact z2
    unfold z2A
    have h := sumLoop (xs := portsL x) (body := z29 fuel x (portsL x)) (mk := fun i c => (c, i)) (out := fun c => c) (f := varP x) (c0 := (x.Agents.length : Int) - 1) hpl hf (fun i p hp => by
      have hil := (List.getElem?_eq_some_iff.1 hp).1
      have hle := z5u (f := varP x) (xs := portsL x) i
      have hph := z6N (List.mem_of_getElem? hp)
      obtain ⟨q, hq⟩ := z6h hph
      obtain ⟨h1, h2, h3⟩ := z5O hn hph hq
      have hc0 : -1 ≤ (x.Agents.length : Int) - 1 + (sumL (varP x) ((portsL x).take i) : Nat) ∧ (x.Agents.length : Int) - 1 + (sumL (varP x) ((portsL x).take i) : Nat) ≤ 4194304 := by omega
      generalize ((x.Agents.length : Int) - 1 + (sumL (varP x) ((portsL x).take i) : Nat)) = c at *
      unfold z29
      simp only [zg hp, Option.bind_some]
      rw [if_pos (by simpa using hil), z6b, hq, Option.bind_some, z7r, Option.bind_some, z7R hn hph h2]
      unfold z28 z56 varP
      rw [hq]
      dsimp only
      cases befN p q with
      | false => simp
      | true =>
        cases (auxN p && auxN q) with
        | false => simp [z7 (show -9223372036854775808 ≤ c by omega) (by omega)]
        | true => simp [z7 (show -9223372036854775808 ≤ c + 1 by omega) (by omega)]) (fun c => by unfold z29; rw [if_neg (by simp)])
    rw [netPorts hf z1 z2, Option.bind_some, z5Q (by omega), h]
    simp [aft, z4f]
  refine ⟨hS, ?_, hbd, hw1⟩
  rw [hI, hsum]
end Go.E

