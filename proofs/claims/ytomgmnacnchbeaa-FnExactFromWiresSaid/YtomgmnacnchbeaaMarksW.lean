/- What the functions that mark data and look for the marks give (written by program). Conditions: counts stay small. -/
import Derived.Test.YtomgmnacnchbeaaMark
import Derived.Test.YtomgmnacnchbeaaSizesW
import Derived.Test.YtomgmnacnchbeaaFW
namespace Go.E
open Go.RowKit Go.Proofs
set_option linter.unusedSimpArgs false
set_option linter.unusedVariables false

def elInt64S (fuel : Nat) (x : Int) (k : Int) : Int := k
def ecInt64S (x : Int) : Nat := 1
def mkInt64S (fuel : Nat) (xs : List Int) (k : Int) : List Int := markL (elInt64S fuel) ecInt64S xs k
def ctInt64S (xs : List Int) : Nat := sumL ecInt64S xs
theorem markInt64S_pure {fuel : Nat} {xs : List Int} {k : Int} (hf : 18446744073709551616 ≤ fuel) (hl : xs.length ≤ 1048576) (h0 : 0 ≤ k) (h1 : k + (ctInt64S xs : Nat) ≤ 2147483648) : m_laws_markInt64S fuel xs k = some (k + (ctInt64S xs : Nat), mkInt64S fuel xs k) := by
  unfold m_laws_markInt64S
  rw [mark_loop (f := elInt64S fuel) (c := ecInt64S) (xs := xs) (k := k) (by have := hl; omega) hf h0 h1 ?_ ?_]
  · rfl
  · intro i x ys k hi hl2 hx hm h0 h1
    unfold ecInt64S at h1
    unfold m_laws_markInt64S_b1 elInt64S ecInt64S
    rw [if_pos (decide_eq_true (show (i : Int) < xs.length by omega))]
    rw [if_pos (decide_eq_true (show 0 ≤ (i : Int) ∧ (i : Int).toNat < ys.length from ⟨by omega, by rw [hl2]; simpa using hi⟩))]
    simp (disch := omega) only [w64_up, Int.toNat_natCast, Int.ofNat_one, Int.natCast_one]
  · intro k ys; unfold m_laws_markInt64S_b1; rw [if_neg (by simp)]

theorem heldInt64S_pure {fuel : Nat} {xs : List Int} {k : Int} (hf : 18446744073709551616 ≤ fuel) (hl : xs.length ≤ 1048576) (h0 : 0 ≤ k) (h1 : k + (ctInt64S xs : Nat) ≤ 2147483648) : m_laws_heldInt64S fuel (mkInt64S fuel xs k) k = some (k + (ctInt64S xs : Nat)) := by
  unfold m_laws_heldInt64S
  have hlen : (mkInt64S fuel xs k).length = xs.length := markL_length _ _
  rw [held_loop (f := elInt64S fuel) (c := ecInt64S) (xs := xs) (k := k) (by have := hl; omega) hf h0 h1 ?_ ?_]
  · rfl
  · intro i x k' hi hx hm h0 h1
    unfold ecInt64S at h1
    have hx2 : (mkInt64S fuel xs k)[i]? = some (elInt64S fuel x k') := hx
    unfold m_laws_heldInt64S_b1
    rw [if_pos (decide_eq_true (show (i : Int) < (mkInt64S fuel xs k).length by rw [hlen]; omega))]
    simp only [idx_at hx2, Option.bind_some]
    unfold elInt64S ecInt64S
    simp (disch := omega) only [w64_up, Option.bind_some, lt_f, if_false, bne_self_eq_false, Bool.false_eq_true, beq_self_eq_true, Bool.not_true, Int.ofNat_one, Int.natCast_one]
  · intro k'; show m_laws_heldInt64S_b1 fuel (mkInt64S fuel xs k) (k', ((mkInt64S fuel xs k).length : Int)) = _; unfold m_laws_heldInt64S_b1; rw [if_neg (by simp)]

theorem ctInt64S_le {xs : List Int} : ctInt64S xs ≤ 64 * (xs.length) := by
  have h := sumL_le (c := ecInt64S) (g := (fun _ => 0)) (m := 64) (xs := xs) fun x _ => by
    unfold ecInt64S
    omega
  rw [szL_zero (fun _ => rfl)] at h
  exact h

def elPortS (fuel : Nat) (x : D.Port) (k : Int) : D.Port := (⟨k, k + 1⟩ : D.Port)
def ecPortS (x : D.Port) : Nat := 1 + 1
def mkPortS (fuel : Nat) (xs : List D.Port) (k : Int) : List D.Port := markL (elPortS fuel) ecPortS xs k
def ctPortS (xs : List D.Port) : Nat := sumL ecPortS xs
theorem markPortS_pure {fuel : Nat} {xs : List D.Port} {k : Int} (hf : 18446744073709551616 ≤ fuel) (hl : xs.length ≤ 1048576) (h0 : 0 ≤ k) (h1 : k + (ctPortS xs : Nat) ≤ 2147483648) : m_laws_markPortS fuel xs k = some (k + (ctPortS xs : Nat), mkPortS fuel xs k) := by
  unfold m_laws_markPortS
  rw [mark_loop (f := elPortS fuel) (c := ecPortS) (xs := xs) (k := k) (by have := hl; omega) hf h0 h1 ?_ ?_]
  · rfl
  · intro i x ys k hi hl2 hx hm h0 h1
    unfold ecPortS at h1
    unfold m_laws_markPortS_b1 elPortS ecPortS
    rw [if_pos (decide_eq_true (show (i : Int) < xs.length by omega))]
    simp only [idx_at hx, Option.bind_some]
    simp (disch := omega) only [w64_up, Option.bind_some, Int.toNat_natCast]
    refine congrArg some (congrArg Rd.next (Prod.ext ?_ ?_)); rotate_left; first | rfl | (dsimp only; simp only [Int.natCast_add, Int.natCast_one, Int.ofNat_one, ← Int.add_assoc])
    dsimp only; simp only [Int.natCast_add, Int.natCast_one, Int.ofNat_one]; try omega
  · intro k ys; unfold m_laws_markPortS_b1; rw [if_neg (by simp)]

theorem heldPortS_pure {fuel : Nat} {xs : List D.Port} {k : Int} (hf : 18446744073709551616 ≤ fuel) (hl : xs.length ≤ 1048576) (h0 : 0 ≤ k) (h1 : k + (ctPortS xs : Nat) ≤ 2147483648) : m_laws_heldPortS fuel (mkPortS fuel xs k) k = some (k + (ctPortS xs : Nat)) := by
  unfold m_laws_heldPortS
  have hlen : (mkPortS fuel xs k).length = xs.length := markL_length _ _
  rw [held_loop (f := elPortS fuel) (c := ecPortS) (xs := xs) (k := k) (by have := hl; omega) hf h0 h1 ?_ ?_]
  · rfl
  · intro i x k' hi hx hm h0 h1
    unfold ecPortS at h1
    have hx2 : (mkPortS fuel xs k)[i]? = some (elPortS fuel x k') := hx
    unfold m_laws_heldPortS_b1
    rw [if_pos (decide_eq_true (show (i : Int) < (mkPortS fuel xs k).length by rw [hlen]; omega))]
    simp only [idx_at hx2, Option.bind_some]
    unfold elPortS ecPortS
    simp (disch := omega) only [w64_up, Option.bind_some, lt_f, if_false, bne_self_eq_false, Bool.false_eq_true, beq_self_eq_true, Bool.not_true, Int.ofNat_one, Int.natCast_one]
    try (refine congrArg some (congrArg Rd.next (Prod.ext ?_ rfl)); dsimp only; simp only [Int.natCast_add, Int.natCast_one, Int.ofNat_one]; try omega)
  · intro k'; show m_laws_heldPortS_b1 fuel (mkPortS fuel xs k) (k', ((mkPortS fuel xs k).length : Int)) = _; unfold m_laws_heldPortS_b1; rw [if_neg (by simp)]

theorem ctPortS_le {xs : List D.Port} : ctPortS xs ≤ 64 * (xs.length) := by
  have h := sumL_le (c := ecPortS) (g := (fun _ => 0)) (m := 64) (xs := xs) fun x _ => by
    unfold ecPortS
    omega
  rw [szL_zero (fun _ => rfl)] at h
  exact h

def elAgentS (fuel : Nat) (x : D.Agent) (k : Int) : D.Agent := (⟨k, k + 1, k + 1 + 1, (mkInt64S fuel x.Data (k + 1 + 1 + 1)), (mkPortS fuel x.Ports (k + 1 + 1 + 1 + ((ctInt64S x.Data : Nat) : Int)))⟩ : D.Agent)
def ecAgentS (x : D.Agent) : Nat := 1 + 1 + 1 + ctInt64S x.Data + ctPortS x.Ports
def mkAgentS (fuel : Nat) (xs : List D.Agent) (k : Int) : List D.Agent := markL (elAgentS fuel) ecAgentS xs k
def ctAgentS (xs : List D.Agent) : Nat := sumL ecAgentS xs
theorem markAgentS_pure {fuel : Nat} {xs : List D.Agent} {k : Int} (hf : 18446744073709551616 ≤ fuel) (hl : szL D.Agent.sz xs ≤ 1048576) (h0 : 0 ≤ k) (h1 : k + (ctAgentS xs : Nat) ≤ 2147483648) : m_laws_markAgentS fuel xs k = some (k + (ctAgentS xs : Nat), mkAgentS fuel xs k) := by
  unfold m_laws_markAgentS
  rw [mark_loop (f := elAgentS fuel) (c := ecAgentS) (xs := xs) (k := k) (by have := (szL_len hl); omega) hf h0 h1 ?_ ?_]
  · rfl
  · intro i x ys k hi hl2 hx hm h0 h1
    unfold ecAgentS at h1
    have hsx := szL_mem hl hm
    unfold D.Agent.sz at hsx
    unfold m_laws_markAgentS_b1 elAgentS ecAgentS
    rw [if_pos (decide_eq_true (show (i : Int) < xs.length by omega))]
    simp only [idx_at hx, Option.bind_some]
    simp (disch := omega) only [markInt64S_pure hf (show x.Data.length ≤ 1048576 by omega), markPortS_pure hf (show x.Ports.length ≤ 1048576 by omega), w64_up, Option.bind_some, Int.toNat_natCast]
    refine congrArg some (congrArg Rd.next (Prod.ext ?_ ?_)); rotate_left; first | rfl | (dsimp only; simp only [Int.natCast_add, Int.natCast_one, Int.ofNat_one, ← Int.add_assoc])
    dsimp only; simp only [Int.natCast_add, Int.natCast_one, Int.ofNat_one]; try omega
  · intro k ys; unfold m_laws_markAgentS_b1; rw [if_neg (by simp)]

theorem heldAgentS_pure {fuel : Nat} {xs : List D.Agent} {k : Int} (hf : 18446744073709551616 ≤ fuel) (hl : szL D.Agent.sz xs ≤ 1048576) (h0 : 0 ≤ k) (h1 : k + (ctAgentS xs : Nat) ≤ 2147483648) : m_laws_heldAgentS fuel (mkAgentS fuel xs k) k = some (k + (ctAgentS xs : Nat)) := by
  unfold m_laws_heldAgentS
  have hlen : (mkAgentS fuel xs k).length = xs.length := markL_length _ _
  rw [held_loop (f := elAgentS fuel) (c := ecAgentS) (xs := xs) (k := k) (by have := (szL_len hl); omega) hf h0 h1 ?_ ?_]
  · rfl
  · intro i x k' hi hx hm h0 h1
    unfold ecAgentS at h1
    have hsx := szL_mem hl hm
    unfold D.Agent.sz at hsx
    have hx2 : (mkAgentS fuel xs k)[i]? = some (elAgentS fuel x k') := hx
    unfold m_laws_heldAgentS_b1
    rw [if_pos (decide_eq_true (show (i : Int) < (mkAgentS fuel xs k).length by rw [hlen]; omega))]
    simp only [idx_at hx2, Option.bind_some]
    unfold elAgentS ecAgentS
    simp (disch := omega) only [heldInt64S_pure hf (show x.Data.length ≤ 1048576 by omega), heldPortS_pure hf (show x.Ports.length ≤ 1048576 by omega), w64_up, Option.bind_some, lt_f, if_false, bne_self_eq_false, Bool.false_eq_true, beq_self_eq_true, Bool.not_true, Int.ofNat_one, Int.natCast_one]
    try (refine congrArg some (congrArg Rd.next (Prod.ext ?_ rfl)); dsimp only; simp only [Int.natCast_add, Int.natCast_one, Int.ofNat_one]; try omega)
  · intro k'; show m_laws_heldAgentS_b1 fuel (mkAgentS fuel xs k) (k', ((mkAgentS fuel xs k).length : Int)) = _; unfold m_laws_heldAgentS_b1; rw [if_neg (by simp)]

theorem ctAgentS_le {xs : List D.Agent} : ctAgentS xs ≤ 64 * (szL D.Agent.sz xs) := by
  have h := sumL_le (c := ecAgentS) (g := D.Agent.sz) (m := 64) (xs := xs) fun x _ => by
    unfold ecAgentS
    unfold D.Agent.sz
    have := ctInt64S_le (xs := x.Data)
    have := ctPortS_le (xs := x.Ports)
    omega
  exact h

def elWireS (fuel : Nat) (x : D.Wire) (k : Int) : D.Wire := (⟨(⟨k, k + 1⟩ : D.Port), (⟨k + ((1 + 1 : Nat) : Int), k + ((1 + 1 : Nat) : Int) + 1⟩ : D.Port)⟩ : D.Wire)
def ecWireS (x : D.Wire) : Nat := 1 + 1 + 1 + 1
def mkWireS (fuel : Nat) (xs : List D.Wire) (k : Int) : List D.Wire := markL (elWireS fuel) ecWireS xs k
def ctWireS (xs : List D.Wire) : Nat := sumL ecWireS xs
theorem markWireS_pure {fuel : Nat} {xs : List D.Wire} {k : Int} (hf : 18446744073709551616 ≤ fuel) (hl : xs.length ≤ 1048576) (h0 : 0 ≤ k) (h1 : k + (ctWireS xs : Nat) ≤ 2147483648) : m_laws_markWireS fuel xs k = some (k + (ctWireS xs : Nat), mkWireS fuel xs k) := by
  unfold m_laws_markWireS
  rw [mark_loop (f := elWireS fuel) (c := ecWireS) (xs := xs) (k := k) (by have := hl; omega) hf h0 h1 ?_ ?_]
  · rfl
  · intro i x ys k hi hl2 hx hm h0 h1
    unfold ecWireS at h1
    unfold m_laws_markWireS_b1 elWireS ecWireS
    rw [if_pos (decide_eq_true (show (i : Int) < xs.length by omega))]
    simp only [idx_at hx, Option.bind_some]
    simp (disch := omega) only [w64_up, Option.bind_some, Int.toNat_natCast]
    refine congrArg some (congrArg Rd.next (Prod.ext ?_ ?_)); rotate_left; first | rfl | (dsimp only; simp only [Int.natCast_add, Int.natCast_one, Int.ofNat_one, ← Int.add_assoc])
    dsimp only; simp only [Int.natCast_add, Int.natCast_one, Int.ofNat_one]; try omega
  · intro k ys; unfold m_laws_markWireS_b1; rw [if_neg (by simp)]

theorem ctWireS_le {xs : List D.Wire} : ctWireS xs ≤ 64 * (xs.length) := by
  have h := sumL_le (c := ecWireS) (g := (fun _ => 0)) (m := 64) (xs := xs) fun x _ => by
    unfold ecWireS
    omega
  rw [szL_zero (fun _ => rfl)] at h
  exact h

def mkNet (fuel : Nat) (x : D.Net) (k : Int) : D.Net := (⟨mkAgentS fuel x.Agents (k)⟩ : D.Net)
def ctNet (x : D.Net) : Nat := ctAgentS x.Agents
theorem mkNet_eta {fuel : Nat} {x : D.Net} {k : Int} : (⟨(mkNet fuel x k).Agents⟩ : D.Net) = mkNet fuel x k := rfl
theorem markNet_pure {fuel : Nat} {x : D.Net} {k : Int} (hf : 18446744073709551616 ≤ fuel) (hs : x.sz ≤ 1048576) (h0 : 0 ≤ k) (h1 : k + (ctNet x : Nat) ≤ 2147483648) : m_laws_markNet fuel x k = some (k + (ctNet x : Nat), (mkNet fuel x k).Agents) := by
  unfold ctNet at h1 ⊢
  simp only [D.Net.sz] at hs
  unfold m_laws_markNet mkNet
  simp (disch := omega) only [markAgentS_pure hf (show szL D.Agent.sz x.Agents ≤ 1048576 by omega), Option.bind_some]
  all_goals try simp only [Int.natCast_add, Int.add_assoc]

theorem heldNet_pure {fuel : Nat} {x : D.Net} {k : Int} (hf : 18446744073709551616 ≤ fuel) (hs : x.sz ≤ 1048576) (h0 : 0 ≤ k) (h1 : k + (ctNet x : Nat) ≤ 2147483648) : m_laws_heldNet fuel (mkNet fuel x k) k = some (k + (ctNet x : Nat)) := by
  unfold ctNet at h1 ⊢
  simp only [D.Net.sz] at hs
  unfold m_laws_heldNet mkNet
  simp (disch := omega) only [heldAgentS_pure hf (show szL D.Agent.sz x.Agents ≤ 1048576 by omega), Option.bind_some, lt_f, if_false]
  all_goals try simp only [Int.natCast_add, Int.add_assoc]

theorem ctNet_le {x : D.Net} : ctNet x ≤ 64 * x.sz := by
  unfold ctNet
  simp only [D.Net.sz]
  have := ctAgentS_le (xs := x.Agents)
  omega

end Go.E
