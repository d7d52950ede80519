/- What the functions that size, copy and compare give on well formed data (written by program). Conditions: sizes within the law s own bound. -/
import Derived.Test.YtomgmnacnchbeaaSzDefs
import Derived.Test.YtomgmnacnchbeaaFW
namespace Go.E
open Go.RowKit Go.Proofs
set_option linter.unusedSimpArgs false
set_option linter.unusedVariables false

theorem toPort_pure {fuel : Nat} {x : D.Port} (hf : 18446744073709551616 ≤ fuel) (hs : 0 ≤ 1048576) : m_laws_toPort fuel x = some x := by
  skip
  unfold m_laws_toPort
  rfl

theorem szInt64S_pure {fuel : Nat} {x : (List Int)} {l : Int} (hf : 18446744073709551616 ≤ fuel) (hw : WfL I64 x) (h0 : 0 ≤ l) (h1 : l ≤ 1048576) : SzOk (x.length) l (m_laws_szInt64S fuel x l) := by
  unfold m_laws_szInt64S
  generalize hz : w64 (l - (x.length : Int)) = z
  exact SzOk.sub2 h0 h1 hw.1 (m := 0) rfl hz fun g0 g1 => SzOk.same g0

theorem toInt64S_pure {fuel : Nat} {x : (List Int)} (hf : 18446744073709551616 ≤ fuel) (hs : x.length ≤ 1048576) : m_laws_toInt64S fuel x = some x := by
  have hl := hs
  unfold m_laws_toInt64S
  refine copy_loop hl hf (fun _ => rfl) ?_ ?_
  · intro i y out hy hl2
    have hi := (List.getElem?_eq_some_iff.1 hy).1
    have hsy : 0 ≤ 1048576 := Nat.zero_le _
    simp only [m_laws_toInt64S_b1, idx_at hy, Option.bind_some, lt_t (show (i : Int) < x.length by omega), if_true]
    rw [if_pos (by simp; omega)]
    simp
  · intro out
    simp [m_laws_toInt64S_b1]

theorem eqInt64S_pure {fuel : Nat} {x : (List Int)} (hf : 18446744073709551616 ≤ fuel) (hs : x.length ≤ 1048576) : m_laws_eqInt64S fuel x x = some true := by
  have hl := hs
  unfold m_laws_eqInt64S
  rw [if_neg (by simp)]
  refine count_loop (n := x.length) (t := ()) (by unfold maxLen; omega) hf rfl ?_ ?_
  · intro i hi
    obtain ⟨y, hy⟩ := at_lt hi
    have hsy : 0 ≤ 1048576 := Nat.zero_le _
    simp [m_laws_eqInt64S_b1, idx_at hy, hi, seqb_refl]
  · simp [m_laws_eqInt64S_b1]

theorem eqPort_pure {fuel : Nat} {x : D.Port} (hf : 18446744073709551616 ≤ fuel) (hs : 0 ≤ 1048576) : m_laws_eqPort fuel x x = some true := by
  skip
  simp [m_laws_eqPort, seqb_refl]

theorem toWire_pure {fuel : Nat} {x : D.Wire} (hf : 18446744073709551616 ≤ fuel) (hs : 0 ≤ 1048576) : m_laws_toWire fuel x = some x := by
  skip
  unfold m_laws_toWire
  simp only [toPort_pure hf (show 0 ≤ 1048576 by exact Nat.zero_le _), toPort_pure hf (show 0 ≤ 1048576 by exact Nat.zero_le _), Option.bind_some]

theorem eqWire_pure {fuel : Nat} {x : D.Wire} (hf : 18446744073709551616 ≤ fuel) (hs : 0 ≤ 1048576) : m_laws_eqWire fuel x x = some true := by
  skip
  simp [m_laws_eqWire, seqb_refl, eqPort_pure hf (show 0 ≤ 1048576 by exact Nat.zero_le _), eqPort_pure hf (show 0 ≤ 1048576 by exact Nat.zero_le _)]

theorem szPortS_pure {fuel : Nat} {x : (List D.Port)} {l : Int} (hf : 18446744073709551616 ≤ fuel) (hw : WfL D.Port.wf x) (h0 : 0 ≤ l) (h1 : l ≤ 1048576) : SzOk (x.length) l (m_laws_szPortS fuel x l) := by
  unfold m_laws_szPortS
  generalize hz : w64 (l - (x.length : Int)) = z
  exact SzOk.sub2 h0 h1 hw.1 (m := 0) rfl hz fun g0 g1 => SzOk.same g0

theorem toPortS_pure {fuel : Nat} {x : (List D.Port)} (hf : 18446744073709551616 ≤ fuel) (hs : x.length ≤ 1048576) : m_laws_toPortS fuel x = some x := by
  have hl := hs
  unfold m_laws_toPortS
  refine copy_loop hl hf (fun _ => rfl) ?_ ?_
  · intro i y out hy hl2
    have hi := (List.getElem?_eq_some_iff.1 hy).1
    have hsy : 0 ≤ 1048576 := Nat.zero_le _
    simp only [m_laws_toPortS_b1, idx_at hy, Option.bind_some, lt_t (show (i : Int) < x.length by omega), if_true, toPort_pure hf hsy]
    rw [if_pos (by simp; omega)]
    simp
  · intro out
    simp [m_laws_toPortS_b1]

theorem eqPortS_pure {fuel : Nat} {x : (List D.Port)} (hf : 18446744073709551616 ≤ fuel) (hs : x.length ≤ 1048576) : m_laws_eqPortS fuel x x = some true := by
  have hl := hs
  unfold m_laws_eqPortS
  rw [if_neg (by simp)]
  refine count_loop (n := x.length) (t := ()) (by unfold maxLen; omega) hf rfl ?_ ?_
  · intro i hi
    obtain ⟨y, hy⟩ := at_lt hi
    have hsy : 0 ≤ 1048576 := Nat.zero_le _
    simp [m_laws_eqPortS_b1, idx_at hy, hi, seqb_refl, eqPort_pure hf hsy]
  · simp [m_laws_eqPortS_b1]

theorem szWireS_pure {fuel : Nat} {x : (List D.Wire)} {l : Int} (hf : 18446744073709551616 ≤ fuel) (hw : WfL D.Wire.wf x) (h0 : 0 ≤ l) (h1 : l ≤ 1048576) : SzOk (x.length) l (m_laws_szWireS fuel x l) := by
  unfold m_laws_szWireS
  generalize hz : w64 (l - (x.length : Int)) = z
  exact SzOk.sub2 h0 h1 hw.1 (m := 0) rfl hz fun g0 g1 => SzOk.same g0

theorem toWireS_pure {fuel : Nat} {x : (List D.Wire)} (hf : 18446744073709551616 ≤ fuel) (hs : x.length ≤ 1048576) : m_laws_toWireS fuel x = some x := by
  have hl := hs
  unfold m_laws_toWireS
  refine copy_loop hl hf (fun _ => rfl) ?_ ?_
  · intro i y out hy hl2
    have hi := (List.getElem?_eq_some_iff.1 hy).1
    have hsy : 0 ≤ 1048576 := Nat.zero_le _
    simp only [m_laws_toWireS_b1, idx_at hy, Option.bind_some, lt_t (show (i : Int) < x.length by omega), if_true, toWire_pure hf hsy]
    rw [if_pos (by simp; omega)]
    simp
  · intro out
    simp [m_laws_toWireS_b1]

theorem eqWireS_pure {fuel : Nat} {x : (List D.Wire)} (hf : 18446744073709551616 ≤ fuel) (hs : x.length ≤ 1048576) : m_laws_eqWireS fuel x x = some true := by
  have hl := hs
  unfold m_laws_eqWireS
  rw [if_neg (by simp)]
  refine count_loop (n := x.length) (t := ()) (by unfold maxLen; omega) hf rfl ?_ ?_
  · intro i hi
    obtain ⟨y, hy⟩ := at_lt hi
    have hsy : 0 ≤ 1048576 := Nat.zero_le _
    simp [m_laws_eqWireS_b1, idx_at hy, hi, seqb_refl, eqWire_pure hf hsy]
  · simp [m_laws_eqWireS_b1]

theorem szAgent_pure {fuel : Nat} {x : D.Agent} {l : Int} (hf : 18446744073709551616 ≤ fuel) (hw : D.Agent.wf x) (h0 : 0 ≤ l) (h1 : l ≤ 1048576) : SzOk (D.Agent.sz x) l (m_laws_szAgent fuel x l) := by
  obtain ⟨w0, w1, w2, w3, w4, _⟩ := hw
  unfold m_laws_szAgent D.Agent.sz
  refine SzOk.bind (szInt64S_pure hf w3 h0 (by omega)) rfl fun r1 g1a g1b => ?_
  refine SzOk.bind (szPortS_pure hf w4 g1a (by omega)) rfl fun r2 g2a g2b => ?_
  exact SzOk.same g2a

theorem toAgent_pure {fuel : Nat} {x : D.Agent} (hf : 18446744073709551616 ≤ fuel) (hs : D.Agent.sz x ≤ 1048576) : m_laws_toAgent fuel x = some x := by
  unfold D.Agent.sz at hs
  unfold m_laws_toAgent
  simp only [toInt64S_pure hf (show x.Data.length ≤ 1048576 by omega), toPortS_pure hf (show x.Ports.length ≤ 1048576 by omega), Option.bind_some]

theorem eqAgent_pure {fuel : Nat} {x : D.Agent} (hf : 18446744073709551616 ≤ fuel) (hs : D.Agent.sz x ≤ 1048576) : m_laws_eqAgent fuel x x = some true := by
  unfold D.Agent.sz at hs
  simp [m_laws_eqAgent, seqb_refl, eqInt64S_pure hf (show x.Data.length ≤ 1048576 by omega), eqPortS_pure hf (show x.Ports.length ≤ 1048576 by omega)]

theorem szAgentS_pure {fuel : Nat} {x : (List D.Agent)} {l : Int} (hf : 18446744073709551616 ≤ fuel) (hw : WfL D.Agent.wf x) (h0 : 0 ≤ l) (h1 : l ≤ 1048576) : SzOk (szL D.Agent.sz x) l (m_laws_szAgentS fuel x l) := by
  unfold m_laws_szAgentS
  generalize hz : w64 (l - (x.length : Int)) = z
  refine SzOk.sub2 h0 h1 hw.1 (m := sumL D.Agent.sz x) rfl hz fun g0 g1 => ?_
  refine SzOk.loop hw.1 hf g0 (by omega) (fun _ => rfl) ?_ ?_
  · intro i y l hy h0 h1
    have hi := (List.getElem?_eq_some_iff.1 hy).1
    have hwy := hw.2 y (List.mem_of_getElem? hy)
    obtain ⟨r, h2, h3⟩ := szAgent_pure hf hwy h0 h1
    simp only [m_laws_szAgentS_b1, idx_at hy, Option.bind_some, lt_t (show (i : Int) < x.length by omega), if_true, h2]
    by_cases hlt : r < 0
    · exact .inl (by simp only [lt_t hlt, if_true])
    · exact .inr ⟨r, by simp only [lt_f hlt, if_false], h3.resolve_left hlt⟩
  · intro l
    simp [m_laws_szAgentS_b1]

theorem toAgentS_pure {fuel : Nat} {x : (List D.Agent)} (hf : 18446744073709551616 ≤ fuel) (hs : szL D.Agent.sz x ≤ 1048576) : m_laws_toAgentS fuel x = some x := by
  have hl := szL_len hs
  unfold m_laws_toAgentS
  refine copy_loop hl hf (fun _ => rfl) ?_ ?_
  · intro i y out hy hl2
    have hi := (List.getElem?_eq_some_iff.1 hy).1
    have hsy : D.Agent.sz y ≤ 1048576 := szL_mem hs (List.mem_of_getElem? hy)
    simp only [m_laws_toAgentS_b1, idx_at hy, Option.bind_some, lt_t (show (i : Int) < x.length by omega), if_true, toAgent_pure hf hsy]
    rw [if_pos (by simp; omega)]
    simp
  · intro out
    simp [m_laws_toAgentS_b1]

theorem eqAgentS_pure {fuel : Nat} {x : (List D.Agent)} (hf : 18446744073709551616 ≤ fuel) (hs : szL D.Agent.sz x ≤ 1048576) : m_laws_eqAgentS fuel x x = some true := by
  have hl := szL_len hs
  unfold m_laws_eqAgentS
  rw [if_neg (by simp)]
  refine count_loop (n := x.length) (t := ()) (by unfold maxLen; omega) hf rfl ?_ ?_
  · intro i hi
    obtain ⟨y, hy⟩ := at_lt hi
    have hsy : D.Agent.sz y ≤ 1048576 := szL_mem hs (List.mem_of_getElem? hy)
    simp [m_laws_eqAgentS_b1, idx_at hy, hi, seqb_refl, eqAgent_pure hf hsy]
  · simp [m_laws_eqAgentS_b1]

theorem eqNet_pure {fuel : Nat} {x : D.Net} (hf : 18446744073709551616 ≤ fuel) (hs : D.Net.sz x ≤ 1048576) : m_laws_eqNet fuel x x = some true := by
  unfold D.Net.sz at hs
  simp [m_laws_eqNet, seqb_refl, eqAgentS_pure hf (show szL D.Agent.sz x.Agents ≤ 1048576 by omega)]

theorem opens2 : Opens Try.prog 2 tInt I64 := Opens.int Try.underlying2 (by kernel_rfl)
theorem opens103 : Opens Try.prog 103 ty103 (WfL I64) := Opens.sl Try.underlying103 (by kernel_rfl) opens2
set_option maxRecDepth 100000 in
theorem opens35 : Opens Try.prog 35 ty35 D.Port.wf := Opens.struct (f := fun c : D.Port => (c.Agent, c.Slot, ())) Try.underlying35 (by kernel_rfl) (OpensF.cons opens2 rfl rfl (OpensF.cons opens2 rfl rfl OpensF.nil)) (fun ⟨a0, a1, _⟩ => ⟨⟨a0, a1⟩, rfl⟩)
theorem opens104 : Opens Try.prog 104 ty104 (WfL D.Port.wf) := Opens.sl Try.underlying104 (by kernel_rfl) opens35
set_option maxRecDepth 100000 in
theorem opens106 : Opens Try.prog 106 ty106 D.Agent.wf := Opens.struct (f := fun c : D.Agent => (c.Kind, c.Level, c.Value, c.Data, c.Ports, ())) Try.underlying106 (by kernel_rfl) (OpensF.cons opens2 rfl rfl (OpensF.cons opens2 rfl rfl (OpensF.cons opens2 rfl rfl (OpensF.cons opens103 rfl rfl (OpensF.cons opens104 rfl rfl OpensF.nil))))) (fun ⟨a0, a1, a2, a3, a4, _⟩ => ⟨⟨a0, a1, a2, a3, a4⟩, rfl⟩)
theorem opens22 : Opens Try.prog 22 ty22 (WfL D.Agent.wf) := Opens.sl Try.underlying22 (by kernel_rfl) opens106
set_option maxRecDepth 100000 in
theorem opens116 : Opens Try.prog 116 ty116 D.Wire.wf := Opens.struct (f := fun c : D.Wire => (c.A, c.B, ())) Try.underlying116 (by kernel_rfl) (OpensF.cons opens35 rfl rfl (OpensF.cons opens35 rfl rfl OpensF.nil)) (fun ⟨a0, a1, _⟩ => ⟨⟨a0, a1⟩, rfl⟩)
theorem opens42 : Opens Try.prog 42 ty42 (WfL D.Wire.wf) := Opens.sl Try.underlying42 (by kernel_rfl) opens116
end Go.E
