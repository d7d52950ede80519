/- Grids: their parts by themselves, at both sides. Conditions: the grid's own size. -/
import Derived.Test.YtomgmnacnchbeaaGreatSzDefs
import Derived.Test.YtomgmnacnchbeaaGreatOkAgent
import Derived.Test.YtomgmnacnchbeaaGreatRounds
import Derived.Test.YtomgmnacnchbeaaGreatFGc
namespace Go.E
open Go.RowKit Go.Proofs
set_option linter.unusedSimpArgs false
set_option linter.unusedVariables false

def agentOf (c : D.ShardCell) : D.Agent := ⟨c.Kind, c.Level, c.Value, c.Data, List.replicate (c.Aux.length + 1) ⟨0, 0⟩⟩
def shCellN (c : D.ShardCell) : Bool := if c.Kind = 0 then decide (c.Level = 0 ∧ c.Value = 0 ∧ c.Data = [] ∧ c.Aux = []) else decide (c.Kind ≠ 1) && agN (agentOf c)
def noneN : D.Address := ⟨0, 0, 0⟩
def shVarN (v : D.ShardVar) : Bool := (v.Used || !v.Full) && (v.Full || decide (v.Held = noneN))
def shardN (s : D.Shard) : Bool := decide (s.Cells.length ≤ 400 ∧ s.Vars.length ≤ 400 ∧ s.Redexes.length ≤ 400) && (s.Cells.all shCellN && s.Vars.all shVarN)
def piecesN (g : D.Grid) : Bool := decide (1 ≤ g.Shards.length ∧ g.Shards.length ≤ 4) && g.Shards.all shardN

theorem ports_le {k f : Int} : portsN k f ≤ 4 := by
  unfold portsN
  split
  · split <;> omega
  · split
    · omega
    · split
      · omega
      · split
        · omega
        · split <;> omega
theorem ag_len {a : D.Agent} (h : agN a = true) : a.Ports.length ≤ 4 := by
  unfold agN agentN at h
  rw [Bool.and_eq_true, Bool.and_eq_true, decide_eq_true_eq, decide_eq_true_eq] at h
  have h2 := h.2.1
  have := ports_le (k := a.Kind) (f := if a.Kind = 9 then (a.Ports.length : Int) - 1 else 0)
  rw [h2] at this
  omega
theorem sh_aux {c : D.ShardCell} (h : shCellN c = true) : c.Aux.length ≤ 3 := by
  unfold shCellN at h
  split at h
  · rw [decide_eq_true_eq] at h
    rw [h.2.2.2]; simp
  · rw [Bool.and_eq_true] at h
    have := ag_len h.2
    unfold agentOf at this
    simp only [List.length_replicate] at this
    omega
theorem addr_eq {a b : D.Address} : (((a.Machine : Int) == b.Machine) && (((a.Kind : Int) == b.Kind) && (((a.Index : Int) == b.Index) && true))) = decide (a = b) := by
  obtain ⟨a1, a2, a3⟩ := a
  obtain ⟨b1, b2, b3⟩ := b
  by_cases h1 : a1 = b1 <;> by_cases h2 : a2 = b2 <;> by_cases h3 : a3 = b3 <;> simp [h1, h2, h3]
theorem sh_agent {fuel : Nat} {c : D.ShardCell} (hs : c.sz ≤ 1048576) : m_spec_l27Agent fuel c = some (agentOf c) := by
  unfold D.ShardCell.sz at hs
  unfold m_spec_l27Agent m_spec_l00Own agentOf
  rw [if_pos (by simp; omega), Option.bind_some, i64_small (by omega) (by omega), if_pos (by simp; omega)]
  have : ((c.Aux.length : Int) + 1).toNat = c.Aux.length + 1 := by omega
  rw [this]
  rfl
theorem sh_agent_impl {fuel : Nat} {c : D.ShardCell} (hs : c.sz ≤ 1048576) : m_impl_shardAgent fuel c = some (agentOf c) := by
  unfold D.ShardCell.sz at hs
  unfold m_impl_shardAgent m_slices_Clone_int64_int64 agentOf
  rw [if_pos (by simp; omega), Option.bind_some, i64_small (by omega) (by omega), if_pos (by simp; omega)]
  have : ((c.Aux.length : Int) + 1).toNat = c.Aux.length + 1 := by omega
  rw [this]
  rfl
theorem cell_spec {fuel : Nat} {c : D.ShardCell} (hf : 18446744073709551616 ≤ fuel) (hs : c.sz ≤ 1048576) : m_spec_l27CellOk fuel c = some (shCellN c) := by
  have hm : maxLen = 9223372036854775807 := rfl
  unfold m_spec_l27CellOk
  rw [sh_agent hs, Option.bind_some]
  have hs2 := hs
  unfold D.ShardCell.sz at hs2
  by_cases k0 : c.Kind = 0
  · unfold shCellN
    by_cases h1 : c.Level = 0 <;> by_cases h2 : c.Value = 0 <;> by_cases h3 : c.Data = [] <;> by_cases h4 : c.Aux = [] <;> simp [k0, h1, h2, h3, h4]
  · rw [if_neg (by simpa using k0)]
    by_cases ha : c.Aux.length ≤ 3
    · rw [if_neg (by simp; omega)]
      unfold shCellN
      rw [if_neg k0]
      by_cases k1 : c.Kind = 1
      · rw [if_neg (by simp [agentOf, k1])]; simp [k1]
      · rw [if_pos (by simpa [agentOf] using k1), show (⟨(agentOf c).Kind, (agentOf c).Level, (agentOf c).Value, (agentOf c).Data, (agentOf c).Ports⟩ : D.Agent) = agentOf c from rfl, ag_spec hf (by unfold agentOf; dsimp only; omega) (by unfold agentOf; simp only [List.length_replicate]; omega)]
        simp [k1]
    · rw [if_pos (by simp; omega)]
      cases hh : shCellN c with
      | false => rfl
      | true => exact absurd (sh_aux hh) ha
theorem equal_ints {fuel : Nat} {xs ys : List Int} (hf : 18446744073709551616 ≤ fuel) (hl : xs.length ≤ maxLen) : m_slices_Equal_int64_int64 fuel xs ys = some (decide (xs = ys)) := by
  unfold m_slices_Equal_int64_int64
  exact eqWhole hl hf rfl (fun i a b hi ha hb => by
    unfold m_slices_Equal_int64_int64_b1
    rw [if_pos (by simpa using hi), idx_at ha, Option.bind_some, idx_at hb, Option.bind_some]
    by_cases h : a = b <;> simp [h]) (by unfold m_slices_Equal_int64_int64_b1; rw [if_neg (by simp)])
theorem equal_addrs {fuel : Nat} {xs ys : List D.Address} (hf : 18446744073709551616 ≤ fuel) (hl : xs.length ≤ maxLen) : m_slices_Equal_impl_Address_impl_Address fuel xs ys = some (decide (xs = ys)) := by
  unfold m_slices_Equal_impl_Address_impl_Address
  exact eqWhole hl hf rfl (fun i a b hi ha hb => by
    unfold m_slices_Equal_impl_Address_impl_Address_b1
    rw [if_pos (by simpa using hi), idx_at ha, Option.bind_some, idx_at hb, Option.bind_some, addr_eq]
    by_cases h : a = b <;> simp [h]) (by unfold m_slices_Equal_impl_Address_impl_Address_b1; rw [if_neg (by simp)])
theorem cell_impl {fuel : Nat} {c : D.ShardCell} (hf : 18446744073709551616 ≤ fuel) (hs : c.sz ≤ 1048576) : m_impl_validShardCell fuel c = some (shCellN c) := by
  have hm : maxLen = 9223372036854775807 := rfl
  have hs2 := hs
  unfold D.ShardCell.sz at hs2
  unfold m_impl_validShardCell m_impl_sameShardCell
  dsimp only
  rw [equal_ints hf (by omega), equal_addrs hf (by omega), sh_agent_impl hs, Option.bind_some, Option.bind_some, Option.bind_some, ag_impl hf (by unfold agentOf; dsimp only; omega) (by unfold agentOf; simp only [List.length_replicate]; omega)]
  unfold shCellN
  by_cases k0 : c.Kind = 0
  · by_cases h1 : c.Level = 0 <;> by_cases h2 : c.Value = 0 <;> by_cases h3 : c.Data = [] <;> by_cases h4 : c.Aux = [] <;> simp [k0, h1, h2, h3, h4]
  · by_cases k1 : c.Kind = 1 <;> simp [k0, k1]
theorem contains_SCell {fuel : Nat} {p : D.ShardCell → Bool} {f : D.ShardCell → Option Bool} {xs : List D.ShardCell} (hf : 18446744073709551616 ≤ fuel) (hl : xs.length ≤ maxLen) (h : ∀ n, n ∈ xs → f n = some (p n)) :
    m_slices_ContainsFunc_impl_ShardCell_impl_ShardCell fuel xs f = some (xs.any p) := by
  unfold m_slices_ContainsFunc_impl_ShardCell_impl_ShardCell m_slices_IndexFunc_impl_ShardCell_impl_ShardCell
  obtain ⟨r, h1, h2⟩ := askIndex (xs := xs) (p := p) (body := m_slices_IndexFunc_impl_ShardCell_impl_ShardCell_b1 fuel xs f) (j := m_slices_IndexFunc_impl_ShardCell_impl_ShardCell_j1 fuel) (t := ()) hl hf rfl (fun i x hi hx => by
    simp only [m_slices_IndexFunc_impl_ShardCell_impl_ShardCell_b1, idx_at hx, h x (List.mem_of_getElem? hx), lt_t (show (i : Int) < xs.length by omega), if_true, Option.bind_some]) (by simp [m_slices_IndexFunc_impl_ShardCell_impl_ShardCell_b1])
  rw [h1, Option.bind_some, h2]
theorem contains_SVar {fuel : Nat} {p : D.ShardVar → Bool} {f : D.ShardVar → Option Bool} {xs : List D.ShardVar} (hf : 18446744073709551616 ≤ fuel) (hl : xs.length ≤ maxLen) (h : ∀ n, n ∈ xs → f n = some (p n)) :
    m_slices_ContainsFunc_impl_ShardVar_impl_ShardVar fuel xs f = some (xs.any p) := by
  unfold m_slices_ContainsFunc_impl_ShardVar_impl_ShardVar m_slices_IndexFunc_impl_ShardVar_impl_ShardVar
  obtain ⟨r, h1, h2⟩ := askIndex (xs := xs) (p := p) (body := m_slices_IndexFunc_impl_ShardVar_impl_ShardVar_b1 fuel xs f) (j := m_slices_IndexFunc_impl_ShardVar_impl_ShardVar_j1 fuel) (t := ()) hl hf rfl (fun i x hi hx => by
    simp only [m_slices_IndexFunc_impl_ShardVar_impl_ShardVar_b1, idx_at hx, h x (List.mem_of_getElem? hx), lt_t (show (i : Int) < xs.length by omega), if_true, Option.bind_some]) (by simp [m_slices_IndexFunc_impl_ShardVar_impl_ShardVar_b1])
  rw [h1, Option.bind_some, h2]
theorem contains_Shard {fuel : Nat} {p : D.Shard → Bool} {f : D.Shard → Option Bool} {xs : List D.Shard} (hf : 18446744073709551616 ≤ fuel) (hl : xs.length ≤ maxLen) (h : ∀ n, n ∈ xs → f n = some (p n)) :
    m_slices_ContainsFunc_impl_Shard_impl_Shard fuel xs f = some (xs.any p) := by
  unfold m_slices_ContainsFunc_impl_Shard_impl_Shard m_slices_IndexFunc_impl_Shard_impl_Shard
  obtain ⟨r, h1, h2⟩ := askIndex (xs := xs) (p := p) (body := m_slices_IndexFunc_impl_Shard_impl_Shard_b1 fuel xs f) (j := m_slices_IndexFunc_impl_Shard_impl_Shard_j1 fuel) (t := ()) hl hf rfl (fun i x hi hx => by
    simp only [m_slices_IndexFunc_impl_Shard_impl_Shard_b1, idx_at hx, h x (List.mem_of_getElem? hx), lt_t (show (i : Int) < xs.length by omega), if_true, Option.bind_some]) (by simp [m_slices_IndexFunc_impl_Shard_impl_Shard_b1])
  rw [h1, Option.bind_some, h2]
theorem var_impl {fuel : Nat} {v : D.ShardVar} : m_impl_validShard_c2 fuel v = some (!shVarN v) := by
  have e := addr_eq (a := v.Held) (b := noneN)
  unfold noneN at e
  unfold m_impl_validShard_c2 m_impl_validShardVar shVarN noneN
  dsimp only at e
  rw [e]
  cases v.Used <;> cases v.Full <;> cases decide (v.Held = ⟨0, 0, 0⟩) <;> rfl
theorem shard_sz {s : D.Shard} (h : s.sz ≤ 1048576) : s.Cells.length ≤ 1048576 ∧ s.Vars.length ≤ 1048576 ∧ s.Redexes.length ≤ 1048576 ∧ ∀ c, c ∈ s.Cells → c.sz ≤ 1048576 := by
  unfold D.Shard.sz at h
  have h1 : szL D.ShardCell.sz s.Cells ≤ 1048576 := by omega
  exact ⟨szL_len h1, by omega, by omega, fun c hc => szL_mem h1 hc⟩
theorem shard_impl {fuel : Nat} {s : D.Shard} (hf : 18446744073709551616 ≤ fuel) (hs : s.sz ≤ 1048576) : m_impl_validShard fuel s = some (shardN s) := by
  have hm : maxLen = 9223372036854775807 := rfl
  obtain ⟨z1, z2, z3, z4⟩ := shard_sz hs
  unfold m_impl_validShard m_impl_validShard_j1 shardN
  rw [contains_SCell (p := fun c => !shCellN c) hf (by omega) (fun c hc => by unfold m_impl_validShard_c1; rw [cell_impl hf (z4 c hc)]; rfl), contains_SVar (p := fun v => !shVarN v) hf (by omega) (fun v _ => var_impl), any_all, any_all]
  by_cases h1 : s.Cells.length ≤ 400
  · by_cases h2 : s.Vars.length ≤ 400
    · by_cases h3 : s.Redexes.length ≤ 400
      · rw [if_neg (by simp; omega), if_neg (by simp; omega), if_neg (by simp; omega), decide_eq_true ⟨h1, h2, h3⟩]
        cases s.Cells.all shCellN <;> cases s.Vars.all shVarN <;> rfl
      · rw [if_neg (by simp; omega), if_neg (by simp; omega), if_pos (by simp; omega), decide_eq_false (fun h => h3 h.2.2)]; rfl
    · rw [if_neg (by simp; omega), if_pos (by simp; omega), decide_eq_false (fun h => h2 h.2.1)]; rfl
  · rw [if_pos (by simp; omega), decide_eq_false (fun h => h1 h.1)]; rfl
theorem grid_sz {g : D.Grid} (h : g.sz ≤ 1048576) : g.Shards.length ≤ 1048576 ∧ ∀ s, s ∈ g.Shards → s.sz ≤ 1048576 := by
  unfold D.Grid.sz at h
  have h1 : szL D.Shard.sz g.Shards ≤ 1048576 := by omega
  exact ⟨szL_len h1, fun s hs => szL_mem h1 hs⟩
theorem pieces_impl {fuel : Nat} {g : D.Grid} {xs : List D.statement} (hf : 18446744073709551616 ≤ fuel) (hs : g.sz ≤ 1048576) : m_impl_Grid_validWith fuel g xs = m_impl_Grid_validWith_j1 fuel g xs (!piecesN g) := by
  have hm : maxLen = 9223372036854775807 := rfl
  obtain ⟨z1, z2⟩ := grid_sz hs
  unfold m_impl_Grid_validWith piecesN
  rw [contains_Shard (p := fun s => !shardN s) hf (by omega) (fun s h => by unfold m_impl_Grid_validWith_c1; rw [shard_impl hf (z2 s h)]; rfl), any_all, Option.bind_some]
  by_cases h1 : 1 ≤ g.Shards.length
  · by_cases h2 : g.Shards.length ≤ 4
    · rw [if_neg (by simp; omega), if_neg (by simp; omega), decide_eq_true ⟨h1, h2⟩, Bool.true_and]
    · rw [if_neg (by simp; omega), if_pos (by simp; omega), decide_eq_false (fun h => h2 h.2)]; rfl
  · rw [if_pos (by simp; omega), decide_eq_false (fun h => h1 h.1)]; rfl
theorem shard_spec {fuel : Nat} {s : D.Shard} {k : Int} (hf : 18446744073709551616 ≤ fuel) (hs : s.sz ≤ 1048576) (hc : s.Cells.length ≤ 400 ∧ s.Vars.length ≤ 400 ∧ s.Redexes.length ≤ 400) :
    m_spec_l27Pieces_j2 fuel k s false = if (s.Cells.all shCellN && s.Vars.all shVarN) = true then some (.next (w64 (k + 1))) else some (.ret false) := by
  have hm : maxLen = 9223372036854775807 := rfl
  obtain ⟨z1, z2, z3, z4⟩ := shard_sz hs
  have hC := allLoop (xs := s.Cells) (body := m_spec_l27Pieces_b2 fuel s) (p := fun _ c => shCellN c) (t := ()) (v := Rd.ret false) (fuel := fuel) (by omega) hf (fun i c hi hx => by
    unfold m_spec_l27Pieces_b2
    rw [if_pos (by simpa using hi), idx_at hx, Option.bind_some, cell_spec hf (z4 c (List.mem_of_getElem? hx)), Option.bind_some]
    cases shCellN c <;> simp) (by unfold m_spec_l27Pieces_b2; rw [if_neg (by simp)])
  have hV := allLoop (xs := s.Vars) (body := m_spec_l27Pieces_b3 fuel s) (p := fun _ v => shVarN v) (t := ()) (v := Rd.ret false) (fuel := fuel) (by omega) hf (fun i v hi hx => by
    have e := addr_eq (a := v.Held) (b := noneN)
    unfold noneN at e
    dsimp only at e
    unfold m_spec_l27Pieces_b3 m_spec_l27Pieces_j5 shVarN noneN
    rw [if_pos (by simpa using hi), idx_at hx, Option.bind_some, e]
    cases v.Used <;> cases v.Full <;> cases decide (v.Held = ⟨0, 0, 0⟩) <;> rfl) (by unfold m_spec_l27Pieces_b3; rw [if_neg (by simp)])
  rw [all_zip] at hC hV
  unfold m_spec_l27Pieces_j2
  rw [if_neg (by simp), hC, Option.bind_some]
  cases s.Cells.all shCellN with
  | false => rfl
  | true =>
    rw [if_pos rfl]
    simp only [aft]
    unfold m_spec_l27Pieces_j3
    rw [hV, Option.bind_some]
    cases s.Vars.all shVarN with
    | false => rfl
    | true => rfl
theorem pieces_spec {fuel : Nat} {g : D.Grid} (hf : 18446744073709551616 ≤ fuel) (hs : g.sz ≤ 1048576) : m_spec_l27Pieces fuel g = some (piecesN g) := by
  have hm : maxLen = 9223372036854775807 := rfl
  obtain ⟨z1, z2⟩ := grid_sz hs
  unfold m_spec_l27Pieces
  rw [in_pure, Option.bind_some]
  have hS := allLoop (xs := g.Shards) (body := m_spec_l27Pieces_b1 fuel g) (p := fun _ s => shardN s) (t := ()) (v := false) (fuel := fuel) (by omega) hf (fun i s hi hx => by
    have hss := z2 s (List.mem_of_getElem? hx)
    unfold m_spec_l27Pieces_b1
    rw [if_pos (by simpa using hi), idx_at hx, Option.bind_some]
    have no : m_spec_l27Pieces_j2 fuel (i : Int) s true = some (.ret false) := by unfold m_spec_l27Pieces_j2; rfl
    unfold shardN
    by_cases h1 : s.Cells.length ≤ 400
    · by_cases h2 : s.Vars.length ≤ 400
      · by_cases h3 : s.Redexes.length ≤ 400
        · rw [if_neg (by simp; omega), if_neg (by simp; omega), show decide ((s.Redexes.length : Int) > 400) = false by simp; omega, shard_spec hf hss ⟨h1, h2, h3⟩, decide_eq_true ⟨h1, h2, h3⟩, Bool.true_and]
        · rw [if_neg (by simp; omega), if_neg (by simp; omega), show decide ((s.Redexes.length : Int) > 400) = true by simp; omega, no, decide_eq_false (fun h => h3 h.2.2)]; rfl
      · rw [if_neg (by simp; omega), if_pos (by simp; omega), no, decide_eq_false (fun h => h2 h.2.1)]; rfl
    · rw [if_pos (by simp; omega), no, decide_eq_false (fun h => h1 h.1)]; rfl) (by unfold m_spec_l27Pieces_b1; rw [if_neg (by simp)])
  rw [all_zip] at hS
  unfold piecesN
  rw [hS, Option.bind_some]
  have hd : decide ((1 : Int) ≤ (g.Shards.length : Int) ∧ (g.Shards.length : Int) ≤ 4) = decide (1 ≤ g.Shards.length ∧ g.Shards.length ≤ 4) := by
    rw [decide_eq_decide]; omega
  rw [hd]
  cases decide (1 ≤ g.Shards.length ∧ g.Shards.length ≤ 4) with
  | false => rfl
  | true =>
    rw [if_neg (by simp)]
    cases g.Shards.all shardN <;> rfl
end Go.E
