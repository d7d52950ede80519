/- Grids: their parts by themselves, at both sides. Conditions: the grid's own size. -/
import Derived.Test.YtomgmnacnchbeaaGreatSzDefs
import Derived.Test.YtomgmnacnchbeaaGreatOkAgent
import Derived.Test.YtomgmnacnchbeaaGreatRounds
import Derived.Test.YtomgmnacnchbeaaGreatFGc
namespace Go.E
open Go.RowKit Go.Proofs
set_option linter.unusedSimpArgs false
set_option linter.unusedVariables false

def agentOf (c : D.ShardCell) : D.Agent := ⟨c.Kind, c.Level, c.Value, c.Data, List.replicate (c.Aux.length + 1) ⟨0, 0⟩⟩
def shCellN (c : D.ShardCell) : Bool := if c.Kind = 0 then decide (c.Level = 0 ∧ c.Value = 0 ∧ c.Data = [] ∧ c.Aux = []) else decide (c.Kind ≠ 1) && agN (agentOf c)
def noneN : D.Address := ⟨0, 0, 0⟩
def shVarN (v : D.ShardVar) : Bool := (v.Used || !v.Full) && (v.Full || decide (v.Held = noneN))
def shardN (s : D.Shard) : Bool := decide (s.Cells.length ≤ 400 ∧ s.Vars.length ≤ 400 ∧ s.Redexes.length ≤ 400) && (s.Cells.all shCellN && s.Vars.all shVarN)
def piecesN (g : D.Grid) : Bool := decide (1 ≤ g.Shards.length ∧ g.Shards.length ≤ 4) && g.Shards.all shardN

theorem zdM {k f : Int} : portsN k f ≤ 4 := by
  unfold portsN
  split
  · split <;> omega
  · split
    · omega
    · split
      · omega
      · split
        · omega
        · split <;> omega
theorem zeV {a : D.Agent} (h : agN a = true) : a.Ports.length ≤ 4 := by
  unfold agN agentN at h
  rw [Bool.and_eq_true, Bool.and_eq_true, decide_eq_true_eq, decide_eq_true_eq] at h
  have h2 := h.2.1
  have := zdM (k := a.Kind) (f := if a.Kind = 9 then (a.Ports.length : Int) - 1 else 0)
  rw [h2] at this
  omega
theorem zev {c : D.ShardCell} (h : shCellN c = true) : c.Aux.length ≤ 3 := by
  unfold shCellN at h
  split at h
  · rw [decide_eq_true_eq] at h
    rw [h.2.2.2]; simp
  · rw [Bool.and_eq_true] at h
    have := zeV h.2
    unfold agentOf at this
    simp only [List.length_replicate] at this
    omega
theorem zaR {a b : D.Address} : (((a.Machine : Int) == b.Machine) && (((a.Kind : Int) == b.Kind) && (((a.Index : Int) == b.Index) && true))) = decide (a = b) := by
  obtain ⟨a1, a2, a3⟩ := a
  obtain ⟨b1, b2, b3⟩ := b
  by_cases h1 : a1 = b1 <;> by_cases h2 : a2 = b2 <;> by_cases h3 : a3 = b3 <;> simp [h1, h2, h3]
theorem zb1 {fuel : Nat} {c : D.ShardCell} (hs : c.sz ≤ 1048576) : z3m fuel c = some (agentOf c) := by
  unfold D.ShardCell.sz at hs
  unfold z3m z5v agentOf
  rw [if_pos (by simp; omega), Option.bind_some, ze (by omega) (by omega), if_pos (by simp; omega)]
  have : ((c.Aux.length : Int) + 1).toNat = c.Aux.length + 1 := by omega
  rw [this]
  rfl
theorem z9x {fuel : Nat} {c : D.ShardCell} (hs : c.sz ≤ 1048576) : z3D fuel c = some (agentOf c) := by
  unfold D.ShardCell.sz at hs
  unfold z3D z1m agentOf
  rw [if_pos (by simp; omega), Option.bind_some, ze (by omega) (by omega), if_pos (by simp; omega)]
  have : ((c.Aux.length : Int) + 1).toNat = c.Aux.length + 1 := by omega
  rw [this]
  rfl
theorem zdr {fuel : Nat} {c : D.ShardCell} (hf : 18446744073709551616 ≤ fuel) (hs : c.sz ≤ 1048576) : z3M fuel c = some (shCellN c) := by
  have hm : maxLen = 9223372036854775807 := rfl
  unfold z3M
  rw [zb1 hs, Option.bind_some]
  have hs2 := hs
  unfold D.ShardCell.sz at hs2
  by_cases k0 : c.Kind = 0
  · unfold shCellN
    by_cases h1 : c.Level = 0 <;> by_cases h2 : c.Value = 0 <;> by_cases h3 : c.Data = [] <;> by_cases h4 : c.Aux = [] <;> simp [k0, h1, h2, h3, h4]
  · rw [if_neg (by simpa using k0)]
    by_cases ha : c.Aux.length ≤ 3
    · rw [if_neg (by simp; omega)]
      unfold shCellN
      rw [if_neg k0]
      by_cases k1 : c.Kind = 1
      · rw [if_neg (by simp [agentOf, k1])]; simp [k1]
      · rw [if_pos (by simpa [agentOf] using k1), show (⟨(agentOf c).Kind, (agentOf c).Level, (agentOf c).Value, (agentOf c).Data, (agentOf c).Ports⟩ : D.Agent) = agentOf c from rfl, zeQ hf (by unfold agentOf; dsimp only; omega) (by unfold agentOf; simp only [List.length_replicate]; omega)]
        simp [k1]
    · rw [if_pos (by simp; omega)]
      cases hh : shCellN c with
      | false => rfl
      | true => exact absurd (zev hh) ha
theorem zbD {fuel : Nat} {xs ys : List Int} (hf : 18446744073709551616 ≤ fuel) (hl : xs.length ≤ maxLen) : zN fuel xs ys = some (decide (xs = ys)) := by
  unfold zN
  exact eqWhole hl hf rfl (fun i a b hi ha hb => by
    unfold z19
    rw [if_pos (by simpa using hi), zf ha, Option.bind_some, zf hb, Option.bind_some]
    by_cases h : a = b <;> simp [h]) (by unfold z19; rw [if_neg (by simp)])
theorem zaM {fuel : Nat} {xs ys : List D.Address} (hf : 18446744073709551616 ≤ fuel) (hl : xs.length ≤ maxLen) : zh fuel xs ys = some (decide (xs = ys)) := by
  unfold zh
  exact eqWhole hl hf rfl (fun i a b hi ha hb => by
    unfold zm
    rw [if_pos (by simpa using hi), zf ha, Option.bind_some, zf hb, Option.bind_some, zaR]
    by_cases h : a = b <;> simp [h]) (by unfold zm; rw [if_neg (by simp)])
theorem zds {fuel : Nat} {c : D.ShardCell} (hf : 18446744073709551616 ≤ fuel) (hs : c.sz ≤ 1048576) : z1E fuel c = some (shCellN c) := by
  have hm : maxLen = 9223372036854775807 := rfl
  have hs2 := hs
  unfold D.ShardCell.sz at hs2
  unfold z1E z3i
  dsimp only
  rw [zbD hf (by omega), zaM hf (by omega), z9x hs, Option.bind_some, Option.bind_some, Option.bind_some, zeR hf (by unfold agentOf; dsimp only; omega) (by unfold agentOf; simp only [List.length_replicate]; omega)]
  unfold shCellN
  by_cases k0 : c.Kind = 0
  · by_cases h1 : c.Level = 0 <;> by_cases h2 : c.Value = 0 <;> by_cases h3 : c.Data = [] <;> by_cases h4 : c.Aux = [] <;> simp [k0, h1, h2, h3, h4]
  · by_cases k1 : c.Kind = 1 <;> simp [k0, k1]
theorem z91 {fuel : Nat} {p : D.ShardCell → Bool} {f : D.ShardCell → Option Bool} {xs : List D.ShardCell} (hf : 18446744073709551616 ≤ fuel) (hl : xs.length ≤ maxLen) (h : ∀ n, n ∈ xs → f n = some (p n)) :
    z8 fuel xs f = some (xs.any p) := by
  unfold z8 zg
  obtain ⟨r, h1, h2⟩ := askIndex (xs := xs) (p := p) (body := z7 fuel xs f) (j := zn fuel) (t := ()) hl hf rfl (fun i x hi hx => by
    simp only [z7, zf hx, h x (List.mem_of_getElem? hx), lt_t (show (i : Int) < xs.length by omega), if_true, Option.bind_some]) (by simp [z7])
  rw [h1, Option.bind_some, h2]
theorem z9M {fuel : Nat} {p : D.ShardVar → Bool} {f : D.ShardVar → Option Bool} {xs : List D.ShardVar} (hf : 18446744073709551616 ≤ fuel) (hl : xs.length ≤ maxLen) (h : ∀ n, n ∈ xs → f n = some (p n)) :
    za fuel xs f = some (xs.any p) := by
  unfold za zk
  obtain ⟨r, h1, h2⟩ := askIndex (xs := xs) (p := p) (body := z9 fuel xs f) (j := zq fuel) (t := ()) hl hf rfl (fun i x hi hx => by
    simp only [z9, zf hx, h x (List.mem_of_getElem? hx), lt_t (show (i : Int) < xs.length by omega), if_true, Option.bind_some]) (by simp [z9])
  rw [h1, Option.bind_some, h2]
theorem z90 {fuel : Nat} {p : D.Shard → Bool} {f : D.Shard → Option Bool} {xs : List D.Shard} (hf : 18446744073709551616 ≤ fuel) (hl : xs.length ≤ maxLen) (h : ∀ n, n ∈ xs → f n = some (p n)) :
    zd fuel xs f = some (xs.any p) := by
  unfold zd zp
  obtain ⟨r, h1, h2⟩ := askIndex (xs := xs) (p := p) (body := zc fuel xs f) (j := zF fuel) (t := ()) hl hf rfl (fun i x hi hx => by
    simp only [zc, zf hx, h x (List.mem_of_getElem? hx), lt_t (show (i : Int) < xs.length by omega), if_true, Option.bind_some]) (by simp [zc])
  rw [h1, Option.bind_some, h2]
theorem zdB {fuel : Nat} {v : D.ShardVar} : z29 fuel v = some (!shVarN v) := by
  have e := zaR (a := v.Held) (b := noneN)
  unfold noneN at e
  unfold z29 z3h shVarN noneN
  dsimp only at e
  rw [e]
  cases v.Used <;> cases v.Full <;> cases decide (v.Held = ⟨0, 0, 0⟩) <;> rfl
theorem z6H {s : D.Shard} (h : s.sz ≤ 1048576) : s.Cells.length ≤ 1048576 ∧ s.Vars.length ≤ 1048576 ∧ s.Redexes.length ≤ 1048576 ∧ ∀ c, c ∈ s.Cells → c.sz ≤ 1048576 := by
  unfold D.Shard.sz at h
  have h1 : szL D.ShardCell.sz s.Cells ≤ 1048576 := by omega
  exact ⟨z6j h1, by omega, by omega, fun c hc => z6i h1 hc⟩
theorem zbu {fuel : Nat} {s : D.Shard} (hf : 18446744073709551616 ≤ fuel) (hs : s.sz ≤ 1048576) : z3C fuel s = some (shardN s) := by
  have hm : maxLen = 9223372036854775807 := rfl
  obtain ⟨z1, z2, z3, z4⟩ := z6H hs
  unfold z3C z1j shardN
  rw [z91 (p := fun c => !shCellN c) hf (by omega) (fun c hc => by unfold z3g; rw [zds hf (z4 c hc)]; rfl), z9M (p := fun v => !shVarN v) hf (by omega) (fun v _ => zdB), z7O, z7O]
  by_cases h1 : s.Cells.length ≤ 400
  · by_cases h2 : s.Vars.length ≤ 400
    · by_cases h3 : s.Redexes.length ≤ 400
      · rw [if_neg (by simp; omega), if_neg (by simp; omega), if_neg (by simp; omega), decide_eq_true ⟨h1, h2, h3⟩]
        cases s.Cells.all shCellN <;> cases s.Vars.all shVarN <;> rfl
      · rw [if_neg (by simp; omega), if_neg (by simp; omega), if_pos (by simp; omega), decide_eq_false (fun h => h3 h.2.2)]; rfl
    · rw [if_neg (by simp; omega), if_pos (by simp; omega), decide_eq_false (fun h => h2 h.2.1)]; rfl
  · rw [if_pos (by simp; omega), decide_eq_false (fun h => h1 h.1)]; rfl
theorem z7J {g : D.Grid} (h : g.sz ≤ 1048576) : g.Shards.length ≤ 1048576 ∧ ∀ s, s ∈ g.Shards → s.sz ≤ 1048576 := by
  unfold D.Grid.sz at h
  have h1 : szL D.Shard.sz g.Shards ≤ 1048576 := by omega
  exact ⟨z6j h1, fun s hs => z6i h1 hs⟩
theorem zaL {fuel : Nat} {g : D.Grid} {xs : List D.statement} (hf : 18446744073709551616 ≤ fuel) (hs : g.sz ≤ 1048576) : z1F fuel g xs = zB fuel g xs (!piecesN g) := by
  have hm : maxLen = 9223372036854775807 := rfl
  obtain ⟨z1, z2⟩ := z7J hs
  unfold z1F piecesN
  rw [z90 (p := fun s => !shardN s) hf (by omega) (fun s h => by unfold z1R; rw [zbu hf (z2 s h)]; rfl), z7O, Option.bind_some]
  by_cases h1 : 1 ≤ g.Shards.length
  · by_cases h2 : g.Shards.length ≤ 4
    · rw [if_neg (by simp; omega), if_neg (by simp; omega), decide_eq_true ⟨h1, h2⟩, Bool.true_and]
    · rw [if_neg (by simp; omega), if_pos (by simp; omega), decide_eq_false (fun h => h2 h.2)]; rfl
  · rw [if_pos (by simp; omega), decide_eq_false (fun h => h1 h.1)]; rfl
theorem zbt {fuel : Nat} {s : D.Shard} {k : Int} (hf : 18446744073709551616 ≤ fuel) (hs : s.sz ≤ 1048576) (hc : s.Cells.length ≤ 400 ∧ s.Vars.length ≤ 400 ∧ s.Redexes.length ≤ 400) :
    zE fuel k s false = if (s.Cells.all shCellN && s.Vars.all shVarN) = true then some (.next (w64 (k + 1))) else some (.ret false) := by
  have hm : maxLen = 9223372036854775807 := rfl
  obtain ⟨z1, z2, z3, z4⟩ := z6H hs
  have hC := allLoop (xs := s.Cells) (body := z2r fuel s) (p := fun _ c => shCellN c) (t := ()) (v := Rd.ret false) (fuel := fuel) (by omega) hf (fun i c hi hx => by
    unfold z2r
    rw [if_pos (by simpa using hi), zf hx, Option.bind_some, zdr hf (z4 c (List.mem_of_getElem? hx)), Option.bind_some]
    cases shCellN c <;> simp) (by unfold z2r; rw [if_neg (by simp)])
  have hV := allLoop (xs := s.Vars) (body := z2q fuel s) (p := fun _ v => shVarN v) (t := ()) (v := Rd.ret false) (fuel := fuel) (by omega) hf (fun i v hi hx => by
    have e := zaR (a := v.Held) (b := noneN)
    unfold noneN at e
    dsimp only at e
    unfold z2q zJ shVarN noneN
    rw [if_pos (by simpa using hi), zf hx, Option.bind_some, e]
    cases v.Used <;> cases v.Full <;> cases decide (v.Held = ⟨0, 0, 0⟩) <;> rfl) (by unfold z2q; rw [if_neg (by simp)])
  rw [z5Y] at hC hV
  unfold zE
  rw [if_neg (by simp), hC, Option.bind_some]
  cases s.Cells.all shCellN with
  | false => rfl
  | true =>
    rw [if_pos rfl]
    simp only [aft]
    unfold z4z
    rw [hV, Option.bind_some]
    cases s.Vars.all shVarN with
    | false => rfl
    | true => rfl
theorem zaK {fuel : Nat} {g : D.Grid} (hf : 18446744073709551616 ≤ fuel) (hs : g.sz ≤ 1048576) : z3L fuel g = some (piecesN g) := by
  have hm : maxLen = 9223372036854775807 := rfl
  obtain ⟨z1, z2⟩ := z7J hs
  unfold z3L
  rw [z4X, Option.bind_some]
  have hS := allLoop (xs := g.Shards) (body := z2s fuel g) (p := fun _ s => shardN s) (t := ()) (v := false) (fuel := fuel) (by omega) hf (fun i s hi hx => by
    have hss := z2 s (List.mem_of_getElem? hx)
    unfold z2s
    rw [if_pos (by simpa using hi), zf hx, Option.bind_some]
    have no : zE fuel (i : Int) s true = some (.ret false) := by unfold zE; rfl
    unfold shardN
    by_cases h1 : s.Cells.length ≤ 400
    · by_cases h2 : s.Vars.length ≤ 400
      · by_cases h3 : s.Redexes.length ≤ 400
        · rw [if_neg (by simp; omega), if_neg (by simp; omega), show decide ((s.Redexes.length : Int) > 400) = false by simp; omega, zbt hf hss ⟨h1, h2, h3⟩, decide_eq_true ⟨h1, h2, h3⟩, Bool.true_and]
        · rw [if_neg (by simp; omega), if_neg (by simp; omega), show decide ((s.Redexes.length : Int) > 400) = true by simp; omega, no, decide_eq_false (fun h => h3 h.2.2)]; rfl
      · rw [if_neg (by simp; omega), if_pos (by simp; omega), no, decide_eq_false (fun h => h2 h.2.1)]; rfl
    · rw [if_pos (by simp; omega), no, decide_eq_false (fun h => h1 h.1)]; rfl) (by unfold z2s; rw [if_neg (by simp)])
  rw [z5Y] at hS
  unfold piecesN
  rw [hS, Option.bind_some]
  have hd : decide ((1 : Int) ≤ (g.Shards.length : Int) ∧ (g.Shards.length : Int) ≤ 4) = decide (1 ≤ g.Shards.length ∧ g.Shards.length ≤ 4) := by
    rw [decide_eq_decide]; omega
  rw [hd]
  cases decide (1 ≤ g.Shards.length ∧ g.Shards.length ≤ 4) with
  | false => rfl
  | true =>
    rw [if_neg (by simp)]
    cases g.Shards.all shardN <;> rfl
end Go.E

