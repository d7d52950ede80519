/- Grids: their parts by themselves, at both sides. Conditions: the grid's own size. -/
import Derived.Test.YteommboffflkbaaGreatSzDefs
import Derived.Test.YteommboffflkbaaGreatOkAgent
import Derived.Test.YteommboffflkbaaGreatRounds
import Derived.Test.YteommboffflkbaaGreatFGe
namespace Go.E
open Go.RowKit Go.Proofs
set_option linter.unusedSimpArgs false
set_option linter.unusedVariables false

def agentOf (c : D.ShardCell) : D.Agent := ⟨c.Kind, c.Level, c.Value, c.Data, List.replicate (c.Aux.length + 1) ⟨0, 0⟩⟩
def shCellN (c : D.ShardCell) : Bool := if c.Kind = 0 then decide (c.Level = 0 ∧ c.Value = 0 ∧ c.Data = [] ∧ c.Aux = []) else decide (c.Kind ≠ 1) && agN (agentOf c)
def noneN : D.Address := ⟨0, 0, 0⟩
def shVarN (v : D.ShardVar) : Bool := (v.Used || !v.Full) && (v.Full || decide (v.Held = noneN))
def shardN (s : D.Shard) : Bool := decide (s.Cells.length ≤ 400 ∧ s.Vars.length ≤ 400 ∧ s.Redexes.length ≤ 400) && (s.Cells.all shCellN && s.Vars.all shVarN)
def piecesN (g : D.Grid) : Bool := decide (1 ≤ g.Shards.length ∧ g.Shards.length ≤ 4) && g.Shards.all shardN

theorem zgq {k f : Int} : portsN k f ≤ 4 := by
  unfold portsN
  split
  · split <;> omega
  · split
    · omega
    · split
      · omega
      · split
        · omega
        · split <;> omega
theorem zhH {a : D.Agent} (h : agN a = true) : a.Ports.length ≤ 4 := by
  unfold agN agentN at h
  rw [Bool.and_eq_true, Bool.and_eq_true, decide_eq_true_eq, decide_eq_true_eq] at h
  have h2 := h.2.1
  have := zgq (k := a.Kind) (f := if a.Kind = 9 then (a.Ports.length : Int) - 1 else 0)
  rw [h2] at this
  omega
theorem zdm {c : D.ShardCell} (h : shCellN c = true) : c.Aux.length ≤ 3 := by
  unfold shCellN at h
  split at h
  · rw [decide_eq_true_eq] at h
    rw [h.2.2.2]; simp
  · rw [Bool.and_eq_true] at h
    have := zhH h.2
    unfold agentOf at this
    simp only [List.length_replicate] at this
    omega
theorem zaH {a b : D.Address} : (((a.Machine : Int) == b.Machine) && (((a.Kind : Int) == b.Kind) && (((a.Index : Int) == b.Index) && true))) = decide (a = b) := by
  obtain ⟨a1, a2, a3⟩ := a
  obtain ⟨b1, b2, b3⟩ := b
  by_cases h1 : a1 = b1 <;> by_cases h2 : a2 = b2 <;> by_cases h3 : a3 = b3 <;> simp [h1, h2, h3]
theorem zdn {fuel : Nat} {c : D.ShardCell} (hs : c.sz ≤ 1048576) : z49 fuel c = some (agentOf c) := by
  unfold D.ShardCell.sz at hs
  unfold z49 z70 agentOf
  rw [if_pos (by simp; omega), Option.bind_some, zd (by omega) (by omega), if_pos (by simp; omega)]
  have : ((c.Aux.length : Int) + 1).toNat = c.Aux.length + 1 := by omega
  rw [this]
  rfl
theorem zbw {fuel : Nat} {c : D.ShardCell} (hs : c.sz ≤ 1048576) : z4s fuel c = some (agentOf c) := by
  unfold D.ShardCell.sz at hs
  unfold z4s z1X agentOf
  rw [if_pos (by simp; omega), Option.bind_some, zd (by omega) (by omega), if_pos (by simp; omega)]
  have : ((c.Aux.length : Int) + 1).toNat = c.Aux.length + 1 := by omega
  rw [this]
  rfl
theorem zcK {fuel : Nat} {c : D.ShardCell} (hf : 18446744073709551616 ≤ fuel) (hs : c.sz ≤ 1048576) : z3u fuel c = some (shCellN c) := by
  have hm : maxLen = 9223372036854775807 := rfl
  unfold z3u
  rw [zdn hs, Option.bind_some]
  have hs2 := hs
  unfold D.ShardCell.sz at hs2
  by_cases k0 : c.Kind = 0
  · unfold shCellN
    by_cases h1 : c.Level = 0 <;> by_cases h2 : c.Value = 0 <;> by_cases h3 : c.Data = [] <;> by_cases h4 : c.Aux = [] <;> simp [k0, h1, h2, h3, h4]
  · rw [if_neg (by simpa using k0)]
    by_cases ha : c.Aux.length ≤ 3
    · rw [if_neg (by simp; omega)]
      unfold shCellN
      rw [if_neg k0]
      by_cases k1 : c.Kind = 1
      · rw [if_neg (by simp [agentOf, k1])]; simp [k1]
      · rw [if_pos (by simpa [agentOf] using k1), show (⟨(agentOf c).Kind, (agentOf c).Level, (agentOf c).Value, (agentOf c).Data, (agentOf c).Ports⟩ : D.Agent) = agentOf c from rfl, zhB hf (by unfold agentOf; dsimp only; omega) (by unfold agentOf; simp only [List.length_replicate]; omega)]
        simp [k1]
    · rw [if_pos (by simp; omega)]
      cases hh : shCellN c with
      | false => rfl
      | true => exact absurd (zdm hh) ha
theorem zbm {fuel : Nat} {xs ys : List Int} (hf : 18446744073709551616 ≤ fuel) (hl : xs.length ≤ maxLen) : z1d fuel xs ys = some (decide (xs = ys)) := by
  unfold z1d
  exact eqWhole hl hf rfl (fun i a b hi ha hb => by
    unfold z1y
    rw [if_pos (by simpa using hi), za ha, Option.bind_some, za hb, Option.bind_some]
    by_cases h : a = b <;> simp [h]) (by unfold z1y; rw [if_neg (by simp)])
theorem zao {fuel : Nat} {xs ys : List D.Address} (hf : 18446744073709551616 ≤ fuel) (hl : xs.length ≤ maxLen) : zm fuel xs ys = some (decide (xs = ys)) := by
  unfold zm
  exact eqWhole hl hf rfl (fun i a b hi ha hb => by
    unfold zy
    rw [if_pos (by simpa using hi), za ha, Option.bind_some, za hb, Option.bind_some, zaH]
    by_cases h : a = b <;> simp [h]) (by unfold zy; rw [if_neg (by simp)])
theorem zcL {fuel : Nat} {c : D.ShardCell} (hf : 18446744073709551616 ≤ fuel) (hs : c.sz ≤ 1048576) : z1B fuel c = some (shCellN c) := by
  have hm : maxLen = 9223372036854775807 := rfl
  have hs2 := hs
  unfold D.ShardCell.sz at hs2
  unfold z1B z1g
  dsimp only
  rw [zbm hf (by omega), zao hf (by omega), zbw hs, Option.bind_some, Option.bind_some, Option.bind_some, zhC hf (by unfold agentOf; dsimp only; omega) (by unfold agentOf; simp only [List.length_replicate]; omega)]
  unfold shCellN
  by_cases k0 : c.Kind = 0
  · by_cases h1 : c.Level = 0 <;> by_cases h2 : c.Value = 0 <;> by_cases h3 : c.Data = [] <;> by_cases h4 : c.Aux = [] <;> simp [k0, h1, h2, h3, h4]
  · by_cases k1 : c.Kind = 1 <;> simp [k0, k1]
theorem zaX {fuel : Nat} {p : D.ShardCell → Bool} {f : D.ShardCell → Option Bool} {xs : List D.ShardCell} (hf : 18446744073709551616 ≤ fuel) (hl : xs.length ≤ maxLen) (h : ∀ n, n ∈ xs → f n = some (p n)) :
    zc fuel xs f = some (xs.any p) := by
  unfold zc zk
  obtain ⟨r, h1, h2⟩ := askIndex (xs := xs) (p := p) (body := zb fuel xs f) (j := zE fuel) (t := ()) hl hf rfl (fun i x hi hx => by
    simp only [zb, za hx, h x (List.mem_of_getElem? hx), lt_t (show (i : Int) < xs.length by omega), if_true, Option.bind_some]) (by simp [zb])
  rw [h1, Option.bind_some, h2]
theorem zbP {fuel : Nat} {p : D.ShardVar → Bool} {f : D.ShardVar → Option Bool} {xs : List D.ShardVar} (hf : 18446744073709551616 ≤ fuel) (hl : xs.length ≤ maxLen) (h : ∀ n, n ∈ xs → f n = some (p n)) :
    zf fuel xs f = some (xs.any p) := by
  unfold zf zu
  obtain ⟨r, h1, h2⟩ := askIndex (xs := xs) (p := p) (body := ze fuel xs f) (j := zL fuel) (t := ()) hl hf rfl (fun i x hi hx => by
    simp only [ze, za hx, h x (List.mem_of_getElem? hx), lt_t (show (i : Int) < xs.length by omega), if_true, Option.bind_some]) (by simp [ze])
  rw [h1, Option.bind_some, h2]
theorem zaW {fuel : Nat} {p : D.Shard → Bool} {f : D.Shard → Option Bool} {xs : List D.Shard} (hf : 18446744073709551616 ≤ fuel) (hl : xs.length ≤ maxLen) (h : ∀ n, n ∈ xs → f n = some (p n)) :
    zj fuel xs f = some (xs.any p) := by
  unfold zj zK
  obtain ⟨r, h1, h2⟩ := askIndex (xs := xs) (p := p) (body := zi fuel xs f) (j := z11 fuel) (t := ()) hl hf rfl (fun i x hi hx => by
    simp only [zi, za hx, h x (List.mem_of_getElem? hx), lt_t (show (i : Int) < xs.length by omega), if_true, Option.bind_some]) (by simp [zi])
  rw [h1, Option.bind_some, h2]
theorem zgf {fuel : Nat} {v : D.ShardVar} : z2M fuel v = some (!shVarN v) := by
  have e := zaH (a := v.Held) (b := noneN)
  unfold noneN at e
  unfold z2M z46 shVarN noneN
  dsimp only at e
  rw [e]
  cases v.Used <;> cases v.Full <;> cases decide (v.Held = ⟨0, 0, 0⟩) <;> rfl
theorem z8q {s : D.Shard} (h : s.sz ≤ 1048576) : s.Cells.length ≤ 1048576 ∧ s.Vars.length ≤ 1048576 ∧ s.Redexes.length ≤ 1048576 ∧ ∀ c, c ∈ s.Cells → c.sz ≤ 1048576 := by
  unfold D.Shard.sz at h
  have h1 : szL D.ShardCell.sz s.Cells ≤ 1048576 := by omega
  exact ⟨z5T h1, by omega, by omega, fun c hc => z5S h1 hc⟩
theorem zdS {fuel : Nat} {s : D.Shard} (hf : 18446744073709551616 ≤ fuel) (hs : s.sz ≤ 1048576) : z4r fuel s = some (shardN s) := by
  have hm : maxLen = 9223372036854775807 := rfl
  obtain ⟨z1, z2, z3, z4⟩ := z8q hs
  unfold z4r z1U shardN
  rw [zaX (p := fun c => !shCellN c) hf (by omega) (fun c hc => by unfold z45; rw [zcL hf (z4 c hc)]; rfl), zbP (p := fun v => !shVarN v) hf (by omega) (fun v _ => zgf), z7S, z7S]
  by_cases h1 : s.Cells.length ≤ 400
  · by_cases h2 : s.Vars.length ≤ 400
    · by_cases h3 : s.Redexes.length ≤ 400
      · rw [if_neg (by simp; omega), if_neg (by simp; omega), if_neg (by simp; omega), decide_eq_true ⟨h1, h2, h3⟩]
        cases s.Cells.all shCellN <;> cases s.Vars.all shVarN <;> rfl
      · rw [if_neg (by simp; omega), if_neg (by simp; omega), if_pos (by simp; omega), decide_eq_false (fun h => h3 h.2.2)]; rfl
    · rw [if_neg (by simp; omega), if_pos (by simp; omega), decide_eq_false (fun h => h2 h.2.1)]; rfl
  · rw [if_pos (by simp; omega), decide_eq_false (fun h => h1 h.1)]; rfl
theorem z9o {g : D.Grid} (h : g.sz ≤ 1048576) : g.Shards.length ≤ 1048576 ∧ ∀ s, s ∈ g.Shards → s.sz ≤ 1048576 := by
  unfold D.Grid.sz at h
  have h1 : szL D.Shard.sz g.Shards ≤ 1048576 := by omega
  exact ⟨z5T h1, fun s hs => z5S h1 hs⟩
theorem zd7 {fuel : Nat} {g : D.Grid} {xs : List D.statement} (hf : 18446744073709551616 ≤ fuel) (hs : g.sz ≤ 1048576) : z1D fuel g xs = zX fuel g xs (!piecesN g) := by
  have hm : maxLen = 9223372036854775807 := rfl
  obtain ⟨z1, z2⟩ := z9o hs
  unfold z1D piecesN
  rw [zaW (p := fun s => !shardN s) hf (by omega) (fun s h => by unfold z2v; rw [zdS hf (z2 s h)]; rfl), z7S, Option.bind_some]
  by_cases h1 : 1 ≤ g.Shards.length
  · by_cases h2 : g.Shards.length ≤ 4
    · rw [if_neg (by simp; omega), if_neg (by simp; omega), decide_eq_true ⟨h1, h2⟩, Bool.true_and]
    · rw [if_neg (by simp; omega), if_pos (by simp; omega), decide_eq_false (fun h => h2 h.2)]; rfl
  · rw [if_pos (by simp; omega), decide_eq_false (fun h => h1 h.1)]; rfl
theorem zdR {fuel : Nat} {s : D.Shard} {k : Int} (hf : 18446744073709551616 ≤ fuel) (hs : s.sz ≤ 1048576) (hc : s.Cells.length ≤ 400 ∧ s.Vars.length ≤ 400 ∧ s.Redexes.length ≤ 400) :
    zZ fuel k s false = if (s.Cells.all shCellN && s.Vars.all shVarN) = true then some (.next (w64 (k + 1))) else some (.ret false) := by
  have hm : maxLen = 9223372036854775807 := rfl
  obtain ⟨z1, z2, z3, z4⟩ := z8q hs
  have hC := allLoop (xs := s.Cells) (body := z35 fuel s) (p := fun _ c => shCellN c) (t := ()) (v := Rd.ret false) (fuel := fuel) (by omega) hf (fun i c hi hx => by
    unfold z35
    rw [if_pos (by simpa using hi), za hx, Option.bind_some, zcK hf (z4 c (List.mem_of_getElem? hx)), Option.bind_some]
    cases shCellN c <;> simp) (by unfold z35; rw [if_neg (by simp)])
  have hV := allLoop (xs := s.Vars) (body := z34 fuel s) (p := fun _ v => shVarN v) (t := ()) (v := Rd.ret false) (fuel := fuel) (by omega) hf (fun i v hi hx => by
    have e := zaH (a := v.Held) (b := noneN)
    unfold noneN at e
    dsimp only at e
    unfold z34 z19 shVarN noneN
    rw [if_pos (by simpa using hi), za hx, Option.bind_some, e]
    cases v.Used <;> cases v.Full <;> cases decide (v.Held = ⟨0, 0, 0⟩) <;> rfl) (by unfold z34; rw [if_neg (by simp)])
  rw [z5v] at hC hV
  unfold zZ
  rw [if_neg (by simp), hC, Option.bind_some]
  cases s.Cells.all shCellN with
  | false => rfl
  | true =>
    rw [if_pos rfl]
    simp only [aft]
    unfold z5V
    rw [hV, Option.bind_some]
    cases s.Vars.all shVarN with
    | false => rfl
    | true => rfl
theorem zd6 {fuel : Nat} {g : D.Grid} (hf : 18446744073709551616 ≤ fuel) (hs : g.sz ≤ 1048576) : z4L fuel g = some (piecesN g) := by
  have hm : maxLen = 9223372036854775807 := rfl
  obtain ⟨z1, z2⟩ := z9o hs
  unfold z4L
  rw [z5X, Option.bind_some]
  have hS := allLoop (xs := g.Shards) (body := z36 fuel g) (p := fun _ s => shardN s) (t := ()) (v := false) (fuel := fuel) (by omega) hf (fun i s hi hx => by
    have hss := z2 s (List.mem_of_getElem? hx)
    unfold z36
    rw [if_pos (by simpa using hi), za hx, Option.bind_some]
    have no : zZ fuel (i : Int) s true = some (.ret false) := by unfold zZ; rfl
    unfold shardN
    by_cases h1 : s.Cells.length ≤ 400
    · by_cases h2 : s.Vars.length ≤ 400
      · by_cases h3 : s.Redexes.length ≤ 400
        · rw [if_neg (by simp; omega), if_neg (by simp; omega), show decide ((s.Redexes.length : Int) > 400) = false by simp; omega, zdR hf hss ⟨h1, h2, h3⟩, decide_eq_true ⟨h1, h2, h3⟩, Bool.true_and]
        · rw [if_neg (by simp; omega), if_neg (by simp; omega), show decide ((s.Redexes.length : Int) > 400) = true by simp; omega, no, decide_eq_false (fun h => h3 h.2.2)]; rfl
      · rw [if_neg (by simp; omega), if_pos (by simp; omega), no, decide_eq_false (fun h => h2 h.2.1)]; rfl
    · rw [if_pos (by simp; omega), no, decide_eq_false (fun h => h1 h.1)]; rfl) (by unfold z36; rw [if_neg (by simp)])
  rw [z5v] at hS
  unfold piecesN
  rw [hS, Option.bind_some]
  have hd : decide ((1 : Int) ≤ (g.Shards.length : Int) ∧ (g.Shards.length : Int) ≤ 4) = decide (1 ≤ g.Shards.length ∧ g.Shards.length ≤ 4) := by
    rw [decide_eq_decide]; omega
  rw [hd]
  cases decide (1 ≤ g.Shards.length ∧ g.Shards.length ≤ 4) with
  | false => rfl
  | true =>
    rw [if_neg (by simp)]
    cases g.Shards.all shardN <;> rfl
end Go.E

