/- Grids: their parts by themselves, at both sides. Conditions: the grid's own size. -/
import Derived.Test.YteommboffflkbaaGreatShort
import Derived.Test.YteommboffflkbaaGreatRounds
import Derived.Test.YteommboffflkbaaGreatFGe
namespace Go.E
open Go.RowKit Go.Proofs
set_option linter.unusedSimpArgs false
set_option linter.unusedVariables false

def agentOf (c : D.ShardCell) : D.Agent := ⟨c.Kind, c.Level, c.Value, c.Data, List.replicate (c.Aux.length + 1) ⟨0, 0⟩⟩
def shCellN (c : D.ShardCell) : Bool := if c.Kind = 0 then decide (c.Level = 0 ∧ c.Value = 0 ∧ c.Data = [] ∧ c.Aux = []) else decide (c.Kind ≠ 1) && agN (agentOf c)
def noneN : D.Address := ⟨0, 0, 0⟩
def shVarN (v : D.ShardVar) : Bool := (v.Used || !v.Full) && (v.Full || decide (v.Held = noneN))
def shardN (s : D.Shard) : Bool := decide (s.Cells.length ≤ 400 ∧ s.Vars.length ≤ 400 ∧ s.Redexes.length ≤ 400) && (s.Cells.all shCellN && s.Vars.all shVarN)
def piecesN (g : D.Grid) : Bool := decide (1 ≤ g.Shards.length ∧ g.Shards.length ≤ 4) && g.Shards.all shardN

theorem zmF {k f : Int} : portsN k f ≤ 4 := by
  unfold portsN
  split
  · split <;> omega
  · split
    · omega
    · split
      · omega
      · split
        · omega
        · split <;> omega
theorem zog {a : D.Agent} (h : agN a = true) : a.Ports.length ≤ 4 := by
  unfold agN agentN at h
  rw [Bool.and_eq_true, Bool.and_eq_true, decide_eq_true_eq, decide_eq_true_eq] at h
  have h2 := h.2.1
  have := zmF (k := a.Kind) (f := if a.Kind = 9 then (a.Ports.length : Int) - 1 else 0)
  rw [h2] at this
  omega
theorem zhV {c : D.ShardCell} (h : shCellN c = true) : c.Aux.length ≤ 3 := by
  unfold shCellN at h
  split at h
  · rw [decide_eq_true_eq] at h
    rw [h.2.2.2]; simp
  · rw [Bool.and_eq_true] at h
    have := zog h.2
    unfold agentOf at this
    simp only [List.length_replicate] at this
    omega
theorem zeE {a b : D.Address} : (((a.Machine : Int) == b.Machine) && (((a.Kind : Int) == b.Kind) && (((a.Index : Int) == b.Index) && true))) = decide (a = b) := by
  obtain ⟨a1, a2, a3⟩ := a
  obtain ⟨b1, b2, b3⟩ := b
  by_cases h1 : a1 = b1 <;> by_cases h2 : a2 = b2 <;> by_cases h3 : a3 = b3 <;> simp [h1, h2, h3]
theorem zhW {fuel : Nat} {c : D.ShardCell} (hs : c.sz ≤ 1048576) : z5K fuel c = some (agentOf c) := by
  unfold D.ShardCell.sz at hs
  unfold z5K z9F agentOf
  rw [if_pos (by simp; omega), Option.bind_some, z9 (by omega) (by omega), if_pos (by simp; omega)]
  have : ((c.Aux.length : Int) + 1).toNat = c.Aux.length + 1 := by omega
  rw [this]
  rfl
theorem zfx {fuel : Nat} {c : D.ShardCell} (hs : c.sz ≤ 1048576) : z63 fuel c = some (agentOf c) := by
  unfold D.ShardCell.sz at hs
  unfold z63 z2F agentOf
  rw [if_pos (by simp; omega), Option.bind_some, z9 (by omega) (by omega), if_pos (by simp; omega)]
  have : ((c.Aux.length : Int) + 1).toNat = c.Aux.length + 1 := by omega
  rw [this]
  rfl
theorem zha {fuel : Nat} {c : D.ShardCell} (hf : 18446744073709551616 ≤ fuel) (hs : c.sz ≤ 1048576) : z4N fuel c = some (shCellN c) := by
  have hm : maxLen = 9223372036854775807 := rfl
  unfold z4N
  rw [zhW hs, Option.bind_some]
  have hs2 := hs
  unfold D.ShardCell.sz at hs2
  by_cases k0 : c.Kind = 0
  · unfold shCellN
    by_cases h1 : c.Level = 0 <;> by_cases h2 : c.Value = 0 <;> by_cases h3 : c.Data = [] <;> by_cases h4 : c.Aux = [] <;> simp [k0, h1, h2, h3, h4]
  · rw [if_neg (by simpa using k0)]
    by_cases ha : c.Aux.length ≤ 3
    · rw [if_neg (by simp; omega)]
      unfold shCellN
      rw [if_neg k0]
      by_cases k1 : c.Kind = 1
      · rw [if_neg (by simp [agentOf, k1])]; simp [k1]
      · rw [if_pos (by simpa [agentOf] using k1), show (⟨(agentOf c).Kind, (agentOf c).Level, (agentOf c).Value, (agentOf c).Data, (agentOf c).Ports⟩ : D.Agent) = agentOf c from rfl, zo6 hf (by unfold agentOf; dsimp only; omega) (by unfold agentOf; simp only [List.length_replicate]; omega)]
        simp [k1]
    · rw [if_pos (by simp; omega)]
      cases hh : shCellN c with
      | false => rfl
      | true => exact absurd (zhV hh) ha
theorem zfn {fuel : Nat} {xs ys : List Int} (hf : 18446744073709551616 ≤ fuel) (hl : xs.length ≤ maxLen) : z1B fuel xs ys = some (decide (xs = ys)) := by
  unfold z1B
  exact eqWhole hl hf rfl (fun i a b hi ha hb => by
    unfold z23
    rw [if_pos (by simpa using hi), za ha, Option.bind_some, za hb, Option.bind_some]
    by_cases h : a = b <;> simp [h]) (by unfold z23; rw [if_neg (by simp)])
theorem zei {fuel : Nat} {xs ys : List D.Address} (hf : 18446744073709551616 ≤ fuel) (hl : xs.length ≤ maxLen) : zq fuel xs ys = some (decide (xs = ys)) := by
  unfold zq
  exact eqWhole hl hf rfl (fun i a b hi ha hb => by
    unfold zG
    rw [if_pos (by simpa using hi), za ha, Option.bind_some, za hb, Option.bind_some, zeE]
    by_cases h : a = b <;> simp [h]) (by unfold zG; rw [if_neg (by simp)])
theorem zhb {fuel : Nat} {c : D.ShardCell} (hf : 18446744073709551616 ≤ fuel) (hs : c.sz ≤ 1048576) : z28 fuel c = some (shCellN c) := by
  have hm : maxLen = 9223372036854775807 := rfl
  have hs2 := hs
  unfold D.ShardCell.sz at hs2
  unfold z28 z1F
  dsimp only
  rw [zfn hf (by omega), zei hf (by omega), zfx hs, Option.bind_some, Option.bind_some, Option.bind_some, zo7 hf (by unfold agentOf; dsimp only; omega) (by unfold agentOf; simp only [List.length_replicate]; omega)]
  unfold shCellN
  by_cases k0 : c.Kind = 0
  · by_cases h1 : c.Level = 0 <;> by_cases h2 : c.Value = 0 <;> by_cases h3 : c.Data = [] <;> by_cases h4 : c.Aux = [] <;> simp [k0, h1, h2, h3, h4]
  · by_cases k1 : c.Kind = 1 <;> simp [k0, k1]
theorem zeV {fuel : Nat} {p : D.ShardCell → Bool} {f : D.ShardCell → Option Bool} {xs : List D.ShardCell} (hf : 18446744073709551616 ≤ fuel) (hl : xs.length ≤ maxLen) (h : ∀ n, n ∈ xs → f n = some (p n)) :
    ze fuel xs f = some (xs.any p) := by
  unfold ze zp
  obtain ⟨r, h1, h2⟩ := askIndex (xs := xs) (p := p) (body := zd fuel xs f) (j := zN fuel) (t := ()) hl hf rfl (fun i x hi hx => by
    simp only [zd, za hx, h x (List.mem_of_getElem? hx), lt_t (show (i : Int) < xs.length by omega), if_true, Option.bind_some]) (by simp [zd])
  rw [h1, Option.bind_some, h2]
theorem zfV {fuel : Nat} {p : D.ShardVar → Bool} {f : D.ShardVar → Option Bool} {xs : List D.ShardVar} (hf : 18446744073709551616 ≤ fuel) (hl : xs.length ≤ maxLen) (h : ∀ n, n ∈ xs → f n = some (p n)) :
    zi fuel xs f = some (xs.any p) := by
  unfold zi zB
  obtain ⟨r, h1, h2⟩ := askIndex (xs := xs) (p := p) (body := zh fuel xs f) (j := zU fuel) (t := ()) hl hf rfl (fun i x hi hx => by
    simp only [zh, za hx, h x (List.mem_of_getElem? hx), lt_t (show (i : Int) < xs.length by omega), if_true, Option.bind_some]) (by simp [zh])
  rw [h1, Option.bind_some, h2]
theorem zeU {fuel : Nat} {p : D.Shard → Bool} {f : D.Shard → Option Bool} {xs : List D.Shard} (hf : 18446744073709551616 ≤ fuel) (hl : xs.length ≤ maxLen) (h : ∀ n, n ∈ xs → f n = some (p n)) :
    zo fuel xs f = some (xs.any p) := by
  unfold zo zT
  obtain ⟨r, h1, h2⟩ := askIndex (xs := xs) (p := p) (body := zn fuel xs f) (j := z1h fuel) (t := ()) hl hf rfl (fun i x hi hx => by
    simp only [zn, za hx, h x (List.mem_of_getElem? hx), lt_t (show (i : Int) < xs.length by omega), if_true, Option.bind_some]) (by simp [zn])
  rw [h1, Option.bind_some, h2]
theorem zmr {fuel : Nat} {v : D.ShardVar} : z3Q fuel v = some (!shVarN v) := by
  have e := zeE (a := v.Held) (b := noneN)
  unfold noneN at e
  unfold z3Q z5D shVarN noneN
  dsimp only at e
  rw [e]
  cases v.Used <;> cases v.Full <;> cases decide (v.Held = ⟨0, 0, 0⟩) <;> rfl
theorem zbK {s : D.Shard} (h : s.sz ≤ 1048576) : s.Cells.length ≤ 1048576 ∧ s.Vars.length ≤ 1048576 ∧ s.Redexes.length ≤ 1048576 ∧ ∀ c, c ∈ s.Cells → c.sz ≤ 1048576 := by
  unfold D.Shard.sz at h
  have h1 : szL D.ShardCell.sz s.Cells ≤ 1048576 := by omega
  exact ⟨z5H h1, by omega, by omega, fun c hc => z5G h1 hc⟩
theorem ziL {fuel : Nat} {s : D.Shard} (hf : 18446744073709551616 ≤ fuel) (hs : s.sz ≤ 1048576) : z62 fuel s = some (shardN s) := by
  have hm : maxLen = 9223372036854775807 := rfl
  obtain ⟨z1, z2, z3, z4⟩ := zbK hs
  unfold z62 z2B shardN
  rw [zeV (p := fun c => !shCellN c) hf (by omega) (fun c hc => by unfold z5C; rw [zhb hf (z4 c hc)]; rfl), zfV (p := fun v => !shVarN v) hf (by omega) (fun v _ => zmr), zap, zap]
  by_cases h1 : s.Cells.length ≤ 400
  · by_cases h2 : s.Vars.length ≤ 400
    · by_cases h3 : s.Redexes.length ≤ 400
      · rw [if_neg (by simp; omega), if_neg (by simp; omega), if_neg (by simp; omega), decide_eq_true ⟨h1, h2, h3⟩]
        cases s.Cells.all shCellN <;> cases s.Vars.all shVarN <;> rfl
      · rw [if_neg (by simp; omega), if_neg (by simp; omega), if_pos (by simp; omega), decide_eq_false (fun h => h3 h.2.2)]; rfl
    · rw [if_neg (by simp; omega), if_pos (by simp; omega), decide_eq_false (fun h => h2 h.2.1)]; rfl
  · rw [if_pos (by simp; omega), decide_eq_false (fun h => h1 h.1)]; rfl
theorem zd2 {g : D.Grid} (h : g.sz ≤ 1048576) : g.Shards.length ≤ 1048576 ∧ ∀ s, s ∈ g.Shards → s.sz ≤ 1048576 := by
  unfold D.Grid.sz at h
  have h1 : szL D.Shard.sz g.Shards ≤ 1048576 := by omega
  exact ⟨z5H h1, fun s hs => z5G h1 hs⟩
theorem zhD {fuel : Nat} {g : D.Grid} {xs : List D.statement} (hf : 18446744073709551616 ≤ fuel) (hs : g.sz ≤ 1048576) : z2a fuel g xs = z19 fuel g xs (!piecesN g) := by
  have hm : maxLen = 9223372036854775807 := rfl
  obtain ⟨z1, z2⟩ := zd2 hs
  unfold z2a piecesN
  rw [zeU (p := fun s => !shardN s) hf (by omega) (fun s h => by unfold z3q; rw [ziL hf (z2 s h)]; rfl), zap, Option.bind_some]
  by_cases h1 : 1 ≤ g.Shards.length
  · by_cases h2 : g.Shards.length ≤ 4
    · rw [if_neg (by simp; omega), if_neg (by simp; omega), decide_eq_true ⟨h1, h2⟩, Bool.true_and]
    · rw [if_neg (by simp; omega), if_pos (by simp; omega), decide_eq_false (fun h => h2 h.2)]; rfl
  · rw [if_pos (by simp; omega), decide_eq_false (fun h => h1 h.1)]; rfl
theorem ziK {fuel : Nat} {s : D.Shard} {k : Int} (hf : 18446744073709551616 ≤ fuel) (hs : s.sz ≤ 1048576) (hc : s.Cells.length ≤ 400 ∧ s.Vars.length ≤ 400 ∧ s.Redexes.length ≤ 400) :
    z1f fuel k s false = if (s.Cells.all shCellN && s.Vars.all shVarN) = true then some (.next (w64 (k + 1))) else some (.ret false) := by
  have hm : maxLen = 9223372036854775807 := rfl
  obtain ⟨z1, z2, z3, z4⟩ := zbK hs
  have hC := allLoop (xs := s.Cells) (body := z4j fuel s) (p := fun _ c => shCellN c) (t := ()) (v := Rd.ret false) (fuel := fuel) (by omega) hf (fun i c hi hx => by
    unfold z4j
    rw [if_pos (by simpa using hi), za hx, Option.bind_some, zha hf (z4 c (List.mem_of_getElem? hx)), Option.bind_some]
    cases shCellN c <;> simp) (by unfold z4j; rw [if_neg (by simp)])
  have hV := allLoop (xs := s.Vars) (body := z4i fuel s) (p := fun _ v => shVarN v) (t := ()) (v := Rd.ret false) (fuel := fuel) (by omega) hf (fun i v hi hx => by
    have e := zeE (a := v.Held) (b := noneN)
    unfold noneN at e
    dsimp only at e
    unfold z4i z1v shVarN noneN
    rw [if_pos (by simpa using hi), za hx, Option.bind_some, e]
    cases v.Used <;> cases v.Full <;> cases decide (v.Held = ⟨0, 0, 0⟩) <;> rfl) (by unfold z4i; rw [if_neg (by simp)])
  rw [z6P] at hC hV
  unfold z1f
  rw [if_neg (by simp), hC, Option.bind_some]
  cases s.Cells.all shCellN with
  | false => rfl
  | true =>
    rw [if_pos rfl]
    simp only [aft]
    unfold z81
    rw [hV, Option.bind_some]
    cases s.Vars.all shVarN with
    | false => rfl
    | true => rfl
theorem zhC {fuel : Nat} {g : D.Grid} (hf : 18446744073709551616 ≤ fuel) (hs : g.sz ≤ 1048576) : z6t fuel g = some (piecesN g) := by
  have hm : maxLen = 9223372036854775807 := rfl
  obtain ⟨z1, z2⟩ := zd2 hs
  unfold z6t
  rw [z6O, Option.bind_some]
  have hS := allLoop (xs := g.Shards) (body := z4k fuel g) (p := fun _ s => shardN s) (t := ()) (v := false) (fuel := fuel) (by omega) hf (fun i s hi hx => by
    have hss := z2 s (List.mem_of_getElem? hx)
    unfold z4k
    rw [if_pos (by simpa using hi), za hx, Option.bind_some]
    have no : z1f fuel (i : Int) s true = some (.ret false) := by unfold z1f; rfl
    unfold shardN
    by_cases h1 : s.Cells.length ≤ 400
    · by_cases h2 : s.Vars.length ≤ 400
      · by_cases h3 : s.Redexes.length ≤ 400
        · rw [if_neg (by simp; omega), if_neg (by simp; omega), show decide ((s.Redexes.length : Int) > 400) = false by simp; omega, ziK hf hss ⟨h1, h2, h3⟩, decide_eq_true ⟨h1, h2, h3⟩, Bool.true_and]
        · rw [if_neg (by simp; omega), if_neg (by simp; omega), show decide ((s.Redexes.length : Int) > 400) = true by simp; omega, no, decide_eq_false (fun h => h3 h.2.2)]; rfl
      · rw [if_neg (by simp; omega), if_pos (by simp; omega), no, decide_eq_false (fun h => h2 h.2.1)]; rfl
    · rw [if_pos (by simp; omega), no, decide_eq_false (fun h => h1 h.1)]; rfl) (by unfold z4k; rw [if_neg (by simp)])
  rw [z6P] at hS
  unfold piecesN
  rw [hS, Option.bind_some]
  have hd : decide ((1 : Int) ≤ (g.Shards.length : Int) ∧ (g.Shards.length : Int) ≤ 4) = decide (1 ≤ g.Shards.length ∧ g.Shards.length ≤ 4) := by
    rw [decide_eq_decide]; omega
  rw [hd]
  cases decide (1 ≤ g.Shards.length ∧ g.Shards.length ≤ 4) with
  | false => rfl
  | true =>
    rw [if_neg (by simp)]
    cases g.Shards.all shardN <;> rfl
end Go.E

namespace Go.E
open Go.RowKit Go.Proofs
set_option linter.unusedSimpArgs false
set_option linter.unusedVariables false


abbrev Key := Nat × Nat × Nat × Nat
def cellK (t m i : Nat) (c : D.ShardCell) : List Key := if c.Kind = 0 then [] else (List.range (c.Aux.length + 1)).map fun k => (t, m, i, k)
def rowK (t m : Nat) (cs : List D.ShardCell) : List Key := cs.zipIdx.flatMap fun x => cellK t m x.2 x.1
def portK (ss : List D.Shard) : List Key := (0, 0, 0, 0) :: ss.zipIdx.flatMap fun x => rowK 1 x.2 x.1.Cells
def varR (m : Nat) (s : D.Shard) : List Key := (List.range s.Vars.length).map fun i => (2, m, i, 0)
def varK (ss : List D.Shard) : List Key := ss.zipIdx.flatMap fun x => varR x.2 x.1
def allK (g : D.Grid) (more : List D.ShardCell) : List Key := (portK g.Shards ++ rowK 3 0 more) ++ varK g.Shards

theorem zdy {α β : Type} {xs : List α} {g : Nat → α → List β} {i k : Nat} {x : α} (hx : xs[i]? = some x) (hk : k < (g i x).length) :
    (xs.zipIdx.flatMap fun y => g y.2 y.1)[((xs.take i).zipIdx.flatMap fun y => g y.2 y.1).length + k]? = (g i x)[k]? := by
  have h1 : xs.zipIdx = (xs.take (i + 1)).zipIdx ++ (xs.drop (i + 1)).zipIdx (xs.take (i + 1)).length := by
    have := List.zipIdx_append (xs := xs.take (i + 1)) (ys := xs.drop (i + 1)) (k := 0)
    rw [List.take_append_drop] at this
    simpa using this
  rw [h1, zca hx, List.flatMap_append, List.flatMap_append, List.append_assoc, List.getElem?_append_right (Nat.le_add_right _ _), Nat.add_sub_cancel_left]
  simp only [List.flatMap_cons, List.flatMap_nil, List.append_nil]
  rw [List.getElem?_append_left hk]
theorem zd3 {α β : Type} {xs : List α} {g : Nat → α → List β} (f : β → Nat) (h1 : ∀ i x, xs[i]? = some x → (g i x).Nodup) (h2 : ∀ i x y, y ∈ g i x → f y = i) : (xs.zipIdx.flatMap fun y => g y.2 y.1).Nodup := by
  unfold List.Nodup
  rw [List.pairwise_flatMap]
  constructor
  · rintro ⟨a, i⟩ h
    rw [List.mem_zipIdx_iff_getElem?] at h
    exact h1 i a h
  · rw [List.pairwise_iff_getElem]
    intro i j hi hj hij p hp q hq he
    simp only [List.getElem_zipIdx] at hp hq
    have a := h2 _ _ _ hp
    have b := h2 _ _ _ hq
    rw [he] at a
    omega
theorem zeA {t m i : Nat} {c : D.ShardCell} {k : Key} (h : k ∈ cellK t m i c) : k.1 = t ∧ k.2.1 = m ∧ k.2.2.1 = i := by
  unfold cellK at h
  split at h
  · cases h
  · obtain ⟨j, _, rfl⟩ := List.mem_map.1 h
    exact ⟨rfl, rfl, rfl⟩
theorem zco {t m : Nat} {cs : List D.ShardCell} {k : Key} (h : k ∈ rowK t m cs) : k.1 = t ∧ k.2.1 = m := by
  obtain ⟨x, _, h2⟩ := List.mem_flatMap.1 h
  exact ⟨(zeA h2).1, (zeA h2).2.1⟩
theorem zhO {t m i : Nat} {c : D.ShardCell} : (cellK t m i c).Nodup := by
  unfold cellK
  split
  · exact List.nodup_nil
  · unfold List.Nodup
    rw [List.pairwise_map]
    refine List.Pairwise.imp ?_ (List.nodup_range (n := c.Aux.length + 1))
    intro x y hxy he
    simp only [Prod.mk.injEq, true_and] at he
    exact hxy he
theorem zfd {t m : Nat} {cs : List D.ShardCell} : (rowK t m cs).Nodup :=
  zd3 (g := fun i c => cellK t m i c) (fun k : Key => k.2.2.1) (fun i x _ => zhO) (fun i x y h => (zeA h).2.2)
theorem zgq {ss : List D.Shard} {k : Key} (h : k ∈ portK ss) : k.1 = 0 ∨ k.1 = 1 := by
  unfold portK at h
  rcases List.mem_cons.1 h with rfl | h
  · exact .inl rfl
  · obtain ⟨x, _, h2⟩ := List.mem_flatMap.1 h
    exact .inr (zco h2).1
theorem zms {ss : List D.Shard} {k : Key} (h : k ∈ varK ss) : k.1 = 2 := by
  obtain ⟨x, _, h2⟩ := List.mem_flatMap.1 h
  obtain ⟨j, _, rfl⟩ := List.mem_map.1 h2
  rfl
theorem zfp {g : D.Grid} {more : List D.ShardCell} : (allK g more).Nodup := by
  unfold allK
  refine List.nodup_append.2 ⟨List.nodup_append.2 ⟨?_, zfd, ?_⟩, ?_, ?_⟩
  · unfold portK
    refine List.nodup_cons.2 ⟨fun h => ?_, zd3 (g := fun i (s : D.Shard) => rowK 1 i s.Cells) (fun k : Key => k.2.1) (fun i x _ => zfd) (fun i x y h => (zco h).2)⟩
    obtain ⟨x, _, h2⟩ := List.mem_flatMap.1 h
    exact absurd (zco h2).1 (by decide)
  · intro a ha b hb he
    have h1 := zgq ha
    have h2 := (zco hb).1
    rw [he] at h1
    omega
  · refine zd3 (g := fun i (s : D.Shard) => varR i s) (fun k : Key => k.2.1) (fun i x _ => ?_) (fun i x y h => ?_)
    · unfold varR List.Nodup
      rw [List.pairwise_map]
      refine List.Pairwise.imp ?_ (List.nodup_range (n := x.Vars.length))
      intro x y hxy he
      simp only [Prod.mk.injEq, true_and, and_true] at he
      exact hxy he
    · obtain ⟨j, _, rfl⟩ := List.mem_map.1 h
      rfl
  · intro a ha b hb he
    have h2 := zms hb
    rcases List.mem_append.1 ha with h | h
    · have h1 := zgq h
      rw [he] at h1
      omega
    · have h1 := (zco h).1
      rw [he] at h1
      omega
theorem zmg {t m i t' m' i' : Nat} {c : D.ShardCell} : (cellK t m i c).length = (cellK t' m' i' c).length := by
  unfold cellK
  split <;> simp
theorem znK {t m i : Nat} {c : D.ShardCell} (h : c.Aux.length ≤ 3) : (cellK t m i c).length ≤ 4 := by
  unfold cellK
  split
  · simp
  · simp; omega
theorem zbh {t m i : Nat} {cs : List D.ShardCell} {c : D.ShardCell} (h : cs[i]? = some c) : rowK t m (cs.take (i + 1)) = rowK t m (cs.take i) ++ cellK t m i c := by
  unfold rowK
  rw [zca h, List.flatMap_append]
  simp
theorem zbi {t m : Nat} {cs : List D.ShardCell} (h : ∀ c, c ∈ cs → c.Aux.length ≤ 3) : ∀ i, i ≤ cs.length → (rowK t m (cs.take i)).length ≤ 4 * i
  | 0, _ => by simp [rowK]
  | i + 1, hi => by
    obtain ⟨c, hc⟩ := z4a (xs := cs) (i := i) (by omega)
    rw [zbh hc, List.length_append]
    have := zbi (t := t) (m := m) h i (by omega)
    have := znK (t := t) (m := m) (i := i) (h c (List.mem_of_getElem? hc))
    omega
theorem zcp {t m t' m' : Nat} {cs : List D.ShardCell} : ∀ i, i ≤ cs.length → (rowK t m (cs.take i)).length = (rowK t' m' (cs.take i)).length
  | 0, _ => by simp [rowK]
  | i + 1, hi => by
    obtain ⟨c, hc⟩ := z4a (xs := cs) (i := i) (by omega)
    rw [zbh hc, zbh hc, List.length_append, List.length_append, zcp i (by omega), zmg (t' := t') (m' := m') (i' := i)]
theorem zff {m : Nat} {ss : List D.Shard} {s : D.Shard} (h : ss[m]? = some s) : portK (ss.take (m + 1)) = portK (ss.take m) ++ rowK 1 m s.Cells := by
  unfold portK
  rw [zca h, List.flatMap_append]
  simp
theorem zg1 {m : Nat} {ss : List D.Shard} {s : D.Shard} (h : ss[m]? = some s) : varK (ss.take (m + 1)) = varK (ss.take m) ++ varR m s := by
  unfold varK
  rw [zca h, List.flatMap_append]
  simp
theorem zim {g : D.Grid} {more : List D.ShardCell} {m i k : Nat} {s : D.Shard} {c : D.ShardCell} (hs : g.Shards[m]? = some s) (hc : s.Cells[i]? = some c) (h0 : c.Kind ≠ 0) (hk : k ≤ c.Aux.length) :
    (allK g more)[(portK (g.Shards.take m)).length + (rowK 1 m (s.Cells.take i)).length + k]? = some (1, m, i, k) := by
  have hcl : k < (cellK 1 m i c).length := by unfold cellK; rw [if_neg h0]; simp; omega
  have h2 := zdy (g := fun i c => cellK 1 m i c) hc hcl
  have h3 : (cellK 1 m i c)[k]? = some (1, m, i, k) := by unfold cellK; rw [if_neg h0, List.getElem?_map, List.getElem?_range (by omega)]; rfl
  rw [h3] at h2
  have h2' : (rowK 1 m s.Cells)[(rowK 1 m (s.Cells.take i)).length + k]? = some (1, m, i, k) := h2
  have hlt := (List.getElem?_eq_some_iff.1 h2').1
  have h4 := zdy (g := fun i (s : D.Shard) => rowK 1 i s.Cells) hs hlt
  rw [h2'] at h4
  have h5 : (portK g.Shards)[(portK (g.Shards.take m)).length + (rowK 1 m (s.Cells.take i)).length + k]? = some (1, m, i, k) := by
    unfold portK
    rw [List.length_cons, show ∀ a b c : Nat, a + 1 + b + c = (a + (b + c)) + 1 by omega, List.getElem?_cons_succ]
    exact h4
  have hl5 := (List.getElem?_eq_some_iff.1 h5).1
  unfold allK
  rw [List.append_assoc, List.getElem?_append_left hl5]
  exact h5
theorem zin {g : D.Grid} {more : List D.ShardCell} {i k : Nat} {c : D.ShardCell} (hc : more[i]? = some c) (h0 : c.Kind ≠ 0) (hk : k ≤ c.Aux.length) :
    (allK g more)[(portK g.Shards).length + (rowK 3 0 (more.take i)).length + k]? = some (3, 0, i, k) := by
  have hcl : k < (cellK 3 0 i c).length := by unfold cellK; rw [if_neg h0]; simp; omega
  have h2 := zdy (g := fun i c => cellK 3 0 i c) hc hcl
  have h3 : (cellK 3 0 i c)[k]? = some (3, 0, i, k) := by unfold cellK; rw [if_neg h0, List.getElem?_map, List.getElem?_range (by omega)]; rfl
  rw [h3] at h2
  have h2' : (rowK 3 0 more)[(rowK 3 0 (more.take i)).length + k]? = some (3, 0, i, k) := h2
  have hlt := (List.getElem?_eq_some_iff.1 h2').1
  unfold allK
  rw [List.getElem?_append_left (by rw [List.length_append]; omega), Nat.add_assoc, List.getElem?_append_right (Nat.le_add_right _ _), Nat.add_sub_cancel_left]
  exact h2'
theorem zmn {g : D.Grid} {more : List D.ShardCell} {m i : Nat} {s : D.Shard} (hs : g.Shards[m]? = some s) (hi : i < s.Vars.length) :
    (allK g more)[(portK g.Shards).length + (rowK 3 0 more).length + (varK (g.Shards.take m)).length + i]? = some (2, m, i, 0) := by
  have h4 := zdy (g := fun i (s : D.Shard) => varR i s) (k := i) hs (by unfold varR; simpa using hi)
  have h3 : (varR m s)[i]? = some (2, m, i, 0) := by unfold varR; rw [List.getElem?_map, List.getElem?_range hi]; rfl
  rw [h3] at h4
  unfold allK
  rw [List.getElem?_append_right (by rw [List.length_append]; omega), List.length_append, Nat.add_assoc, Nat.add_sub_cancel_left]
  exact h4


theorem zfk {fuel : Nat} {L : D.l27Links} {c : D.ShardCell} {t m i : Nat} (hf : 18446744073709551616 ≤ fuel) (hs : c.sz ≤ 1048576) (ha : c.Aux.length ≤ 3) (hp : L.ports.length ≤ 1000000) (hg : L.agents.length ≤ 1000000) :
    ∃ P A, z2z fuel L c = some ((L.ports.length : Int), ⟨A, P, L.cells, L.vars, L.ends, L.pairs⟩) ∧ P.length = L.ports.length + (cellK t m i c).length ∧ A.length ≤ L.agents.length + 1 := by
  unfold z2z
  by_cases k0 : c.Kind = 0
  · rw [if_pos (by simp [k0])]
    exact ⟨L.ports, L.agents, rfl, by unfold cellK; rw [if_pos k0]; rfl, by omega⟩
  · rw [if_neg (by simpa using k0)]
    obtain ⟨o, h1, P, rfl, h2⟩ := z12 (body := z2j fuel L c) (fun k s => ∃ P : List D.Port, s = ((k : Int), P) ∧ P.length = L.ports.length + k) (c.Aux.length + 1) (fun o => ∃ P, o = .inl P ∧ P.length = L.ports.length + (c.Aux.length + 1)) (by
      rintro k s hk ⟨P, rfl, hP⟩
      refine .inl ⟨(w64 (k + 1), P ++ [⟨(L.agents.length : Int), (k : Int)⟩]), ?_, _, by rw [z9 (by omega) (by omega)]; rfl, by simp [hP]; omega⟩
      unfold z2j
      dsimp only
      rw [if_pos (by simp; omega), if_pos (by simp; omega)]) (by
      rintro s ⟨P, rfl, hP⟩
      refine .inr ⟨P, ?_, P, rfl, hP⟩
      unfold z2j
      rw [if_neg (by simp; omega)]) (fuel := fuel) (i := 0) (s := (0, L.ports)) (Nat.zero_le _) (by omega) ⟨_, rfl, rfl⟩
    rw [h1, Option.bind_some]
    simp only [aft]
    unfold z6b
    rw [zhW hs, Option.bind_some, if_pos (by simp; omega)]
    exact ⟨P, _, rfl, by rw [h2]; unfold cellK; rw [if_neg k0]; simp, by simp⟩

def baseL (b : Nat) (cs : List D.ShardCell) (n : Nat) : List Int := (List.range n).map fun i => ((b + (rowK 1 0 (cs.take i)).length : Nat) : Int)
theorem zhc {b n : Nat} {cs : List D.ShardCell} : baseL b cs (n + 1) = baseL b cs n ++ [((b + (rowK 1 0 (cs.take n)).length : Nat) : Int)] := by
  unfold baseL
  rw [List.range_succ, List.map_append]
  rfl
theorem zmj {b n i : Nat} {cs : List D.ShardCell} (h : i < n) : (baseL b cs n)[i]? = some ((b + (rowK 1 0 (cs.take i)).length : Nat) : Int) := by
  unfold baseL
  rw [List.getElem?_map, List.getElem?_range h]
  rfl

theorem znP {fuel : Nat} {g : D.Grid} {m : Nat} {s : D.Shard} {z : List (List Int) × List (List Int) × List (List Int) × List (List Int) × List D.Port × List D.Agent} {C V E Q : List (List Int)} {P : List D.Port} {A : List D.Agent}
    (hf : 18446744073709551616 ≤ fuel) (hm : g.Shards[m]? = some s) (hz : s.Cells.length ≤ 400) (hs : ∀ c, c ∈ s.Cells → c.sz ≤ 1048576 ∧ c.Aux.length ≤ 3) (hP : P.length ≤ 100000) (hA : A.length ≤ 100000) :
    ∃ P' A', iter (z3d fuel g ((m : Int), z)) fuel (0, [], C, V, E, Q, P, A) = some (.inl (baseL P.length s.Cells s.Cells.length, C, V, E, Q, P', A')) ∧ P'.length = P.length + (rowK 1 m s.Cells).length ∧ A'.length ≤ A.length + s.Cells.length := by
  have hle := fun i hi => zbi (t := 1) (m := m) (cs := s.Cells) (fun c hc => (hs c hc).2) i hi
  obtain ⟨o, h1, P', A', rfl, h2, h3⟩ := z12 (body := z3d fuel g ((m : Int), z)) (fun i st => ∃ P' A', st = ((i : Int), baseL P.length s.Cells i, C, V, E, Q, P', A') ∧ P'.length = P.length + (rowK 1 m (s.Cells.take i)).length ∧ A'.length ≤ A.length + i) s.Cells.length
    (fun o => ∃ P' A', o = .inl (baseL P.length s.Cells s.Cells.length, C, V, E, Q, P', A') ∧ P'.length = P.length + (rowK 1 m s.Cells).length ∧ A'.length ≤ A.length + s.Cells.length) (by
    rintro i st hi ⟨P', A', rfl, hP', hA'⟩
    obtain ⟨c, hc⟩ := z4a hi
    obtain ⟨c1, c2⟩ := hs c (List.mem_of_getElem? hc)
    have := hle i (by omega)
    obtain ⟨P2, A2, e1, e2, e3⟩ := zfk (L := ⟨A', P', C, V, E, Q⟩) (t := 1) (m := m) (i := i) hf c1 c2 (by dsimp only; omega) (by dsimp only; omega)
    dsimp only at e1 e2 e3
    refine .inl ⟨(w64 (i + 1), baseL P.length s.Cells (i + 1), C, V, E, Q, P2, A2), ?_, P2, A2, by rw [z9 (by omega) (by omega)]; rfl, by rw [e2, hP', zbh hc, List.length_append]; omega, by omega⟩
    unfold z3d
    dsimp only
    rw [za hm, Option.bind_some, if_pos (by simpa using hi), Option.bind_some, za hc, Option.bind_some, e1, Option.bind_some]
    dsimp only
    rw [if_pos (by unfold baseL; simp; omega), zhc, hP', zcp (t := 1) (m := m) (t' := 1) (m' := 0) i (by omega)]) (by
    rintro st ⟨P', A', rfl, hP', hA'⟩
    rw [List.take_length] at hP'
    refine .inr ⟨_, ?_, P', A', rfl, hP', hA'⟩
    unfold z3d
    dsimp only
    rw [za hm, Option.bind_some, if_neg (by simp)]) (fuel := fuel) (i := 0) (s := (0, [], C, V, E, Q, P, A)) (Nat.zero_le _) (by omega) ⟨P, A, rfl, by simp [rowK], by omega⟩
  exact ⟨P', A', h1, h2, h3⟩

theorem zmW {fuel : Nat} {more : List D.ShardCell} {C V E Q : List (List Int)} {P : List D.Port} {A : List D.Agent}
    (hf : 18446744073709551616 ≤ fuel) (hz : more.length ≤ 20000) (hs : ∀ c, c ∈ more → c.sz ≤ 1048576 ∧ c.Aux.length ≤ 3) (hP : P.length ≤ 100000) (hA : A.length ≤ 100000) :
    ∃ P' A', iter (z3g fuel more) fuel (0, [], C, V, E, Q, P, A) = some (.inl (baseL P.length more more.length, C, V, E, Q, P', A')) ∧ P'.length = P.length + (rowK 3 0 more).length ∧ A'.length ≤ A.length + more.length := by
  have hle := fun i hi => zbi (t := 3) (m := 0) (cs := more) (fun c hc => (hs c hc).2) i hi
  obtain ⟨o, h1, P', A', rfl, h2, h3⟩ := z12 (body := z3g fuel more) (fun i st => ∃ P' A', st = ((i : Int), baseL P.length more i, C, V, E, Q, P', A') ∧ P'.length = P.length + (rowK 3 0 (more.take i)).length ∧ A'.length ≤ A.length + i) more.length
    (fun o => ∃ P' A', o = .inl (baseL P.length more more.length, C, V, E, Q, P', A') ∧ P'.length = P.length + (rowK 3 0 more).length ∧ A'.length ≤ A.length + more.length) (by
    rintro i st hi ⟨P', A', rfl, hP', hA'⟩
    obtain ⟨c, hc⟩ := z4a hi
    obtain ⟨c1, c2⟩ := hs c (List.mem_of_getElem? hc)
    have := hle i (by omega)
    obtain ⟨P2, A2, e1, e2, e3⟩ := zfk (L := ⟨A', P', C, V, E, Q⟩) (t := 3) (m := 0) (i := i) hf c1 c2 (by dsimp only; omega) (by dsimp only; omega)
    dsimp only at e1 e2 e3
    refine .inl ⟨(w64 (i + 1), baseL P.length more (i + 1), C, V, E, Q, P2, A2), ?_, P2, A2, by rw [z9 (by omega) (by omega)]; rfl, by rw [e2, hP', zbh hc, List.length_append]; omega, by omega⟩
    unfold z3g
    dsimp only
    rw [if_pos (by simpa using hi), za hc, Option.bind_some, e1, Option.bind_some]
    dsimp only
    rw [if_pos (by unfold baseL; simp; omega), zhc, hP', zcp (t := 3) (m := 0) (t' := 1) (m' := 0) i (by omega)]) (by
    rintro st ⟨P', A', rfl, hP', hA'⟩
    rw [List.take_length] at hP'
    refine .inr ⟨_, ?_, P', A', rfl, hP', hA'⟩
    unfold z3g
    rw [if_neg (by simp)]) (fuel := fuel) (i := 0) (s := (0, [], C, V, E, Q, P, A)) (Nat.zero_le _) (by omega) ⟨P, A, rfl, by simp [rowK], by omega⟩
  exact ⟨P', A', h1, h2, h3⟩

theorem zmp {fuel : Nat} {g : D.Grid} {m n : Nat} {s : D.Shard} {z1 : Int} {z2 : List (List Int)} (hf : 18446744073709551616 ≤ fuel) (hm : g.Shards[m]? = some s) (hz : s.Vars.length ≤ 400) (hn : n ≤ 1000000) :
    iter (z3e fuel g (z1, (m : Int), z2)) fuel ((n : Int), 0, []) = some (.inl (((n + s.Vars.length : Nat) : Int), (List.range s.Vars.length).map fun i => ((n + i : Nat) : Int))) := by
  obtain ⟨o, h1, h2⟩ := z12 (body := z3e fuel g (z1, (m : Int), z2)) (fun i st => st = (((n + i : Nat) : Int), (i : Int), (List.range i).map fun j => ((n + j : Nat) : Int))) s.Vars.length (fun o => o = .inl (((n + s.Vars.length : Nat) : Int), (List.range s.Vars.length).map fun i => ((n + i : Nat) : Int))) (by
    rintro i st hi rfl
    refine .inl ⟨(w64 (((n + i : Nat) : Int) + 1), w64 (i + 1), ((List.range i).map fun j => ((n + j : Nat) : Int)) ++ [((n + i : Nat) : Int)]), ?_, ?_⟩
    · unfold z3e
      dsimp only
      rw [za hm, Option.bind_some, if_pos (by simpa using hi), if_pos (by simp; omega)]
    · rw [z9 (by omega) (by omega), z9 (by omega) (by omega), List.range_succ, List.map_append]
      rfl) (by
    rintro st rfl
    refine .inr ⟨_, ?_, rfl⟩
    unfold z3e
    dsimp only
    rw [za hm, Option.bind_some, if_neg (by simp)]) (fuel := fuel) (i := 0) (s := ((n : Int), 0, [])) (Nat.zero_le _) (by omega) rfl
  rw [h1, h2]
end Go.E

namespace Go.E
open Go.RowKit Go.Proofs
set_option linter.unusedSimpArgs false
set_option linter.unusedVariables false


structure Small (g : D.Grid) : Prop where
  n : g.Shards.length ≤ 4
  s : ∀ s, s ∈ g.Shards → s.Cells.length ≤ 400 ∧ s.Vars.length ≤ 400 ∧ s.Redexes.length ≤ 400 ∧ (∀ c, c ∈ s.Cells → c.sz ≤ 1048576 ∧ c.Aux.length ≤ 3 ∧ shCellN c = true) ∧ ∀ v, v ∈ s.Vars → shVarN v = true
theorem zfw {g : D.Grid} (hs : g.sz ≤ 1048576) (hp : piecesN g = true) : Small g := by
  unfold piecesN at hp
  rw [Bool.and_eq_true, decide_eq_true_eq] at hp
  refine ⟨hp.1.2, fun s hm => ?_⟩
  have h1 := List.all_eq_true.1 hp.2 s hm
  unfold shardN at h1
  rw [Bool.and_eq_true, Bool.and_eq_true, decide_eq_true_eq] at h1
  obtain ⟨⟨a1, a2, a3⟩, a4, a5⟩ := h1
  have z := (zbK ((zd2 hs).2 s hm)).2.2.2
  exact ⟨a1, a2, a3, fun c hc => ⟨z c hc, zhV (List.all_eq_true.1 a4 c hc), List.all_eq_true.1 a4 c hc⟩, fun v hv => List.all_eq_true.1 a5 v hv⟩
def moreOk (more : List D.ShardCell) : Prop := more.length ≤ 20000 ∧ ∀ c, c ∈ more → c.sz ≤ 1048576 ∧ c.Aux.length ≤ 3
structure Items (g : D.Grid) (more : List D.ShardCell) (L : D.l27Links) (at_ : List Int) : Prop where
  ports : L.ports.length = (portK g.Shards ++ rowK 3 0 more).length
  cell : ∀ (m i : Nat) s c, g.Shards[m]? = some s → s.Cells[i]? = some c → ∃ row, L.cells[m]? = some row ∧ row[i]? = some (((portK (g.Shards.take m)).length + (rowK 1 m (s.Cells.take i)).length : Nat) : Int)
  var : ∀ (m i : Nat) s, g.Shards[m]? = some s → i < s.Vars.length → ∃ row, L.vars[m]? = some row ∧ row[i]? = some (((portK g.Shards).length + (rowK 3 0 more).length + (varK (g.Shards.take m)).length + i : Nat) : Int)
  ends : L.ends = List.replicate (allK g more).length []
  pairs : L.pairs = []
  more : ∀ (i : Nat) c, more[i]? = some c → at_[i]? = some (((portK g.Shards).length + (rowK 3 0 (more.take i)).length : Nat) : Int)
theorem zbL {g : D.Grid} (hS : Small g) : ∀ m, m ≤ g.Shards.length → (portK (g.Shards.take m)).length ≤ 1 + 1600 * m
  | 0, _ => by simp [portK]
  | m + 1, hm => by
    obtain ⟨s, hs⟩ := z4a (xs := g.Shards) (i := m) (by omega)
    obtain ⟨a1, a2, a3, a4, a5⟩ := hS.s s (List.mem_of_getElem? hs)
    rw [zff hs, List.length_append]
    have := zbL hS m (by omega)
    have h2 := zbi (t := 1) (m := m) (cs := s.Cells) (fun c hc => (a4 c hc).2.1) s.Cells.length (Nat.le_refl _)
    rw [List.take_length] at h2
    omega
theorem zhi {g : D.Grid} (hS : Small g) : ∀ m, m ≤ g.Shards.length → (varK (g.Shards.take m)).length ≤ 400 * m
  | 0, _ => by simp [varK]
  | m + 1, hm => by
    obtain ⟨s, hs⟩ := z4a (xs := g.Shards) (i := m) (by omega)
    obtain ⟨a1, a2, a3, a4, a5⟩ := hS.s s (List.mem_of_getElem? hs)
    rw [zg1 hs, List.length_append]
    have := zhi hS m (by omega)
    unfold varR
    simp only [List.length_map, List.length_range]
    omega
theorem zhP {fuel : Nat} {g : D.Grid} (hf : 18446744073709551616 ≤ fuel) (hS : Small g) : ∃ (C : List (List Int)) (P : List D.Port) (A : List D.Agent), iter (z3h fuel g) fuel (0, [], [], [], [], [⟨0, 0⟩], [⟨1, 0, 0, [], List.replicate (1 : Int).toNat ⟨0, 0⟩⟩]) = some (.inl (C, [], [], [], P, A)) ∧ C.length = g.Shards.length ∧ (∀ (j : Nat) s, g.Shards[j]? = some s → C[j]? = some (baseL (portK (g.Shards.take j)).length s.Cells s.Cells.length)) ∧ P.length = (portK g.Shards).length ∧ A.length ≤ 2000 := by
  have hn := hS.n
  obtain ⟨o, h1, C, P, A, rfl, h2, h3, h4, h5⟩ := z12 (body := z3h fuel g) (fun m st => ∃ (C : List (List Int)) (P : List D.Port) (A : List D.Agent), st = ((m : Int), C, [], [], [], P, A) ∧ C.length = m ∧ (∀ (j : Nat) s, j < m → g.Shards[j]? = some s → C[j]? = some (baseL (portK (g.Shards.take j)).length s.Cells s.Cells.length)) ∧ P.length = (portK (g.Shards.take m)).length ∧ A.length ≤ 1 + 400 * m) g.Shards.length
    (fun o => ∃ (C : List (List Int)) (P : List D.Port) (A : List D.Agent), o = .inl (C, [], [], [], P, A) ∧ C.length = g.Shards.length ∧ (∀ (j : Nat) s, g.Shards[j]? = some s → C[j]? = some (baseL (portK (g.Shards.take j)).length s.Cells s.Cells.length)) ∧ P.length = (portK g.Shards).length ∧ A.length ≤ 2000) (by
    rintro m st hm ⟨C, P, A, rfl, hC, hr, hP, hA⟩
    obtain ⟨s, hs⟩ := z4a hm
    obtain ⟨a1, a2, a3, a4, a5⟩ := hS.s s (List.mem_of_getElem? hs)
    have hpl := zbL hS m (by omega)
    obtain ⟨P', A', e1, e2, e3⟩ := znP (z := (C, [], [], [], P, A)) (C := C) (V := []) (E := []) (Q := []) (P := P) (A := A) hf hs a1 (fun c hc => ⟨(a4 c hc).1, (a4 c hc).2.1⟩) (by omega) (by omega)
    refine .inl ⟨(w64 (m + 1), C ++ [baseL P.length s.Cells s.Cells.length], [], [], [], P', A'), ?_, _, P', A', by rw [z9 (by omega) (by omega)]; rfl, by simp [hC], ?_, ?_, by omega⟩
    · unfold z3h
      dsimp only
      rw [if_pos (by simpa using hm), e1, Option.bind_some]
      rw [z8]
      unfold z8i
      dsimp only
      rw [if_pos (by simp; omega)]
    · intro j s' hj hs'
      by_cases hjm : j < m
      · rw [List.getElem?_append_left (by omega)]
        exact hr j s' hjm hs'
      · obtain rfl : j = m := by omega
        rw [hs] at hs'
        cases hs'
        rw [List.getElem?_append_right (by omega), hC, Nat.sub_self, hP]
        rfl
    · rw [e2, hP, zff hs, List.length_append]) (by
    rintro st ⟨C, P, A, rfl, hC, hr, hP, hA⟩
    rw [List.take_length] at hP
    refine .inr ⟨_, ?_, C, P, A, rfl, hC, fun j s hs => hr j s (List.getElem?_eq_some_iff.1 hs).1 hs, hP, by omega⟩
    unfold z3h
    rw [if_neg (by simp)]) (fuel := fuel) (i := 0) (s := (0, [], [], [], [], [⟨0, 0⟩], [⟨1, 0, 0, [], List.replicate (1 : Int).toNat ⟨0, 0⟩⟩])) (Nat.zero_le _) (by omega) ⟨_, _, _, rfl, rfl, fun j s hj _ => absurd hj (Nat.not_lt_zero _), by simp [portK], by simp⟩
  exact ⟨C, P, A, h1, h2, h3, h4, h5⟩
theorem zj1 {fuel N : Nat} {g : D.Grid} (hf : 18446744073709551616 ≤ fuel) (hS : Small g) (hN : N ≤ 500000) : ∃ V : List (List Int), iter (z3f fuel g) fuel ((N : Int), 0, []) = some (.inl (((N + (varK g.Shards).length : Nat) : Int), V)) ∧ V.length = g.Shards.length ∧ ∀ (j : Nat) s, g.Shards[j]? = some s → V[j]? = some ((List.range s.Vars.length).map fun i => ((N + (varK (g.Shards.take j)).length + i : Nat) : Int)) := by
  have hn := hS.n
  obtain ⟨o, f1, V, rfl, f2, f3⟩ := z12 (body := z3f fuel g) (fun m st => ∃ V : List (List Int), st = (((N + (varK (g.Shards.take m)).length : Nat) : Int), (m : Int), V) ∧ V.length = m ∧ ∀ (j : Nat) s, j < m → g.Shards[j]? = some s → V[j]? = some ((List.range s.Vars.length).map fun i => ((N + (varK (g.Shards.take j)).length + i : Nat) : Int))) g.Shards.length
    (fun o => ∃ V : List (List Int), o = .inl (((N + (varK g.Shards).length : Nat) : Int), V) ∧ V.length = g.Shards.length ∧ ∀ (j : Nat) s, g.Shards[j]? = some s → V[j]? = some ((List.range s.Vars.length).map fun i => ((N + (varK (g.Shards.take j)).length + i : Nat) : Int))) (by
    rintro m st hm ⟨V, rfl, hV, hr⟩
    obtain ⟨s, hs⟩ := z4a hm
    obtain ⟨a1, a2, a3, a4, a5⟩ := hS.s s (List.mem_of_getElem? hs)
    have hvl := zhi hS m (by omega)
    have e1 := zmp (z1 := ((N + (varK (g.Shards.take m)).length : Nat) : Int)) (z2 := V) (n := N + (varK (g.Shards.take m)).length) hf hs a2 (by omega)
    refine .inl ⟨(((N + (varK (g.Shards.take m)).length + s.Vars.length : Nat) : Int), w64 (m + 1), V ++ [(List.range s.Vars.length).map fun i => ((N + (varK (g.Shards.take m)).length + i : Nat) : Int)]), ?_, V ++ [(List.range s.Vars.length).map fun i => ((N + (varK (g.Shards.take m)).length + i : Nat) : Int)], ?_, by simp [hV], ?_⟩
    · unfold z3f
      dsimp only
      rw [if_pos (by simpa using hm), e1, Option.bind_some]
      rw [z8]
      unfold z8j
      dsimp only
      rw [if_pos (by simp; omega)]
    · rw [z9 (by omega) (by omega), zg1 hs, List.length_append]
      unfold varR
      simp only [List.length_map, List.length_range, Nat.add_assoc]
      rfl
    · intro j s' hj hs'
      by_cases hjm : j < m
      · rw [List.getElem?_append_left (by omega)]
        exact hr j s' hjm hs'
      · obtain rfl : j = m := by omega
        rw [hs] at hs'
        cases hs'
        rw [List.getElem?_append_right (by omega), hV, Nat.sub_self]
        rfl) (by
    rintro st ⟨V, rfl, hV, hr⟩
    rw [List.take_length]
    refine .inr ⟨_, ?_, V, rfl, hV, fun j s hs => hr j s (List.getElem?_eq_some_iff.1 hs).1 hs⟩
    unfold z3f
    rw [if_neg (by simp)]) (fuel := fuel) (i := 0) (s := ((N : Int), 0, [])) (Nat.zero_le _) (by omega) ⟨[], by simp [varK], rfl, fun j s hj _ => absurd hj (Nat.not_lt_zero _)⟩
  exact ⟨V, f1, f2, f3⟩
theorem zmi {fuel : Nat} {g : D.Grid} {more : List D.ShardCell} (hf : 18446744073709551616 ≤ fuel) (hS : Small g) (hM : moreOk more) : ∃ L at_, z72 fuel g more = some (L, at_) ∧ Items g more L at_ := by
  have hn := hS.n
  unfold z72
  rw [if_pos (by simp)]
  obtain ⟨C, P, A, h1, h2, h3, h4, h5⟩ := zhP hf hS
  rw [h1, Option.bind_some]
  rw [z8]
  unfold z8n
  dsimp only
  have hpl := zbL hS g.Shards.length (Nat.le_refl _)
  rw [List.take_length] at hpl
  obtain ⟨P', A', e1, e2, e3⟩ := zmW (more := more) (C := C) (V := []) (E := []) (Q := []) (P := P) (A := A) hf hM.1 hM.2 (by omega) (by omega)
  rw [e1, Option.bind_some]
  rw [z8]
  unfold z8m
  dsimp only
  have hmore := zbi (t := 3) (m := 0) (cs := more) (fun c hc => (hM.2 c hc).2) more.length (Nat.le_refl _)
  rw [List.take_length] at hmore
  have hM1 := hM.1
  have hPl : P'.length = (portK g.Shards).length + (rowK 3 0 more).length := by rw [e2, h4]
  obtain ⟨V, f1, f2, f3⟩ := zj1 (N := P'.length) hf hS (by omega)
  rw [f1, Option.bind_some]
  rw [z8]
  unfold z8k
  dsimp only
  have hvl := zhi hS g.Shards.length (Nat.le_refl _)
  rw [List.take_length] at hvl
  rw [if_pos (by simp; omega)]
  refine ⟨_, _, rfl, ?_, ?_, ?_, ?_, rfl, ?_⟩
  · dsimp only; rw [hPl, List.length_append]
  · intro m i s c hs hc
    have hi := (List.getElem?_eq_some_iff.1 hc).1
    refine ⟨_, h3 m s hs, ?_⟩
    rw [zmj hi, zcp (t := 1) (m := 0) (t' := 1) (m' := m) i (by omega)]
  · intro m i s hs hi
    refine ⟨_, f3 m s hs, ?_⟩
    rw [List.getElem?_map, List.getElem?_range hi, hPl]
    rfl
  · dsimp only
    congr 1
    unfold allK
    rw [List.length_append, List.length_append, ← hPl]
    omega
  · intro i c hc
    have hi := (List.getElem?_eq_some_iff.1 hc).1
    rw [zmj hi, h4, zcp (t := 1) (m := 0) (t' := 3) (m' := 0) i (by omega)]
end Go.E

namespace Go.E
open Go.RowKit Go.Proofs
set_option linter.unusedSimpArgs false
set_option linter.unusedVariables false

def aliveN (g : D.Grid) (a : D.Address) : Bool := decide (0 ≤ a.Machine ∧ 0 ≤ a.Index) && (g.Shards[a.Machine.toNat]?).any fun s => if a.Kind = 1 then (s.Cells[a.Index.toNat]?).any fun c => decide (c.Kind ≠ 0) else if a.Kind = 2 then (s.Vars[a.Index.toNat]?).any fun v => v.Used else false
def keyA (a : D.Address) : Key := if a.Kind = 1 then (1, a.Machine.toNat, a.Index.toNat, 0) else (2, a.Machine.toNat, a.Index.toNat, 0)

theorem zbN {α : Type} {xs : List α} {i : Int} (h : (xs.length : Int) ≤ i) : xs[i.toNat]? = none := List.getElem?_eq_none (by omega)
theorem zfm {α : Type} {xs : List α} {i : Int} (h0 : 0 ≤ i) (h : i < xs.length) : ∃ x, xs[i.toNat]? = some x ∧ idx xs i = some x := by
  obtain ⟨x, hx⟩ := z4a (xs := xs) (i := i.toNat) (by omega)
  exact ⟨x, hx, by unfold idx; rw [if_pos h0, hx]⟩
theorem zaL {fuel : Nat} {g : D.Grid} {a : D.Address} (hs : g.sz ≤ 1048576) : z2k fuel g a = some (aliveN g a) := by
  have hm : maxLen = 9223372036854775807 := rfl
  obtain ⟨z1, z2⟩ := zd2 hs
  unfold z2k aliveN
  rw [zbP (by omega), z6O, Option.bind_some]
  by_cases hM : 0 ≤ a.Machine ∧ a.Machine ≤ (g.Shards.length : Int) - 1
  · obtain ⟨s, s1, s2⟩ := zfm (xs := g.Shards) hM.1 (by omega)
    obtain ⟨y1, y2, y3, y4⟩ := zbK (z2 s (List.mem_of_getElem? s1))
    rw [decide_eq_true hM, if_neg (by simp), s2, Option.bind_some, s1, Option.any_some]
    by_cases k1 : a.Kind = 1
    · rw [if_pos (by simp [k1]), if_pos k1, zbP (by omega), z6O, Option.bind_some]
      by_cases hi : 0 ≤ a.Index ∧ a.Index ≤ (s.Cells.length : Int) - 1
      · obtain ⟨c, c1, c2⟩ := zfm (xs := s.Cells) hi.1 (by omega)
        rw [if_pos (decide_eq_true hi), c2, Option.bind_some, c1, Option.any_some, decide_eq_true ⟨hM.1, hi.1⟩]
        by_cases h : c.Kind = 0 <;> simp [h]
      · rw [if_neg (by simpa using hi)]
        by_cases h0 : 0 ≤ a.Index
        · rw [zbN (by omega)]; simp
        · rw [decide_eq_false (fun h => h0 h.2)]; rfl
    · rw [if_neg (by simpa using k1), if_neg k1]
      by_cases k2 : a.Kind = 2
      · rw [if_pos (by simp [k2]), if_pos k2, zbP (by omega), z6O, Option.bind_some]
        by_cases hi : 0 ≤ a.Index ∧ a.Index ≤ (s.Vars.length : Int) - 1
        · obtain ⟨c, c1, c2⟩ := zfm (xs := s.Vars) hi.1 (by omega)
          rw [if_pos (decide_eq_true hi), c2, Option.bind_some, c1, Option.any_some, decide_eq_true ⟨hM.1, hi.1⟩]
          rfl
        · rw [if_neg (by simpa using hi)]
          by_cases h0 : 0 ≤ a.Index
          · rw [zbN (by omega)]; simp
          · rw [decide_eq_false (fun h => h0 h.2)]; rfl
      · rw [if_neg (by simpa using k2), if_neg k2]; simp
  · rw [decide_eq_false hM, if_pos (by simp)]
    by_cases h0 : 0 ≤ a.Machine
    · rw [zbN (by omega)]; simp
    · rw [decide_eq_false (fun h => h0 h.1)]; rfl
theorem ziQ {fuel : Nat} {g : D.Grid} {a : D.Address} : z2U fuel g a = some (aliveN g a) := by
  unfold z2U z2C aliveN
  by_cases h1 : a.Machine < 0
  · rw [if_pos (decide_eq_true h1), if_pos rfl, decide_eq_false (fun h => by omega)]; rfl
  · rw [if_neg (by simpa using h1)]
    by_cases h2 : a.Machine ≥ (g.Shards.length : Int)
    · rw [if_pos (decide_eq_true h2), if_pos rfl, zbN h2]; simp
    · rw [if_neg (by simpa using h2)]
      obtain ⟨s, s1, s2⟩ := zfm (xs := g.Shards) (i := a.Machine) (by omega) (by omega)
      rw [s1, Option.any_some]
      by_cases h3 : a.Index < 0
      · rw [if_pos (decide_eq_true h3), decide_eq_false (fun h => by omega)]; rfl
      · rw [if_neg (by simpa using h3), s2, Option.bind_some, decide_eq_true (p := 0 ≤ a.Machine ∧ 0 ≤ a.Index) ⟨by omega, by omega⟩, Bool.true_and]
        by_cases k1 : a.Kind = 1
        · rw [if_pos (by simp [k1]), if_pos k1]
          by_cases hi : a.Index < (s.Cells.length : Int)
          · obtain ⟨c, c1, c2⟩ := zfm (xs := s.Cells) (i := a.Index) (by omega) hi
            rw [if_pos (decide_eq_true hi), c2, Option.bind_some, c1, Option.any_some]
            by_cases h : c.Kind = 0 <;> simp [h]
          · rw [if_neg (by simpa using hi), zbN (by omega)]; rfl
        · rw [if_neg (by simpa using k1), if_neg k1]
          by_cases k2 : a.Kind = 2
          · rw [if_pos (by simp [k2]), if_pos k2]
            by_cases hi : a.Index < (s.Vars.length : Int)
            · obtain ⟨c, c1, c2⟩ := zfm (xs := s.Vars) (i := a.Index) (by omega) hi
              rw [if_pos (decide_eq_true hi), c2, Option.bind_some, c1, Option.any_some]
            · rw [if_neg (by simpa using hi), zbN (by omega)]; rfl
          · rw [if_neg (by simpa using k2), if_neg k2]

theorem zeD {g : D.Grid} {a : D.Address} (h : aliveN g a = true) : 0 ≤ a.Machine ∧ 0 ≤ a.Index ∧ ∃ s, g.Shards[a.Machine.toNat]? = some s ∧
    ((a.Kind = 1 ∧ ∃ c, s.Cells[a.Index.toNat]? = some c ∧ c.Kind ≠ 0) ∨ (a.Kind = 2 ∧ ∃ v, s.Vars[a.Index.toNat]? = some v ∧ v.Used = true)) := by
  unfold aliveN at h
  rw [Bool.and_eq_true, decide_eq_true_eq] at h
  obtain ⟨⟨h1, h2⟩, h3⟩ := h
  refine ⟨h1, h2, ?_⟩
  cases hs : g.Shards[a.Machine.toNat]? with
  | none => rw [hs] at h3; cases h3
  | some s =>
    rw [hs, Option.any_some] at h3
    refine ⟨s, rfl, ?_⟩
    by_cases k1 : a.Kind = 1
    · rw [if_pos k1] at h3
      cases hc : s.Cells[a.Index.toNat]? with
      | none => rw [hc] at h3; cases h3
      | some c => rw [hc, Option.any_some, decide_eq_true_eq] at h3; exact .inl ⟨k1, c, rfl, h3⟩
    · rw [if_neg k1] at h3
      by_cases k2 : a.Kind = 2
      · rw [if_pos k2] at h3
        cases hc : s.Vars[a.Index.toNat]? with
        | none => rw [hc] at h3; cases h3
        | some c => rw [hc, Option.any_some] at h3; exact .inr ⟨k2, c, rfl, h3⟩
      · rw [if_neg k2] at h3; cases h3
theorem zcu {fuel : Nat} {g : D.Grid} {more : List D.ShardCell} {L L' : D.l27Links} {at_ : List Int} {a : D.Address} (hI : Items g more L at_) (hc : L'.cells = L.cells) (hv : L'.vars = L.vars) (h : aliveN g a = true) :
    ∃ x : Nat, zQ fuel L' a = some (x : Int) ∧ (allK g more)[x]? = some (keyA a) := by
  obtain ⟨h1, h2, s, hs, h3⟩ := zeD h
  have em : a.Machine = ((a.Machine.toNat : Nat) : Int) := by omega
  have ei : a.Index = ((a.Index.toNat : Nat) : Int) := by omega
  unfold zQ keyA
  rcases h3 with ⟨k1, c, c1, c2⟩ | ⟨k2, v, v1, v2⟩
  · rw [if_pos (by simp [k1]), if_pos k1, hc]
    obtain ⟨row, r1, r2⟩ := hI.cell _ _ s c hs c1
    refine ⟨_, ?_, zim (k := 0) hs c1 c2 (Nat.zero_le _)⟩
    rw [em, za r1, Option.bind_some, ei, za r2]
    rfl
  · have hi := (List.getElem?_eq_some_iff.1 v1).1
    rw [if_neg (by simp [k2]), if_neg (by omega), hv]
    obtain ⟨row, r1, r2⟩ := hI.var _ _ s hs hi
    refine ⟨_, ?_, zmn hs hi⟩
    rw [em, za r1, Option.bind_some, ei, za r2]
    rfl


def EndsOk (ks0 : List Key) (E : List (List Int)) (ks : List Key) : Prop := E.length = ks0.length ∧ ∀ (x : Nat) key, ks0[x]? = some key → ∃ e, E[x]? = some e ∧ e.length = ks.count key
theorem zmV {α : Type} {xs : List α} (h : xs.Nodup) {i j : Nat} {a : α} (hi : xs[i]? = some a) (hj : xs[j]? = some a) : i = j := by
  obtain ⟨h1, h2⟩ := List.getElem?_eq_some_iff.1 hi
  obtain ⟨h3, h4⟩ := List.getElem?_eq_some_iff.1 hj
  have hp := List.pairwise_iff_getElem.1 h
  rcases Nat.lt_trichotomy i j with hl | hl | hl
  · exact absurd (h2.trans h4.symm) (hp i j h1 h3 hl)
  · exact hl
  · exact absurd (h4.trans h2.symm) (hp j i h3 h1 hl)
theorem zh3 {ks0 : List Key} (hn : ks0.Nodup) {E : List (List Int)} {ks : List Key} (h : EndsOk ks0 E ks) {x : Nat} {k : Key} (hx : ks0[x]? = some k) (n : Int) :
    ∃ e, E[x]? = some e ∧ e.length ≤ ks.length ∧ EndsOk ks0 (E.set x (e ++ [n])) (ks ++ [k]) := by
  obtain ⟨hl, he⟩ := h
  obtain ⟨e, e1, e2⟩ := he x k hx
  refine ⟨e, e1, by rw [e2]; exact List.count_le_length, by simp [hl], fun y key hy => ?_⟩
  obtain ⟨f, f1, f2⟩ := he y key hy
  by_cases hxy : x = y
  · subst hxy
    rw [hx] at hy
    cases hy
    have hlt := (List.getElem?_eq_some_iff.1 e1).1
    exact ⟨_, List.getElem?_set_self hlt, by simp [e2]⟩
  · refine ⟨f, by rw [List.getElem?_set_ne hxy]; exact f1, ?_⟩
    have hk : k ≠ key := fun e => hxy (zmV hn hx (by rw [e]; exact hy))
    rw [f2, List.count_append, List.count_singleton]
    simp [hk]

structure Run (g : D.Grid) (more : List D.ShardCell) (L L' : D.l27Links) (ks : List Key) : Prop where
  ports : L'.ports = L.ports
  cells : L'.cells = L.cells
  vars : L'.vars = L.vars
  ends : EndsOk (allK g more) L'.ends ks
  pairs : L'.pairs.length ≤ ks.length
theorem zcf {fuel : Nat} {g : D.Grid} {more : List D.ShardCell} {L L' : D.l27Links} {ks : List Key} {x y : Nat} {k1 k2 : Key} (hR : Run g more L L' ks) (hx : (allK g more)[x]? = some k1) (hy : (allK g more)[y]? = some k2) (hb : ks.length ≤ 1000000) :
    ∃ L'', zJ fuel L' (x : Int) (y : Int) = some L'' ∧ Run g more L L'' (ks ++ [k1, k2]) := by
  obtain ⟨e, e1, e2, e3⟩ := zh3 zfp hR.ends hx (L'.pairs.length : Int)
  obtain ⟨f, f1, f2, f3⟩ := zh3 zfp e3 hy (L'.pairs.length : Int)
  have hp := hR.pairs
  rw [List.length_append, List.length_singleton] at f2
  unfold zJ
  rw [if_pos (by simp only [List.length_singleton, decide_eq_true_eq]; omega), za e1, Option.bind_some, if_pos (by simp only [List.length_singleton, decide_eq_true_eq]; omega)]
  unfold z3c
  rw [Int.toNat_natCast, za f1, Option.bind_some, if_pos (by simp only [List.length_singleton, decide_eq_true_eq]; omega), Int.toNat_natCast]
  refine ⟨_, rfl, hR.ports, hR.cells, hR.vars, ?_, ?_⟩
  · rw [List.append_assoc] at f3
    exact f3
  · simp only [List.length_append, List.length_cons, List.length_nil]
    omega


theorem tryLoop {α S τ ρ : Type} {xs : List α} {body : S → Option (Rd S τ ρ)} (J : Nat → S → Prop) (p : Nat → α → Bool) (QT : τ → Prop) (QR : ρ → Prop) {s0 : S} {fuel : Nat} (hl : xs.length ≤ 1048576) (hf : 18446744073709551616 ≤ fuel)
    (step : ∀ (i : Nat) x s, xs[i]? = some x → J i s → (p i x = true → ∃ s', body s = some (.next s') ∧ J (i + 1) s') ∧ (p i x = false → ∃ r, body s = some (.ret r) ∧ QR r))
    (last : ∀ s, J xs.length s → ∃ t, body s = some (.brk t) ∧ QT t) (h0 : J 0 s0) :
    ((xs.zipIdx.all fun y => p y.2 y.1) = true ∧ ∃ t, iter body fuel s0 = some (.inl t) ∧ QT t) ∨ ((xs.zipIdx.all fun y => p y.2 y.1) = false ∧ ∃ r, iter body fuel s0 = some (.inr r) ∧ QR r) := by
  obtain ⟨o, h1, h2⟩ := z12 (body := body) (fun i s => J i s ∧ ∀ (j : Nat) x, j < i → xs[j]? = some x → p j x = true) xs.length (fun o => ((xs.zipIdx.all fun y => p y.2 y.1) = true ∧ ∃ t, o = .inl t ∧ QT t) ∨ ((xs.zipIdx.all fun y => p y.2 y.1) = false ∧ ∃ r, o = .inr r ∧ QR r)) (by
    rintro i s hi ⟨hJ, hp⟩
    obtain ⟨x, hx⟩ := z4a hi
    obtain ⟨g1, g2⟩ := step i x s hx hJ
    cases hpx : p i x with
    | true =>
      obtain ⟨s', e1, e2⟩ := g1 hpx
      refine .inl ⟨s', e1, e2, fun j y hj hy => ?_⟩
      by_cases hji : j < i
      · exact hp j y hji hy
      · obtain rfl : j = i := by omega
        rw [hx] at hy; cases hy; exact hpx
    | false =>
      obtain ⟨r, e1, e2⟩ := g2 hpx
      refine .inr (.inl ⟨r, e1, .inr ⟨?_, r, rfl, e2⟩⟩)
      cases hz : (xs.zipIdx.all fun y => p y.2 y.1) with
      | false => rfl
      | true =>
        have := z8b.1 hz i x hx
        rw [Nat.zero_add, hpx] at this
        cases this) (by
    rintro s ⟨hJ, hp⟩
    obtain ⟨t, e1, e2⟩ := last s hJ
    refine .inr ⟨t, e1, .inl ⟨?_, t, rfl, e2⟩⟩
    refine z8b.2 fun i x hx => ?_
    rw [Nat.zero_add]
    exact hp i x (List.getElem?_eq_some_iff.1 hx).1 hx) (fuel := fuel) (i := 0) (s := s0) (Nat.zero_le _) (by omega) ⟨h0, fun j x hj _ => absurd hj (Nat.not_lt_zero _)⟩
  rw [h1]
  rcases h2 with ⟨a, t, rfl, b⟩ | ⟨a, r, rfl, b⟩
  · exact .inl ⟨a, t, rfl, b⟩
  · exact .inr ⟨a, r, rfl, b⟩

def fl {α β : Type} (f : Nat → α → List β) (xs : List α) (i : Nat) : List β := (xs.take i).zipIdx.flatMap fun x => f x.2 x.1
theorem z9m {α β : Type} {f : Nat → α → List β} {xs : List α} : fl f xs 0 = [] := by simp [fl]
theorem z8W {α β : Type} {f : Nat → α → List β} {xs : List α} {i : Nat} {x : α} (h : xs[i]? = some x) : fl f xs (i + 1) = fl f xs i ++ f i x := by
  unfold fl
  rw [zca h, List.flatMap_append]
  simp
theorem z8G {α β : Type} {f : Nat → α → List β} {xs : List α} {b : Nat} (h : ∀ i x, xs[i]? = some x → (f i x).length ≤ b) : ∀ i, i ≤ xs.length → (fl f xs i).length ≤ b * i
  | 0, _ => by simp [z9m]
  | i + 1, hi => by
    obtain ⟨x, hx⟩ := z4a (xs := xs) (i := i) (by omega)
    rw [z8W hx, List.length_append, Nat.mul_succ]
    have := z8G h i (by omega)
    have := h i x hx
    omega
def auxK (t m i k : Nat) (a : D.Address) : List Key := [(t, m, i, k + 1), keyA a]
def redK (_ : Nat) (r : D.ShardRedex) : List Key := [keyA r.A, keyA r.B]
def fullK (m i : Nat) (v : D.ShardVar) : List Key := if v.Full = true then [(2, m, i, 0), keyA v.Held] else []
def cellS (t m i : Nat) (c : D.ShardCell) : List Key := fl (auxK t m i) c.Aux c.Aux.length
def shardS (m : Nat) (s : D.Shard) : List Key := fl (cellS 1 m) s.Cells s.Cells.length ++ (fl redK s.Redexes s.Redexes.length ++ fl (fullK m) s.Vars s.Vars.length)
def rootS (g : D.Grid) : List Key := [(0, 0, 0, 0), keyA g.Root]
def gridS (g : D.Grid) : List Key := rootS g ++ fl shardS g.Shards g.Shards.length
def fullA (g : D.Grid) (m i : Nat) (v : D.ShardVar) : Bool := !v.Full || (aliveN g ⟨m, 2, i⟩ && aliveN g v.Held)
def shardA (g : D.Grid) (m : Nat) (s : D.Shard) : Bool := (s.Cells.all fun c => c.Aux.all (aliveN g)) && ((s.Redexes.all fun r => aliveN g r.A && aliveN g r.B) && s.Vars.zipIdx.all fun x => fullA g m x.2 x.1)
def gridA (g : D.Grid) : Bool := aliveN g g.Root && g.Shards.zipIdx.all fun x => shardA g x.2 x.1
theorem zfY {t m i : Nat} {c : D.ShardCell} (h : c.Aux.length ≤ 3) : (cellS t m i c).length ≤ 6 := by
  have := z8G (f := auxK t m i) (xs := c.Aux) (b := 2) (fun _ _ _ => by simp [auxK]) c.Aux.length (Nat.le_refl _)
  unfold cellS
  omega
theorem zmk {fuel : Nat} {g : D.Grid} {more : List D.ShardCell} {L L' : D.l27Links} {at_ : List Int} {ks : List Key} {c : D.ShardCell} {b t m i : Nat} (hf : 18446744073709551616 ≤ fuel) (hs : g.sz ≤ 1048576) (hI : Items g more L at_) (hR : Run g more L L' ks) (hc : c.Aux.length ≤ 3) (hks : ks.length ≤ 900000)
    (hb : b ≤ 1000000) (hk : ∀ k, k < c.Aux.length → (allK g more)[b + k + 1]? = some (t, m, i, k + 1)) :
    ∃ L'', z27 fuel L' g c (b : Int) = some (c.Aux.all (aliveN g), L'') ∧ (c.Aux.all (aliveN g) = true → Run g more L L'' (ks ++ cellS t m i c)) := by
  unfold z27
  have h := tryLoop (xs := c.Aux) (body := z2H fuel g c (b : Int)) (fuel := fuel)
    (fun k st => ∃ M : D.l27Links, st = ((k : Int), M.agents, M.ports, M.cells, M.vars, M.ends, M.pairs) ∧ Run g more L M (ks ++ fl (auxK t m i) c.Aux k))
    (fun _ a => aliveN g a)
    (fun tt => ∃ M : D.l27Links, tt = (M.agents, M.ports, M.cells, M.vars, M.ends, M.pairs) ∧ Run g more L M (ks ++ cellS t m i c))
    (fun r => ∃ M : D.l27Links, r = (false, M)) (s0 := (0, L'.agents, L'.ports, L'.cells, L'.vars, L'.ends, L'.pairs)) (by omega) hf (by
    rintro k a _ ha ⟨M, rfl, hM⟩
    have hkl := (List.getElem?_eq_some_iff.1 ha).1
    have hfl := z8G (f := auxK t m i) (xs := c.Aux) (b := 2) (fun _ _ _ => by simp [auxK]) k (by omega)
    unfold z2H
    dsimp only
    rw [if_pos (by simpa using hkl), za ha, Option.bind_some, zaL hs, Option.bind_some]
    constructor
    · intro hal
      rw [hal]
      obtain ⟨y, y1, y2⟩ := zcu (fuel := fuel) (L' := M) hI hM.cells hM.vars hal
      obtain ⟨M', e1, e2⟩ := zcf (fuel := fuel) hM (hk k hkl) y2 (by rw [List.length_append]; omega)
      refine ⟨(w64 (k + 1), M'.agents, M'.ports, M'.cells, M'.vars, M'.ends, M'.pairs), ?_, M', ?_, ?_⟩
      · rw [if_neg (by simp), Option.bind_some]
        have y1' : zQ fuel ⟨M.agents, M.ports, M.cells, M.vars, M.ends, M.pairs⟩ a = some (y : Int) := y1
        have e1' : zJ fuel ⟨M.agents, M.ports, M.cells, M.vars, M.ends, M.pairs⟩ ((b + k + 1 : Nat) : Int) (y : Int) = some M' := e1
        rw [y1', Option.bind_some, z9 (n := (b : Int) + k) (by omega) (by omega), z9 (by omega) (by omega), show (b : Int) + (k : Int) + 1 = ((b + k + 1 : Nat) : Int) by omega, e1', Option.bind_some]
      · rw [z9 (by omega) (by omega)]; rfl
      · rw [z8W ha, ← List.append_assoc]; exact e2
    · intro hal
      rw [hal]
      exact ⟨_, rfl, M, rfl⟩) (by
    rintro _ ⟨M, rfl, hM⟩
    refine ⟨_, ?_, M, rfl, hM⟩
    unfold z2H
    rw [if_neg (by simp)]) ⟨L', rfl, by rw [z9m, List.append_nil]; exact hR⟩
  rw [z6P (p := aliveN g)] at h
  rcases h with ⟨h1, tt, h2, M, rfl, h3⟩ | ⟨h1, r, h2, M, rfl⟩
  · rw [h2, Option.bind_some, z8, h1]
    exact ⟨M, rfl, fun _ => h3⟩
  · rw [h2, Option.bind_some, h1]
    exact ⟨M, rfl, fun h => by cases h⟩
theorem zfD {fuel : Nat} {g : D.Grid} {more : List D.ShardCell} {L L' : D.l27Links} {at_ : List Int} {ks : List Key} {a b : D.Address} (hs : g.sz ≤ 1048576) (hI : Items g more L at_) (hR : Run g more L L' ks) (hks : ks.length ≤ 900000) :
    ∃ L'', z15 fuel L' g a b = some (aliveN g a && aliveN g b, L'') ∧ ((aliveN g a && aliveN g b) = true → Run g more L L'' (ks ++ [keyA a, keyA b])) := by
  unfold z15
  rw [zaL hs, zaL hs, Option.bind_some, Option.bind_some]
  unfold z2i
  cases ha : aliveN g a with
  | false => exact ⟨_, rfl, fun h => by cases h⟩
  | true =>
    cases hb : aliveN g b with
    | false => exact ⟨_, rfl, fun h => by cases h⟩
    | true =>
      obtain ⟨x, x1, x2⟩ := zcu (fuel := fuel) (L' := L') hI hR.cells hR.vars ha
      obtain ⟨y, y1, y2⟩ := zcu (fuel := fuel) (L' := L') hI hR.cells hR.vars hb
      obtain ⟨M, e1, e2⟩ := zcf (fuel := fuel) hR x2 y2 (by omega)
      rw [if_neg (by simp), if_neg (by simp), x1, Option.bind_some, y1, Option.bind_some, e1, Option.bind_some]
      exact ⟨M, rfl, fun _ => e2⟩
end Go.E

namespace Go.E
open Go.RowKit Go.Proofs
set_option linter.unusedSimpArgs false
set_option linter.unusedVariables false

theorem zhB {s : D.Shard} (h : s.Redexes.length ≤ 400) (i : Nat) (hi : i ≤ s.Redexes.length) : (fl redK s.Redexes i).length ≤ 2 * i := z8G (b := 2) (fun _ _ _ => by simp [redK]) i hi
theorem zi1 {s : D.Shard} {m : Nat} (i : Nat) (hi : i ≤ s.Vars.length) : (fl (fullK m) s.Vars i).length ≤ 2 * i := z8G (b := 2) (fun _ _ _ => by unfold fullK; split <;> simp) i hi
theorem zez {s : D.Shard} {m : Nat} (h : ∀ c, c ∈ s.Cells → c.Aux.length ≤ 3) (i : Nat) (hi : i ≤ s.Cells.length) : (fl (cellS 1 m) s.Cells i).length ≤ 6 * i := z8G (b := 6) (fun j c hc => zfY (h c (List.mem_of_getElem? hc))) i hi

abbrev Tup (M : D.l27Links) : List D.Agent × List D.Port × List (List Int) × List (List Int) × List (List Int) × List (List Int) := (M.agents, M.ports, M.cells, M.vars, M.ends, M.pairs)
section
variable {fuel : Nat} {g : D.Grid} {more : List D.ShardCell} {L : D.l27Links} {at_ : List Int}
theorem zmf {M0 : D.l27Links} {ks : List Key} {m : Nat} {s : D.Shard} {z : List D.Agent × List D.Port × List (List Int) × List (List Int) × List (List Int) × List (List Int)} (hf : 18446744073709551616 ≤ fuel) (hs : g.sz ≤ 1048576) (hS : Small g) (hI : Items g more L at_) (hR : Run g more L M0 ks) (hm : g.Shards[m]? = some s) (hks : ks.length ≤ 500000) :
    ((s.Cells.all fun c => c.Aux.all (aliveN g)) = true ∧ ∃ t, iter (z22 fuel g ((m : Int), z) s) fuel (0, Tup M0) = some (.inl t) ∧ ∃ M, t = Tup M ∧ Run g more L M (ks ++ fl (cellS 1 m) s.Cells s.Cells.length)) ∨
    ((s.Cells.all fun c => c.Aux.all (aliveN g)) = false ∧ ∃ r, iter (z22 fuel g ((m : Int), z) s) fuel (0, Tup M0) = some (.inr r) ∧ ∃ M, r = .ret (false, M)) := by
  obtain ⟨a1, a2, a3, a4, a5⟩ := hS.s s (List.mem_of_getElem? hm)
  have hml := (List.getElem?_eq_some_iff.1 hm).1
  have hn := hS.n
  have h := tryLoop (xs := s.Cells) (body := z22 fuel g ((m : Int), z) s) (fuel := fuel)
    (fun i st => ∃ M : D.l27Links, st = ((i : Int), Tup M) ∧ Run g more L M (ks ++ fl (cellS 1 m) s.Cells i))
    (fun _ c => c.Aux.all (aliveN g))
    (fun t => ∃ M, t = Tup M ∧ Run g more L M (ks ++ fl (cellS 1 m) s.Cells s.Cells.length))
    (fun r => ∃ M, r = .ret (false, M)) (s0 := (0, Tup M0)) (by omega) hf (by
    rintro i c _ hc ⟨M, rfl, hM⟩
    have hil := (List.getElem?_eq_some_iff.1 hc).1
    obtain ⟨c1, c2, c3⟩ := a4 c (List.mem_of_getElem? hc)
    have hfl := zez (m := m) (fun c hc => (a4 c hc).2.1) i (by omega)
    obtain ⟨row, r1, r2⟩ := hI.cell m i s c hm hc
    have hp := zbL hS m (by omega)
    have hr := zbi (t := 1) (m := m) (fun c hc => (a4 c hc).2.1) i (by omega)
    obtain ⟨M', e1, e2⟩ := zmk (fuel := fuel) (t := 1) (m := m) (i := i) (b := (portK (g.Shards.take m)).length + (rowK 1 m (s.Cells.take i)).length) hf hs hI hM c2 (by rw [List.length_append]; omega) (by omega) (fun k hk => by
      have k0 : c.Kind ≠ 0 := fun h0 => by
        unfold shCellN at c3
        rw [if_pos h0, decide_eq_true_eq] at c3
        rw [c3.2.2.2] at hk
        exact absurd hk (Nat.not_lt_zero _)
      exact zim hm hc k0 hk)
    have e1' : z27 fuel ⟨M.agents, M.ports, M.cells, M.vars, M.ends, M.pairs⟩ g c (((portK (g.Shards.take m)).length + (rowK 1 m (s.Cells.take i)).length : Nat) : Int) = some (c.Aux.all (aliveN g), M') := e1
    unfold z22
    dsimp only
    rw [if_pos (by simpa using hil), za hc, Option.bind_some, hM.cells, za r1, Option.bind_some, za r2, Option.bind_some, ← hM.cells, e1', Option.bind_some]
    constructor
    · intro hal
      rw [hal, if_neg (by simp)]
      exact ⟨(w64 (i + 1), Tup M'), rfl, M', by rw [z9 (by omega) (by omega)]; rfl, by rw [z8W hc, ← List.append_assoc]; exact e2 hal⟩
    · intro hal
      rw [hal, if_pos (by simp)]
      exact ⟨_, rfl, _, rfl⟩) (by
    rintro _ ⟨M, rfl, hM⟩
    refine ⟨_, ?_, M, rfl, hM⟩
    unfold z22
    rw [if_neg (by simp)]) ⟨M0, rfl, by rw [z9m, List.append_nil]; exact hR⟩
  rw [z6P (p := fun c : D.ShardCell => c.Aux.all (aliveN g))] at h
  exact h
theorem zmE {M0 : D.l27Links} {ks : List Key} {s : D.Shard} (hf : 18446744073709551616 ≤ fuel) (hs : g.sz ≤ 1048576) (hI : Items g more L at_) (hR : Run g more L M0 ks) (hz : s.Redexes.length ≤ 400) (hks : ks.length ≤ 500000) :
    ((s.Redexes.all fun r => aliveN g r.A && aliveN g r.B) = true ∧ ∃ t, iter (z21 fuel g s) fuel (0, Tup M0) = some (.inl t) ∧ ∃ M, t = Tup M ∧ Run g more L M (ks ++ fl redK s.Redexes s.Redexes.length)) ∨
    ((s.Redexes.all fun r => aliveN g r.A && aliveN g r.B) = false ∧ ∃ r, iter (z21 fuel g s) fuel (0, Tup M0) = some (.inr r) ∧ ∃ M, r = .ret (false, M)) := by
  have h := tryLoop (xs := s.Redexes) (body := z21 fuel g s) (fuel := fuel)
    (fun i st => ∃ M : D.l27Links, st = ((i : Int), Tup M) ∧ Run g more L M (ks ++ fl redK s.Redexes i))
    (fun _ r => aliveN g r.A && aliveN g r.B)
    (fun t => ∃ M, t = Tup M ∧ Run g more L M (ks ++ fl redK s.Redexes s.Redexes.length))
    (fun r => ∃ M, r = .ret (false, M)) (s0 := (0, Tup M0)) (by omega) hf (by
    rintro i c _ hc ⟨M, rfl, hM⟩
    have hil := (List.getElem?_eq_some_iff.1 hc).1
    have hfl := zhB hz i (by omega)
    obtain ⟨M', e1, e2⟩ := zfD (fuel := fuel) (a := c.A) (b := c.B) hs hI hM (by rw [List.length_append]; omega)
    have e1' : z15 fuel ⟨M.agents, M.ports, M.cells, M.vars, M.ends, M.pairs⟩ g c.A c.B = some (aliveN g c.A && aliveN g c.B, M') := e1
    unfold z21
    dsimp only
    rw [if_pos (by simpa using hil), za hc, Option.bind_some, Option.bind_some, e1', Option.bind_some]
    constructor
    · intro hal
      rw [hal, if_neg (by simp)]
      exact ⟨(w64 (i + 1), Tup M'), rfl, M', by rw [z9 (by omega) (by omega)]; rfl, by rw [z8W hc, ← List.append_assoc]; exact e2 hal⟩
    · intro hal
      rw [hal, if_pos (by simp)]
      exact ⟨_, rfl, _, rfl⟩) (by
    rintro _ ⟨M, rfl, hM⟩
    refine ⟨_, ?_, M, rfl, hM⟩
    unfold z21
    rw [if_neg (by simp)]) ⟨M0, rfl, by rw [z9m, List.append_nil]; exact hR⟩
  rw [z6P (p := fun r : D.ShardRedex => aliveN g r.A && aliveN g r.B)] at h
  exact h
theorem zmq {M0 : D.l27Links} {ks : List Key} {m : Nat} {s : D.Shard} {z : List D.Agent × List D.Port × List (List Int) × List (List Int) × List (List Int) × List (List Int)} (hf : 18446744073709551616 ≤ fuel) (hs : g.sz ≤ 1048576) (hI : Items g more L at_) (hR : Run g more L M0 ks) (hz : s.Vars.length ≤ 400) (hks : ks.length ≤ 500000) :
    ((s.Vars.zipIdx.all fun x => fullA g m x.2 x.1) = true ∧ ∃ t, iter (z20 fuel g ((m : Int), z) s) fuel (0, Tup M0) = some (.inl t) ∧ ∃ M, t = Tup M ∧ Run g more L M (ks ++ fl (fullK m) s.Vars s.Vars.length)) ∨
    ((s.Vars.zipIdx.all fun x => fullA g m x.2 x.1) = false ∧ ∃ r, iter (z20 fuel g ((m : Int), z) s) fuel (0, Tup M0) = some (.inr r) ∧ ∃ M, r = .ret (false, M)) := by
  exact tryLoop (xs := s.Vars) (body := z20 fuel g ((m : Int), z) s) (fuel := fuel)
    (fun i st => ∃ M : D.l27Links, st = ((i : Int), Tup M) ∧ Run g more L M (ks ++ fl (fullK m) s.Vars i))
    (fun i v => fullA g m i v)
    (fun t => ∃ M, t = Tup M ∧ Run g more L M (ks ++ fl (fullK m) s.Vars s.Vars.length))
    (fun r => ∃ M, r = .ret (false, M)) (s0 := (0, Tup M0)) (by omega) hf (by
    rintro i c _ hc ⟨M, rfl, hM⟩
    have hil := (List.getElem?_eq_some_iff.1 hc).1
    have hfl := zi1 (m := m) i (by omega : i ≤ s.Vars.length)
    obtain ⟨M', e1, e2⟩ := zfD (fuel := fuel) (a := ⟨(m : Int), 2, (i : Int)⟩) (b := c.Held) hs hI hM (by rw [List.length_append]; omega)
    have e1' : z15 fuel ⟨M.agents, M.ports, M.cells, M.vars, M.ends, M.pairs⟩ g ⟨(m : Int), 2, (i : Int)⟩ c.Held = some (aliveN g ⟨(m : Int), 2, (i : Int)⟩ && aliveN g c.Held, M') := e1
    unfold z20
    dsimp only
    rw [if_pos (by simpa using hil), za hc, Option.bind_some]
    unfold fullA
    cases hF : c.Full with
    | false =>
      rw [if_neg (by simp)]
      refine ⟨fun _ => ⟨(w64 (i + 1), Tup M), ?_, M, by rw [z9 (by omega) (by omega)]; rfl, ?_⟩, fun h => by cases h⟩
      · unfold z4O; rfl
      · rw [z8W hc]; unfold fullK; rw [hF, if_neg (by simp), List.append_nil]; exact hM
    | true =>
      rw [if_pos rfl, Option.bind_some, e1', Option.bind_some]
      unfold z4O
      rw [Bool.not_true, Bool.false_or]
      constructor
      · intro hal
        rw [hal]
        refine ⟨(w64 (i + 1), Tup M'), rfl, M', by rw [z9 (by omega) (by omega)]; rfl, ?_⟩
        rw [z8W hc, ← List.append_assoc]
        have h9 := e2 hal
        unfold fullK
        rw [hF, if_pos rfl]
        have : keyA ⟨(m : Int), 2, (i : Int)⟩ = (2, m, i, 0) := by unfold keyA; simp
        rw [this] at h9
        exact h9
      · intro hal
        rw [hal]
        exact ⟨_, rfl, _, rfl⟩) (by
    rintro _ ⟨M, rfl, hM⟩
    refine ⟨_, ?_, M, rfl, hM⟩
    unfold z20
    rw [if_neg (by simp)]) ⟨M0, rfl, by rw [z9m, List.append_nil]; exact hR⟩
theorem zgi {m : Nat} {s : D.Shard} (hS : Small g) (hm : g.Shards[m]? = some s) : (shardS m s).length ≤ 4000 := by
  obtain ⟨a1, a2, a3, a4, a5⟩ := hS.s s (List.mem_of_getElem? hm)
  unfold shardS
  rw [List.length_append, List.length_append]
  have := zez (m := m) (fun c hc => (a4 c hc).2.1) s.Cells.length (Nat.le_refl _)
  have := zhB a3 s.Redexes.length (Nat.le_refl _)
  have := zi1 (m := m) s.Vars.length (Nat.le_refl _)
  omega
theorem zj2 (hI : Items g more L at_) : Run g more L L [] where
  ports := rfl
  cells := rfl
  vars := rfl
  ends := by
    rw [hI.ends]
    refine ⟨by simp, fun x key hx => ⟨[], ?_, rfl⟩⟩
    have := (List.getElem?_eq_some_iff.1 hx).1
    rw [List.getElem?_replicate, if_pos this]
  pairs := by rw [hI.pairs]; exact Nat.le_refl _
theorem zo5 (hf : 18446744073709551616 ≤ fuel) (hs : g.sz ≤ 1048576) (hS : Small g) (hI : Items g more L at_) :
    ∃ L', z8o fuel g L = some (gridA g, L') ∧ (gridA g = true → Run g more L L' (gridS g)) := by
  have hn := hS.n
  unfold z8o gridA
  rw [zaL hs, Option.bind_some]
  cases hr : aliveN g g.Root with
  | false => exact ⟨L, rfl, fun h => by cases h⟩
  | true =>
    obtain ⟨x, x1, x2⟩ := zcu (fuel := fuel) (L' := L) hI rfl rfl hr
    obtain ⟨M0, e1, e2⟩ := zcf (fuel := fuel) (x := 0) (k1 := (0, 0, 0, 0)) (zj2 hI) (by unfold allK portK; rfl) x2 (Nat.zero_le _)
    rw [if_neg (by simp), x1, Option.bind_some]
    have e1' : zJ fuel L 0 (x : Int) = some M0 := e1
    rw [e1', Option.bind_some, Bool.true_and]
    have h := tryLoop (xs := g.Shards) (body := z3r fuel g) (fuel := fuel)
      (fun m st => ∃ M : D.l27Links, st = ((m : Int), Tup M) ∧ Run g more L M (rootS g ++ fl shardS g.Shards m))
      (fun m s => shardA g m s)
      (fun t => ∃ M, t = Tup M ∧ Run g more L M (gridS g))
      (fun r => ∃ M, r = (false, M)) (s0 := (0, Tup M0)) (by omega) hf (by
      rintro m s _ hm ⟨M, rfl, hM⟩
      have hml := (List.getElem?_eq_some_iff.1 hm).1
      obtain ⟨a1, a2, a3, a4, a5⟩ := hS.s s (List.mem_of_getElem? hm)
      have hfl := z8G (f := shardS) (xs := g.Shards) (b := 4000) (fun j c hc => zgi hS hc) m (by omega)
      have hk0 : (rootS g ++ fl shardS g.Shards m).length ≤ 100000 := by rw [List.length_append]; unfold rootS; simp only [List.length_cons, List.length_nil]; omega
      have hfc := zez (m := m) (fun c hc => (a4 c hc).2.1) s.Cells.length (Nat.le_refl _)
      have hfr := zhB a3 s.Redexes.length (Nat.le_refl _)
      unfold z3r
      dsimp only
      rw [if_pos (by simpa using hml), za hm, Option.bind_some]
      unfold shardA
      rcases zmf (z := Tup M) hf hs hS hI hM hm (by omega) with ⟨c1, t, c2, M1, rfl, c3⟩ | ⟨c1, r, c2, M1, rfl⟩
      · have c2' : iter (z22 fuel g ((m : Int), M.agents, M.ports, M.cells, M.vars, M.ends, M.pairs) s) fuel (0, M.agents, M.ports, M.cells, M.vars, M.ends, M.pairs) = _ := c2
        rw [c1, Bool.true_and, c2', Option.bind_some, z8]
        unfold z9j
        dsimp only
        rcases zmE (s := s) hf hs hI c3 a3 (by rw [List.length_append]; omega) with ⟨d1, t, d2, M2, rfl, d3⟩ | ⟨d1, r, d2, M2, rfl⟩
        · have d2' : iter (z21 fuel g s) fuel (0, M1.agents, M1.ports, M1.cells, M1.vars, M1.ends, M1.pairs) = _ := d2
          rw [d1, Bool.true_and, d2', Option.bind_some, z8]
          unfold z9i
          dsimp only
          rcases zmq (m := m) (s := s) (z := Tup M) hf hs hI d3 a2 (by rw [List.length_append, List.length_append]; omega) with ⟨f1, t, f2, M3, rfl, f3⟩ | ⟨f1, r, f2, M3, rfl⟩
          · have f2' : iter (z20 fuel g ((m : Int), M.agents, M.ports, M.cells, M.vars, M.ends, M.pairs) s) fuel (0, M2.agents, M2.ports, M2.cells, M2.vars, M2.ends, M2.pairs) = _ := f2
            rw [f1, f2', Option.bind_some, z8]
            refine ⟨fun _ => ⟨(w64 (m + 1), Tup M3), rfl, M3, by rw [z9 (by omega) (by omega)]; rfl, ?_⟩, fun h => by cases h⟩
            rw [z8W hm]
            unfold shardS
            simp only [List.append_assoc] at f3 ⊢
            exact f3
          · have f2' : iter (z20 fuel g ((m : Int), M.agents, M.ports, M.cells, M.vars, M.ends, M.pairs) s) fuel (0, M2.agents, M2.ports, M2.cells, M2.vars, M2.ends, M2.pairs) = _ := f2
            rw [f1, f2', Option.bind_some]
            exact ⟨fun h => (by cases h), fun _ => ⟨_, rfl, _, rfl⟩⟩
        · have d2' : iter (z21 fuel g s) fuel (0, M1.agents, M1.ports, M1.cells, M1.vars, M1.ends, M1.pairs) = _ := d2
          rw [d1, d2', Option.bind_some]
          exact ⟨fun h => (by cases h), fun _ => ⟨_, rfl, _, rfl⟩⟩
      · have c2' : iter (z22 fuel g ((m : Int), M.agents, M.ports, M.cells, M.vars, M.ends, M.pairs) s) fuel (0, M.agents, M.ports, M.cells, M.vars, M.ends, M.pairs) = _ := c2
        rw [c1, c2', Option.bind_some]
        exact ⟨fun h => (by cases h), fun _ => ⟨_, rfl, _, rfl⟩⟩) (by
      rintro _ ⟨M, rfl, hM⟩
      refine ⟨_, ?_, M, rfl, hM⟩
      unfold z3r
      rw [if_neg (by simp)]) ⟨M0, rfl, by rw [z9m, List.append_nil]; exact e2⟩
    rcases h with ⟨h1, t, h2, M, rfl, h3⟩ | ⟨h1, r, h2, M, rfl⟩
    · have h2' : iter (z3r fuel g) fuel (0, M0.agents, M0.ports, M0.cells, M0.vars, M0.ends, M0.pairs) = _ := h2
      rw [h2', Option.bind_some, z8, h1]
      exact ⟨M, rfl, fun _ => h3⟩
    · have h2' : iter (z3r fuel g) fuel (0, M0.agents, M0.ports, M0.cells, M0.vars, M0.ends, M0.pairs) = _ := h2
      rw [h2', Option.bind_some, h1]
      exact ⟨M, rfl, fun h => by cases h⟩
def varC (S : List Key) (m : Nat) (s : D.Shard) : Bool := s.Vars.zipIdx.all fun y => !y.1.Used || decide (S.count (2, m, y.2, 0) = 2)
def countsN (g : D.Grid) (more : List D.ShardCell) (S : List Key) : Bool := ((portK g.Shards ++ rowK 3 0 more).all fun k => decide (S.count k = 1)) && g.Shards.zipIdx.all fun x => varC S x.2 x.1
theorem ziZ {M : D.l27Links} {S : List Key} (hf : 18446744073709551616 ≤ fuel) (hs : g.sz ≤ 1048576) (hI : Items g more L at_) (hR : Run g more L M S) (hp : L.ports.length ≤ 1048576) : z4M fuel g M = some (countsN g more S) := by
  have hm : maxLen = 9223372036854775807 := rfl
  obtain ⟨z1, z2⟩ := zd2 hs
  have hpl : M.ports.length = (portK g.Shards ++ rowK 3 0 more).length := by rw [hR.ports]; exact hI.ports
  unfold z4M
  have hP := allLoop (xs := portK g.Shards ++ rowK 3 0 more) (body := z4p fuel M) (p := fun _ k => decide (S.count k = 1)) (t := ()) (v := false) (fuel := fuel) (by rw [← hpl, hR.ports]; omega) hf (fun i k hi hx => by
    obtain ⟨e, e1, e2⟩ := hR.ends.2 i k (by unfold allK; rw [List.getElem?_append_left hi]; exact hx)
    unfold z4p
    rw [if_pos (by simp only [decide_eq_true_eq]; omega), za e1, Option.bind_some, e2]
    by_cases h : S.count k = 1
    · rw [if_neg (by simp [h]), if_pos (decide_eq_true h)]
    · rw [if_pos (by simp only [bne_iff_ne, ne_eq]; omega), if_neg (by simpa using h)]) (by unfold z4p; rw [← hpl, if_neg (by simp)])
  rw [z6P (p := fun k => decide (S.count k = 1))] at hP
  rw [hP, Option.bind_some]
  unfold countsN
  cases ((portK g.Shards ++ rowK 3 0 more).all fun k => decide (S.count k = 1)) with
  | false => rfl
  | true =>
    rw [if_pos rfl, z8, Bool.true_and]
    unfold z82
    have hG := allLoop (xs := g.Shards) (body := z4o fuel g M) (p := fun m s => varC S m s) (t := ()) (v := false) (fuel := fuel) (by omega) hf (fun m s hi hx => by
      obtain ⟨y1, y2, y3, y4⟩ := zbK (z2 s (List.mem_of_getElem? hx))
      unfold z4o
      rw [if_pos (by simpa using hi)]
      have hV := allLoop (xs := s.Vars) (body := z4n fuel g M (m : Int)) (p := fun i v => !v.Used || decide (S.count (2, m, i, 0) = 2)) (t := ()) (v := Rd.ret false) (fuel := fuel) (by omega) hf (fun i v hj hv => by
        obtain ⟨row, r1, r2⟩ := hI.var m i s hx hj
        obtain ⟨e, e1, e2⟩ := hR.ends.2 _ _ (zmn hx hj)
        unfold z4n
        rw [za hx, Option.bind_some, if_pos (by simpa using hj), Option.bind_some, za hv, Option.bind_some]
        unfold z4m
        cases v.Used with
        | false => rfl
        | true =>
          rw [if_pos rfl, hR.vars, za r1, Option.bind_some, za r2, Option.bind_some, za e1, Option.bind_some, e2]
          by_cases h : S.count (2, m, i, 0) = 2
          · rw [if_neg (by simp [h]), if_pos (by simp [h])]
          · rw [if_pos (by simp only [bne_iff_ne, ne_eq]; omega), if_neg (by simpa using h)]) (by unfold z4n; rw [za hx, Option.bind_some, if_neg (by simp)])
      rw [hV, Option.bind_some]
      unfold varC
      cases (s.Vars.zipIdx.all fun y => !y.1.Used || decide (S.count (2, m, y.2, 0) = 2)) <;> rfl) (by unfold z4o; rw [if_neg (by simp)])
    rw [hG, Option.bind_some]
    cases (g.Shards.zipIdx.all fun x => varC S x.2 x.1) <;> rfl
end
end Go.E

