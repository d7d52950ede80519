/- Grids: the reference's numbering of ports and variables, told by keys. Conditions: the grid's parts are well formed. -/
import Derived.Test.YteommboffflkbaaGreatOkGrid
namespace Go.E
open Go.RowKit Go.Proofs
set_option linter.unusedSimpArgs false
set_option linter.unusedVariables false


abbrev Key := Nat × Nat × Nat × Nat
def cellK (t m i : Nat) (c : D.ShardCell) : List Key := if c.Kind = 0 then [] else (List.range (c.Aux.length + 1)).map fun k => (t, m, i, k)
def rowK (t m : Nat) (cs : List D.ShardCell) : List Key := cs.zipIdx.flatMap fun x => cellK t m x.2 x.1
def portK (ss : List D.Shard) : List Key := (0, 0, 0, 0) :: ss.zipIdx.flatMap fun x => rowK 1 x.2 x.1.Cells
def varR (m : Nat) (s : D.Shard) : List Key := (List.range s.Vars.length).map fun i => (2, m, i, 0)
def varK (ss : List D.Shard) : List Key := ss.zipIdx.flatMap fun x => varR x.2 x.1
def allK (g : D.Grid) (more : List D.ShardCell) : List Key := (portK g.Shards ++ rowK 3 0 more) ++ varK g.Shards

theorem z9N {α β : Type} {xs : List α} {g : Nat → α → List β} {i k : Nat} {x : α} (hx : xs[i]? = some x) (hk : k < (g i x).length) :
    (xs.zipIdx.flatMap fun y => g y.2 y.1)[((xs.take i).zipIdx.flatMap fun y => g y.2 y.1).length + k]? = (g i x)[k]? := by
  have h1 : xs.zipIdx = (xs.take (i + 1)).zipIdx ++ (xs.drop (i + 1)).zipIdx (xs.take (i + 1)).length := by
    have := List.zipIdx_append (xs := xs.take (i + 1)) (ys := xs.drop (i + 1)) (k := 0)
    rw [List.take_append_drop] at this
    simpa using this
  rw [h1, z8M hx, List.flatMap_append, List.flatMap_append, List.append_assoc, List.getElem?_append_right (Nat.le_add_right _ _), Nat.add_sub_cancel_left]
  simp only [List.flatMap_cons, List.flatMap_nil, List.append_nil]
  rw [List.getElem?_append_left hk]
theorem z9p {α β : Type} {xs : List α} {g : Nat → α → List β} (f : β → Nat) (h1 : ∀ i x, xs[i]? = some x → (g i x).Nodup) (h2 : ∀ i x y, y ∈ g i x → f y = i) : (xs.zipIdx.flatMap fun y => g y.2 y.1).Nodup := by
  unfold List.Nodup
  rw [List.pairwise_flatMap]
  constructor
  · rintro ⟨a, i⟩ h
    rw [List.mem_zipIdx_iff_getElem?] at h
    exact h1 i a h
  · rw [List.pairwise_iff_getElem]
    intro i j hi hj hij p hp q hq he
    simp only [List.getElem_zipIdx] at hp hq
    have a := h2 _ _ _ hp
    have b := h2 _ _ _ hq
    rw [he] at a
    omega
theorem zaD {t m i : Nat} {c : D.ShardCell} {k : Key} (h : k ∈ cellK t m i c) : k.1 = t ∧ k.2.1 = m ∧ k.2.2.1 = i := by
  unfold cellK at h
  split at h
  · cases h
  · obtain ⟨j, _, rfl⟩ := List.mem_map.1 h
    exact ⟨rfl, rfl, rfl⟩
theorem z8W {t m : Nat} {cs : List D.ShardCell} {k : Key} (h : k ∈ rowK t m cs) : k.1 = t ∧ k.2.1 = m := by
  obtain ⟨x, _, h2⟩ := List.mem_flatMap.1 h
  exact ⟨(zaD h2).1, (zaD h2).2.1⟩
theorem zdf {t m i : Nat} {c : D.ShardCell} : (cellK t m i c).Nodup := by
  unfold cellK
  split
  · exact List.nodup_nil
  · unfold List.Nodup
    rw [List.pairwise_map]
    refine List.Pairwise.imp ?_ (List.nodup_range (n := c.Aux.length + 1))
    intro x y hxy he
    simp only [Prod.mk.injEq, true_and] at he
    exact hxy he
theorem zbe {t m : Nat} {cs : List D.ShardCell} : (rowK t m cs).Nodup :=
  z9p (g := fun i c => cellK t m i c) (fun k : Key => k.2.2.1) (fun i x _ => zdf) (fun i x y h => (zaD h).2.2)
theorem zca {ss : List D.Shard} {k : Key} (h : k ∈ portK ss) : k.1 = 0 ∨ k.1 = 1 := by
  unfold portK at h
  rcases List.mem_cons.1 h with rfl | h
  · exact .inl rfl
  · obtain ⟨x, _, h2⟩ := List.mem_flatMap.1 h
    exact .inr (z8W h2).1
theorem zgg {ss : List D.Shard} {k : Key} (h : k ∈ varK ss) : k.1 = 2 := by
  obtain ⟨x, _, h2⟩ := List.mem_flatMap.1 h
  obtain ⟨j, _, rfl⟩ := List.mem_map.1 h2
  rfl
theorem zbo {g : D.Grid} {more : List D.ShardCell} : (allK g more).Nodup := by
  unfold allK
  refine List.nodup_append.2 ⟨List.nodup_append.2 ⟨?_, zbe, ?_⟩, ?_, ?_⟩
  · unfold portK
    refine List.nodup_cons.2 ⟨fun h => ?_, z9p (g := fun i (s : D.Shard) => rowK 1 i s.Cells) (fun k : Key => k.2.1) (fun i x _ => zbe) (fun i x y h => (z8W h).2)⟩
    obtain ⟨x, _, h2⟩ := List.mem_flatMap.1 h
    exact absurd (z8W h2).1 (by decide)
  · intro a ha b hb he
    have h1 := zca ha
    have h2 := (z8W hb).1
    rw [he] at h1
    omega
  · refine z9p (g := fun i (s : D.Shard) => varR i s) (fun k : Key => k.2.1) (fun i x _ => ?_) (fun i x y h => ?_)
    · unfold varR List.Nodup
      rw [List.pairwise_map]
      refine List.Pairwise.imp ?_ (List.nodup_range (n := x.Vars.length))
      intro x y hxy he
      simp only [Prod.mk.injEq, true_and, and_true] at he
      exact hxy he
    · obtain ⟨j, _, rfl⟩ := List.mem_map.1 h
      rfl
  · intro a ha b hb he
    have h2 := zgg hb
    rcases List.mem_append.1 ha with h | h
    · have h1 := zca h
      rw [he] at h1
      omega
    · have h1 := (z8W h).1
      rw [he] at h1
      omega
theorem zg6 {t m i t' m' i' : Nat} {c : D.ShardCell} : (cellK t m i c).length = (cellK t' m' i' c).length := by
  unfold cellK
  split <;> simp
theorem zhd {t m i : Nat} {c : D.ShardCell} (h : c.Aux.length ≤ 3) : (cellK t m i c).length ≤ 4 := by
  unfold cellK
  split
  · simp
  · simp; omega
theorem z85 {t m i : Nat} {cs : List D.ShardCell} {c : D.ShardCell} (h : cs[i]? = some c) : rowK t m (cs.take (i + 1)) = rowK t m (cs.take i) ++ cellK t m i c := by
  unfold rowK
  rw [z8M h, List.flatMap_append]
  simp
theorem z86 {t m : Nat} {cs : List D.ShardCell} (h : ∀ c, c ∈ cs → c.Aux.length ≤ 3) : ∀ i, i ≤ cs.length → (rowK t m (cs.take i)).length ≤ 4 * i
  | 0, _ => by simp [rowK]
  | i + 1, hi => by
    obtain ⟨c, hc⟩ := z52 (xs := cs) (i := i) (by omega)
    rw [z85 hc, List.length_append]
    have := z86 (t := t) (m := m) h i (by omega)
    have := zhd (t := t) (m := m) (i := i) (h c (List.mem_of_getElem? hc))
    omega
theorem z8X {t m t' m' : Nat} {cs : List D.ShardCell} : ∀ i, i ≤ cs.length → (rowK t m (cs.take i)).length = (rowK t' m' (cs.take i)).length
  | 0, _ => by simp [rowK]
  | i + 1, hi => by
    obtain ⟨c, hc⟩ := z52 (xs := cs) (i := i) (by omega)
    rw [z85 hc, z85 hc, List.length_append, List.length_append, z8X i (by omega), zg6 (t' := t') (m' := m') (i' := i)]
theorem zbg {m : Nat} {ss : List D.Shard} {s : D.Shard} (h : ss[m]? = some s) : portK (ss.take (m + 1)) = portK (ss.take m) ++ rowK 1 m s.Cells := by
  unfold portK
  rw [z8M h, List.flatMap_append]
  simp
theorem zbV {m : Nat} {ss : List D.Shard} {s : D.Shard} (h : ss[m]? = some s) : varK (ss.take (m + 1)) = varK (ss.take m) ++ varR m s := by
  unfold varK
  rw [z8M h, List.flatMap_append]
  simp
theorem zdw {g : D.Grid} {more : List D.ShardCell} {m i k : Nat} {s : D.Shard} {c : D.ShardCell} (hs : g.Shards[m]? = some s) (hc : s.Cells[i]? = some c) (h0 : c.Kind ≠ 0) (hk : k ≤ c.Aux.length) :
    (allK g more)[(portK (g.Shards.take m)).length + (rowK 1 m (s.Cells.take i)).length + k]? = some (1, m, i, k) := by
  have hcl : k < (cellK 1 m i c).length := by unfold cellK; rw [if_neg h0]; simp; omega
  have h2 := z9N (g := fun i c => cellK 1 m i c) hc hcl
  have h3 : (cellK 1 m i c)[k]? = some (1, m, i, k) := by unfold cellK; rw [if_neg h0, List.getElem?_map, List.getElem?_range (by omega)]; rfl
  rw [h3] at h2
  have h2' : (rowK 1 m s.Cells)[(rowK 1 m (s.Cells.take i)).length + k]? = some (1, m, i, k) := h2
  have hlt := (List.getElem?_eq_some_iff.1 h2').1
  have h4 := z9N (g := fun i (s : D.Shard) => rowK 1 i s.Cells) hs hlt
  rw [h2'] at h4
  have h5 : (portK g.Shards)[(portK (g.Shards.take m)).length + (rowK 1 m (s.Cells.take i)).length + k]? = some (1, m, i, k) := by
    unfold portK
    rw [List.length_cons, show ∀ a b c : Nat, a + 1 + b + c = (a + (b + c)) + 1 by omega, List.getElem?_cons_succ]
    exact h4
  have hl5 := (List.getElem?_eq_some_iff.1 h5).1
  unfold allK
  rw [List.append_assoc, List.getElem?_append_left hl5]
  exact h5
theorem zdx {g : D.Grid} {more : List D.ShardCell} {i k : Nat} {c : D.ShardCell} (hc : more[i]? = some c) (h0 : c.Kind ≠ 0) (hk : k ≤ c.Aux.length) :
    (allK g more)[(portK g.Shards).length + (rowK 3 0 (more.take i)).length + k]? = some (3, 0, i, k) := by
  have hcl : k < (cellK 3 0 i c).length := by unfold cellK; rw [if_neg h0]; simp; omega
  have h2 := z9N (g := fun i c => cellK 3 0 i c) hc hcl
  have h3 : (cellK 3 0 i c)[k]? = some (3, 0, i, k) := by unfold cellK; rw [if_neg h0, List.getElem?_map, List.getElem?_range (by omega)]; rfl
  rw [h3] at h2
  have h2' : (rowK 3 0 more)[(rowK 3 0 (more.take i)).length + k]? = some (3, 0, i, k) := h2
  have hlt := (List.getElem?_eq_some_iff.1 h2').1
  unfold allK
  rw [List.getElem?_append_left (by rw [List.length_append]; omega), Nat.add_assoc, List.getElem?_append_right (Nat.le_add_right _ _), Nat.add_sub_cancel_left]
  exact h2'
theorem zgb {g : D.Grid} {more : List D.ShardCell} {m i : Nat} {s : D.Shard} (hs : g.Shards[m]? = some s) (hi : i < s.Vars.length) :
    (allK g more)[(portK g.Shards).length + (rowK 3 0 more).length + (varK (g.Shards.take m)).length + i]? = some (2, m, i, 0) := by
  have h4 := z9N (g := fun i (s : D.Shard) => varR i s) (k := i) hs (by unfold varR; simpa using hi)
  have h3 : (varR m s)[i]? = some (2, m, i, 0) := by unfold varR; rw [List.getElem?_map, List.getElem?_range hi]; rfl
  rw [h3] at h4
  unfold allK
  rw [List.getElem?_append_right (by rw [List.length_append]; omega), List.length_append, Nat.add_assoc, Nat.add_sub_cancel_left]
  exact h4


theorem zbj {fuel : Nat} {L : D.l27Links} {c : D.ShardCell} {t m i : Nat} (hf : 18446744073709551616 ≤ fuel) (hs : c.sz ≤ 1048576) (ha : c.Aux.length ≤ 3) (hp : L.ports.length ≤ 1000000) (hg : L.agents.length ≤ 1000000) :
    ∃ P A, z1S fuel L c = some ((L.ports.length : Int), ⟨A, P, L.cells, L.vars, L.ends, L.pairs⟩) ∧ P.length = L.ports.length + (cellK t m i c).length ∧ A.length ≤ L.agents.length + 1 := by
  unfold z1S
  by_cases k0 : c.Kind = 0
  · rw [if_pos (by simp [k0])]
    exact ⟨L.ports, L.agents, rfl, by unfold cellK; rw [if_pos k0]; rfl, by omega⟩
  · rw [if_neg (by simpa using k0)]
    obtain ⟨o, h1, P, rfl, h2⟩ := z1E (body := z1M fuel L c) (fun k s => ∃ P : List D.Port, s = ((k : Int), P) ∧ P.length = L.ports.length + k) (c.Aux.length + 1) (fun o => ∃ P, o = .inl P ∧ P.length = L.ports.length + (c.Aux.length + 1)) (by
      rintro k s hk ⟨P, rfl, hP⟩
      refine .inl ⟨(w64 (k + 1), P ++ [⟨(L.agents.length : Int), (k : Int)⟩]), ?_, _, by rw [zd (by omega) (by omega)]; rfl, by simp [hP]; omega⟩
      unfold z1M
      dsimp only
      rw [if_pos (by simp; omega), if_pos (by simp; omega)]) (by
      rintro s ⟨P, rfl, hP⟩
      refine .inr ⟨P, ?_, P, rfl, hP⟩
      unfold z1M
      rw [if_neg (by simp; omega)]) (fuel := fuel) (i := 0) (s := (0, L.ports)) (Nat.zero_le _) (by omega) ⟨_, rfl, rfl⟩
    rw [h1, Option.bind_some]
    simp only [aft]
    unfold z4w
    rw [zdn hs, Option.bind_some, if_pos (by simp; omega)]
    exact ⟨P, _, rfl, by rw [h2]; unfold cellK; rw [if_neg k0]; simp, by simp⟩

def baseL (b : Nat) (cs : List D.ShardCell) (n : Nat) : List Int := (List.range n).map fun i => ((b + (rowK 1 0 (cs.take i)).length : Nat) : Int)
theorem zcM {b n : Nat} {cs : List D.ShardCell} : baseL b cs (n + 1) = baseL b cs n ++ [((b + (rowK 1 0 (cs.take n)).length : Nat) : Int)] := by
  unfold baseL
  rw [List.range_succ, List.map_append]
  rfl
theorem zg8 {b n i : Nat} {cs : List D.ShardCell} (h : i < n) : (baseL b cs n)[i]? = some ((b + (rowK 1 0 (cs.take i)).length : Nat) : Int) := by
  unfold baseL
  rw [List.getElem?_map, List.getElem?_range h]
  rfl

theorem zhj {fuel : Nat} {g : D.Grid} {m : Nat} {s : D.Shard} {z : List (List Int) × List (List Int) × List (List Int) × List (List Int) × List D.Port × List D.Agent} {C V E Q : List (List Int)} {P : List D.Port} {A : List D.Agent}
    (hf : 18446744073709551616 ≤ fuel) (hm : g.Shards[m]? = some s) (hz : s.Cells.length ≤ 400) (hs : ∀ c, c ∈ s.Cells → c.sz ≤ 1048576 ∧ c.Aux.length ≤ 3) (hP : P.length ≤ 100000) (hA : A.length ≤ 100000) :
    ∃ P' A', iter (z2m fuel g ((m : Int), z)) fuel (0, [], C, V, E, Q, P, A) = some (.inl (baseL P.length s.Cells s.Cells.length, C, V, E, Q, P', A')) ∧ P'.length = P.length + (rowK 1 m s.Cells).length ∧ A'.length ≤ A.length + s.Cells.length := by
  have hle := fun i hi => z86 (t := 1) (m := m) (cs := s.Cells) (fun c hc => (hs c hc).2) i hi
  obtain ⟨o, h1, P', A', rfl, h2, h3⟩ := z1E (body := z2m fuel g ((m : Int), z)) (fun i st => ∃ P' A', st = ((i : Int), baseL P.length s.Cells i, C, V, E, Q, P', A') ∧ P'.length = P.length + (rowK 1 m (s.Cells.take i)).length ∧ A'.length ≤ A.length + i) s.Cells.length
    (fun o => ∃ P' A', o = .inl (baseL P.length s.Cells s.Cells.length, C, V, E, Q, P', A') ∧ P'.length = P.length + (rowK 1 m s.Cells).length ∧ A'.length ≤ A.length + s.Cells.length) (by
    rintro i st hi ⟨P', A', rfl, hP', hA'⟩
    obtain ⟨c, hc⟩ := z52 hi
    obtain ⟨c1, c2⟩ := hs c (List.mem_of_getElem? hc)
    have := hle i (by omega)
    obtain ⟨P2, A2, e1, e2, e3⟩ := zbj (L := ⟨A', P', C, V, E, Q⟩) (t := 1) (m := m) (i := i) hf c1 c2 (by dsimp only; omega) (by dsimp only; omega)
    dsimp only at e1 e2 e3
    refine .inl ⟨(w64 (i + 1), baseL P.length s.Cells (i + 1), C, V, E, Q, P2, A2), ?_, P2, A2, by rw [zd (by omega) (by omega)]; rfl, by rw [e2, hP', z85 hc, List.length_append]; omega, by omega⟩
    unfold z2m
    dsimp only
    rw [za hm, Option.bind_some, if_pos (by simpa using hi), Option.bind_some, za hc, Option.bind_some, e1, Option.bind_some]
    dsimp only
    rw [if_pos (by unfold baseL; simp; omega), zcM, hP', z8X (t := 1) (m := m) (t' := 1) (m' := 0) i (by omega)]) (by
    rintro st ⟨P', A', rfl, hP', hA'⟩
    rw [List.take_length] at hP'
    refine .inr ⟨_, ?_, P', A', rfl, hP', hA'⟩
    unfold z2m
    dsimp only
    rw [za hm, Option.bind_some, if_neg (by simp)]) (fuel := fuel) (i := 0) (s := (0, [], C, V, E, Q, P, A)) (Nat.zero_le _) (by omega) ⟨P, A, rfl, by simp [rowK], by omega⟩
  exact ⟨P', A', h1, h2, h3⟩

theorem zgG {fuel : Nat} {more : List D.ShardCell} {C V E Q : List (List Int)} {P : List D.Port} {A : List D.Agent}
    (hf : 18446744073709551616 ≤ fuel) (hz : more.length ≤ 20000) (hs : ∀ c, c ∈ more → c.sz ≤ 1048576 ∧ c.Aux.length ≤ 3) (hP : P.length ≤ 100000) (hA : A.length ≤ 100000) :
    ∃ P' A', iter (z2p fuel more) fuel (0, [], C, V, E, Q, P, A) = some (.inl (baseL P.length more more.length, C, V, E, Q, P', A')) ∧ P'.length = P.length + (rowK 3 0 more).length ∧ A'.length ≤ A.length + more.length := by
  have hle := fun i hi => z86 (t := 3) (m := 0) (cs := more) (fun c hc => (hs c hc).2) i hi
  obtain ⟨o, h1, P', A', rfl, h2, h3⟩ := z1E (body := z2p fuel more) (fun i st => ∃ P' A', st = ((i : Int), baseL P.length more i, C, V, E, Q, P', A') ∧ P'.length = P.length + (rowK 3 0 (more.take i)).length ∧ A'.length ≤ A.length + i) more.length
    (fun o => ∃ P' A', o = .inl (baseL P.length more more.length, C, V, E, Q, P', A') ∧ P'.length = P.length + (rowK 3 0 more).length ∧ A'.length ≤ A.length + more.length) (by
    rintro i st hi ⟨P', A', rfl, hP', hA'⟩
    obtain ⟨c, hc⟩ := z52 hi
    obtain ⟨c1, c2⟩ := hs c (List.mem_of_getElem? hc)
    have := hle i (by omega)
    obtain ⟨P2, A2, e1, e2, e3⟩ := zbj (L := ⟨A', P', C, V, E, Q⟩) (t := 3) (m := 0) (i := i) hf c1 c2 (by dsimp only; omega) (by dsimp only; omega)
    dsimp only at e1 e2 e3
    refine .inl ⟨(w64 (i + 1), baseL P.length more (i + 1), C, V, E, Q, P2, A2), ?_, P2, A2, by rw [zd (by omega) (by omega)]; rfl, by rw [e2, hP', z85 hc, List.length_append]; omega, by omega⟩
    unfold z2p
    dsimp only
    rw [if_pos (by simpa using hi), za hc, Option.bind_some, e1, Option.bind_some]
    dsimp only
    rw [if_pos (by unfold baseL; simp; omega), zcM, hP', z8X (t := 3) (m := 0) (t' := 1) (m' := 0) i (by omega)]) (by
    rintro st ⟨P', A', rfl, hP', hA'⟩
    rw [List.take_length] at hP'
    refine .inr ⟨_, ?_, P', A', rfl, hP', hA'⟩
    unfold z2p
    rw [if_neg (by simp)]) (fuel := fuel) (i := 0) (s := (0, [], C, V, E, Q, P, A)) (Nat.zero_le _) (by omega) ⟨P, A, rfl, by simp [rowK], by omega⟩
  exact ⟨P', A', h1, h2, h3⟩

theorem zgd {fuel : Nat} {g : D.Grid} {m n : Nat} {s : D.Shard} {z1 : Int} {z2 : List (List Int)} (hf : 18446744073709551616 ≤ fuel) (hm : g.Shards[m]? = some s) (hz : s.Vars.length ≤ 400) (hn : n ≤ 1000000) :
    iter (z2n fuel g (z1, (m : Int), z2)) fuel ((n : Int), 0, []) = some (.inl (((n + s.Vars.length : Nat) : Int), (List.range s.Vars.length).map fun i => ((n + i : Nat) : Int))) := by
  obtain ⟨o, h1, h2⟩ := z1E (body := z2n fuel g (z1, (m : Int), z2)) (fun i st => st = (((n + i : Nat) : Int), (i : Int), (List.range i).map fun j => ((n + j : Nat) : Int))) s.Vars.length (fun o => o = .inl (((n + s.Vars.length : Nat) : Int), (List.range s.Vars.length).map fun i => ((n + i : Nat) : Int))) (by
    rintro i st hi rfl
    refine .inl ⟨(w64 (((n + i : Nat) : Int) + 1), w64 (i + 1), ((List.range i).map fun j => ((n + j : Nat) : Int)) ++ [((n + i : Nat) : Int)]), ?_, ?_⟩
    · unfold z2n
      dsimp only
      rw [za hm, Option.bind_some, if_pos (by simpa using hi), if_pos (by simp; omega)]
    · rw [zd (by omega) (by omega), zd (by omega) (by omega), List.range_succ, List.map_append]
      rfl) (by
    rintro st rfl
    refine .inr ⟨_, ?_, rfl⟩
    unfold z2n
    dsimp only
    rw [za hm, Option.bind_some, if_neg (by simp)]) (fuel := fuel) (i := 0) (s := ((n : Int), 0, [])) (Nat.zero_le _) (by omega) rfl
  rw [h1, h2]
end Go.E

