/- Grids: the reference's numbering, whole. Conditions: the grid's parts are well formed. -/
import Derived.Test.YteommboffflkbaaGreatGridKeys
namespace Go.E
open Go.RowKit Go.Proofs
set_option linter.unusedSimpArgs false
set_option linter.unusedVariables false


structure Small (g : D.Grid) : Prop where
  n : g.Shards.length ≤ 4
  s : ∀ s, s ∈ g.Shards → s.Cells.length ≤ 400 ∧ s.Vars.length ≤ 400 ∧ s.Redexes.length ≤ 400 ∧ (∀ c, c ∈ s.Cells → c.sz ≤ 1048576 ∧ c.Aux.length ≤ 3 ∧ shCellN c = true) ∧ ∀ v, v ∈ s.Vars → shVarN v = true
theorem zdk {g : D.Grid} (hs : g.sz ≤ 1048576) (hp : piecesN g = true) : Small g := by
  unfold piecesN at hp
  rw [Bool.and_eq_true, decide_eq_true_eq] at hp
  refine ⟨hp.1.2, fun s hm => ?_⟩
  have h1 := List.all_eq_true.1 hp.2 s hm
  unfold shardN at h1
  rw [Bool.and_eq_true, Bool.and_eq_true, decide_eq_true_eq] at h1
  obtain ⟨⟨a1, a2, a3⟩, a4, a5⟩ := h1
  have z := (z8q ((z9o hs).2 s hm)).2.2.2
  exact ⟨a1, a2, a3, fun c hc => ⟨z c hc, zdm (List.all_eq_true.1 a4 c hc), List.all_eq_true.1 a4 c hc⟩, fun v hv => List.all_eq_true.1 a5 v hv⟩
def moreOk (more : List D.ShardCell) : Prop := more.length ≤ 20000 ∧ ∀ c, c ∈ more → c.sz ≤ 1048576 ∧ c.Aux.length ≤ 3
structure Items (g : D.Grid) (more : List D.ShardCell) (L : D.l27Links) (at_ : List Int) : Prop where
  ports : L.ports.length = (portK g.Shards ++ rowK 3 0 more).length
  cell : ∀ (m i : Nat) s c, g.Shards[m]? = some s → s.Cells[i]? = some c → ∃ row, L.cells[m]? = some row ∧ row[i]? = some (((portK (g.Shards.take m)).length + (rowK 1 m (s.Cells.take i)).length : Nat) : Int)
  var : ∀ (m i : Nat) s, g.Shards[m]? = some s → i < s.Vars.length → ∃ row, L.vars[m]? = some row ∧ row[i]? = some (((portK g.Shards).length + (rowK 3 0 more).length + (varK (g.Shards.take m)).length + i : Nat) : Int)
  ends : L.ends = List.replicate (allK g more).length []
  pairs : L.pairs = []
  more : ∀ (i : Nat) c, more[i]? = some c → at_[i]? = some (((portK g.Shards).length + (rowK 3 0 (more.take i)).length : Nat) : Int)
theorem z8r {g : D.Grid} (hS : Small g) : ∀ m, m ≤ g.Shards.length → (portK (g.Shards.take m)).length ≤ 1 + 1600 * m
  | 0, _ => by simp [portK]
  | m + 1, hm => by
    obtain ⟨s, hs⟩ := z52 (xs := g.Shards) (i := m) (by omega)
    obtain ⟨a1, a2, a3, a4, a5⟩ := hS.s s (List.mem_of_getElem? hs)
    rw [zbg hs, List.length_append]
    have := z8r hS m (by omega)
    have h2 := z86 (t := 1) (m := m) (cs := s.Cells) (fun c hc => (a4 c hc).2.1) s.Cells.length (Nat.le_refl _)
    rw [List.take_length] at h2
    omega
theorem zcQ {g : D.Grid} (hS : Small g) : ∀ m, m ≤ g.Shards.length → (varK (g.Shards.take m)).length ≤ 400 * m
  | 0, _ => by simp [varK]
  | m + 1, hm => by
    obtain ⟨s, hs⟩ := z52 (xs := g.Shards) (i := m) (by omega)
    obtain ⟨a1, a2, a3, a4, a5⟩ := hS.s s (List.mem_of_getElem? hs)
    rw [zbV hs, List.length_append]
    have := zcQ hS m (by omega)
    unfold varR
    simp only [List.length_map, List.length_range]
    omega
theorem zdg {fuel : Nat} {g : D.Grid} (hf : 18446744073709551616 ≤ fuel) (hS : Small g) : ∃ (C : List (List Int)) (P : List D.Port) (A : List D.Agent), iter (z2q fuel g) fuel (0, [], [], [], [], [⟨0, 0⟩], [⟨1, 0, 0, [], List.replicate (1 : Int).toNat ⟨0, 0⟩⟩]) = some (.inl (C, [], [], [], P, A)) ∧ C.length = g.Shards.length ∧ (∀ (j : Nat) s, g.Shards[j]? = some s → C[j]? = some (baseL (portK (g.Shards.take j)).length s.Cells s.Cells.length)) ∧ P.length = (portK g.Shards).length ∧ A.length ≤ 2000 := by
  have hn := hS.n
  obtain ⟨o, h1, C, P, A, rfl, h2, h3, h4, h5⟩ := z1E (body := z2q fuel g) (fun m st => ∃ (C : List (List Int)) (P : List D.Port) (A : List D.Agent), st = ((m : Int), C, [], [], [], P, A) ∧ C.length = m ∧ (∀ (j : Nat) s, j < m → g.Shards[j]? = some s → C[j]? = some (baseL (portK (g.Shards.take j)).length s.Cells s.Cells.length)) ∧ P.length = (portK (g.Shards.take m)).length ∧ A.length ≤ 1 + 400 * m) g.Shards.length
    (fun o => ∃ (C : List (List Int)) (P : List D.Port) (A : List D.Agent), o = .inl (C, [], [], [], P, A) ∧ C.length = g.Shards.length ∧ (∀ (j : Nat) s, g.Shards[j]? = some s → C[j]? = some (baseL (portK (g.Shards.take j)).length s.Cells s.Cells.length)) ∧ P.length = (portK g.Shards).length ∧ A.length ≤ 2000) (by
    rintro m st hm ⟨C, P, A, rfl, hC, hr, hP, hA⟩
    obtain ⟨s, hs⟩ := z52 hm
    obtain ⟨a1, a2, a3, a4, a5⟩ := hS.s s (List.mem_of_getElem? hs)
    have hpl := z8r hS m (by omega)
    obtain ⟨P', A', e1, e2, e3⟩ := zhj (z := (C, [], [], [], P, A)) (C := C) (V := []) (E := []) (Q := []) (P := P) (A := A) hf hs a1 (fun c hc => ⟨(a4 c hc).1, (a4 c hc).2.1⟩) (by omega) (by omega)
    refine .inl ⟨(w64 (m + 1), C ++ [baseL P.length s.Cells s.Cells.length], [], [], [], P', A'), ?_, _, P', A', by rw [zd (by omega) (by omega)]; rfl, by simp [hC], ?_, ?_, by omega⟩
    · unfold z2q
      dsimp only
      rw [if_pos (by simpa using hm), e1, Option.bind_some]
      rw [z8]
      unfold z6b
      dsimp only
      rw [if_pos (by simp; omega)]
    · intro j s' hj hs'
      by_cases hjm : j < m
      · rw [List.getElem?_append_left (by omega)]
        exact hr j s' hjm hs'
      · obtain rfl : j = m := by omega
        rw [hs] at hs'
        cases hs'
        rw [List.getElem?_append_right (by omega), hC, Nat.sub_self, hP]
        rfl
    · rw [e2, hP, zbg hs, List.length_append]) (by
    rintro st ⟨C, P, A, rfl, hC, hr, hP, hA⟩
    rw [List.take_length] at hP
    refine .inr ⟨_, ?_, C, P, A, rfl, hC, fun j s hs => hr j s (List.getElem?_eq_some_iff.1 hs).1 hs, hP, by omega⟩
    unfold z2q
    rw [if_neg (by simp)]) (fuel := fuel) (i := 0) (s := (0, [], [], [], [], [⟨0, 0⟩], [⟨1, 0, 0, [], List.replicate (1 : Int).toNat ⟨0, 0⟩⟩])) (Nat.zero_le _) (by omega) ⟨_, _, _, rfl, rfl, fun j s hj _ => absurd hj (Nat.not_lt_zero _), by simp [portK], by simp⟩
  exact ⟨C, P, A, h1, h2, h3, h4, h5⟩
theorem ze8 {fuel N : Nat} {g : D.Grid} (hf : 18446744073709551616 ≤ fuel) (hS : Small g) (hN : N ≤ 500000) : ∃ V : List (List Int), iter (z2o fuel g) fuel ((N : Int), 0, []) = some (.inl (((N + (varK g.Shards).length : Nat) : Int), V)) ∧ V.length = g.Shards.length ∧ ∀ (j : Nat) s, g.Shards[j]? = some s → V[j]? = some ((List.range s.Vars.length).map fun i => ((N + (varK (g.Shards.take j)).length + i : Nat) : Int)) := by
  have hn := hS.n
  obtain ⟨o, f1, V, rfl, f2, f3⟩ := z1E (body := z2o fuel g) (fun m st => ∃ V : List (List Int), st = (((N + (varK (g.Shards.take m)).length : Nat) : Int), (m : Int), V) ∧ V.length = m ∧ ∀ (j : Nat) s, j < m → g.Shards[j]? = some s → V[j]? = some ((List.range s.Vars.length).map fun i => ((N + (varK (g.Shards.take j)).length + i : Nat) : Int))) g.Shards.length
    (fun o => ∃ V : List (List Int), o = .inl (((N + (varK g.Shards).length : Nat) : Int), V) ∧ V.length = g.Shards.length ∧ ∀ (j : Nat) s, g.Shards[j]? = some s → V[j]? = some ((List.range s.Vars.length).map fun i => ((N + (varK (g.Shards.take j)).length + i : Nat) : Int))) (by
    rintro m st hm ⟨V, rfl, hV, hr⟩
    obtain ⟨s, hs⟩ := z52 hm
    obtain ⟨a1, a2, a3, a4, a5⟩ := hS.s s (List.mem_of_getElem? hs)
    have hvl := zcQ hS m (by omega)
    have e1 := zgd (z1 := ((N + (varK (g.Shards.take m)).length : Nat) : Int)) (z2 := V) (n := N + (varK (g.Shards.take m)).length) hf hs a2 (by omega)
    refine .inl ⟨(((N + (varK (g.Shards.take m)).length + s.Vars.length : Nat) : Int), w64 (m + 1), V ++ [(List.range s.Vars.length).map fun i => ((N + (varK (g.Shards.take m)).length + i : Nat) : Int)]), ?_, V ++ [(List.range s.Vars.length).map fun i => ((N + (varK (g.Shards.take m)).length + i : Nat) : Int)], ?_, by simp [hV], ?_⟩
    · unfold z2o
      dsimp only
      rw [if_pos (by simpa using hm), e1, Option.bind_some]
      rw [z8]
      unfold z6c
      dsimp only
      rw [if_pos (by simp; omega)]
    · rw [zd (by omega) (by omega), zbV hs, List.length_append]
      unfold varR
      simp only [List.length_map, List.length_range, Nat.add_assoc]
      rfl
    · intro j s' hj hs'
      by_cases hjm : j < m
      · rw [List.getElem?_append_left (by omega)]
        exact hr j s' hjm hs'
      · obtain rfl : j = m := by omega
        rw [hs] at hs'
        cases hs'
        rw [List.getElem?_append_right (by omega), hV, Nat.sub_self]
        rfl) (by
    rintro st ⟨V, rfl, hV, hr⟩
    rw [List.take_length]
    refine .inr ⟨_, ?_, V, rfl, hV, fun j s hs => hr j s (List.getElem?_eq_some_iff.1 hs).1 hs⟩
    unfold z2o
    rw [if_neg (by simp)]) (fuel := fuel) (i := 0) (s := ((N : Int), 0, [])) (Nat.zero_le _) (by omega) ⟨[], by simp [varK], rfl, fun j s hj _ => absurd hj (Nat.not_lt_zero _)⟩
  exact ⟨V, f1, f2, f3⟩
theorem zg7 {fuel : Nat} {g : D.Grid} {more : List D.ShardCell} (hf : 18446744073709551616 ≤ fuel) (hS : Small g) (hM : moreOk more) : ∃ L at_, z5d fuel g more = some (L, at_) ∧ Items g more L at_ := by
  have hn := hS.n
  unfold z5d
  rw [if_pos (by simp)]
  obtain ⟨C, P, A, h1, h2, h3, h4, h5⟩ := zdg hf hS
  rw [h1, Option.bind_some]
  rw [z8]
  unfold z6f
  dsimp only
  have hpl := z8r hS g.Shards.length (Nat.le_refl _)
  rw [List.take_length] at hpl
  obtain ⟨P', A', e1, e2, e3⟩ := zgG (more := more) (C := C) (V := []) (E := []) (Q := []) (P := P) (A := A) hf hM.1 hM.2 (by omega) (by omega)
  rw [e1, Option.bind_some]
  rw [z8]
  unfold z6e
  dsimp only
  have hmore := z86 (t := 3) (m := 0) (cs := more) (fun c hc => (hM.2 c hc).2) more.length (Nat.le_refl _)
  rw [List.take_length] at hmore
  have hM1 := hM.1
  have hPl : P'.length = (portK g.Shards).length + (rowK 3 0 more).length := by rw [e2, h4]
  obtain ⟨V, f1, f2, f3⟩ := ze8 (N := P'.length) hf hS (by omega)
  rw [f1, Option.bind_some]
  rw [z8]
  unfold z6d
  dsimp only
  have hvl := zcQ hS g.Shards.length (Nat.le_refl _)
  rw [List.take_length] at hvl
  rw [if_pos (by simp; omega)]
  refine ⟨_, _, rfl, ?_, ?_, ?_, ?_, rfl, ?_⟩
  · dsimp only; rw [hPl, List.length_append]
  · intro m i s c hs hc
    have hi := (List.getElem?_eq_some_iff.1 hc).1
    refine ⟨_, h3 m s hs, ?_⟩
    rw [zg8 hi, z8X (t := 1) (m := 0) (t' := 1) (m' := m) i (by omega)]
  · intro m i s hs hi
    refine ⟨_, f3 m s hs, ?_⟩
    rw [List.getElem?_map, List.getElem?_range hi, hPl]
    rfl
  · dsimp only
    congr 1
    unfold allK
    rw [List.length_append, List.length_append, ← hPl]
    omega
  · intro i c hc
    have hi := (List.getElem?_eq_some_iff.1 hc).1
    rw [zg8 hi, h4, z8X (t := 1) (m := 0) (t' := 3) (m' := 0) i (by omega)]
end Go.E

