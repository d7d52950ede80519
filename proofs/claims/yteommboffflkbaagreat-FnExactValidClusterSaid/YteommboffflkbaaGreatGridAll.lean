/- Grids: the reference's walk over all statements, and its counts. Conditions: the grid's parts are well formed. -/
import Derived.Test.YteommboffflkbaaGreatGridLinks
namespace Go.E
open Go.RowKit Go.Proofs
set_option linter.unusedSimpArgs false
set_option linter.unusedVariables false

theorem zd5 {s : D.Shard} (h : s.Redexes.length ≤ 400) (i : Nat) (hi : i ≤ s.Redexes.length) : (fl redK s.Redexes i).length ≤ 2 * i := z6C (b := 2) (fun _ _ _ => by simp [redK]) i hi
theorem zds {s : D.Shard} {m : Nat} (i : Nat) (hi : i ≤ s.Vars.length) : (fl (fullK m) s.Vars i).length ≤ 2 * i := z6C (b := 2) (fun _ _ _ => by unfold fullK; split <;> simp) i hi
theorem zaC {s : D.Shard} {m : Nat} (h : ∀ c, c ∈ s.Cells → c.Aux.length ≤ 3) (i : Nat) (hi : i ≤ s.Cells.length) : (fl (cellS 1 m) s.Cells i).length ≤ 6 * i := z6C (b := 6) (fun j c hc => zbS (h c (List.mem_of_getElem? hc))) i hi

abbrev Tup (M : D.l27Links) : List D.Agent × List D.Port × List (List Int) × List (List Int) × List (List Int) × List (List Int) := (M.agents, M.ports, M.cells, M.vars, M.ends, M.pairs)
section
variable {fuel : Nat} {g : D.Grid} {more : List D.ShardCell} {L : D.l27Links} {at_ : List Int}
theorem zg5 {M0 : D.l27Links} {ks : List Key} {m : Nat} {s : D.Shard} {z : List D.Agent × List D.Port × List (List Int) × List (List Int) × List (List Int) × List (List Int)} (hf : 18446744073709551616 ≤ fuel) (hs : g.sz ≤ 1048576) (hS : Small g) (hI : Items g more L at_) (hR : Run g more L M0 ks) (hm : g.Shards[m]? = some s) (hks : ks.length ≤ 500000) :
    ((s.Cells.all fun c => c.Aux.all (aliveN g)) = true ∧ ∃ t, iter (z1x fuel g ((m : Int), z) s) fuel (0, Tup M0) = some (.inl t) ∧ ∃ M, t = Tup M ∧ Run g more L M (ks ++ fl (cellS 1 m) s.Cells s.Cells.length)) ∨
    ((s.Cells.all fun c => c.Aux.all (aliveN g)) = false ∧ ∃ r, iter (z1x fuel g ((m : Int), z) s) fuel (0, Tup M0) = some (.inr r) ∧ ∃ M, r = .ret (false, M)) := by
  obtain ⟨a1, a2, a3, a4, a5⟩ := hS.s s (List.mem_of_getElem? hm)
  have hml := (List.getElem?_eq_some_iff.1 hm).1
  have hn := hS.n
  have h := tryLoop (xs := s.Cells) (body := z1x fuel g ((m : Int), z) s) (fuel := fuel)
    (fun i st => ∃ M : D.l27Links, st = ((i : Int), Tup M) ∧ Run g more L M (ks ++ fl (cellS 1 m) s.Cells i))
    (fun _ c => c.Aux.all (aliveN g))
    (fun t => ∃ M, t = Tup M ∧ Run g more L M (ks ++ fl (cellS 1 m) s.Cells s.Cells.length))
    (fun r => ∃ M, r = .ret (false, M)) (s0 := (0, Tup M0)) (by omega) hf (by
    rintro i c _ hc ⟨M, rfl, hM⟩
    have hil := (List.getElem?_eq_some_iff.1 hc).1
    obtain ⟨c1, c2, c3⟩ := a4 c (List.mem_of_getElem? hc)
    have hfl := zaC (m := m) (fun c hc => (a4 c hc).2.1) i (by omega)
    obtain ⟨row, r1, r2⟩ := hI.cell m i s c hm hc
    have hp := z8r hS m (by omega)
    have hr := z86 (t := 1) (m := m) (fun c hc => (a4 c hc).2.1) i (by omega)
    obtain ⟨M', e1, e2⟩ := zg9 (fuel := fuel) (t := 1) (m := m) (i := i) (b := (portK (g.Shards.take m)).length + (rowK 1 m (s.Cells.take i)).length) hf hs hI hM c2 (by rw [List.length_append]; omega) (by omega) (fun k hk => by
      have k0 : c.Kind ≠ 0 := fun h0 => by
        unfold shCellN at c3
        rw [if_pos h0, decide_eq_true_eq] at c3
        rw [c3.2.2.2] at hk
        exact absurd hk (Nat.not_lt_zero _)
      exact zdw hm hc k0 hk)
    have e1' : z1A fuel ⟨M.agents, M.ports, M.cells, M.vars, M.ends, M.pairs⟩ g c (((portK (g.Shards.take m)).length + (rowK 1 m (s.Cells.take i)).length : Nat) : Int) = some (c.Aux.all (aliveN g), M') := e1
    unfold z1x
    dsimp only
    rw [if_pos (by simpa using hil), za hc, Option.bind_some, hM.cells, za r1, Option.bind_some, za r2, Option.bind_some, ← hM.cells, e1', Option.bind_some]
    constructor
    · intro hal
      rw [hal, if_neg (by simp)]
      exact ⟨(w64 (i + 1), Tup M'), rfl, M', by rw [zd (by omega) (by omega)]; rfl, by rw [z6B hc, ← List.append_assoc]; exact e2 hal⟩
    · intro hal
      rw [hal, if_pos (by simp)]
      exact ⟨_, rfl, _, rfl⟩) (by
    rintro _ ⟨M, rfl, hM⟩
    refine ⟨_, ?_, M, rfl, hM⟩
    unfold z1x
    rw [if_neg (by simp)]) ⟨M0, rfl, by rw [z6Q, List.append_nil]; exact hR⟩
  rw [z5v (p := fun c : D.ShardCell => c.Aux.all (aliveN g))] at h
  exact h
theorem zgp {M0 : D.l27Links} {ks : List Key} {s : D.Shard} (hf : 18446744073709551616 ≤ fuel) (hs : g.sz ≤ 1048576) (hI : Items g more L at_) (hR : Run g more L M0 ks) (hz : s.Redexes.length ≤ 400) (hks : ks.length ≤ 500000) :
    ((s.Redexes.all fun r => aliveN g r.A && aliveN g r.B) = true ∧ ∃ t, iter (z1w fuel g s) fuel (0, Tup M0) = some (.inl t) ∧ ∃ M, t = Tup M ∧ Run g more L M (ks ++ fl redK s.Redexes s.Redexes.length)) ∨
    ((s.Redexes.all fun r => aliveN g r.A && aliveN g r.B) = false ∧ ∃ r, iter (z1w fuel g s) fuel (0, Tup M0) = some (.inr r) ∧ ∃ M, r = .ret (false, M)) := by
  have h := tryLoop (xs := s.Redexes) (body := z1w fuel g s) (fuel := fuel)
    (fun i st => ∃ M : D.l27Links, st = ((i : Int), Tup M) ∧ Run g more L M (ks ++ fl redK s.Redexes i))
    (fun _ r => aliveN g r.A && aliveN g r.B)
    (fun t => ∃ M, t = Tup M ∧ Run g more L M (ks ++ fl redK s.Redexes s.Redexes.length))
    (fun r => ∃ M, r = .ret (false, M)) (s0 := (0, Tup M0)) (by omega) hf (by
    rintro i c _ hc ⟨M, rfl, hM⟩
    have hil := (List.getElem?_eq_some_iff.1 hc).1
    have hfl := zd5 hz i (by omega)
    obtain ⟨M', e1, e2⟩ := zbC (fuel := fuel) (a := c.A) (b := c.B) hs hI hM (by rw [List.length_append]; omega)
    have e1' : zV fuel ⟨M.agents, M.ports, M.cells, M.vars, M.ends, M.pairs⟩ g c.A c.B = some (aliveN g c.A && aliveN g c.B, M') := e1
    unfold z1w
    dsimp only
    rw [if_pos (by simpa using hil), za hc, Option.bind_some, Option.bind_some, e1', Option.bind_some]
    constructor
    · intro hal
      rw [hal, if_neg (by simp)]
      exact ⟨(w64 (i + 1), Tup M'), rfl, M', by rw [zd (by omega) (by omega)]; rfl, by rw [z6B hc, ← List.append_assoc]; exact e2 hal⟩
    · intro hal
      rw [hal, if_pos (by simp)]
      exact ⟨_, rfl, _, rfl⟩) (by
    rintro _ ⟨M, rfl, hM⟩
    refine ⟨_, ?_, M, rfl, hM⟩
    unfold z1w
    rw [if_neg (by simp)]) ⟨M0, rfl, by rw [z6Q, List.append_nil]; exact hR⟩
  rw [z5v (p := fun r : D.ShardRedex => aliveN g r.A && aliveN g r.B)] at h
  exact h
theorem zge {M0 : D.l27Links} {ks : List Key} {m : Nat} {s : D.Shard} {z : List D.Agent × List D.Port × List (List Int) × List (List Int) × List (List Int) × List (List Int)} (hf : 18446744073709551616 ≤ fuel) (hs : g.sz ≤ 1048576) (hI : Items g more L at_) (hR : Run g more L M0 ks) (hz : s.Vars.length ≤ 400) (hks : ks.length ≤ 500000) :
    ((s.Vars.zipIdx.all fun x => fullA g m x.2 x.1) = true ∧ ∃ t, iter (z1v fuel g ((m : Int), z) s) fuel (0, Tup M0) = some (.inl t) ∧ ∃ M, t = Tup M ∧ Run g more L M (ks ++ fl (fullK m) s.Vars s.Vars.length)) ∨
    ((s.Vars.zipIdx.all fun x => fullA g m x.2 x.1) = false ∧ ∃ r, iter (z1v fuel g ((m : Int), z) s) fuel (0, Tup M0) = some (.inr r) ∧ ∃ M, r = .ret (false, M)) := by
  exact tryLoop (xs := s.Vars) (body := z1v fuel g ((m : Int), z) s) (fuel := fuel)
    (fun i st => ∃ M : D.l27Links, st = ((i : Int), Tup M) ∧ Run g more L M (ks ++ fl (fullK m) s.Vars i))
    (fun i v => fullA g m i v)
    (fun t => ∃ M, t = Tup M ∧ Run g more L M (ks ++ fl (fullK m) s.Vars s.Vars.length))
    (fun r => ∃ M, r = .ret (false, M)) (s0 := (0, Tup M0)) (by omega) hf (by
    rintro i c _ hc ⟨M, rfl, hM⟩
    have hil := (List.getElem?_eq_some_iff.1 hc).1
    have hfl := zds (m := m) i (by omega : i ≤ s.Vars.length)
    obtain ⟨M', e1, e2⟩ := zbC (fuel := fuel) (a := ⟨(m : Int), 2, (i : Int)⟩) (b := c.Held) hs hI hM (by rw [List.length_append]; omega)
    have e1' : zV fuel ⟨M.agents, M.ports, M.cells, M.vars, M.ends, M.pairs⟩ g ⟨(m : Int), 2, (i : Int)⟩ c.Held = some (aliveN g ⟨(m : Int), 2, (i : Int)⟩ && aliveN g c.Held, M') := e1
    unfold z1v
    dsimp only
    rw [if_pos (by simpa using hil), za hc, Option.bind_some]
    unfold fullA
    cases hF : c.Full with
    | false =>
      rw [if_neg (by simp)]
      refine ⟨fun _ => ⟨(w64 (i + 1), Tup M), ?_, M, by rw [zd (by omega) (by omega)]; rfl, ?_⟩, fun h => by cases h⟩
      · unfold z3v; rfl
      · rw [z6B hc]; unfold fullK; rw [hF, if_neg (by simp), List.append_nil]; exact hM
    | true =>
      rw [if_pos rfl, Option.bind_some, e1', Option.bind_some]
      unfold z3v
      rw [Bool.not_true, Bool.false_or]
      constructor
      · intro hal
        rw [hal]
        refine ⟨(w64 (i + 1), Tup M'), rfl, M', by rw [zd (by omega) (by omega)]; rfl, ?_⟩
        rw [z6B hc, ← List.append_assoc]
        have h9 := e2 hal
        unfold fullK
        rw [hF, if_pos rfl]
        have : keyA ⟨(m : Int), 2, (i : Int)⟩ = (2, m, i, 0) := by unfold keyA; simp
        rw [this] at h9
        exact h9
      · intro hal
        rw [hal]
        exact ⟨_, rfl, _, rfl⟩) (by
    rintro _ ⟨M, rfl, hM⟩
    refine ⟨_, ?_, M, rfl, hM⟩
    unfold z1v
    rw [if_neg (by simp)]) ⟨M0, rfl, by rw [z6Q, List.append_nil]; exact hR⟩
theorem zc4 {m : Nat} {s : D.Shard} (hS : Small g) (hm : g.Shards[m]? = some s) : (shardS m s).length ≤ 4000 := by
  obtain ⟨a1, a2, a3, a4, a5⟩ := hS.s s (List.mem_of_getElem? hm)
  unfold shardS
  rw [List.length_append, List.length_append]
  have := zaC (m := m) (fun c hc => (a4 c hc).2.1) s.Cells.length (Nat.le_refl _)
  have := zd5 a3 s.Redexes.length (Nat.le_refl _)
  have := zds (m := m) s.Vars.length (Nat.le_refl _)
  omega
theorem ze9 (hI : Items g more L at_) : Run g more L L [] where
  ports := rfl
  cells := rfl
  vars := rfl
  ends := by
    rw [hI.ends]
    refine ⟨by simp, fun x key hx => ⟨[], ?_, rfl⟩⟩
    have := (List.getElem?_eq_some_iff.1 hx).1
    rw [List.getElem?_replicate, if_pos this]
  pairs := by rw [hI.pairs]; exact Nat.le_refl _
theorem zhA (hf : 18446744073709551616 ≤ fuel) (hs : g.sz ≤ 1048576) (hS : Small g) (hI : Items g more L at_) :
    ∃ L', z6g fuel g L = some (gridA g, L') ∧ (gridA g = true → Run g more L L' (gridS g)) := by
  have hn := hS.n
  unfold z6g gridA
  rw [z7J hs, Option.bind_some]
  cases hr : aliveN g g.Root with
  | false => exact ⟨L, rfl, fun h => by cases h⟩
  | true =>
    obtain ⟨x, x1, x2⟩ := z90 (fuel := fuel) (L' := L) hI rfl rfl hr
    obtain ⟨M0, e1, e2⟩ := z8R (fuel := fuel) (x := 0) (k1 := (0, 0, 0, 0)) (ze9 hI) (by unfold allK portK; rfl) x2 (Nat.zero_le _)
    rw [if_neg (by simp), x1, Option.bind_some]
    have e1' : zB fuel L 0 (x : Int) = some M0 := e1
    rw [e1', Option.bind_some, Bool.true_and]
    have h := tryLoop (xs := g.Shards) (body := z2w fuel g) (fuel := fuel)
      (fun m st => ∃ M : D.l27Links, st = ((m : Int), Tup M) ∧ Run g more L M (rootS g ++ fl shardS g.Shards m))
      (fun m s => shardA g m s)
      (fun t => ∃ M, t = Tup M ∧ Run g more L M (gridS g))
      (fun r => ∃ M, r = (false, M)) (s0 := (0, Tup M0)) (by omega) hf (by
      rintro m s _ hm ⟨M, rfl, hM⟩
      have hml := (List.getElem?_eq_some_iff.1 hm).1
      obtain ⟨a1, a2, a3, a4, a5⟩ := hS.s s (List.mem_of_getElem? hm)
      have hfl := z6C (f := shardS) (xs := g.Shards) (b := 4000) (fun j c hc => zc4 hS hc) m (by omega)
      have hk0 : (rootS g ++ fl shardS g.Shards m).length ≤ 100000 := by rw [List.length_append]; unfold rootS; simp only [List.length_cons, List.length_nil]; omega
      have hfc := zaC (m := m) (fun c hc => (a4 c hc).2.1) s.Cells.length (Nat.le_refl _)
      have hfr := zd5 a3 s.Redexes.length (Nat.le_refl _)
      unfold z2w
      dsimp only
      rw [if_pos (by simpa using hml), za hm, Option.bind_some]
      unfold shardA
      rcases zg5 (z := Tup M) hf hs hS hI hM hm (by omega) with ⟨c1, t, c2, M1, rfl, c3⟩ | ⟨c1, r, c2, M1, rfl⟩
      · have c2' : iter (z1x fuel g ((m : Int), M.agents, M.ports, M.cells, M.vars, M.ends, M.pairs) s) fuel (0, M.agents, M.ports, M.cells, M.vars, M.ends, M.pairs) = _ := c2
        rw [c1, Bool.true_and, c2', Option.bind_some, z8]
        unfold z6P
        dsimp only
        rcases zgp (s := s) hf hs hI c3 a3 (by rw [List.length_append]; omega) with ⟨d1, t, d2, M2, rfl, d3⟩ | ⟨d1, r, d2, M2, rfl⟩
        · have d2' : iter (z1w fuel g s) fuel (0, M1.agents, M1.ports, M1.cells, M1.vars, M1.ends, M1.pairs) = _ := d2
          rw [d1, Bool.true_and, d2', Option.bind_some, z8]
          unfold z6O
          dsimp only
          rcases zge (m := m) (s := s) (z := Tup M) hf hs hI d3 a2 (by rw [List.length_append, List.length_append]; omega) with ⟨f1, t, f2, M3, rfl, f3⟩ | ⟨f1, r, f2, M3, rfl⟩
          · have f2' : iter (z1v fuel g ((m : Int), M.agents, M.ports, M.cells, M.vars, M.ends, M.pairs) s) fuel (0, M2.agents, M2.ports, M2.cells, M2.vars, M2.ends, M2.pairs) = _ := f2
            rw [f1, f2', Option.bind_some, z8]
            refine ⟨fun _ => ⟨(w64 (m + 1), Tup M3), rfl, M3, by rw [zd (by omega) (by omega)]; rfl, ?_⟩, fun h => by cases h⟩
            rw [z6B hm]
            unfold shardS
            simp only [List.append_assoc] at f3 ⊢
            exact f3
          · have f2' : iter (z1v fuel g ((m : Int), M.agents, M.ports, M.cells, M.vars, M.ends, M.pairs) s) fuel (0, M2.agents, M2.ports, M2.cells, M2.vars, M2.ends, M2.pairs) = _ := f2
            rw [f1, f2', Option.bind_some]
            exact ⟨fun h => (by cases h), fun _ => ⟨_, rfl, _, rfl⟩⟩
        · have d2' : iter (z1w fuel g s) fuel (0, M1.agents, M1.ports, M1.cells, M1.vars, M1.ends, M1.pairs) = _ := d2
          rw [d1, d2', Option.bind_some]
          exact ⟨fun h => (by cases h), fun _ => ⟨_, rfl, _, rfl⟩⟩
      · have c2' : iter (z1x fuel g ((m : Int), M.agents, M.ports, M.cells, M.vars, M.ends, M.pairs) s) fuel (0, M.agents, M.ports, M.cells, M.vars, M.ends, M.pairs) = _ := c2
        rw [c1, c2', Option.bind_some]
        exact ⟨fun h => (by cases h), fun _ => ⟨_, rfl, _, rfl⟩⟩) (by
      rintro _ ⟨M, rfl, hM⟩
      refine ⟨_, ?_, M, rfl, hM⟩
      unfold z2w
      rw [if_neg (by simp)]) ⟨M0, rfl, by rw [z6Q, List.append_nil]; exact e2⟩
    rcases h with ⟨h1, t, h2, M, rfl, h3⟩ | ⟨h1, r, h2, M, rfl⟩
    · have h2' : iter (z2w fuel g) fuel (0, M0.agents, M0.ports, M0.cells, M0.vars, M0.ends, M0.pairs) = _ := h2
      rw [h2', Option.bind_some, z8, h1]
      exact ⟨M, rfl, fun _ => h3⟩
    · have h2' : iter (z2w fuel g) fuel (0, M0.agents, M0.ports, M0.cells, M0.vars, M0.ends, M0.pairs) = _ := h2
      rw [h2', Option.bind_some, h1]
      exact ⟨M, rfl, fun h => by cases h⟩
def varC (S : List Key) (m : Nat) (s : D.Shard) : Bool := s.Vars.zipIdx.all fun y => !y.1.Used || decide (S.count (2, m, y.2, 0) = 2)
def countsN (g : D.Grid) (more : List D.ShardCell) (S : List Key) : Bool := ((portK g.Shards ++ rowK 3 0 more).all fun k => decide (S.count k = 1)) && g.Shards.zipIdx.all fun x => varC S x.2 x.1
theorem ze6 {M : D.l27Links} {S : List Key} (hf : 18446744073709551616 ≤ fuel) (hs : g.sz ≤ 1048576) (hI : Items g more L at_) (hR : Run g more L M S) (hp : L.ports.length ≤ 1048576) : z3t fuel g M = some (countsN g more S) := by
  have hm : maxLen = 9223372036854775807 := rfl
  obtain ⟨z1, z2⟩ := z9o hs
  have hpl : M.ports.length = (portK g.Shards ++ rowK 3 0 more).length := by rw [hR.ports]; exact hI.ports
  unfold z3t
  have hP := allLoop (xs := portK g.Shards ++ rowK 3 0 more) (body := z3a fuel M) (p := fun _ k => decide (S.count k = 1)) (t := ()) (v := false) (fuel := fuel) (by rw [← hpl, hR.ports]; omega) hf (fun i k hi hx => by
    obtain ⟨e, e1, e2⟩ := hR.ends.2 i k (by unfold allK; rw [List.getElem?_append_left hi]; exact hx)
    unfold z3a
    rw [if_pos (by simp only [decide_eq_true_eq]; omega), za e1, Option.bind_some, e2]
    by_cases h : S.count k = 1
    · rw [if_neg (by simp [h]), if_pos (decide_eq_true h)]
    · rw [if_pos (by simp only [bne_iff_ne, ne_eq]; omega), if_neg (by simpa using h)]) (by unfold z3a; rw [← hpl, if_neg (by simp)])
  rw [z5v (p := fun k => decide (S.count k = 1))] at hP
  rw [hP, Option.bind_some]
  unfold countsN
  cases ((portK g.Shards ++ rowK 3 0 more).all fun k => decide (S.count k = 1)) with
  | false => rfl
  | true =>
    rw [if_pos rfl, z8, Bool.true_and]
    unfold z5W
    have hG := allLoop (xs := g.Shards) (body := z39 fuel g M) (p := fun m s => varC S m s) (t := ()) (v := false) (fuel := fuel) (by omega) hf (fun m s hi hx => by
      obtain ⟨y1, y2, y3, y4⟩ := z8q (z2 s (List.mem_of_getElem? hx))
      unfold z39
      rw [if_pos (by simpa using hi)]
      have hV := allLoop (xs := s.Vars) (body := z38 fuel g M (m : Int)) (p := fun i v => !v.Used || decide (S.count (2, m, i, 0) = 2)) (t := ()) (v := Rd.ret false) (fuel := fuel) (by omega) hf (fun i v hj hv => by
        obtain ⟨row, r1, r2⟩ := hI.var m i s hx hj
        obtain ⟨e, e1, e2⟩ := hR.ends.2 _ _ (zgb hx hj)
        unfold z38
        rw [za hx, Option.bind_some, if_pos (by simpa using hj), Option.bind_some, za hv, Option.bind_some]
        unfold z37
        cases v.Used with
        | false => rfl
        | true =>
          rw [if_pos rfl, hR.vars, za r1, Option.bind_some, za r2, Option.bind_some, za e1, Option.bind_some, e2]
          by_cases h : S.count (2, m, i, 0) = 2
          · rw [if_neg (by simp [h]), if_pos (by simp [h])]
          · rw [if_pos (by simp only [bne_iff_ne, ne_eq]; omega), if_neg (by simpa using h)]) (by unfold z38; rw [za hx, Option.bind_some, if_neg (by simp)])
      rw [hV, Option.bind_some]
      unfold varC
      cases (s.Vars.zipIdx.all fun y => !y.1.Used || decide (S.count (2, m, y.2, 0) = 2)) <;> rfl) (by unfold z39; rw [if_neg (by simp)])
    rw [hG, Option.bind_some]
    cases (g.Shards.zipIdx.all fun x => varC S x.2 x.1) <;> rfl
end
end Go.E

