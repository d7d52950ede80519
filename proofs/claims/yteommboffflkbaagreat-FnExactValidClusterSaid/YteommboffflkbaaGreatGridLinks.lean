/- Grids: the reference's statements between ports and variables, told by keys. Conditions: the grid's parts are well formed. -/
import Derived.Test.YteommboffflkbaaGreatGridBegin
namespace Go.E
open Go.RowKit Go.Proofs
set_option linter.unusedSimpArgs false
set_option linter.unusedVariables false

def aliveN (g : D.Grid) (a : D.Address) : Bool := decide (0 ≤ a.Machine ∧ 0 ≤ a.Index) && (g.Shards[a.Machine.toNat]?).any fun s => if a.Kind = 1 then (s.Cells[a.Index.toNat]?).any fun c => decide (c.Kind ≠ 0) else if a.Kind = 2 then (s.Vars[a.Index.toNat]?).any fun v => v.Used else false
def keyA (a : D.Address) : Key := if a.Kind = 1 then (1, a.Machine.toNat, a.Index.toNat, 0) else (2, a.Machine.toNat, a.Index.toNat, 0)

theorem z8t {α : Type} {xs : List α} {i : Int} (h : (xs.length : Int) ≤ i) : xs[i.toNat]? = none := List.getElem?_eq_none (by omega)
theorem zbk {α : Type} {xs : List α} {i : Int} (h0 : 0 ≤ i) (h : i < xs.length) : ∃ x, xs[i.toNat]? = some x ∧ idx xs i = some x := by
  obtain ⟨x, hx⟩ := z52 (xs := xs) (i := i.toNat) (by omega)
  exact ⟨x, hx, by unfold idx; rw [if_pos h0, hx]⟩
theorem z7J {fuel : Nat} {g : D.Grid} {a : D.Address} (hs : g.sz ≤ 1048576) : z1N fuel g a = some (aliveN g a) := by
  have hm : maxLen = 9223372036854775807 := rfl
  obtain ⟨z1, z2⟩ := z9o hs
  unfold z1N aliveN
  rw [z8v (by omega), z5X, Option.bind_some]
  by_cases hM : 0 ≤ a.Machine ∧ a.Machine ≤ (g.Shards.length : Int) - 1
  · obtain ⟨s, s1, s2⟩ := zbk (xs := g.Shards) hM.1 (by omega)
    obtain ⟨y1, y2, y3, y4⟩ := z8q (z2 s (List.mem_of_getElem? s1))
    rw [decide_eq_true hM, if_neg (by simp), s2, Option.bind_some, s1, Option.any_some]
    by_cases k1 : a.Kind = 1
    · rw [if_pos (by simp [k1]), if_pos k1, z8v (by omega), z5X, Option.bind_some]
      by_cases hi : 0 ≤ a.Index ∧ a.Index ≤ (s.Cells.length : Int) - 1
      · obtain ⟨c, c1, c2⟩ := zbk (xs := s.Cells) hi.1 (by omega)
        rw [if_pos (decide_eq_true hi), c2, Option.bind_some, c1, Option.any_some, decide_eq_true ⟨hM.1, hi.1⟩]
        by_cases h : c.Kind = 0 <;> simp [h]
      · rw [if_neg (by simpa using hi)]
        by_cases h0 : 0 ≤ a.Index
        · rw [z8t (by omega)]; simp
        · rw [decide_eq_false (fun h => h0 h.2)]; rfl
    · rw [if_neg (by simpa using k1), if_neg k1]
      by_cases k2 : a.Kind = 2
      · rw [if_pos (by simp [k2]), if_pos k2, z8v (by omega), z5X, Option.bind_some]
        by_cases hi : 0 ≤ a.Index ∧ a.Index ≤ (s.Vars.length : Int) - 1
        · obtain ⟨c, c1, c2⟩ := zbk (xs := s.Vars) hi.1 (by omega)
          rw [if_pos (decide_eq_true hi), c2, Option.bind_some, c1, Option.any_some, decide_eq_true ⟨hM.1, hi.1⟩]
          rfl
        · rw [if_neg (by simpa using hi)]
          by_cases h0 : 0 ≤ a.Index
          · rw [z8t (by omega)]; simp
          · rw [decide_eq_false (fun h => h0 h.2)]; rfl
      · rw [if_neg (by simpa using k2), if_neg k2]; simp
  · rw [decide_eq_false hM, if_pos (by simp)]
    by_cases h0 : 0 ≤ a.Machine
    · rw [z8t (by omega)]; simp
    · rw [decide_eq_false (fun h => h0 h.1)]; rfl
theorem zdX {fuel : Nat} {g : D.Grid} {a : D.Address} : z28 fuel g a = some (aliveN g a) := by
  unfold z28 z1V aliveN
  by_cases h1 : a.Machine < 0
  · rw [if_pos (decide_eq_true h1), if_pos rfl, decide_eq_false (fun h => by omega)]; rfl
  · rw [if_neg (by simpa using h1)]
    by_cases h2 : a.Machine ≥ (g.Shards.length : Int)
    · rw [if_pos (decide_eq_true h2), if_pos rfl, z8t h2]; simp
    · rw [if_neg (by simpa using h2)]
      obtain ⟨s, s1, s2⟩ := zbk (xs := g.Shards) (i := a.Machine) (by omega) (by omega)
      rw [s1, Option.any_some]
      by_cases h3 : a.Index < 0
      · rw [if_pos (decide_eq_true h3), decide_eq_false (fun h => by omega)]; rfl
      · rw [if_neg (by simpa using h3), s2, Option.bind_some, decide_eq_true (p := 0 ≤ a.Machine ∧ 0 ≤ a.Index) ⟨by omega, by omega⟩, Bool.true_and]
        by_cases k1 : a.Kind = 1
        · rw [if_pos (by simp [k1]), if_pos k1]
          by_cases hi : a.Index < (s.Cells.length : Int)
          · obtain ⟨c, c1, c2⟩ := zbk (xs := s.Cells) (i := a.Index) (by omega) hi
            rw [if_pos (decide_eq_true hi), c2, Option.bind_some, c1, Option.any_some]
            by_cases h : c.Kind = 0 <;> simp [h]
          · rw [if_neg (by simpa using hi), z8t (by omega)]; rfl
        · rw [if_neg (by simpa using k1), if_neg k1]
          by_cases k2 : a.Kind = 2
          · rw [if_pos (by simp [k2]), if_pos k2]
            by_cases hi : a.Index < (s.Vars.length : Int)
            · obtain ⟨c, c1, c2⟩ := zbk (xs := s.Vars) (i := a.Index) (by omega) hi
              rw [if_pos (decide_eq_true hi), c2, Option.bind_some, c1, Option.any_some]
            · rw [if_neg (by simpa using hi), z8t (by omega)]; rfl
          · rw [if_neg (by simpa using k2), if_neg k2]

theorem zaG {g : D.Grid} {a : D.Address} (h : aliveN g a = true) : 0 ≤ a.Machine ∧ 0 ≤ a.Index ∧ ∃ s, g.Shards[a.Machine.toNat]? = some s ∧
    ((a.Kind = 1 ∧ ∃ c, s.Cells[a.Index.toNat]? = some c ∧ c.Kind ≠ 0) ∨ (a.Kind = 2 ∧ ∃ v, s.Vars[a.Index.toNat]? = some v ∧ v.Used = true)) := by
  unfold aliveN at h
  rw [Bool.and_eq_true, decide_eq_true_eq] at h
  obtain ⟨⟨h1, h2⟩, h3⟩ := h
  refine ⟨h1, h2, ?_⟩
  cases hs : g.Shards[a.Machine.toNat]? with
  | none => rw [hs] at h3; cases h3
  | some s =>
    rw [hs, Option.any_some] at h3
    refine ⟨s, rfl, ?_⟩
    by_cases k1 : a.Kind = 1
    · rw [if_pos k1] at h3
      cases hc : s.Cells[a.Index.toNat]? with
      | none => rw [hc] at h3; cases h3
      | some c => rw [hc, Option.any_some, decide_eq_true_eq] at h3; exact .inl ⟨k1, c, rfl, h3⟩
    · rw [if_neg k1] at h3
      by_cases k2 : a.Kind = 2
      · rw [if_pos k2] at h3
        cases hc : s.Vars[a.Index.toNat]? with
        | none => rw [hc] at h3; cases h3
        | some c => rw [hc, Option.any_some] at h3; exact .inr ⟨k2, c, rfl, h3⟩
      · rw [if_neg k2] at h3; cases h3
theorem z90 {fuel : Nat} {g : D.Grid} {more : List D.ShardCell} {L L' : D.l27Links} {at_ : List Int} {a : D.Address} (hI : Items g more L at_) (hc : L'.cells = L.cells) (hv : L'.vars = L.vars) (h : aliveN g a = true) :
    ∃ x : Nat, zG fuel L' a = some (x : Int) ∧ (allK g more)[x]? = some (keyA a) := by
  obtain ⟨h1, h2, s, hs, h3⟩ := zaG h
  have em : a.Machine = ((a.Machine.toNat : Nat) : Int) := by omega
  have ei : a.Index = ((a.Index.toNat : Nat) : Int) := by omega
  unfold zG keyA
  rcases h3 with ⟨k1, c, c1, c2⟩ | ⟨k2, v, v1, v2⟩
  · rw [if_pos (by simp [k1]), if_pos k1, hc]
    obtain ⟨row, r1, r2⟩ := hI.cell _ _ s c hs c1
    refine ⟨_, ?_, zdw (k := 0) hs c1 c2 (Nat.zero_le _)⟩
    rw [em, za r1, Option.bind_some, ei, za r2]
    rfl
  · have hi := (List.getElem?_eq_some_iff.1 v1).1
    rw [if_neg (by simp [k2]), if_neg (by omega), hv]
    obtain ⟨row, r1, r2⟩ := hI.var _ _ s hs hi
    refine ⟨_, ?_, zgb hs hi⟩
    rw [em, za r1, Option.bind_some, ei, za r2]
    rfl


def EndsOk (ks0 : List Key) (E : List (List Int)) (ks : List Key) : Prop := E.length = ks0.length ∧ ∀ (x : Nat) key, ks0[x]? = some key → ∃ e, E[x]? = some e ∧ e.length = ks.count key
theorem zgF {α : Type} {xs : List α} (h : xs.Nodup) {i j : Nat} {a : α} (hi : xs[i]? = some a) (hj : xs[j]? = some a) : i = j := by
  obtain ⟨h1, h2⟩ := List.getElem?_eq_some_iff.1 hi
  obtain ⟨h3, h4⟩ := List.getElem?_eq_some_iff.1 hj
  have hp := List.pairwise_iff_getElem.1 h
  rcases Nat.lt_trichotomy i j with hl | hl | hl
  · exact absurd (h2.trans h4.symm) (hp i j h1 h3 hl)
  · exact hl
  · exact absurd (h4.trans h2.symm) (hp j i h3 h1 hl)
theorem zcF {ks0 : List Key} (hn : ks0.Nodup) {E : List (List Int)} {ks : List Key} (h : EndsOk ks0 E ks) {x : Nat} {k : Key} (hx : ks0[x]? = some k) (n : Int) :
    ∃ e, E[x]? = some e ∧ e.length ≤ ks.length ∧ EndsOk ks0 (E.set x (e ++ [n])) (ks ++ [k]) := by
  obtain ⟨hl, he⟩ := h
  obtain ⟨e, e1, e2⟩ := he x k hx
  refine ⟨e, e1, by rw [e2]; exact List.count_le_length, by simp [hl], fun y key hy => ?_⟩
  obtain ⟨f, f1, f2⟩ := he y key hy
  by_cases hxy : x = y
  · subst hxy
    rw [hx] at hy
    cases hy
    have hlt := (List.getElem?_eq_some_iff.1 e1).1
    exact ⟨_, List.getElem?_set_self hlt, by simp [e2]⟩
  · refine ⟨f, by rw [List.getElem?_set_ne hxy]; exact f1, ?_⟩
    have hk : k ≠ key := fun e => hxy (zgF hn hx (by rw [e]; exact hy))
    rw [f2, List.count_append, List.count_singleton]
    simp [hk]

structure Run (g : D.Grid) (more : List D.ShardCell) (L L' : D.l27Links) (ks : List Key) : Prop where
  ports : L'.ports = L.ports
  cells : L'.cells = L.cells
  vars : L'.vars = L.vars
  ends : EndsOk (allK g more) L'.ends ks
  pairs : L'.pairs.length ≤ ks.length
theorem z8R {fuel : Nat} {g : D.Grid} {more : List D.ShardCell} {L L' : D.l27Links} {ks : List Key} {x y : Nat} {k1 k2 : Key} (hR : Run g more L L' ks) (hx : (allK g more)[x]? = some k1) (hy : (allK g more)[y]? = some k2) (hb : ks.length ≤ 1000000) :
    ∃ L'', zB fuel L' (x : Int) (y : Int) = some L'' ∧ Run g more L L'' (ks ++ [k1, k2]) := by
  obtain ⟨e, e1, e2, e3⟩ := zcF zbo hR.ends hx (L'.pairs.length : Int)
  obtain ⟨f, f1, f2, f3⟩ := zcF zbo e3 hy (L'.pairs.length : Int)
  have hp := hR.pairs
  rw [List.length_append, List.length_singleton] at f2
  unfold zB
  rw [if_pos (by simp only [List.length_singleton, decide_eq_true_eq]; omega), za e1, Option.bind_some, if_pos (by simp only [List.length_singleton, decide_eq_true_eq]; omega)]
  unfold z2k
  rw [Int.toNat_natCast, za f1, Option.bind_some, if_pos (by simp only [List.length_singleton, decide_eq_true_eq]; omega), Int.toNat_natCast]
  refine ⟨_, rfl, hR.ports, hR.cells, hR.vars, ?_, ?_⟩
  · rw [List.append_assoc] at f3
    exact f3
  · simp only [List.length_append, List.length_cons, List.length_nil]
    omega


theorem tryLoop {α S τ ρ : Type} {xs : List α} {body : S → Option (Rd S τ ρ)} (J : Nat → S → Prop) (p : Nat → α → Bool) (QT : τ → Prop) (QR : ρ → Prop) {s0 : S} {fuel : Nat} (hl : xs.length ≤ 1048576) (hf : 18446744073709551616 ≤ fuel)
    (step : ∀ (i : Nat) x s, xs[i]? = some x → J i s → (p i x = true → ∃ s', body s = some (.next s') ∧ J (i + 1) s') ∧ (p i x = false → ∃ r, body s = some (.ret r) ∧ QR r))
    (last : ∀ s, J xs.length s → ∃ t, body s = some (.brk t) ∧ QT t) (h0 : J 0 s0) :
    ((xs.zipIdx.all fun y => p y.2 y.1) = true ∧ ∃ t, iter body fuel s0 = some (.inl t) ∧ QT t) ∨ ((xs.zipIdx.all fun y => p y.2 y.1) = false ∧ ∃ r, iter body fuel s0 = some (.inr r) ∧ QR r) := by
  obtain ⟨o, h1, h2⟩ := z1E (body := body) (fun i s => J i s ∧ ∀ (j : Nat) x, j < i → xs[j]? = some x → p j x = true) xs.length (fun o => ((xs.zipIdx.all fun y => p y.2 y.1) = true ∧ ∃ t, o = .inl t ∧ QT t) ∨ ((xs.zipIdx.all fun y => p y.2 y.1) = false ∧ ∃ r, o = .inr r ∧ QR r)) (by
    rintro i s hi ⟨hJ, hp⟩
    obtain ⟨x, hx⟩ := z52 hi
    obtain ⟨g1, g2⟩ := step i x s hx hJ
    cases hpx : p i x with
    | true =>
      obtain ⟨s', e1, e2⟩ := g1 hpx
      refine .inl ⟨s', e1, e2, fun j y hj hy => ?_⟩
      by_cases hji : j < i
      · exact hp j y hji hy
      · obtain rfl : j = i := by omega
        rw [hx] at hy; cases hy; exact hpx
    | false =>
      obtain ⟨r, e1, e2⟩ := g2 hpx
      refine .inr (.inl ⟨r, e1, .inr ⟨?_, r, rfl, e2⟩⟩)
      cases hz : (xs.zipIdx.all fun y => p y.2 y.1) with
      | false => rfl
      | true =>
        have := z64.1 hz i x hx
        rw [Nat.zero_add, hpx] at this
        cases this) (by
    rintro s ⟨hJ, hp⟩
    obtain ⟨t, e1, e2⟩ := last s hJ
    refine .inr ⟨t, e1, .inl ⟨?_, t, rfl, e2⟩⟩
    refine z64.2 fun i x hx => ?_
    rw [Nat.zero_add]
    exact hp i x (List.getElem?_eq_some_iff.1 hx).1 hx) (fuel := fuel) (i := 0) (s := s0) (Nat.zero_le _) (by omega) ⟨h0, fun j x hj _ => absurd hj (Nat.not_lt_zero _)⟩
  rw [h1]
  rcases h2 with ⟨a, t, rfl, b⟩ | ⟨a, r, rfl, b⟩
  · exact .inl ⟨a, t, rfl, b⟩
  · exact .inr ⟨a, r, rfl, b⟩

def fl {α β : Type} (f : Nat → α → List β) (xs : List α) (i : Nat) : List β := (xs.take i).zipIdx.flatMap fun x => f x.2 x.1
theorem z6Q {α β : Type} {f : Nat → α → List β} {xs : List α} : fl f xs 0 = [] := by simp [fl]
theorem z6B {α β : Type} {f : Nat → α → List β} {xs : List α} {i : Nat} {x : α} (h : xs[i]? = some x) : fl f xs (i + 1) = fl f xs i ++ f i x := by
  unfold fl
  rw [z8M h, List.flatMap_append]
  simp
theorem z6C {α β : Type} {f : Nat → α → List β} {xs : List α} {b : Nat} (h : ∀ i x, xs[i]? = some x → (f i x).length ≤ b) : ∀ i, i ≤ xs.length → (fl f xs i).length ≤ b * i
  | 0, _ => by simp [z6Q]
  | i + 1, hi => by
    obtain ⟨x, hx⟩ := z52 (xs := xs) (i := i) (by omega)
    rw [z6B hx, List.length_append, Nat.mul_succ]
    have := z6C h i (by omega)
    have := h i x hx
    omega
def auxK (t m i k : Nat) (a : D.Address) : List Key := [(t, m, i, k + 1), keyA a]
def redK (_ : Nat) (r : D.ShardRedex) : List Key := [keyA r.A, keyA r.B]
def fullK (m i : Nat) (v : D.ShardVar) : List Key := if v.Full = true then [(2, m, i, 0), keyA v.Held] else []
def cellS (t m i : Nat) (c : D.ShardCell) : List Key := fl (auxK t m i) c.Aux c.Aux.length
def shardS (m : Nat) (s : D.Shard) : List Key := fl (cellS 1 m) s.Cells s.Cells.length ++ (fl redK s.Redexes s.Redexes.length ++ fl (fullK m) s.Vars s.Vars.length)
def rootS (g : D.Grid) : List Key := [(0, 0, 0, 0), keyA g.Root]
def gridS (g : D.Grid) : List Key := rootS g ++ fl shardS g.Shards g.Shards.length
def fullA (g : D.Grid) (m i : Nat) (v : D.ShardVar) : Bool := !v.Full || (aliveN g ⟨m, 2, i⟩ && aliveN g v.Held)
def shardA (g : D.Grid) (m : Nat) (s : D.Shard) : Bool := (s.Cells.all fun c => c.Aux.all (aliveN g)) && ((s.Redexes.all fun r => aliveN g r.A && aliveN g r.B) && s.Vars.zipIdx.all fun x => fullA g m x.2 x.1)
def gridA (g : D.Grid) : Bool := aliveN g g.Root && g.Shards.zipIdx.all fun x => shardA g x.2 x.1
theorem zbS {t m i : Nat} {c : D.ShardCell} (h : c.Aux.length ≤ 3) : (cellS t m i c).length ≤ 6 := by
  have := z6C (f := auxK t m i) (xs := c.Aux) (b := 2) (fun _ _ _ => by simp [auxK]) c.Aux.length (Nat.le_refl _)
  unfold cellS
  omega
theorem zg9 {fuel : Nat} {g : D.Grid} {more : List D.ShardCell} {L L' : D.l27Links} {at_ : List Int} {ks : List Key} {c : D.ShardCell} {b t m i : Nat} (hf : 18446744073709551616 ≤ fuel) (hs : g.sz ≤ 1048576) (hI : Items g more L at_) (hR : Run g more L L' ks) (hc : c.Aux.length ≤ 3) (hks : ks.length ≤ 900000)
    (hb : b ≤ 1000000) (hk : ∀ k, k < c.Aux.length → (allK g more)[b + k + 1]? = some (t, m, i, k + 1)) :
    ∃ L'', z1A fuel L' g c (b : Int) = some (c.Aux.all (aliveN g), L'') ∧ (c.Aux.all (aliveN g) = true → Run g more L L'' (ks ++ cellS t m i c)) := by
  unfold z1A
  have h := tryLoop (xs := c.Aux) (body := z1Z fuel g c (b : Int)) (fuel := fuel)
    (fun k st => ∃ M : D.l27Links, st = ((k : Int), M.agents, M.ports, M.cells, M.vars, M.ends, M.pairs) ∧ Run g more L M (ks ++ fl (auxK t m i) c.Aux k))
    (fun _ a => aliveN g a)
    (fun tt => ∃ M : D.l27Links, tt = (M.agents, M.ports, M.cells, M.vars, M.ends, M.pairs) ∧ Run g more L M (ks ++ cellS t m i c))
    (fun r => ∃ M : D.l27Links, r = (false, M)) (s0 := (0, L'.agents, L'.ports, L'.cells, L'.vars, L'.ends, L'.pairs)) (by omega) hf (by
    rintro k a _ ha ⟨M, rfl, hM⟩
    have hkl := (List.getElem?_eq_some_iff.1 ha).1
    have hfl := z6C (f := auxK t m i) (xs := c.Aux) (b := 2) (fun _ _ _ => by simp [auxK]) k (by omega)
    unfold z1Z
    dsimp only
    rw [if_pos (by simpa using hkl), za ha, Option.bind_some, z7J hs, Option.bind_some]
    constructor
    · intro hal
      rw [hal]
      obtain ⟨y, y1, y2⟩ := z90 (fuel := fuel) (L' := M) hI hM.cells hM.vars hal
      obtain ⟨M', e1, e2⟩ := z8R (fuel := fuel) hM (hk k hkl) y2 (by rw [List.length_append]; omega)
      refine ⟨(w64 (k + 1), M'.agents, M'.ports, M'.cells, M'.vars, M'.ends, M'.pairs), ?_, M', ?_, ?_⟩
      · rw [if_neg (by simp), Option.bind_some]
        have y1' : zG fuel ⟨M.agents, M.ports, M.cells, M.vars, M.ends, M.pairs⟩ a = some (y : Int) := y1
        have e1' : zB fuel ⟨M.agents, M.ports, M.cells, M.vars, M.ends, M.pairs⟩ ((b + k + 1 : Nat) : Int) (y : Int) = some M' := e1
        rw [y1', Option.bind_some, zd (n := (b : Int) + k) (by omega) (by omega), zd (by omega) (by omega), show (b : Int) + (k : Int) + 1 = ((b + k + 1 : Nat) : Int) by omega, e1', Option.bind_some]
      · rw [zd (by omega) (by omega)]; rfl
      · rw [z6B ha, ← List.append_assoc]; exact e2
    · intro hal
      rw [hal]
      exact ⟨_, rfl, M, rfl⟩) (by
    rintro _ ⟨M, rfl, hM⟩
    refine ⟨_, ?_, M, rfl, hM⟩
    unfold z1Z
    rw [if_neg (by simp)]) ⟨L', rfl, by rw [z6Q, List.append_nil]; exact hR⟩
  rw [z5v (p := aliveN g)] at h
  rcases h with ⟨h1, tt, h2, M, rfl, h3⟩ | ⟨h1, r, h2, M, rfl⟩
  · rw [h2, Option.bind_some, z8, h1]
    exact ⟨M, rfl, fun _ => h3⟩
  · rw [h2, Option.bind_some, h1]
    exact ⟨M, rfl, fun h => by cases h⟩
theorem zbC {fuel : Nat} {g : D.Grid} {more : List D.ShardCell} {L L' : D.l27Links} {at_ : List Int} {ks : List Key} {a b : D.Address} (hs : g.sz ≤ 1048576) (hI : Items g more L at_) (hR : Run g more L L' ks) (hks : ks.length ≤ 900000) :
    ∃ L'', zV fuel L' g a b = some (aliveN g a && aliveN g b, L'') ∧ ((aliveN g a && aliveN g b) = true → Run g more L L'' (ks ++ [keyA a, keyA b])) := by
  unfold zV
  rw [z7J hs, z7J hs, Option.bind_some, Option.bind_some]
  unfold z1L
  cases ha : aliveN g a with
  | false => exact ⟨_, rfl, fun h => by cases h⟩
  | true =>
    cases hb : aliveN g b with
    | false => exact ⟨_, rfl, fun h => by cases h⟩
    | true =>
      obtain ⟨x, x1, x2⟩ := z90 (fuel := fuel) (L' := L') hI hR.cells hR.vars ha
      obtain ⟨y, y1, y2⟩ := z90 (fuel := fuel) (L' := L') hI hR.cells hR.vars hb
      obtain ⟨M, e1, e2⟩ := z8R (fuel := fuel) hR x2 y2 (by omega)
      rw [if_neg (by simp), if_neg (by simp), x1, Option.bind_some, y1, Option.bind_some, e1, Option.bind_some]
      exact ⟨M, rfl, fun _ => e2⟩
end Go.E

