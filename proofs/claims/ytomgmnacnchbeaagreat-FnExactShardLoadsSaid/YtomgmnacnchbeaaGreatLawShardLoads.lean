/- ShardLoads: the plain law. Conditions: none but the argument's own size. -/
import Derived.Test.YtomgmnacnchbeaaGreatMarksS
import Derived.Test.YtomgmnacnchbeaaGreatGridSame
namespace Go.E
open Go.RowKit Go.Proofs
set_option linter.unusedSimpArgs false
set_option linter.unusedVariables false

theorem zey {α : Type} {f : α → Nat} {b : Nat} : ∀ {xs : List α}, (∀ x, x ∈ xs → f x ≤ b) → sumL f xs ≤ b * xs.length
  | [], _ => Nat.le_refl _
  | x :: xs, h => by
    have h1 := h x (by simp)
    have h2 := zey (xs := xs) fun y hy => h y (List.mem_cons_of_mem _ hy)
    simp only [sumL, List.length_cons, Nat.mul_succ]
    omega
theorem zeU {α : Type} {f : α → Nat} {xs : List α} (i : Nat) : sumL f (xs.take i) ≤ sumL f xs := by
  have := z5z (f := f) (xs := xs.take i) (ys := xs.drop i)
  rw [List.take_append_drop] at this
  omega
def usedC (c : D.ShardCell) : Nat := if c.Kind = 0 then 0 else 1
def usedV (v : D.ShardVar) : Nat := if v.Used = true then 1 else 0
theorem zaV {c : D.ShardCell} : usedC c ≤ 1 := by unfold usedC; split <;> omega
theorem zaU {v : D.ShardVar} : usedV v ≤ 1 := by unfold usedV; split <;> omega
theorem zdt {fuel : Nat} {c : D.ShardCell} : z2h fuel (c.Kind != 0) = some ((usedC c : Nat) : Int) := by
  unfold z2h usedC
  by_cases h : c.Kind = 0 <;> simp [h]
theorem zbH {fuel : Nat} {c : D.ShardCell} : z3F fuel (c.Kind != 0) = some ((usedC c : Nat) : Int) := by
  unfold z3F usedC
  by_cases h : c.Kind = 0 <;> simp [h]
theorem zdC {fuel : Nat} {v : D.ShardVar} : z2h fuel v.Used = some ((usedV v : Nat) : Int) := by
  unfold z2h usedV
  cases v.Used <;> simp
theorem zbR {fuel : Nat} {v : D.ShardVar} : z3F fuel v.Used = some ((usedV v : Nat) : Int) := by
  unfold z3F usedV
  cases v.Used <;> simp
def loadL (s : D.Shard) : List Int := [((sumL usedC s.Cells : Nat) : Int), ((sumL usedV s.Vars : Nat) : Int), (s.Redexes.length : Int)]
theorem z8R {ρ : Type} {fuel : Nat} {xs : List D.ShardCell} {body : Int × Int → Option (Rd (Int × Int) Int ρ)} (hf : 18446744073709551616 ≤ fuel) (hl : xs.length ≤ 400)
    (step : ∀ (i : Nat) c (n : Int), xs[i]? = some c → body (n, (i : Int)) = some (.next (w64 (n + (usedC c : Nat)), w64 ((i : Int) + 1)))) (last : ∀ n, body (n, (xs.length : Int)) = some (.brk n)) :
    iter body fuel (0, 0) = some (.inl ((sumL usedC xs : Nat) : Int)) := by
  have hb := zey (f := usedC) (b := 1) (xs := xs) fun _ _ => zaV
  have e := sumLoop (xs := xs) (body := body) (mk := fun i c => (c, i)) (out := fun c => c) (f := usedC) (c0 := 0) (by omega) hf (fun i c hc => by
    have ht := zeU (f := usedC) (xs := xs) i
    have ho := zaV (c := c)
    try dsimp only
    rw [step i c _ hc, ze (n := 0 + _ + _) (by omega) (by omega)]) (fun c => last c)
  rw [Int.zero_add] at e
  exact e
theorem z9o {ρ : Type} {fuel : Nat} {xs : List D.ShardVar} {body : Int × Int → Option (Rd (Int × Int) Int ρ)} (hf : 18446744073709551616 ≤ fuel) (hl : xs.length ≤ 400)
    (step : ∀ (i : Nat) c (n : Int), xs[i]? = some c → body (n, (i : Int)) = some (.next (w64 (n + (usedV c : Nat)), w64 ((i : Int) + 1)))) (last : ∀ n, body (n, (xs.length : Int)) = some (.brk n)) :
    iter body fuel (0, 0) = some (.inl ((sumL usedV xs : Nat) : Int)) := by
  have hb := zey (f := usedV) (b := 1) (xs := xs) fun _ _ => zaU
  have e := sumLoop (xs := xs) (body := body) (mk := fun i c => (c, i)) (out := fun c => c) (f := usedV) (c0 := 0) (by omega) hf (fun i c hc => by
    have ht := zeU (f := usedV) (xs := xs) i
    have ho := zaU (v := c)
    try dsimp only
    rw [step i c _ hc, ze (n := 0 + _ + _) (by omega) (by omega)]) (fun c => last c)
  rw [Int.zero_add] at e
  exact e
theorem zcf {fuel : Nat} {s : D.Shard} (hf : 18446744073709551616 ≤ fuel) (h1 : s.Cells.length ≤ 400) (h2 : s.Vars.length ≤ 400) : z4n fuel s = some (loadL s) := by
  unfold z4n
  rw [z8R (xs := s.Cells) hf h1 (fun i c n hc => by
    have hil := (List.getElem?_eq_some_iff.1 hc).1
    unfold z4g
    dsimp only
    rw [if_pos (by simpa using hil), zf hc, Option.bind_some, zdt, Option.bind_some]) (fun n => by unfold z4g; rw [if_neg (by simp)]), Option.bind_some, z5]
  unfold z58
  rw [z9o (xs := s.Vars) hf h2 (fun i c n hc => by
    have hil := (List.getElem?_eq_some_iff.1 hc).1
    unfold z4f
    dsimp only
    rw [if_pos (by simpa using hil), zf hc, Option.bind_some, zdC, Option.bind_some]) (fun n => by unfold z4f; rw [if_neg (by simp)]), Option.bind_some, z5]
  rfl
theorem z8r {fuel : Nat} {x : D.Grid} (hf : 18446744073709551616 ≤ fuel) (hs : x.sz ≤ 1048576) : ∃ r : List Int × Int, z3n fuel x = some r ∧ z2p fuel x = some r ∧ r.1.length ≤ 1048576 := by
  unfold z3n z2p
  rw [ze0 hf hs, zcn hf hs, ← zcm, Option.bind_some, Option.bind_some]
  cases hp : piecesN x with
  | false => exact ⟨_, rfl, rfl, by simp⟩
  | true =>
    have hS := z9w hs hp
    have hn := hS.n
    rw [Bool.true_and]
    cases (gridA x && countsN x [] (gridS x)) with
    | false => exact ⟨_, rfl, rfl, by simp⟩
    | true =>
      rw [if_neg (by simp), if_neg (by simp)]
      have e1 := addLoop (xs := x.Shards) (body := z1W fuel x) (mk := fun k s => (k, s)) (out := fun s => s) (fun _ s => loadL s) (s0 := []) (fuel := fuel) (by omega) hf (fun i s hm => by
        obtain ⟨a1, a2, a3, a4, a5⟩ := hS.s s (List.mem_of_getElem? hm)
        have hil := (List.getElem?_eq_some_iff.1 hm).1
        have hfl := z5H (f := fun _ s => loadL s) (xs := x.Shards) (b := 3) (fun j c hc => by simp [loadL]) i (by omega)
        rw [List.nil_append]
        generalize fl (fun _ s => loadL s) x.Shards i = t at hfl ⊢
        unfold z1W
        dsimp only
        rw [if_pos (by simpa using hil), zf hm, Option.bind_some, zcf hf a1 a2, Option.bind_some, if_pos (by unfold loadL; simp only [decide_eq_true_eq, List.length_cons, List.length_nil]; omega)]) (by unfold z1W; rw [if_neg (by simp)])
      have e2 := addLoop (xs := x.Shards) (body := z2b fuel x) (mk := fun k s => (s, k)) (out := fun s => s) (fun _ s => loadL s) (s0 := []) (fuel := fuel) (by omega) hf (fun i s hm => by
        obtain ⟨a1, a2, a3, a4, a5⟩ := hS.s s (List.mem_of_getElem? hm)
        have hil := (List.getElem?_eq_some_iff.1 hm).1
        have hfl := z5H (f := fun _ s => loadL s) (xs := x.Shards) (b := 3) (fun j c hc => by simp [loadL]) i (by omega)
        rw [List.nil_append]
        generalize fl (fun _ s => loadL s) x.Shards i = t at hfl ⊢
        unfold z2b
        dsimp only
        rw [if_pos (by simpa using hil), zf hm, Option.bind_some, z8R (xs := s.Cells) hf a1 (fun i c n hc => by
          have hil := (List.getElem?_eq_some_iff.1 hc).1
          unfold z3k
          dsimp only
          rw [if_pos (by simpa using hil), zf hc, Option.bind_some, zbH, Option.bind_some]) (fun n => by unfold z3k; rw [if_neg (by simp)]), Option.bind_some, z5]
        unfold z4k
        rw [z9o (xs := s.Vars) hf a2 (fun i c n hc => by
          have hil := (List.getElem?_eq_some_iff.1 hc).1
          unfold z3j
          dsimp only
          rw [if_pos (by simpa using hil), zf hc, Option.bind_some, zbR, Option.bind_some]) (fun n => by unfold z3j; rw [if_neg (by simp)]), Option.bind_some, z5]
        unfold z4j
        dsimp only
        rw [if_pos (by simp only [decide_eq_true_eq, List.length_cons, List.length_nil]; omega)]
        rfl) (by unfold z2b; rw [if_neg (by simp)])
      have hfl := z5H (f := fun _ s => loadL s) (xs := x.Shards) (b := 3) (fun j c hc => by simp [loadL]) x.Shards.length (Nat.le_refl _)
      rw [List.nil_append] at e1 e2
      try dsimp only at e1
      try dsimp only at e2
      rw [e1, e2, Option.bind_some, Option.bind_some, z5, z5]
      exact ⟨_, rfl, rfl, by dsimp only; omega⟩

theorem lawShardLoads {x0 : D.Grid} (h0 : D.Grid.wf x0) : ∃ fuel, z1P fuel x0 = some true := by
  obtain ⟨fuel, hf⟩ : ∃ n : Nat, 18446744073709551616 ≤ n := ⟨_, Nat.le_refl _⟩
  refine ⟨fuel, ?_⟩
  unfold z1P
  obtain ⟨r0, e0, s0⟩ := zaD (l := (1048576 : Int)) hf h0 (by decide) (by omega)
  rw [e0, Option.bind_some]
  rcases s0 with s0 | ⟨s0, t0⟩
  · rw [if_pos (by simp [s0])]
  rw [if_neg (by simp [s0])]
  have z0 : D.Grid.sz x0 ≤ 1048576 := by omega
  obtain ⟨r, a0, a1, b0⟩ := z8r hf z0
  have m0 := fun {β : Type} (g : _ → Option β) => z6B (g := g) a0
  have m1 := fun {β : Type} (g : _ → Option β) => z6B (g := g) a1
  have m2 := fun {β : Type} (g : _ → Option β) => z6B (g := g) (zaC hf z0)
  have m3 := fun {β : Type} (g : _ → Option β) => z6B (g := g) (zaN hf z0)
  have m4 := fun {β : Type} (g : _ → Option β) (k : Int) (h0 : 0 ≤ k) (h1 : k + (ctGrid x0 : Nat) ≤ 2147483648) => z6B (g := g) (z9B hf z0 h0 h1)
  have c0 := zdp (x := x0)
  have m5 := fun {β : Type} (g : _ → Option β) => z6B (g := g) (z7p hf b0)
  have m6 := fun {β : Type} (g : _ → Option β) (k : Int) (h0 : 0 ≤ k) (h1 : k + (z5w r.1 : Nat) ≤ 2147483648) => z6B (g := g) (z6s hf b0 h0 h1)
  have m7 := fun {β : Type} (g : _ → Option β) (k : Int) (h0 : 0 ≤ k) (h1 : k + (z5w r.1 : Nat) ≤ 2147483648) => z6B (g := g) (z8F hf b0 h0 h1)
  have d0 := z8P (xs := r.1)
  simp (disch := omega) only [↓reduceIte, ↓m0, ↓m1, ↓m2, ↓m3, ↓m4, ↓m5, ↓m6, ↓m7, lt_f, Bool.not_true, Bool.false_eq_true, bne_self_eq_false]
  simp (disch := omega) only [↓reduceIte, ↓zL, ↓m0, ↓m1, ↓m2, ↓m3, ↓m4, ↓m5, ↓m6, ↓m7, lt_f, Bool.not_true, Bool.false_eq_true, bne_self_eq_false]
  simp (disch := omega) only [↓reduceIte, ↓zA, ↓m0, ↓m1, ↓m2, ↓m3, ↓m4, ↓m5, ↓m6, ↓m7, lt_f, Bool.not_true, Bool.false_eq_true, bne_self_eq_false]
  simp (disch := omega) only [↓reduceIte, ↓zK, ↓m0, ↓m1, ↓m2, ↓m3, ↓m4, ↓m5, ↓m6, ↓m7, lt_f, Bool.not_true, Bool.false_eq_true, bne_self_eq_false]
end Go.E

