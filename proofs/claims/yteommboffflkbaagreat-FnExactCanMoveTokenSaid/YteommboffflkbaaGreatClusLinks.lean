/- Grids: the program's statements and its counts of names. Conditions: the grid's parts are well formed. -/
import Derived.Test.YteommboffflkbaaGreatGridAll
namespace Go.E
open Go.RowKit Go.Proofs
set_option linter.unusedSimpArgs false
set_option linter.unusedVariables false

def thA (a : D.Address) : D.thing := ⟨a, 0, false⟩
def auxT (m i k : Nat) (a : D.Address) : List D.statement := [⟨⟨⟨(m : Int), 1, (i : Int)⟩, (k : Int) + 1, true⟩, thA a⟩]
def redT (_ : Nat) (r : D.ShardRedex) : List D.statement := [⟨thA r.A, thA r.B⟩]
def fullT (m i : Nat) (v : D.ShardVar) : List D.statement := if v.Full = true then [⟨thA ⟨(m : Int), 2, (i : Int)⟩, thA v.Held⟩] else []
def cellT (m i : Nat) (c : D.ShardCell) : List D.statement := fl (auxT m i) c.Aux c.Aux.length
def shardT (m : Nat) (s : D.Shard) : List D.statement := fl (cellT m) s.Cells s.Cells.length ++ (fl redT s.Redexes s.Redexes.length ++ fl (fullT m) s.Vars s.Vars.length)
def rootT (g : D.Grid) : List D.statement := [⟨⟨noneN, 0, true⟩, thA g.Root⟩]
def gridT (g : D.Grid) : List D.statement := rootT g ++ fl shardT g.Shards g.Shards.length

theorem addLoop {α S τ ρ β : Type} {xs : List α} {body : S → Option (Rd S τ ρ)} {mk : Int → List β → S} {out : List β → τ} (f : Nat → α → List β) {s0 : List β} {fuel : Nat} (hl : xs.length ≤ 1048576) (hf : 18446744073709551616 ≤ fuel)
    (step : ∀ (i : Nat) x, xs[i]? = some x → body (mk i (s0 ++ fl f xs i)) = some (.next (mk (w64 (i + 1)) (s0 ++ fl f xs i ++ f i x))))
    (last : body (mk xs.length (s0 ++ fl f xs xs.length)) = some (.brk (out (s0 ++ fl f xs xs.length)))) :
    iter body fuel (mk 0 s0) = some (.inl (out (s0 ++ fl f xs xs.length))) := by
  obtain ⟨o, h1, h2⟩ := z12 (body := body) (fun k s => s = mk k (s0 ++ fl f xs k)) xs.length (fun o => o = .inl (out (s0 ++ fl f xs xs.length))) (by
    rintro k s hk rfl
    obtain ⟨x, hx⟩ := z4a hk
    refine .inl ⟨_, step k x hx, ?_⟩
    rw [z9 (by omega) (by omega), z8W hx, List.append_assoc]
    rfl) (by
    rintro s rfl
    exact .inr ⟨_, last, rfl⟩) (fuel := fuel) (i := 0) (s := mk 0 s0) (Nat.zero_le _) (by omega) (by rw [z9m, List.append_nil]; rfl)
  rw [h1, h2]
theorem znL {fuel : Nat} {m i : Nat} {aux : List D.Address} (hf : 18446744073709551616 ≤ fuel) (hl : aux.length ≤ 3) : z1s fuel ⟨(m : Int), 1, (i : Int)⟩ aux = some (fl (auxT m i) aux aux.length) := by
  unfold z1s
  have h := addLoop (xs := aux) (body := zY fuel ⟨(m : Int), 1, (i : Int)⟩ aux) (mk := fun k s => (s, k)) (out := fun s => s) (auxT m i) (s0 := []) (by omega) hf (fun k a ha => by
    have hkl := (List.getElem?_eq_some_iff.1 ha).1
    have hfl := z8G (f := auxT m i) (xs := aux) (b := 1) (fun _ _ _ => by simp [auxT]) k (by omega)
    rw [List.nil_append]
    generalize fl (auxT m i) aux k = s at hfl ⊢
    unfold zY z6k
    dsimp only
    have hw : w64 ((k : Int) + 1) = (k : Int) + 1 := z9 (by omega) (by omega)
    rw [if_pos (by simpa using hkl), za ha, Option.bind_some, hw, if_pos (decide_eq_true (by omega)), Option.bind_some, if_pos (by simp; omega)]
    unfold z2t
    dsimp only
    rw [hw]
    rfl) (by
    unfold zY
    rw [if_neg (by simp)])
  rw [h, Option.bind_some, z8]
  rfl
theorem zfZ {m i : Nat} {c : D.ShardCell} (h : c.Aux.length ≤ 3) : (cellT m i c).length ≤ 3 := by
  have := z8G (f := auxT m i) (xs := c.Aux) (b := 1) (fun _ _ _ => by simp [auxT]) c.Aux.length (Nat.le_refl _)
  unfold cellT
  omega
theorem zgh {g : D.Grid} {m : Nat} {s : D.Shard} (hS : Small g) (hm : g.Shards[m]? = some s) : (shardT m s).length ≤ 2000 := by
  obtain ⟨a1, a2, a3, a4, a5⟩ := hS.s s (List.mem_of_getElem? hm)
  unfold shardT
  rw [List.length_append, List.length_append]
  have := z8G (f := cellT m) (xs := s.Cells) (b := 3) (fun j c hc => zfZ (a4 c (List.mem_of_getElem? hc)).2.1) s.Cells.length (Nat.le_refl _)
  have := z8G (f := redT) (xs := s.Redexes) (b := 1) (fun j c hc => by simp [redT]) s.Redexes.length (Nat.le_refl _)
  have := z8G (f := fullT m) (xs := s.Vars) (b := 1) (fun j c hc => by unfold fullT; split <;> simp) s.Vars.length (Nat.le_refl _)
  omega
theorem zeM {fuel : Nat} {g : D.Grid} (hf : 18446744073709551616 ≤ fuel) (hS : Small g) : z2L fuel g = some (gridT g) := by
  have hn := hS.n
  unfold z2L z6k
  rw [if_neg (by simp), Option.bind_some]
  have h := addLoop (xs := g.Shards) (body := z11 fuel g) (mk := fun k s => (k, s)) (out := fun s => s) shardT (s0 := rootT g) (fuel := fuel) (by omega) hf (fun m s hm => by
    obtain ⟨a1, a2, a3, a4, a5⟩ := hS.s s (List.mem_of_getElem? hm)
    have hml := (List.getElem?_eq_some_iff.1 hm).1
    have hfl := z8G (f := shardT) (xs := g.Shards) (b := 2000) (fun j c hc => zgh hS hc) m (by omega)
    have hk0 : (rootT g ++ fl shardT g.Shards m).length ≤ 100000 := by rw [List.length_append]; unfold rootT; simp only [List.length_cons, List.length_nil]; omega
    generalize rootT g ++ fl shardT g.Shards m = s0 at hk0 ⊢
    unfold z11
    dsimp only
    rw [if_pos (by simpa using hml), za hm, Option.bind_some]
    have h1 := addLoop (xs := s.Cells) (body := z1Q fuel ((m : Int), s0) s) (mk := fun k s => (k, s)) (out := fun s => s) (cellT m) (s0 := s0) (fuel := fuel) (by omega) hf (fun i c hc => by
      have hil := (List.getElem?_eq_some_iff.1 hc).1
      have c2 := (a4 c (List.mem_of_getElem? hc)).2.1
      have hfl := z8G (f := cellT m) (xs := s.Cells) (b := 3) (fun j c hc => zfZ (a4 c (List.mem_of_getElem? hc)).2.1) i (by omega)
      have hcl := zfZ (m := m) (i := i) c2
      have hk1 : (s0 ++ fl (cellT m) s.Cells i).length ≤ 200000 := by rw [List.length_append]; omega
      generalize s0 ++ fl (cellT m) s.Cells i = s1 at hk1 ⊢
      unfold z1Q z3p
      dsimp only
      rw [if_pos (by simpa using hil), za hc, Option.bind_some, Option.bind_some, znL hf c2, Option.bind_some, if_pos (by unfold cellT at hcl; simp only [decide_eq_true_eq]; omega)]
      rfl) (by
      unfold z1Q
      rw [if_neg (by simp)])
    try dsimp only at h1
    rw [h1, Option.bind_some, z8]
    have hl1 := z8G (f := cellT m) (xs := s.Cells) (b := 3) (fun j c hc => zfZ (a4 c (List.mem_of_getElem? hc)).2.1) s.Cells.length (Nat.le_refl _)
    have hk1 : (s0 ++ fl (cellT m) s.Cells s.Cells.length).length ≤ 200000 := by rw [List.length_append]; omega
    unfold shardT
    rw [← List.append_assoc, ← List.append_assoc]
    generalize s0 ++ fl (cellT m) s.Cells s.Cells.length = s1 at hk1 ⊢
    unfold z5o
    try dsimp only
    have h2 := addLoop (xs := s.Redexes) (body := z1P fuel s) (mk := fun k s => (k, s)) (out := fun s => s) redT (s0 := s1) (fuel := fuel) (by omega) hf (fun i c hc => by
      have hil := (List.getElem?_eq_some_iff.1 hc).1
      have hfl := z8G (f := redT) (xs := s.Redexes) (b := 1) (fun j c hc => by simp [redT]) i (by omega)
      have hk2 : (s1 ++ fl redT s.Redexes i).length ≤ 300000 := by rw [List.length_append]; omega
      generalize s1 ++ fl redT s.Redexes i = s2 at hk2 ⊢
      unfold z1P
      dsimp only
      rw [if_pos (by simpa using hil), za hc, Option.bind_some, if_pos (by simp; omega)]
      rfl) (by
      unfold z1P
      rw [if_neg (by simp)])
    try dsimp only at h2
    rw [h2, Option.bind_some, z8]
    have hl2 := z8G (f := redT) (xs := s.Redexes) (b := 1) (fun j c hc => by simp [redT]) s.Redexes.length (Nat.le_refl _)
    have hk2 : (s1 ++ fl redT s.Redexes s.Redexes.length).length ≤ 300000 := by rw [List.length_append]; omega
    generalize s1 ++ fl redT s.Redexes s.Redexes.length = s2 at hk2 ⊢
    unfold z5n
    have h3 := addLoop (xs := s.Vars) (body := z1O fuel ((m : Int), s0) s) (mk := fun k s => (k, s)) (out := fun s => s) (fullT m) (s0 := s2) (fuel := fuel) (by omega) hf (fun i c hc => by
      have hil := (List.getElem?_eq_some_iff.1 hc).1
      have hfl := z8G (f := fullT m) (xs := s.Vars) (b := 1) (fun j c hc => by unfold fullT; split <;> simp) i (by omega)
      have hk3 : (s2 ++ fl (fullT m) s.Vars i).length ≤ 400000 := by rw [List.length_append]; omega
      generalize s2 ++ fl (fullT m) s.Vars i = s3 at hk3 ⊢
      unfold z1O z47 fullT z2X z1N
      dsimp only
      rw [if_pos (by simpa using hil), za hc, Option.bind_some]
      cases c.Full with
      | false => rw [if_neg (by simp), if_neg (by simp), List.append_nil]
      | true =>
        rw [if_pos rfl, if_pos rfl, Option.bind_some, if_pos (by simp; omega)]
        rfl) (by
      unfold z1O
      rw [if_neg (by simp)])
    try dsimp only at h3
    rw [h3, Option.bind_some, z8]
    rfl) (by
    unfold z11
    rw [if_neg (by simp)])
  have h' : iter (z11 fuel g) fuel (0, [⟨⟨⟨0, 0, 0⟩, 0, true⟩, ⟨⟨g.Root.Machine, g.Root.Kind, g.Root.Index⟩, 0, false⟩⟩]) = some (.inl (gridT g)) := h
  have h'' : iter (z11 fuel g) fuel (0, [⟨⟨⟨0, 0, 0⟩, 0, (0 : Int) != 1⟩, ⟨⟨g.Root.Machine, g.Root.Kind, g.Root.Index⟩, 0, false⟩⟩]) = some (.inl (gridT g)) := h'
  rw [h'', Option.bind_some, z8]
  rfl


def nameT (t : D.thing) : List D.Address := if t.own = true then [] else [t.at_]
def namesT (st : D.statement) : List D.Address := nameT st.a ++ nameT st.b
def namesK (T : List D.statement) : List D.Address := fl (fun _ st => namesT st) T T.length
def Cnt (M : List (D.Address × Int)) (N : List D.Address) : Prop := ∀ a, (mget M a).getD 0 = (N.count a : Nat)
theorem zo4 {M : List (D.Address × Int)} {N : List D.Address} {a : D.Address} (h : Cnt M N) (hN : N.length ≤ 1000000) : Cnt (mput M a (w64 ((mget M a).getD 0 + 1))) (N ++ [a]) := by
  intro b
  have hl := List.count_le_length (a := a) (l := N)
  rw [h a, z9 (by omega) (by omega), zgy, List.count_append, List.count_singleton]
  by_cases hab : a = b
  · subst hab; simp
  · rw [if_neg hab, h b]
    simp [hab]
theorem zjw {fuel : Nat} {st : D.statement} {M : List (D.Address × Int)} {N : List D.Address} (hf : 18446744073709551616 ≤ fuel) (h : Cnt M N) (hN : N.length ≤ 900000) :
    ∃ M', iter (z1M fuel st) fuel (0, M) = some (.inl M') ∧ Cnt M' (N ++ namesT st) := by
  have hfu : ∃ n, fuel = n + 3 := ⟨fuel - 3, by omega⟩
  have key : ∀ (i : Nat) (x : D.thing) (M : List (D.Address × Int)) (N : List D.Address), i < 2 → [st.a, st.b][i]? = some x → Cnt M N → N.length ≤ 1000000 → ∃ M', z1M fuel st ((i : Int), M) = some (.next (w64 (i + 1), M')) ∧ Cnt M' (N ++ nameT x) := by
    intro i x M N hi hx hC hN
    unfold z1M
    dsimp only
    rw [if_pos (by simp; omega), za hx, Option.bind_some]
    unfold nameT z8z z7c
    cases x.own with
    | true => exact ⟨M, by rw [if_neg (by simp)], by rw [if_pos rfl, List.append_nil]; exact hC⟩
    | false => exact ⟨_, by rw [if_pos (by simp)], by rw [if_neg (by simp)]; exact zo4 hC hN⟩
  obtain ⟨M1, e1, c1⟩ := key 0 st.a M N (by omega) rfl h (by omega)
  have hna : (nameT st.a).length ≤ 1 := by unfold nameT; split <;> simp
  obtain ⟨M2, e2, c2⟩ := key 1 st.b M1 (N ++ nameT st.a) (by omega) rfl c1 (by rw [List.length_append]; omega)
  have e3 : z1M fuel st (2, M2) = some (.brk M2) := by unfold z1M; rw [if_neg (by simp)]
  have w1 : w64 (((0 : Nat) : Int) + 1) = 1 := by rw [z9 (by omega) (by omega)]; rfl
  have w2 : w64 (((1 : Nat) : Int) + 1) = 2 := by rw [z9 (by omega) (by omega)]; rfl
  rw [w1] at e1
  rw [w2] at e2
  refine ⟨M2, ?_, by unfold namesT; rw [← List.append_assoc]; exact c2⟩
  have e1' : z1M fuel st (0, M) = some (.next (1, M1)) := e1
  have e2' : z1M fuel st (1, M1) = some (.next (2, M2)) := e2
  generalize hb : z1M fuel st = B at *
  obtain ⟨n, rfl⟩ := hfu
  simp only [iter, e1', e2', e3]
theorem zju {st : D.statement} : (namesT st).length ≤ 2 := by
  unfold namesT nameT
  rw [List.length_append]
  split <;> split <;> simp
theorem zjv {fuel : Nat} {T : List D.statement} (hf : 18446744073709551616 ≤ fuel) (hT : T.length ≤ 400000) : ∃ M, z9c fuel T = some M ∧ Cnt M (namesK T) := by
  unfold z9c
  obtain ⟨o, h1, M, rfl, h2⟩ := z12 (body := z7d fuel T) (fun i s => ∃ M, s = ((i : Int), M) ∧ Cnt M (fl (fun _ st => namesT st) T i)) T.length (fun o => ∃ M, o = .inl M ∧ Cnt M (namesK T)) (by
    rintro i _ hi ⟨M, rfl, hM⟩
    obtain ⟨st, hst⟩ := z4a hi
    have hfl := z8G (f := fun _ st => namesT st) (xs := T) (b := 2) (fun _ _ _ => zju) i (by omega)
    obtain ⟨M', e1, e2⟩ := zjw (fuel := fuel) (st := st) hf hM (by omega)
    refine .inl ⟨(w64 (i + 1), M'), ?_, M', by rw [z9 (by omega) (by omega)]; rfl, by rw [z8W hst]; exact e2⟩
    unfold z7d
    dsimp only
    rw [if_pos (by simpa using hi), za hst, Option.bind_some, e1, Option.bind_some, z8]
    rfl) (by
    rintro _ ⟨M, rfl, hM⟩
    refine .inr ⟨M, ?_, M, rfl, hM⟩
    unfold z7d
    rw [if_neg (by simp)]) (fuel := fuel) (i := 0) (s := (0, [])) (Nat.zero_le _) (by omega) ⟨[], rfl, fun a => by rw [z9m]; rfl⟩
  rw [h1, Option.bind_some, z8]
  exact ⟨M, rfl, h2⟩
def okTh (g : D.Grid) (t : D.thing) : Bool := t.own || aliveN g t.at_
def okT (g : D.Grid) (st : D.statement) : Bool := okTh g st.a && okTh g st.b
def shardC (N : List D.Address) (m : Nat) (s : D.Shard) : Bool := (s.Cells.zipIdx.all fun y => decide (y.1.Kind = 0) || decide (N.count ⟨(m : Int), 1, (y.2 : Int)⟩ = 1)) && s.Vars.zipIdx.all fun y => !y.1.Used || decide (N.count ⟨(m : Int), 2, (y.2 : Int)⟩ = 2)
def implN (g : D.Grid) (T : List D.statement) : Bool := T.all (okT g) && g.Shards.zipIdx.all fun x => shardC (namesK T) x.2 x.1
theorem zjm {fuel : Nat} {g : D.Grid} {T : List D.statement} (hf : 18446744073709551616 ≤ fuel) (hs : g.sz ≤ 1048576) (hT : T.length ≤ 400000) : z2M fuel g T = some (implN g T) := by
  have hm : maxLen = 9223372036854775807 := rfl
  obtain ⟨z1, z2⟩ := zd2 hs
  unfold z2M implN
  have h1 := allLoop (xs := T) (body := z1W fuel g T) (p := fun _ st => okT g st) (t := ()) (v := false) (fuel := fuel) (by omega) hf (fun i st hi hx => by
    unfold z1W
    rw [if_pos (by simpa using hi), za hx, Option.bind_some]
    have j7 : ∀ b, zt fuel (i : Int) b = if b = true then some (.ret false) else some (.next (w64 (i + 1))) := fun b => by unfold zt; rfl
    simp only [ziQ, Option.bind_some, j7]
    unfold okT okTh
    cases st.a.own <;> cases st.b.own <;> cases aliveN g st.a.at_ <;> cases aliveN g st.b.at_ <;> rfl) (by unfold z1W; rw [if_neg (by simp)])
  rw [z6P (p := okT g)] at h1
  rw [h1, Option.bind_some]
  cases T.all (okT g) with
  | false => rfl
  | true =>
    rw [if_pos rfl, z8, Bool.true_and]
    unfold z5q
    obtain ⟨M, e1, hC⟩ := zjv (T := T) hf hT
    rw [e1, Option.bind_some]
    have h2 := allLoop (xs := g.Shards) (body := z1V fuel g M) (p := fun m s => shardC (namesK T) m s) (t := ()) (v := false) (fuel := fuel) (by omega) hf (fun m s hi hx => by
      obtain ⟨y1, y2, y3, y4⟩ := zbK (z2 s (List.mem_of_getElem? hx))
      unfold z1V
      rw [if_pos (by simpa using hi), za hx, Option.bind_some]
      have hcs := allLoop (xs := s.Cells) (body := z1U fuel M (m : Int) s) (p := fun i c => decide (c.Kind = 0) || decide ((namesK T).count ⟨(m : Int), 1, (i : Int)⟩ = 1)) (t := ()) (v := Rd.ret false) (fuel := fuel) (by omega) hf (fun i c hj hc => by
        unfold z1U z3p z1R
        rw [if_pos (by simpa using hj), za hc, Option.bind_some, Option.bind_some, hC]
        by_cases k0 : c.Kind = 0
        · simp [k0]
        · by_cases h : (namesK T).count ⟨(m : Int), 1, (i : Int)⟩ = 1
          · simp [k0, h]
          · have h9 : ¬ (((namesK T).count ⟨(m : Int), 1, (i : Int)⟩ : Nat) : Int) = 1 := by omega
            simp [k0, h, h9]) (by unfold z1U; rw [if_neg (by simp)])
      have hvs := allLoop (xs := s.Vars) (body := z1T fuel M (m : Int) s) (p := fun i v => !v.Used || decide ((namesK T).count ⟨(m : Int), 2, (i : Int)⟩ = 2)) (t := ()) (v := Rd.ret false) (fuel := fuel) (by omega) hf (fun i c hj hc => by
        unfold z1T z47 z1S
        rw [if_pos (by simpa using hj), za hc, Option.bind_some, Option.bind_some, hC]
        cases c.Used with
        | false => rfl
        | true =>
          by_cases h : (namesK T).count ⟨(m : Int), 2, (i : Int)⟩ = 2
          · simp [h]
          · have h9 : ¬ (((namesK T).count ⟨(m : Int), 2, (i : Int)⟩ : Nat) : Int) = 2 := by omega
            simp [h, h9]) (by unfold z1T; rw [if_neg (by simp)])
      rw [hcs, Option.bind_some]
      unfold shardC
      cases (s.Cells.zipIdx.all fun y => decide (y.1.Kind = 0) || decide ((namesK T).count ⟨(m : Int), 1, (y.2 : Int)⟩ = 1)) with
      | false => rfl
      | true =>
        rw [if_pos rfl, z8, Bool.true_and]
        unfold z5p
        rw [hvs, Option.bind_some]
        cases (s.Vars.zipIdx.all fun y => !y.1.Used || decide ((namesK T).count ⟨(m : Int), 2, (y.2 : Int)⟩ = 2)) <;> rfl) (by unfold z1V; rw [if_neg (by simp)])
    rw [h2, Option.bind_some]
    cases (g.Shards.zipIdx.all fun x => shardC (namesK T) x.2 x.1) <;> rfl
end Go.E

namespace Go.E
open Go.RowKit Go.Proofs
set_option linter.unusedSimpArgs false
set_option linter.unusedVariables false

theorem z9A {α β : Type} {f : Nat → α → List β} {xs : List α} {p : β → Bool} : (fl f xs xs.length).all p = xs.zipIdx.all fun x => (f x.2 x.1).all p := by
  unfold fl
  rw [List.take_length, List.all_flatMap]
theorem zbx {α β γ : Type} {f : Nat → α → List β} {xs : List α} {h : β → List γ} {n : Nat} : (fl f xs n).flatMap h = fl (fun i x => (f i x).flatMap h) xs n := by
  unfold fl
  rw [List.flatMap_assoc]
theorem zhR {α γ : Type} {h : α → List γ} : ∀ {xs : List α} {k : Nat}, ((xs.zipIdx k).flatMap fun x => h x.1) = xs.flatMap h
  | [], _ => rfl
  | x :: xs, k => by rw [List.zipIdx_cons, List.flatMap_cons, List.flatMap_cons, zhR]
theorem zfh {T : List D.statement} : namesK T = T.flatMap namesT := by
  unfold namesK fl
  rw [List.take_length]
  exact zhR
theorem zdz {α β : Type} {f f' : Nat → α → List β} {xs : List α} {n : Nat} (h : ∀ i x, f i x = f' i x) : fl f xs n = fl f' xs n := by
  have : f = f' := funext fun i => funext fun x => h i x
  rw [this]


theorem znZ {g : D.Grid} {m i : Nat} {c : D.ShardCell} : (cellT m i c).all (okT g) = c.Aux.all (aliveN g) := by
  unfold cellT
  rw [z9A, ← z6P (p := aliveN g)]
  congr 1
  funext x
  simp [auxT, okT, okTh, thA]
theorem znX {g : D.Grid} {m i : Nat} {v : D.ShardVar} : (fullT m i v).all (okT g) = fullA g m i v := by
  unfold fullT fullA
  cases v.Full <;> simp [okT, okTh, thA]
theorem zmU {g : D.Grid} {m : Nat} {s : D.Shard} : (shardT m s).all (okT g) = shardA g m s := by
  unfold shardT shardA
  rw [List.all_append, List.all_append, z9A, z9A, z9A]
  simp only [znZ, znX]
  rw [z6P (p := fun c : D.ShardCell => c.Aux.all (aliveN g))]
  congr 2
  rw [← z6P (p := fun r : D.ShardRedex => aliveN g r.A && aliveN g r.B)]
  congr 1
  funext x
  simp [redT, okT, okTh, thA]
theorem zjs {g : D.Grid} : (gridT g).all (okT g) = gridA g := by
  unfold gridT gridA rootT
  rw [List.all_append, z9A]
  simp only [zmU]
  simp [okT, okTh, thA]


def kT (t : D.thing) : Key := if t.own = true then (if t.at_.Kind = 1 then (1, t.at_.Machine.toNat, t.at_.Index.toNat, t.slot.toNat) else (0, 0, 0, 0)) else keyA t.at_
def keysT (st : D.statement) : List Key := [kT st.a, kT st.b]
def formH (t : D.thing) : Bool := !t.own || (decide (t.at_.Kind ≠ 1) || decide (0 < t.slot))
def formT (st : D.statement) : Bool := formH st.a && formH st.b
theorem zjA {m i : Nat} {c : D.ShardCell} : (cellT m i c).flatMap keysT = cellS 1 m i c := by
  unfold cellT cellS
  rw [zbx]
  refine zdz fun k a => ?_
  unfold auxT auxK keysT kT thA
  simp
theorem zjz {m i : Nat} {v : D.ShardVar} : (fullT m i v).flatMap keysT = fullK m i v := by
  unfold fullT fullK
  cases v.Full with
  | false => rfl
  | true => simp [keysT, kT, thA, keyA]
theorem ziT {m : Nat} {s : D.Shard} : (shardT m s).flatMap keysT = shardS m s := by
  unfold shardT shardS
  rw [List.flatMap_append, List.flatMap_append, zbx, zbx, zbx, zdz (fun i c => zjA (m := m) (i := i) (c := c)), zdz (fun i c => zjz (m := m) (i := i) (v := c))]
  congr 2
theorem zjy {g : D.Grid} : (gridT g).flatMap keysT = gridS g := by
  unfold gridT gridS
  rw [List.flatMap_append, zbx, zdz (fun i c => ziT (m := i) (s := c))]
  rfl
theorem zjF {g : D.Grid} : (gridT g).all formT = true := by
  unfold gridT rootT
  rw [List.all_append, z9A]
  have hc : ∀ m i c, (cellT m i c).all formT = true := fun m i c => by
    unfold cellT
    rw [z9A, List.all_eq_true]
    intro x _
    simp [auxT, formT, formH, thA]
  have hs : ∀ m s, (shardT m s).all formT = true := fun m s => by
    unfold shardT
    rw [List.all_append, List.all_append, z9A, z9A, z9A]
    rw [Bool.and_eq_true, Bool.and_eq_true, List.all_eq_true, List.all_eq_true, List.all_eq_true]
    refine ⟨fun x _ => hc _ _ _, fun x _ => by simp [redT, formT, formH, thA], fun x _ => ?_⟩
    unfold fullT
    split <;> simp [formT, formH, thA]
  rw [Bool.and_eq_true]
  exact ⟨by simp [formT, formH, thA, noneN], List.all_eq_true.2 fun x _ => hs _ _⟩
theorem znM {g : D.Grid} {t : D.thing} {K : Nat} (hK : K = 1 ∨ K = 2) (h : okTh g t = true) (hf : formH t = true) (m i : Nat) : [kT t].count (K, m, i, 0) = (nameT t).count ⟨(m : Int), (K : Int), (i : Int)⟩ := by
  unfold okTh at h
  unfold formH at hf
  unfold nameT kT
  cases ho : t.own with
  | true =>
    rw [ho] at hf
    rw [if_pos rfl, if_pos rfl, List.count_singleton]
    by_cases k1 : t.at_.Kind = 1
    · rw [if_pos k1]
      have h2 : 0 < t.slot := by simpa [k1] using hf
      rw [if_neg]
      · rfl
      · intro he
        simp only [beq_iff_eq, Prod.mk.injEq] at he
        omega
    · rw [if_neg k1, if_neg]
      · rfl
      · intro he
        simp only [beq_iff_eq, Prod.mk.injEq] at he
        omega
  | false =>
    rw [ho, Bool.false_or] at h
    obtain ⟨h1, h2, s, _, h3⟩ := zeD h
    have hk : t.at_.Kind = 1 ∨ t.at_.Kind = 2 := by
      rcases h3 with ⟨h3, _⟩ | ⟨h3, _⟩
      · exact .inl h3
      · exact .inr h3
    rw [if_neg (by simp), if_neg (by simp), List.count_singleton, List.count_singleton]
    generalize t.at_ = a at *
    obtain ⟨a1, a2, a3⟩ := a
    dsimp only at *
    unfold keyA
    dsimp only
    have e : (((if a2 = 1 then (1, a1.toNat, a3.toNat, 0) else (2, a1.toNat, a3.toNat, 0)) : Key) == (K, m, i, 0)) = ((⟨a1, a2, a3⟩ : D.Address) == ⟨(m : Int), (K : Int), (i : Int)⟩) := by
      rw [Bool.eq_iff_iff, beq_iff_eq, beq_iff_eq, D.Address.mk.injEq]
      constructor
      · intro he
        split at he
        · simp only [Prod.mk.injEq] at he
          omega
        · simp only [Prod.mk.injEq] at he
          omega
      · rintro ⟨e1, e2, e3⟩
        split
        · obtain rfl : K = 1 := by omega
          simp [e1, e3]
        · obtain rfl : K = 2 := by omega
          simp [e1, e3]
    rw [e]
theorem zex {g : D.Grid} {K : Nat} (hK : K = 1 ∨ K = 2) (m i : Nat) : ∀ {T : List D.statement}, T.all (okT g) = true → T.all formT = true → (T.flatMap keysT).count (K, m, i, 0) = (T.flatMap namesT).count ⟨(m : Int), (K : Int), (i : Int)⟩
  | [], _, _ => rfl
  | st :: T, h1, h2 => by
    rw [List.all_cons, Bool.and_eq_true] at h1 h2
    unfold okT at h1
    unfold formT at h2
    rw [Bool.and_eq_true] at h1 h2
    have a := znM hK h1.1.1 h2.1.1 m i
    have b := znM hK h1.1.2 h2.1.2 m i
    rw [List.flatMap_cons, List.flatMap_cons, List.count_append, List.count_append, zex hK m i h1.2 h2.2]
    congr 1
    unfold keysT namesT
    rw [show [kT st.a, kT st.b] = [kT st.a] ++ [kT st.b] from rfl, List.count_append, List.count_append, a, b]


theorem z66 {α β : Type} [BEq β] [LawfulBEq β] {f : Nat → α → List β} {xs : List α} {y : β} (h : ∀ (i : Nat) x, xs[i]? = some x → (f i x).count y = 0) : ∀ n, n ≤ xs.length → (fl f xs n).count y = 0
  | 0, _ => by rw [z9m]; rfl
  | n + 1, hn => by
    obtain ⟨x, hx⟩ := z4a (xs := xs) (i := n) (by omega)
    rw [z8W hx, List.count_append, z66 h n (by omega), h n x hx]
theorem zgD {α β : Type} [BEq β] [LawfulBEq β] {f : Nat → α → List β} {xs : List α} {y : β} {j : Nat} {a : α} (ha : xs[j]? = some a) (h : ∀ (i : Nat) x, i ≠ j → xs[i]? = some x → (f i x).count y = 0) : ∀ n, n ≤ xs.length → (fl f xs n).count y = if j < n then (f j a).count y else 0
  | 0, _ => by rw [z9m]; rfl
  | n + 1, hn => by
    obtain ⟨x, hx⟩ := z4a (xs := xs) (i := n) (by omega)
    rw [z8W hx, List.count_append, zgD ha h n (by omega)]
    by_cases hj : n = j
    · subst hj
      rw [ha] at hx
      cases hx
      rw [if_neg (Nat.lt_irrefl _), if_pos (Nat.lt_succ_self _), Nat.zero_add]
    · rw [h n x hj hx, Nat.add_zero]
      by_cases hl : j < n
      · rw [if_pos hl, if_pos (by omega)]
      · rw [if_neg hl, if_neg (by omega)]
theorem zeC {m i k : Nat} {a : D.Address} {X : Key} (hX : ∀ a, keyA a ≠ X) : (auxK 1 m i k a).count X = if (1, m, i, k + 1) = X then 1 else 0 := by
  unfold auxK
  rw [show [((1, m, i, k + 1) : Key), keyA a] = [(1, m, i, k + 1)] ++ [keyA a] from rfl, List.count_append, List.count_singleton, List.count_singleton, if_neg (c := (keyA a == X) = true) (by simpa using hX a)]
  simp
theorem zfA {i : Nat} {r : D.ShardRedex} {X : Key} (hX : ∀ a, keyA a ≠ X) : (redK i r).count X = 0 := by
  unfold redK
  rw [List.count_eq_zero]
  simp only [List.mem_cons, List.not_mem_nil, or_false]
  rintro (h | h) <;> exact hX _ h.symm
theorem zdx {m i : Nat} {v : D.ShardVar} {X : Key} (hX : ∀ a, keyA a ≠ X) (h2 : (2, m, i, 0) ≠ X) : (fullK m i v).count X = 0 := by
  unfold fullK
  split
  · rw [List.count_eq_zero]
    simp only [List.mem_cons, List.not_mem_nil, or_false]
    rintro (h | h)
    · exact h2 h.symm
    · exact hX _ h.symm
  · rfl
theorem zjB {a : D.Address} : (keyA a).1 ≠ 0 := by unfold keyA; split <;> simp
theorem zi0 {a : D.Address} : (keyA a).2.2.2 = 0 := by unfold keyA; split <;> rfl
theorem zmD {g : D.Grid} : (gridS g).count (0, 0, 0, 0) = 1 := by
  have hX : ∀ a, keyA a ≠ (0, 0, 0, 0) := fun a h => zjB (a := a) (by rw [h])
  unfold gridS rootS
  rw [List.count_append, z66 (fun m s _ => ?_) _ (Nat.le_refl _)]
  · rw [show [((0, 0, 0, 0) : Key), keyA g.Root] = [(0, 0, 0, 0)] ++ [keyA g.Root] from rfl, List.count_append, List.count_singleton, List.count_singleton, if_neg (c := (keyA g.Root == (0, 0, 0, 0)) = true) (by simpa using hX g.Root)]
    rfl
  · unfold shardS
    rw [List.count_append, List.count_append, z66 (fun i c _ => ?_) _ (Nat.le_refl _), z66 (fun i c _ => zfA hX) _ (Nat.le_refl _), z66 (fun i c _ => zdx hX (by simp)) _ (Nat.le_refl _)]
    unfold cellS
    exact z66 (fun k a _ => by rw [zeC hX, if_neg (by simp)]) _ (Nat.le_refl _)
theorem zmG {g : D.Grid} {m i k : Nat} {s : D.Shard} {c : D.ShardCell} (hm : g.Shards[m]? = some s) (hc : s.Cells[i]? = some c) (hk : k < c.Aux.length) : (gridS g).count (1, m, i, k + 1) = 1 := by
  have hX : ∀ a, keyA a ≠ (1, m, i, k + 1) := fun a h => by
    have := zi0 (a := a)
    rw [h] at this
    exact absurd this (Nat.succ_ne_zero k)
  have hml := (List.getElem?_eq_some_iff.1 hm).1
  have hil := (List.getElem?_eq_some_iff.1 hc).1
  obtain ⟨a, ha⟩ := z4a hk
  have h0 : (rootS g).count (1, m, i, k + 1) = 0 := by
    unfold rootS
    rw [List.count_eq_zero]
    simp only [List.mem_cons, List.not_mem_nil, or_false]
    rintro (h | h)
    · simp at h
    · exact hX _ h.symm
  unfold gridS
  rw [List.count_append, h0, Nat.zero_add, zgD hm (fun m' s' hne _ => ?_) _ (Nat.le_refl _), if_pos hml]
  · unfold shardS
    rw [List.count_append, List.count_append, z66 (f := redK) (fun i c _ => zfA hX) _ (Nat.le_refl _), z66 (f := fullK m) (fun i c _ => zdx hX (by simp)) _ (Nat.le_refl _), zgD hc (fun i' c' hne _ => ?_) _ (Nat.le_refl _), if_pos hil]
    · unfold cellS
      rw [zgD ha (fun k' a' hne _ => ?_) _ (Nat.le_refl _), if_pos hk, zeC hX, if_pos rfl]
      rw [zeC hX, if_neg (by simp only [Prod.mk.injEq]; omega)]
    · unfold cellS
      exact z66 (fun k' a' _ => by rw [zeC hX, if_neg (by simp only [Prod.mk.injEq]; omega)]) _ (Nat.le_refl _)
  · unfold shardS
    rw [List.count_append, List.count_append, z66 (f := redK) (fun i c _ => zfA hX) _ (Nat.le_refl _), z66 (f := fullK m') (fun i c _ => zdx hX (by simp)) _ (Nat.le_refl _), z66 (fun i' c' _ => ?_) _ (Nat.le_refl _)]
    unfold cellS
    exact z66 (fun k' a' _ => by rw [zeC hX, if_neg (by simp only [Prod.mk.injEq]; omega)]) _ (Nat.le_refl _)
theorem zgr {ss : List D.Shard} {k : Key} : k ∈ portK ss ↔ k = (0, 0, 0, 0) ∨ ∃ (m : Nat) (s : D.Shard) (i : Nat) (c : D.ShardCell) (j : Nat), ss[m]? = some s ∧ s.Cells[i]? = some c ∧ c.Kind ≠ 0 ∧ j ≤ c.Aux.length ∧ k = (1, m, i, j) := by
  unfold portK
  rw [List.mem_cons, List.mem_flatMap]
  constructor
  · rintro (h | ⟨⟨s, m⟩, h1, h2⟩)
    · exact .inl h
    · rw [List.mem_zipIdx_iff_getElem?] at h1
      unfold rowK at h2
      obtain ⟨⟨c, i⟩, h3, h4⟩ := List.mem_flatMap.1 h2
      rw [List.mem_zipIdx_iff_getElem?] at h3
      dsimp only at h1 h3 h4
      unfold cellK at h4
      split at h4
      · cases h4
      · rename_i k0
        obtain ⟨j, h5, rfl⟩ := List.mem_map.1 h4
        have := List.mem_range.1 h5
        exact .inr ⟨m, s, i, c, j, h1, h3, k0, by omega, rfl⟩
  · rintro (h | ⟨m, s, i, c, j, h1, h2, h3, h4, rfl⟩)
    · exact .inl h
    · refine .inr ⟨(s, m), by rw [List.mem_zipIdx_iff_getElem?]; exact h1, List.mem_flatMap.2 ⟨(c, i), by rw [List.mem_zipIdx_iff_getElem?]; exact h2, ?_⟩⟩
      dsimp only
      unfold cellK
      rw [if_neg h3]
      exact List.mem_map.2 ⟨j, List.mem_range.2 (by omega), rfl⟩
theorem zmZ {g : D.Grid} {N : List D.Address} : (g.Shards.zipIdx.all fun x => shardC N x.2 x.1) = true ↔ ∀ (m : Nat) s, g.Shards[m]? = some s → (∀ (i : Nat) c, s.Cells[i]? = some c → c.Kind = 0 ∨ N.count ⟨(m : Int), 1, (i : Int)⟩ = 1) ∧ ∀ (i : Nat) v, s.Vars[i]? = some v → v.Used = false ∨ N.count ⟨(m : Int), 2, (i : Int)⟩ = 2 := by
  rw [z8b (p := fun m s => shardC N m s)]
  refine forall_congr' fun m => forall_congr' fun s => ?_
  rw [Nat.zero_add]
  refine imp_congr_right fun hm => ?_
  unfold shardC
  rw [Bool.and_eq_true, z8b (p := fun i (c : D.ShardCell) => decide (c.Kind = 0) || decide (N.count ⟨(m : Int), 1, (i : Int)⟩ = 1)), z8b (p := fun i (v : D.ShardVar) => !v.Used || decide (N.count ⟨(m : Int), 2, (i : Int)⟩ = 2))]
  simp only [Nat.zero_add, Bool.or_eq_true, decide_eq_true_eq, Bool.not_eq_true']
end Go.E

namespace Go.E
open Go.RowKit Go.Proofs
set_option linter.unusedSimpArgs false
set_option linter.unusedVariables false

def cellsOf : List D.Parcel → List D.ShardCell
  | [] => []
  | p :: ps => if p.Kind = 3 then p.Cell :: cellsOf ps else cellsOf ps
def stepC (p : D.Parcel) : Nat := if p.Kind = 3 then 1 else 0

def parK (j : Nat) (p : D.Parcel) : List Key := if p.Kind = 1 ∨ p.Kind = 2 then [keyA p.A, keyA p.B] else if p.Kind = 3 then cellS 3 0 j p.Cell ++ [(3, 0, j, 0), keyA p.B] else []
def parS : Nat → List D.Parcel → List Key
  | _, [] => []
  | j, p :: ps => parK j p ++ parS (j + stepC p) ps
def parA (g : D.Grid) (p : D.Parcel) : Bool := if p.Kind = 1 ∨ p.Kind = 2 then aliveN g p.A && aliveN g p.B else if p.Kind = 3 then p.Cell.Aux.all (aliveN g) && aliveN g p.B else true
def auxTA (at_ : D.Address) (k : Nat) (a : D.Address) : List D.statement := [⟨⟨at_, (k : Int) + 1, true⟩, thA a⟩]
def parT (ch i : Nat) (p : D.Parcel) : List D.statement := if p.Kind = 1 ∨ p.Kind = 2 then [⟨thA p.A, thA p.B⟩] else if p.Kind = 3 then fl (auxTA ⟨(ch : Int), 3, (i : Int)⟩) p.Cell.Aux p.Cell.Aux.length ++ [⟨⟨⟨(ch : Int), 3, (i : Int)⟩, 0, true⟩, thA p.B⟩] else []
def chanT (ch : Nat) (ps : List D.Parcel) : List D.statement := fl (parT ch) ps ps.length
def chansT (cs : List (List D.Parcel)) : List D.statement := fl chanT cs cs.length

theorem z6L {p : D.Parcel} {ps : List D.Parcel} : cellsOf (p :: ps) = if p.Kind = 3 then p.Cell :: cellsOf ps else cellsOf ps := rfl
theorem zay {p : D.Parcel} {ps : List D.Parcel} {j : Nat} : parS j (p :: ps) = parK j p ++ parS (j + stepC p) ps := rfl
theorem z8a : ∀ {ps qs : List D.Parcel}, cellsOf (ps ++ qs) = cellsOf ps ++ cellsOf qs
  | [], _ => rfl
  | p :: ps, qs => by
    rw [List.cons_append, z6L, z6L, z8a]
    split <;> rfl
theorem zc5 : ∀ {ps qs : List D.Parcel} {j : Nat}, parS j (ps ++ qs) = parS j ps ++ parS (j + (cellsOf ps).length) qs
  | [], _, _ => rfl
  | p :: ps, qs, j => by
    rw [List.cons_append, zay, zay, zc5, List.append_assoc, z6L]
    congr 3
    unfold stepC
    split
    · rw [List.length_cons]; omega
    · omega
theorem zmJ {p : D.Parcel} {j : Nat} : parS j [p] = parK j p := by simp [parS]
theorem zed {a : D.Address} : (keyA a).1 ≠ 3 := by unfold keyA; split <;> simp
theorem znQ {p : D.Parcel} {j : Nat} (h : p.Kind = 3 → p.Cell.Aux.length ≤ 3) : (parK j p).length ≤ 8 := by
  unfold parK
  split
  · simp
  · split
    · rename_i h3
      have := zfY (t := 3) (m := 0) (i := j) (h h3)
      rw [List.length_append]
      simp only [List.length_cons, List.length_nil]
      omega
    · simp
theorem zjo : ∀ {ps : List D.Parcel} {j : Nat}, (∀ p, p ∈ ps → p.Kind = 3 → p.Cell.Aux.length ≤ 3) → (parS j ps).length ≤ 8 * ps.length
  | [], _, _ => by simp [parS]
  | p :: ps, j, h => by
    have h1 := znQ (j := j) (h p (by simp))
    have h2 := zjo (ps := ps) (j := j + stepC p) fun q hq => h q (by simp [hq])
    rw [zay, List.length_append, List.length_cons]
    omega


theorem zod {g : D.Grid} {ch i : Nat} {p : D.Parcel} : (parT ch i p).all (okT g) = parA g p := by
  unfold parT parA
  split
  · simp [okT, okTh, thA]
  · split
    · rw [List.all_append, z9A, ← z6P (p := aliveN g)]
      congr 1
      · congr 1
        funext x
        simp [auxTA, okT, okTh, thA]
      · simp [okT, okTh, thA]
    · rfl
theorem znY {g : D.Grid} {ch : Nat} {ps : List D.Parcel} : (chanT ch ps).all (okT g) = ps.all (parA g) := by
  unfold chanT
  rw [z9A, ← z6P (p := parA g)]
  congr 1
  funext x
  exact zod
theorem zhY {g : D.Grid} {cs : List (List D.Parcel)} : (chansT cs).all (okT g) = cs.flatten.all (parA g) := by
  unfold chansT
  rw [z9A, List.all_flatten, ← z6P (p := fun ps : List D.Parcel => ps.all (parA g))]
  congr 1
  funext x
  exact znY
theorem zn3 {ch i : Nat} {p : D.Parcel} : (parT ch i p).all formT = true := by
  unfold parT
  split
  · simp [formT, formH, thA]
  · split
    · rw [List.all_append, z9A, Bool.and_eq_true, List.all_eq_true]
      exact ⟨fun x _ => by simp [auxTA, formT, formH, thA], by simp [formT, formH, thA]⟩
    · rfl
theorem ziV {cs : List (List D.Parcel)} : (chansT cs).all formT = true := by
  unfold chansT
  rw [z9A, List.all_eq_true]
  intro x _
  unfold chanT
  rw [z9A, List.all_eq_true]
  intro y _
  exact zn3


theorem zi2 {α β γ : Type} [BEq β] [BEq γ] {f : Nat → α → List β} {h : Nat → α → List γ} {xs : List α} {y : β} {z : γ} (e : ∀ i x, (f i x).count y = (h i x).count z) : ∀ n, n ≤ xs.length → (fl f xs n).count y = (fl h xs n).count z
  | 0, _ => by rw [z9m, z9m]; rfl
  | n + 1, hn => by
    obtain ⟨x, hx⟩ := z4a (xs := xs) (i := n) (by omega)
    rw [z8W hx, z8W hx, List.count_append, List.count_append, zi2 e n (by omega), e n x]
theorem zdw {x : Key} {K m n : Nat} (h : x.1 ≠ K) : ([x] : List Key).count (K, m, n, 0) = 0 := by
  rw [List.count_eq_zero, List.mem_singleton]
  intro e
  rw [← e] at h
  exact h rfl
theorem zmH {ch i j K m n : Nat} {p : D.Parcel} (hK : K = 1 ∨ K = 2) : ((parT ch i p).flatMap keysT).count (K, m, n, 0) = (parK j p).count (K, m, n, 0) := by
  unfold parT parK
  split
  · rfl
  · split
    · rw [List.flatMap_append, zbx, List.count_append, List.count_append]
      congr 1
      · unfold cellS
        refine zi2 (fun k a => ?_) _ (Nat.le_refl _)
        have h1 : ((auxTA ⟨(ch : Int), 3, (i : Int)⟩ k a).flatMap keysT) = [(0, 0, 0, 0)] ++ [keyA a] := by simp [auxTA, keysT, kT, thA]
        have h2 : auxK 3 0 j k a = [(3, 0, j, k + 1)] ++ [keyA a] := rfl
        rw [h1, h2, List.count_append, List.count_append, zdw (x := (0, 0, 0, 0)) (by dsimp only; omega), zdw (x := (3, 0, j, k + 1)) (by dsimp only; omega)]
      · have h1 : ([⟨⟨⟨(ch : Int), 3, (i : Int)⟩, 0, true⟩, thA p.B⟩] : List D.statement).flatMap keysT = [(0, 0, 0, 0)] ++ [keyA p.B] := by simp [keysT, kT, thA]
        have h2 : ([(3, 0, j, 0), keyA p.B] : List Key) = [(3, 0, j, 0)] ++ [keyA p.B] := rfl
        rw [h1, h2, List.count_append, List.count_append, zdw (x := (0, 0, 0, 0)) (by dsimp only; omega), zdw (x := (3, 0, j, 0)) (by dsimp only; omega)]
    · rfl
theorem zh9 {ch K m n : Nat} (hK : K = 1 ∨ K = 2) : ∀ {ps : List D.Parcel} {j i : Nat}, ((ps.zipIdx i).flatMap fun x => (parT ch x.2 x.1).flatMap keysT).count (K, m, n, 0) = (parS j ps).count (K, m, n, 0)
  | [], _, _ => rfl
  | p :: ps, j, i => by
    rw [List.zipIdx_cons, List.flatMap_cons, List.count_append, zh9 (ps := ps) (j := j + stepC p) hK, zmH (j := j) hK]
    rw [zay, List.count_append]
theorem zfo {K m n : Nat} (hK : K = 1 ∨ K = 2) : ∀ {cs : List (List D.Parcel)} {j i : Nat}, ((cs.zipIdx i).flatMap fun x => (chanT x.2 x.1).flatMap keysT).count (K, m, n, 0) = (parS j cs.flatten).count (K, m, n, 0)
  | [], _, _ => rfl
  | ps :: cs, j, i => by
    rw [List.zipIdx_cons, List.flatMap_cons, List.count_append, zfo (cs := cs) (j := j + (cellsOf ps).length) hK, List.flatten_cons, zc5, List.count_append]
    congr 1
    unfold chanT
    rw [zbx]
    unfold fl
    rw [List.take_length]
    exact zh9 hK
theorem zio {K m n : Nat} {cs : List (List D.Parcel)} (hK : K = 1 ∨ K = 2) : ((chansT cs).flatMap keysT).count (K, m, n, 0) = (parS 0 cs.flatten).count (K, m, n, 0) := by
  unfold chansT
  rw [zbx]
  unfold fl
  rw [List.take_length]
  exact zfo hK


theorem zcG {t m i k : Nat} {a : D.Address} {X : Key} (hX : ∀ a, keyA a ≠ X) : (auxK t m i k a).count X = if (t, m, i, k + 1) = X then 1 else 0 := by
  unfold auxK
  rw [show [((t, m, i, k + 1) : Key), keyA a] = [(t, m, i, k + 1)] ++ [keyA a] from rfl, List.count_append, List.count_singleton, List.count_singleton, if_neg (c := (keyA a == X) = true) (by simpa using hX a)]
  simp
theorem ziU {g : D.Grid} {X : Key} (h3 : X.1 = 3) : (gridS g).count X = 0 := by
  have hX : ∀ a, keyA a ≠ X := fun a h => zed (a := a) (by rw [h]; exact h3)
  have hr : (rootS g).count X = 0 := by
    unfold rootS
    rw [List.count_eq_zero]
    simp only [List.mem_cons, List.not_mem_nil, or_false]
    rintro (h | h)
    · rw [h] at h3; simp at h3
    · exact hX _ h.symm
  unfold gridS
  rw [List.count_append, hr, z66 (fun m s _ => ?_) _ (Nat.le_refl _)]
  unfold shardS
  rw [List.count_append, List.count_append, z66 (fun i c _ => ?_) _ (Nat.le_refl _), z66 (fun i c _ => zfA hX) _ (Nat.le_refl _), z66 (fun i c _ => zdx hX (fun h => by rw [← h] at h3; simp at h3)) _ (Nat.le_refl _)]
  unfold cellS
  exact z66 (fun k a _ => by rw [zcG hX, if_neg (fun h => by rw [← h] at h3; simp at h3)]) _ (Nat.le_refl _)
theorem zgt {p : D.Parcel} {j : Nat} {X : Key} (hX : ∀ a, keyA a ≠ X) (h : X.1 = 3 → X.2.2.1 ≠ j) : (parK j p).count X = 0 := by
  have pair : ∀ k : Key, k ≠ X → ∀ a, ([k, keyA a] : List Key).count X = 0 := fun k hk a => by
    rw [List.count_eq_zero]
    simp only [List.mem_cons, List.not_mem_nil, or_false]
    rintro (h | h)
    · exact hk h.symm
    · exact hX _ h.symm
  unfold parK
  split
  · exact pair _ (hX _) _
  · split
    · rw [List.count_append, pair _ (fun e => by rw [← e] at h; exact h rfl rfl)]
      unfold cellS
      rw [z66 (fun k a _ => ?_) _ (Nat.le_refl _)]
      rw [zcG hX, if_neg (fun e => by rw [← e] at h; exact h rfl rfl)]
    · rfl
theorem zcq {X : Key} (hX : ∀ a, keyA a ≠ X) : ∀ {ps : List D.Parcel} {j : Nat}, (X.1 = 3 → X.2.2.1 < j) → (parS j ps).count X = 0
  | [], _, _ => rfl
  | p :: ps, j, h => by
    rw [zay, List.count_append, zgt hX (fun h3 => Nat.ne_of_lt (h h3)), zcq hX fun h3 => Nat.lt_of_lt_of_le (h h3) (Nat.le_add_right _ _)]
theorem zmK {p : D.Parcel} {j s : Nat} (h3 : p.Kind = 3) (hs : s ≤ p.Cell.Aux.length) : (parK j p).count (3, 0, j, s) = 1 := by
  have hX : ∀ a, keyA a ≠ (3, 0, j, s) := fun a h => zed (a := a) (by rw [h])
  unfold parK
  rw [if_neg (by omega), if_pos h3, List.count_append, show ([(3, 0, j, 0), keyA p.B] : List Key) = [(3, 0, j, 0)] ++ [keyA p.B] from rfl, List.count_append, List.count_singleton, List.count_singleton, if_neg (c := (keyA p.B == (3, 0, j, s)) = true) (by simpa using hX p.B)]
  unfold cellS
  cases s with
  | zero =>
    rw [z66 (fun k a _ => by rw [zcG hX, if_neg (by simp)]) _ (Nat.le_refl _), if_pos (by simp)]
  | succ s =>
    obtain ⟨a, ha⟩ := z4a (xs := p.Cell.Aux) (i := s) (by omega)
    rw [zgD ha (fun k' a' hne _ => ?_) _ (Nat.le_refl _), if_pos (by omega), zcG hX, if_pos rfl, if_neg (by simp)]
    rw [zcG hX, if_neg (by simp only [Prod.mk.injEq]; omega)]
theorem zfC : ∀ {ps : List D.Parcel} {j t s : Nat} {c : D.ShardCell}, (cellsOf ps)[t]? = some c → s ≤ c.Aux.length → (parS j ps).count (3, 0, j + t, s) = 1
  | [], _, _, _, _, h, _ => by simp [cellsOf] at h
  | p :: ps, j, t, s, c, h, hs => by
    have hX : ∀ a, keyA a ≠ (3, 0, j + t, s) := fun a h => zed (a := a) (by rw [h])
    rw [zay, List.count_append]
    rw [z6L] at h
    by_cases h3 : p.Kind = 3
    · rw [if_pos h3] at h
      have hst : stepC p = 1 := by unfold stepC; rw [if_pos h3]
      rw [hst]
      cases t with
      | zero =>
        rw [List.getElem?_cons_zero, Option.some.injEq] at h
        subst h
        rw [Nat.add_zero] at hX ⊢
        rw [zmK h3 hs, zcq hX (fun _ => Nat.lt_succ_self j)]
      | succ t =>
        rw [List.getElem?_cons_succ] at h
        rw [zgt hX (fun _ => by simp), show j + (t + 1) = (j + 1) + t by omega, zfC h hs]
    · rw [if_neg h3] at h
      have hst : stepC p = 0 := by unfold stepC; rw [if_neg h3]
      have hk : (parK j p).count (3, 0, j + t, s) = 0 := by
        unfold parK
        split
        · rw [List.count_eq_zero]
          simp only [List.mem_cons, List.not_mem_nil, or_false]
          rintro (h | h) <;> exact hX _ h.symm
        · rfl
      rw [hst, hk, Nat.add_zero, Nat.zero_add, zfC h hs]
theorem zmC {cs : List D.ShardCell} {k : Key} : k ∈ rowK 3 0 cs ↔ ∃ (i : Nat) (c : D.ShardCell) (j : Nat), cs[i]? = some c ∧ c.Kind ≠ 0 ∧ j ≤ c.Aux.length ∧ k = (3, 0, i, j) := by
  unfold rowK
  rw [List.mem_flatMap]
  constructor
  · rintro ⟨⟨c, i⟩, h3, h4⟩
    rw [List.mem_zipIdx_iff_getElem?] at h3
    dsimp only at h3 h4
    unfold cellK at h4
    split at h4
    · cases h4
    · rename_i k0
      obtain ⟨j, h5, rfl⟩ := List.mem_map.1 h4
      have := List.mem_range.1 h5
      exact ⟨i, c, j, h3, k0, by omega, rfl⟩
  · rintro ⟨i, c, j, h2, h3, h4, rfl⟩
    refine ⟨(c, i), by rw [List.mem_zipIdx_iff_getElem?]; exact h2, ?_⟩
    dsimp only
    unfold cellK
    rw [if_neg h3]
    exact List.mem_map.2 ⟨j, List.mem_range.2 (by omega), rfl⟩
theorem zhE {g : D.Grid} {P : List D.Parcel} : countsN g (cellsOf P) (gridS g ++ parS 0 P) = true ↔ ∀ (m : Nat) s, g.Shards[m]? = some s → (∀ (i : Nat) c, s.Cells[i]? = some c → c.Kind = 0 ∨ (gridS g ++ parS 0 P).count (1, m, i, 0) = 1) ∧ ∀ (i : Nat) v, s.Vars[i]? = some v → v.Used = false ∨ (gridS g ++ parS 0 P).count (2, m, i, 0) = 2 := by
  unfold countsN
  rw [Bool.and_eq_true, List.all_eq_true, z8b (p := fun m s => varC (gridS g ++ parS 0 P) m s)]
  constructor
  · rintro ⟨h1, h2⟩ m s hm
    refine ⟨fun i c hc => ?_, fun i v hv => ?_⟩
    · by_cases k0 : c.Kind = 0
      · exact .inl k0
      · have := h1 (1, m, i, 0) (List.mem_append.2 (.inl (zgr.2 (.inr ⟨m, s, i, c, 0, hm, hc, k0, Nat.zero_le _, rfl⟩))))
        exact .inr (by simpa only [decide_eq_true_eq] using this)
    · have h3 := h2 m s hm
      unfold varC at h3
      rw [Nat.zero_add] at h3
      have h4 := (z8b (p := fun i (v : D.ShardVar) => !v.Used || decide ((gridS g ++ parS 0 P).count (2, m, i, 0) = 2))).1 h3 i v hv
      rw [Nat.zero_add] at h4
      cases hu : v.Used with
      | false => exact .inl rfl
      | true => rw [hu, Bool.not_true, Bool.false_or, decide_eq_true_eq] at h4; exact .inr h4
  · intro h
    refine ⟨fun k hk => ?_, fun m s hm => ?_⟩
    · rcases List.mem_append.1 hk with hk | hk
      · rcases zgr.1 hk with rfl | ⟨m, s, i, c, j, h1, h2, h3, h4, rfl⟩
        · refine decide_eq_true ?_
          rw [List.count_append, zmD, zcq (fun a h => zjB (a := a) (by rw [h])) (fun h => by simp at h)]
        · cases j with
          | zero => exact decide_eq_true (((h m s h1).1 i c h2).resolve_left h3)
          | succ j =>
            refine decide_eq_true ?_
            rw [List.count_append, zmG h1 h2 (by omega), zcq (fun a h => by have := zi0 (a := a); rw [h] at this; exact absurd this (Nat.succ_ne_zero j)) (fun h => by simp at h)]
      · obtain ⟨i, c, j, h2, h3, h4, rfl⟩ := zmC.1 hk
        refine decide_eq_true ?_
        have := zfC (j := 0) h2 h4
        rw [Nat.zero_add] at this
        rw [List.count_append, ziU rfl, this]
    · unfold varC
      refine (z8b (p := fun i (v : D.ShardVar) => !v.Used || decide ((gridS g ++ parS 0 P).count (2, 0 + m, i, 0) = 2))).2 fun i v hv => ?_
      rw [Nat.zero_add, Nat.zero_add]
      rcases (h m s hm).2 i v hv with h1 | h1
      · rw [h1]; rfl
      · rw [decide_eq_true h1, Bool.or_true]
theorem zmd {g : D.Grid} {cs : List (List D.Parcel)} : (gridA g && (cs.flatten.all (parA g) && countsN g (cellsOf cs.flatten) (gridS g ++ parS 0 cs.flatten))) = implN g (gridT g ++ chansT cs) := by
  unfold implN
  rw [List.all_append, zjs, zhY]
  cases hA : gridA g with
  | false => rfl
  | true =>
    cases hB : cs.flatten.all (parA g) with
    | false => rfl
    | true =>
      simp only [Bool.true_and]
      rw [Bool.eq_iff_iff, zhE, zmZ]
      have hk : (gridT g ++ chansT cs).all (okT g) = true := by rw [List.all_append, zjs, zhY, hA, hB]; rfl
      have hfo : (gridT g ++ chansT cs).all formT = true := by rw [List.all_append, zjF, ziV]; rfl
      have hc := fun m i => zex (g := g) (K := 1) (.inl rfl) m i hk hfo
      have hv := fun m i => zex (g := g) (K := 2) (.inr rfl) m i hk hfo
      simp only [List.flatMap_append, List.count_append, zjy] at hc hv
      have ec : ∀ m i, (gridS g ++ parS 0 cs.flatten).count (1, m, i, 0) = (namesK (gridT g ++ chansT cs)).count ⟨(m : Int), 1, (i : Int)⟩ := fun m i => by
        rw [zfh, List.flatMap_append, List.count_append, List.count_append, ← zio (.inl rfl)]
        exact hc m i
      have ev : ∀ m i, (gridS g ++ parS 0 cs.flatten).count (2, m, i, 0) = (namesK (gridT g ++ chansT cs)).count ⟨(m : Int), 2, (i : Int)⟩ := fun m i => by
        rw [zfh, List.flatMap_append, List.count_append, List.count_append, ← zio (.inr rfl)]
        exact hv m i
      refine forall_congr' fun m => forall_congr' fun s => ?_
      refine imp_congr_right fun hm => and_congr (forall_congr' fun i => forall_congr' fun c => ?_) (forall_congr' fun i => forall_congr' fun c => ?_)
      · rw [ec m i]
      · rw [ev m i]
end Go.E

namespace Go.E
open Go.RowKit Go.Proofs
set_option linter.unusedSimpArgs false
set_option linter.unusedVariables false


def numN (xs : List Int) (k : Nat) : Bool := decide (xs.length = k) && xs.all fun x => decide (0 ≤ x ∧ x ≤ 1000000000)
def emptyN (c : D.ShardCell) : Bool := decide (c.Kind = 0 ∧ c.Level = 0 ∧ c.Value = 0 ∧ c.Data = [] ∧ c.Aux = [])
def parcelN (to : Int) (p : D.Parcel) : Bool :=
  if p.Kind = 1 then emptyN p.Cell && decide (p.A.Machine = to) else
  if p.Kind = 2 then emptyN p.Cell && decide (p.A.Machine = to ∧ p.A.Kind = 2) else
  if p.Kind = 3 then (decide (p.Cell.Kind ≠ 0) && shCellN p.Cell) && (decide (p.A = noneN) && decide (p.B.Machine = to)) else
  if p.Kind = 4 then emptyN p.Cell && (decide (p.A = noneN) && decide (p.B = noneN)) else false
def listN (k i : Nat) (ch : List D.Parcel) : Bool := decide (ch.length ≤ 200) && ch.all (parcelN ((i % k : Nat) : Int))
def diagN (k i : Nat) (ch : List D.Parcel) : Bool := decide (i / k ≠ i % k) || decide (ch = [])
def chansN (k : Nat) (cs : List (List D.Parcel)) : Bool := (cs.zipIdx.all fun x => diagN k x.2 x.1) && cs.zipIdx.all fun x => listN k x.2 x.1
def clusPN (c : D.Cluster) : Bool := piecesN c.Grid && (decide (c.Channels.length = c.Grid.Shards.length * c.Grid.Shards.length ∧ c.Counts.length = c.Grid.Shards.length) && (numN c.Sent c.Grid.Shards.length && (numN c.Got c.Grid.Shards.length && ((c.Counts.all fun x => numN x 7) && chansN c.Grid.Shards.length c.Channels))))

theorem zd7 {c : D.Cluster} (h : c.sz ≤ 1048576) : c.Grid.sz ≤ 1048576 ∧ c.Channels.length ≤ 1048576 ∧ (∀ ch, ch ∈ c.Channels → ch.length ≤ 1048576 ∧ ∀ p, p ∈ ch → p.Cell.sz ≤ 1048576) ∧ c.Counts.length ≤ 1048576 ∧ (∀ x, x ∈ c.Counts → x.length ≤ 1048576) ∧ c.Sent.length ≤ 1048576 ∧ c.Got.length ≤ 1048576 := by
  unfold D.Cluster.sz at h
  have h1 : szL (fun x => szL D.Parcel.sz x) c.Channels ≤ 1048576 := by first | omega | (simp only [] at h; omega)
  have h2 : szL (fun x : List Int => x.length) c.Counts ≤ 1048576 := by first | omega | (simp only [] at h; omega)
  refine ⟨by omega, z5H h1, fun ch hc => ?_, z5H h2, fun x hx => z5G h2 hx, by omega, by omega⟩
  have h3 := z5G h1 hc
  refine ⟨z5H h3, fun p hp => ?_⟩
  have h4 := z5G h3 hp
  unfold D.Parcel.sz at h4
  omega
theorem zbm {fuel k : Nat} {xs : List Int} (hf : 18446744073709551616 ≤ fuel) (hl : xs.length ≤ 1048576) : z2Q fuel xs (k : Int) = some (numN xs k) := by
  have hm : maxLen = 9223372036854775807 := rfl
  unfold z2Q numN
  by_cases h : xs.length = k
  · subst h
    rw [if_neg (by simp)]
    have h1 := allLoop (xs := xs) (body := z3w fuel xs (xs.length : Int)) (p := fun _ x => decide (0 ≤ x ∧ x ≤ 1000000000)) (t := ()) (v := false) (fuel := fuel) (by omega) hf (fun i x hi hx => by
      unfold z3w
      rw [if_pos (by simpa using hi), za hx, Option.bind_some, z6O, Option.bind_some]
      cases decide (0 ≤ x ∧ x ≤ 1000000000) <;> rfl) (by unfold z3w; rw [if_neg (by simp)])
    rw [z6P (p := fun x : Int => decide (0 ≤ x ∧ x ≤ 1000000000))] at h1
    rw [h1, Option.bind_some]
    cases xs.all fun x => decide (0 ≤ x ∧ x ≤ 1000000000) <;> simp [aft, z7u]
  · rw [if_pos (by simp; omega), decide_eq_false h]; rfl
theorem zjf {fuel : Nat} {xs ys : List Int} (hf : 18446744073709551616 ≤ fuel) (hl : xs.length ≤ maxLen) : z7C fuel xs ys = some (decide (xs = ys)) := by
  unfold z7C
  exact eqWhole hl hf rfl (fun i a b hi ha hb => by
    unfold z7p
    rw [if_pos (by simpa using hi), za ha, Option.bind_some, za hb, Option.bind_some]
    by_cases h : a = b <;> simp [h]) (by unfold z7p; rw [if_neg (by simp)])
theorem ziM {fuel : Nat} {xs ys : List D.Address} (hf : 18446744073709551616 ≤ fuel) (hl : xs.length ≤ maxLen) : z2h fuel xs ys = some (decide (xs = ys)) := by
  unfold z2h
  exact eqWhole hl hf rfl (fun i a b hi ha hb => by
    unfold z2E
    rw [if_pos (by simpa using hi), za ha, Option.bind_some, za hb, Option.bind_some, zeE]
    by_cases h : a = b <;> simp [h]) (by unfold z2E; rw [if_neg (by simp)])
theorem ziW {fuel : Nat} {c : D.ShardCell} (hf : 18446744073709551616 ≤ fuel) (hs : c.sz ≤ 1048576) : z4V fuel c ⟨0, 0, 0, [], []⟩ = some (emptyN c) := by
  have hm : maxLen = 9223372036854775807 := rfl
  unfold D.ShardCell.sz at hs
  unfold z4V emptyN
  dsimp only
  rw [zjf hf (by omega), ziM hf (by omega)]
  by_cases h1 : c.Kind = 0 <;> by_cases h2 : c.Level = 0 <;> by_cases h3 : c.Value = 0 <;> by_cases h4 : c.Data = [] <;> by_cases h5 : c.Aux = [] <;> simp [h1, h2, h3, h4, h5]
theorem ziX {fuel : Nat} {c : D.ShardCell} (hf : 18446744073709551616 ≤ fuel) (hs : c.sz ≤ 1048576) : z1F fuel c ⟨0, 0, 0, [], []⟩ = some (emptyN c) := by
  have hm : maxLen = 9223372036854775807 := rfl
  unfold D.ShardCell.sz at hs
  unfold z1F emptyN
  dsimp only
  rw [zfn hf (by omega), zei hf (by omega)]
  by_cases h1 : c.Kind = 0 <;> by_cases h2 : c.Level = 0 <;> by_cases h3 : c.Value = 0 <;> by_cases h4 : c.Data = [] <;> by_cases h5 : c.Aux = [] <;> simp [h1, h2, h3, h4, h5]
theorem zfF {a : D.Address} : (((a.Machine : Int) == 0) && (((a.Kind : Int) == 0) && (((a.Index : Int) == 0) && true))) = decide (a = noneN) := zeE (a := a) (b := noneN)
theorem beqD {a b : Int} : (a == b) = decide (a = b) := by by_cases h : a = b <;> simp [h]
theorem zhH {fuel : Nat} {p : D.Parcel} {to : Int} (hf : 18446744073709551616 ≤ fuel) (hs : p.Cell.sz ≤ 1048576) : z6s fuel p to = some (parcelN to p) := by
  unfold z6s
  rw [show (⟨p.Cell.Kind, p.Cell.Level, p.Cell.Value, p.Cell.Data, p.Cell.Aux⟩ : D.ShardCell) = p.Cell from rfl, ziW hf hs, zha hf hs, zfF, zfF]
  simp only [Option.bind_some, beqD]
  unfold parcelN
  by_cases k1 : p.Kind = 1
  · cases emptyN p.Cell <;> simp [k1]
  · by_cases k2 : p.Kind = 2
    · cases emptyN p.Cell <;> by_cases h : p.A.Machine = to <;> by_cases h' : p.A.Kind = 2 <;> simp [k2, h, h']
    · by_cases k3 : p.Kind = 3
      · by_cases h0 : p.Cell.Kind = 0 <;> cases shCellN p.Cell <;> by_cases h : p.A = noneN <;> by_cases h' : p.B.Machine = to <;> simp [k3, h0, h, h']
      · by_cases k4 : p.Kind = 4
        · cases emptyN p.Cell <;> by_cases h : p.A = noneN <;> by_cases h' : p.B = noneN <;> simp [k4, h, h']
        · simp [k1, k2, k3, k4]
theorem zhJ {fuel : Nat} {p : D.Parcel} {to : Int} (hf : 18446744073709551616 ≤ fuel) (hs : p.Cell.sz ≤ 1048576) : z5g fuel p to = some (parcelN to p) := by
  have key : ∀ b, z29 fuel p to b = if b = true then some false else if p.Kind = 1 then some (decide (p.A.Machine = to)) else if p.Kind = 2 then some (decide (p.A.Machine = to ∧ p.A.Kind = 2)) else if p.Kind = 3 then some ((decide (p.Cell.Kind ≠ 0) && shCellN p.Cell) && (decide (p.A = noneN) && decide (p.B.Machine = to))) else if p.Kind = 4 then some (decide (p.A = noneN) && decide (p.B = noneN)) else some false := fun b => by
    unfold z29
    rw [zhb hf hs, zfF, zfF]
    simp only [Option.bind_some, beqD]
    cases b with
    | true => rfl
    | false =>
      rw [if_neg Bool.false_ne_true, if_neg Bool.false_ne_true]
      by_cases k1 : p.Kind = 1
      · simp [k1]
      · by_cases k2 : p.Kind = 2
        · by_cases h : p.A.Machine = to <;> by_cases h' : p.A.Kind = 2 <;> simp [k2, h, h']
        · by_cases k3 : p.Kind = 3
          · by_cases h0 : p.Cell.Kind = 0 <;> cases shCellN p.Cell <;> by_cases h : p.A = noneN <;> by_cases h' : p.B.Machine = to <;> simp [k3, h0, h, h']
          · by_cases k4 : p.Kind = 4
            · by_cases h : p.A = noneN <;> by_cases h' : p.B = noneN <;> simp [k4, h, h']
            · simp [k1, k2, k3, k4]
  unfold z5g
  rw [ziX hf hs, key, Option.bind_some, key]
  unfold parcelN
  by_cases k3 : p.Kind = 3
  · simp [k3]
  · by_cases k1 : p.Kind = 1
    · cases emptyN p.Cell <;> simp [k1]
    · by_cases k2 : p.Kind = 2
      · cases emptyN p.Cell <;> simp [k2]
      · by_cases k4 : p.Kind = 4
        · cases emptyN p.Cell <;> simp [k4]
        · cases emptyN p.Cell <;> simp [k1, k2, k3, k4]
theorem tmodN {i k : Nat} (hk : k ≠ 0) : ((i : Int).tmod (k : Int)) = ((i % k : Nat) : Int) := by rw [Int.tmod_eq_emod_of_nonneg (by omega)]; exact (Int.natCast_emod i k).symm
theorem znG {k : Nat} {cs : List (List D.Parcel)} (hk : 0 < k) (hl : cs.length = k * k) : (cs.zipIdx.all fun x => diagN k x.2 x.1) = true ↔ ∀ m, m < k → cs[m * k + m]? = some [] := by
  rw [z8b (p := fun i ch => diagN k i ch)]
  constructor
  · intro h m hm
    have hlt : m * k + m < cs.length := by
      have : m * k + k ≤ k * k := by rw [← Nat.succ_mul]; exact Nat.mul_le_mul_right _ hm
      omega
    obtain ⟨ch, hc⟩ := z4a hlt
    have h1 := h _ _ hc
    rw [Nat.zero_add] at h1
    unfold diagN at h1
    have e1 : (m * k + m) / k = m := by rw [Nat.mul_comm, Nat.mul_add_div hk, Nat.div_eq_of_lt hm, Nat.add_zero]
    have e2 : (m * k + m) % k = m := by rw [Nat.mul_comm, Nat.mul_add_mod, Nat.mod_eq_of_lt hm]
    rw [e1, e2] at h1
    simp only [ne_eq, not_true_eq_false, decide_false, Bool.false_or, decide_eq_true_eq] at h1
    rw [hc, h1]
  · intro h i ch hc
    rw [Nat.zero_add]
    unfold diagN
    have hil := (List.getElem?_eq_some_iff.1 hc).1
    by_cases e : i / k = i % k
    · have h1 := h (i % k) (Nat.mod_lt _ hk)
      have e2 : i % k * k + i % k = i := by
        have := Nat.div_add_mod i k
        rw [e, Nat.mul_comm] at this
        exact this
      rw [e2, hc] at h1
      simp only [Option.some.injEq] at h1
      rw [h1]; simp
    · simp [e]
theorem zfB {fuel : Nat} {c : D.Cluster} (hf : 18446744073709551616 ≤ fuel) (hs : c.sz ≤ 1048576) : z6r fuel c = some (clusPN c) := by
  have hm : maxLen = 9223372036854775807 := rfl
  obtain ⟨z1, z2, z3, z4, z5, z6, z7⟩ := zd7 hs
  have no : z10 fuel c true = some false := by unfold z10; rfl
  unfold z6r clusPN
  rw [show (⟨c.Grid.Shards, (⟨c.Grid.Root.Machine, c.Grid.Root.Kind, c.Grid.Root.Index⟩ : D.Address)⟩ : D.Grid) = c.Grid from rfl, zhC hf z1, Option.bind_some, zbm hf z6, zbm hf z7]
  cases hp : piecesN c.Grid with
  | false => rw [Bool.not_false, if_pos rfl, no]; rfl
  | true =>
    have hk : 1 ≤ c.Grid.Shards.length ∧ c.Grid.Shards.length ≤ 4 := by
      unfold piecesN at hp
      rw [Bool.and_eq_true, decide_eq_true_eq] at hp
      exact hp.1
    have hkk : c.Grid.Shards.length * c.Grid.Shards.length ≤ 16 := Nat.mul_le_mul hk.2 hk.2
    rw [Bool.not_true, if_neg (by simp), z9 (by omega) (by omega), Bool.true_and]
    generalize hkd : c.Grid.Shards.length = k at *
    by_cases h1 : c.Channels.length = k * k
    · rw [if_neg (by simp [h1])]
      by_cases h2 : c.Counts.length = k
      · rw [if_neg (by simp [h2]), Option.bind_some, Option.bind_some]
        cases h3 : numN c.Sent k with
        | false => rw [Bool.not_false, if_pos rfl, no]; simp
        | true =>
          rw [Bool.not_true, if_neg (by simp)]
          cases h4 : numN c.Got k with
          | false => rw [Bool.not_false, no]; simp
          | true =>
            rw [Bool.not_true, decide_eq_true ⟨h1, h2⟩, Bool.true_and, Bool.true_and, Bool.true_and]
            unfold z10
            rw [if_neg (by simp)]
            have hD := allLoop (xs := c.Counts) (body := z4g fuel c) (p := fun m x => numN x 7 && decide (c.Channels[m * k + m]? = some [])) (t := ()) (v := false) (fuel := fuel) (by omega) hf (fun m x hi hx => by
              have hmk : m * k + m < c.Channels.length := by
                have : m * k + k ≤ k * k := by rw [← Nat.succ_mul]; exact Nat.mul_le_mul_right _ (by omega)
                omega
              obtain ⟨ch, hc⟩ := z4a hmk
              have hmk2 : (m : Int) * (k : Int) = ((m * k : Nat) : Int) := by simp
              have hb : m * k ≤ 16 := by omega
              unfold z4g z4d
              rw [hkd, if_pos (by simp; omega), za hx, Option.bind_some]
              have h7 := zbm (k := 7) hf (z5 x (List.mem_of_getElem? hx))
              rw [show ((7 : Nat) : Int) = 7 from rfl] at h7
              rw [h7, Option.bind_some, hmk2, z9 (n := ((m * k : Nat) : Int)) (by omega) (by omega), z9 (n := ((m * k : Nat) : Int) + (m : Int)) (by omega) (by omega), show ((m * k : Nat) : Int) + (m : Int) = ((m * k + m : Nat) : Int) by omega, za hc, hc]
              cases numN x 7 with
              | false => rfl
              | true =>
                cases ch with
                | nil => simp
                | cons y ys => simp) (by unfold z4g; rw [hkd, h2, if_neg (by simp)])
            rw [hD, Option.bind_some]
            have hdiag := znG (cs := c.Channels) (by omega : 0 < k) h1
            have hcond : ((c.Counts.zipIdx.all fun y => numN y.1 7 && decide (c.Channels[y.2 * k + y.2]? = some [])) = true) ↔ ((c.Counts.all fun x => numN x 7) = true ∧ (c.Channels.zipIdx.all fun x => diagN k x.2 x.1) = true) := by
              rw [hdiag, z8b (p := fun m x => numN x 7 && decide (c.Channels[m * k + m]? = some [])), List.all_eq_true]
              constructor
              · intro h
                refine ⟨fun x hx => ?_, fun m hm' => ?_⟩
                · obtain ⟨m, hm'⟩ := List.getElem?_of_mem hx
                  have := h m x hm'
                  rw [Bool.and_eq_true] at this
                  exact this.1
                · obtain ⟨x, hx⟩ := z4a (xs := c.Counts) (i := m) (by omega)
                  have := h m x hx
                  rw [Nat.zero_add, Bool.and_eq_true, decide_eq_true_eq] at this
                  exact this.2
              · rintro ⟨ha, hb⟩ m x hx
                have hml := (List.getElem?_eq_some_iff.1 hx).1
                rw [Nat.zero_add, ha x (List.mem_of_getElem? hx), hb m (by omega)]
                simp
            unfold chansN
            by_cases hC : (c.Counts.zipIdx.all fun y => numN y.1 7 && decide (c.Channels[y.2 * k + y.2]? = some [])) = true
            · obtain ⟨e1, e2⟩ := hcond.1 hC
              rw [if_pos hC, z8, e1, e2, Bool.true_and, Bool.true_and]
              unfold z80
              have hL := allLoop (xs := c.Channels) (body := z4f fuel c) (p := fun i ch => listN k i ch) (t := ()) (v := false) (fuel := fuel) (by omega) hf (fun i ch hi hc => by
                obtain ⟨y1, y2⟩ := z3 ch (List.mem_of_getElem? hc)
                unfold z4f listN
                rw [if_pos (by simpa using hi), za hc, Option.bind_some]
                by_cases hl : ch.length ≤ 200
                · rw [if_neg (by simp; omega), decide_eq_true hl, Bool.true_and]
                  have hP := allLoop (xs := ch) (body := z4e fuel c (i : Int)) (p := fun _ p => parcelN ((i % k : Nat) : Int) p) (t := ()) (v := Rd.ret false) (fuel := fuel) (by omega) hf (fun j p hj hp' => by
                    unfold z4e
                    rw [za hc, Option.bind_some, if_pos (by simpa using hj), Option.bind_some, za hp', Option.bind_some, hkd, if_pos (by simp; omega), tmodN (by omega), zhH hf (y2 p (List.mem_of_getElem? hp')), Option.bind_some]
                    cases parcelN ((i % k : Nat) : Int) p <;> rfl) (by unfold z4e; rw [za hc, Option.bind_some, if_neg (by simp)])
                  rw [z6P (p := parcelN ((i % k : Nat) : Int))] at hP
                  rw [hP, Option.bind_some]
                  cases ch.all (parcelN ((i % k : Nat) : Int)) <;> rfl
                · rw [if_pos (by simp; omega), decide_eq_false hl]; rfl) (by unfold z4f; rw [if_neg (by simp)])
              rw [hL, Option.bind_some]
              cases (c.Channels.zipIdx.all fun x => listN k x.2 x.1) <;> rfl
            · rw [if_neg hC]
              have : ((c.Counts.all fun x => numN x 7) && ((c.Channels.zipIdx.all fun x => diagN k x.2 x.1) && (c.Channels.zipIdx.all fun x => listN k x.2 x.1))) = false := by
                cases ha : (c.Counts.all fun x => numN x 7) with
                | false => rfl
                | true =>
                  cases hb : (c.Channels.zipIdx.all fun x => diagN k x.2 x.1) with
                  | false => rfl
                  | true => exact absurd (hcond.2 ⟨ha, hb⟩) hC
              rw [this]; rfl
      · rw [if_pos (by simp; omega), no, decide_eq_false (fun h => h2 h.2)]; rfl
    · rw [if_pos (by simp; omega), no, decide_eq_false (fun h => h1 h.1)]; rfl
end Go.E

namespace Go.E
open Go.RowKit Go.Proofs
set_option linter.unusedSimpArgs false
set_option linter.unusedVariables false

theorem zbH {α : Type} {xs : List (List α)} {i : Nat} {x : List α} (h : xs[i]? = some x) : (xs.take (i + 1)).flatten = (xs.take i).flatten ++ x := by
  rw [List.take_add_one, h]
  simp
theorem zcd {α : Type} {xs : List α} {i : Nat} {x : α} (h : xs[i]? = some x) : xs.take (i + 1) = xs.take i ++ [x] := by
  rw [List.take_add_one, h]
  rfl
theorem z84 {α : Type} {b : Nat} : ∀ {xs : List (List α)}, (∀ x, x ∈ xs → x.length ≤ b) → xs.flatten.length ≤ b * xs.length
  | [], _ => by simp
  | x :: xs, h => by
    rw [List.flatten_cons, List.length_append, List.length_cons, Nat.mul_succ]
    have := h x (by simp)
    have := z84 (xs := xs) fun y hy => h y (by simp [hy])
    omega
theorem zaK : ∀ {ps : List D.Parcel}, (cellsOf ps).length ≤ ps.length
  | [] => Nat.le_refl _
  | p :: ps => by
    rw [z6L]
    have := zaK (ps := ps)
    split
    · simp only [List.length_cons]; omega
    · simp only [List.length_cons]; omega
theorem zbC : ∀ {ps : List D.Parcel} {c : D.ShardCell}, c ∈ cellsOf ps → ∃ p, p ∈ ps ∧ p.Kind = 3 ∧ p.Cell = c
  | [], _, h => by simp [cellsOf] at h
  | p :: ps, c, h => by
    rw [z6L] at h
    split at h
    · rename_i h3
      rcases List.mem_cons.1 h with rfl | h
      · exact ⟨p, by simp, h3, rfl⟩
      · obtain ⟨q, h1, h2⟩ := zbC h
        exact ⟨q, by simp [h1], h2⟩
    · obtain ⟨q, h1, h2⟩ := zbC h
      exact ⟨q, by simp [h1], h2⟩
theorem znJ {X Y : List D.Parcel} {p : D.Parcel} (h3 : p.Kind = 3) : (cellsOf (X ++ p :: Y))[(cellsOf X).length]? = some p.Cell := by
  rw [z8a, List.getElem?_append_right (Nat.le_refl _), Nat.sub_self, z6L, if_pos h3]
  rfl

structure Chans (c : D.Cluster) : Prop where
  n : c.Channels.length ≤ 16
  l : ∀ ch, ch ∈ c.Channels → ch.length ≤ 200
  p : ∀ q, q ∈ c.Channels.flatten → q.Cell.sz ≤ 1048576 ∧ (q.Kind = 3 → q.Cell.Kind ≠ 0 ∧ q.Cell.Aux.length ≤ 3)
theorem zik {c : D.Cluster} (hs : c.sz ≤ 1048576) (h : clusPN c = true) : piecesN c.Grid = true ∧ Chans c := by
  unfold clusPN at h
  simp only [Bool.and_eq_true, decide_eq_true_eq] at h
  obtain ⟨h1, ⟨h2, h3⟩, h4, h5, h6, h7⟩ := h
  obtain ⟨z1, z2, z3, z4, z5, z6, z7⟩ := zd7 hs
  have hk : 1 ≤ c.Grid.Shards.length ∧ c.Grid.Shards.length ≤ 4 := by
    unfold piecesN at h1
    rw [Bool.and_eq_true, decide_eq_true_eq] at h1
    exact h1.1
  unfold chansN at h7
  rw [Bool.and_eq_true] at h7
  have h8 := (z8b (p := fun i ch => listN c.Grid.Shards.length i ch)).1 h7.2
  have h9 : ∀ ch, ch ∈ c.Channels → ch.length ≤ 200 ∧ ∀ q, q ∈ ch → q.Kind = 3 → q.Cell.Kind ≠ 0 ∧ q.Cell.Aux.length ≤ 3 := fun ch hc => by
    obtain ⟨i, hi⟩ := List.getElem?_of_mem hc
    have h10 := h8 i ch hi
    unfold listN at h10
    rw [Bool.and_eq_true, decide_eq_true_eq, List.all_eq_true] at h10
    refine ⟨h10.1, fun q hq h3' => ?_⟩
    have h11 := h10.2 q hq
    unfold parcelN at h11
    rw [if_neg (by omega), if_neg (by omega), if_pos h3'] at h11
    simp only [Bool.and_eq_true, decide_eq_true_eq] at h11
    exact ⟨h11.1.1, zhV h11.1.2⟩
  refine ⟨h1, ⟨?_, fun ch hc => (h9 ch hc).1, fun q hq => ?_⟩⟩
  · rw [h2]; exact Nat.mul_le_mul hk.2 hk.2
  · obtain ⟨ch, hc, hq2⟩ := List.mem_flatten.1 hq
    exact ⟨(z3 ch hc).2 q hq2, (h9 ch hc).2 q hq2⟩

section
variable {fuel : Nat} {c : D.Cluster}
theorem zj0 (hf : 18446744073709551616 ≤ fuel) (hC : Chans c) : iter (z3b fuel c) fuel (0, []) = some (.inl (cellsOf c.Channels.flatten)) := by
  have hn := hC.n
  have hfl := z84 hC.l
  have hcl := zaK (ps := c.Channels.flatten)
  obtain ⟨o, h, rfl⟩ := z12 (body := z3b fuel c) (fun i s => s = ((i : Int), cellsOf (c.Channels.take i).flatten)) c.Channels.length (fun o => o = .inl (cellsOf c.Channels.flatten)) (by
    rintro i s hi rfl
    obtain ⟨ch, hc⟩ := z4a hi
    have hch := hC.l ch (List.mem_of_getElem? hc)
    refine .inl ⟨_, ?_, rfl⟩
    have hin := z12 (body := z4U fuel c ((i : Int), cellsOf (c.Channels.take i).flatten)) (fun n s => s = ((n : Int), cellsOf ((c.Channels.take i).flatten ++ ch.take n))) ch.length (fun o => o = .inl (cellsOf ((c.Channels.take i).flatten ++ ch))) (by
      rintro n s hn' rfl
      obtain ⟨p, hp⟩ := z4a hn'
      refine .inl ⟨_, ?_, rfl⟩
      have hb : (cellsOf ((c.Channels.take i).flatten ++ ch.take n)).length ≤ 100000 := by
        have h1 := zaK (ps := (c.Channels.take i).flatten ++ ch.take n)
        have h2 := z84 (xs := c.Channels.take i) fun y hy => hC.l y (List.mem_of_mem_take hy)
        rw [List.length_append, List.length_take] at h1
        rw [List.length_take] at h2
        omega
      have e : cellsOf ((c.Channels.take i).flatten ++ ch.take (n + 1)) = cellsOf ((c.Channels.take i).flatten ++ ch.take n) ++ (if p.Kind = 3 then [p.Cell] else []) := by
        rw [zcd hp, ← List.append_assoc, z8a]
        congr 1
      rw [e]
      generalize cellsOf ((c.Channels.take i).flatten ++ ch.take n) = s at hb ⊢
      unfold z4U z4h
      dsimp only
      rw [za hc, Option.bind_some, if_pos (by simpa using hn'), Option.bind_some, za hp, Option.bind_some]
      by_cases h3 : p.Kind = 3
      · rw [if_pos (by simp [h3]), Option.bind_some, za hp, Option.bind_some, if_pos (by simp only [List.length_cons, List.length_nil, decide_eq_true_eq]; omega), if_pos h3, z9 (by omega) (by omega)]
        rfl
      · rw [if_neg (by simpa using h3), if_neg h3, List.append_nil, z9 (by omega) (by omega)]
        rfl) (by
      rintro s rfl
      refine .inr ⟨_, ?_, rfl⟩
      unfold z4U
      dsimp only
      rw [za hc, Option.bind_some, if_neg (by simp), List.take_length]) (fuel := fuel) (i := 0) (s := (0, cellsOf (c.Channels.take i).flatten)) (Nat.zero_le _) (by omega) (by simp)
    obtain ⟨o, e1, rfl⟩ := hin
    unfold z3b
    dsimp only
    rw [if_pos (by simpa using hi), e1, Option.bind_some, z8, zbH hc]
    unfold z8f
    dsimp only
    rw [z9 (by omega) (by omega)]
    rfl) (by
    rintro s rfl
    refine .inr ⟨_, ?_, rfl⟩
    unfold z3b
    rw [if_neg (by simp), List.take_length]) (fuel := fuel) (i := 0) (s := (0, [])) (Nat.zero_le _) (by omega) rfl
  exact h
theorem zn2 {g : D.Grid} (hS : Small g) : (gridS g).length ≤ 20000 := by
  have hn := hS.n
  have hfl := z8G (f := shardS) (xs := g.Shards) (b := 4000) (fun j s hc => zgi hS hc) g.Shards.length (Nat.le_refl _)
  unfold gridS rootS
  rw [List.length_append]
  simp only [List.length_cons, List.length_nil]
  omega

theorem zhG {L : D.l27Links} {at_ : List Int} {X Y : List D.Parcel} {p : D.Parcel} {M : D.l27Links} {ch : List D.Parcel} {i n : Nat} {z : Int × Int × D.l27Links} (hf : 18446744073709551616 ≤ fuel) (hs : c.Grid.sz ≤ 1048576) (hS : Small c.Grid) (hI : Items c.Grid (cellsOf c.Channels.flatten) L at_) (hC : Chans c)
    (hX : c.Channels.flatten = X ++ p :: Y) (hc : c.Channels[i]? = some ch) (hp : ch[n]? = some p) (hM : Run c.Grid (cellsOf c.Channels.flatten) L M (gridS c.Grid ++ parS 0 X)) (hz : z.2.1 = (i : Int)) :
    (parA c.Grid p = true → ∃ M', z1a fuel c (L, at_) z (((cellsOf X).length : Int), (n : Int), M) = some (.next (((cellsOf (X ++ [p])).length : Int), w64 ((n : Int) + 1), M')) ∧ Run c.Grid (cellsOf c.Channels.flatten) L M' (gridS c.Grid ++ parS 0 (X ++ [p]))) ∧
    (parA c.Grid p = false → ∃ r, z1a fuel c (L, at_) z (((cellsOf X).length : Int), (n : Int), M) = some (.ret r) ∧ ∃ M', r = .ret (M', false)) := by
  have hnl := (List.getElem?_eq_some_iff.1 hp).1
  have hfl := z84 hC.l
  have hn16 := hC.n
  have hXl : X.length + 1 ≤ 3200 := by
    have : c.Channels.flatten.length = X.length + (Y.length + 1) := by rw [hX, List.length_append, List.length_cons]
    omega
  have hcX := zaK (ps := X)
  have hpm : p ∈ c.Channels.flatten := by rw [hX]; simp
  obtain ⟨q1, q2⟩ := hC.p p hpm
  have hgl := zn2 hS
  have hpl := zjo (ps := X) (j := 0) (fun q hq h3 => ((hC.p q (by rw [hX]; simp [hq])).2 h3).2)
  have hks : (gridS c.Grid ++ parS 0 X).length ≤ 100000 := by rw [List.length_append]; omega
  have hpar : parS 0 (X ++ [p]) = parS 0 X ++ parK (cellsOf X).length p := by rw [zc5, Nat.zero_add, zmJ]
  have ge : (⟨c.Grid.Shards, (⟨c.Grid.Root.Machine, c.Grid.Root.Kind, c.Grid.Root.Index⟩ : D.Address)⟩ : D.Grid) = c.Grid := rfl
  have he : z1a fuel c (L, at_) z (((cellsOf X).length : Int), (n : Int), M) = z3a fuel c (L, at_) (((cellsOf X).length : Int), (n : Int), M) p (decide (p.Kind = 1 ∨ p.Kind = 2)) := by
    unfold z1a
    dsimp only
    rw [hz, za hc, Option.bind_some, if_pos (by simpa using hnl), Option.bind_some, za hp, Option.bind_some]
    simp only [beqD]
    by_cases k1 : p.Kind = 1
    · simp [k1]
    · by_cases k2 : p.Kind = 2 <;> simp [k1, k2]
  rw [he]
  unfold z3a
  dsimp only
  rw [ge]
  by_cases k12 : p.Kind = 1 ∨ p.Kind = 2
  · have k3 : p.Kind ≠ 3 := by omega
    have hcx : cellsOf (X ++ [p]) = cellsOf X := by rw [z8a, z6L, if_neg k3]; simp [cellsOf]
    have hpk : parK (cellsOf X).length p = [keyA p.A, keyA p.B] := by unfold parK; rw [if_pos k12]
    have hpa : parA c.Grid p = (aliveN c.Grid p.A && aliveN c.Grid p.B) := by unfold parA; rw [if_pos k12]
    obtain ⟨M', e1, e2⟩ := zfD (fuel := fuel) (a := p.A) (b := p.B) hs hI hM (by omega)
    rw [if_pos (decide_eq_true k12), e1, Option.bind_some, hpa, hcx, hpar, hpk]
    constructor
    · intro h
      dsimp only
      rw [h, Bool.not_true, if_neg (by simp)]
      exact ⟨M', rfl, by rw [← List.append_assoc]; exact e2 h⟩
    · intro h
      dsimp only
      rw [h, Bool.not_false, if_pos rfl]
      exact ⟨_, rfl, _, rfl⟩
  · rw [if_neg (by simpa using k12)]
    by_cases k3 : p.Kind = 3
    · obtain ⟨c0, c3⟩ := q2 k3
      rw [if_pos (by simp [k3])]
      have hcx : (cellsOf (X ++ [p])).length = (cellsOf X).length + 1 := by rw [z8a, z6L, if_pos k3]; simp [cellsOf]
      have hat : (cellsOf c.Channels.flatten)[(cellsOf X).length]? = some p.Cell := by rw [hX]; exact znJ k3
      have hpk : parK (cellsOf X).length p = cellS 3 0 (cellsOf X).length p.Cell ++ [(3, 0, (cellsOf X).length, 0), keyA p.B] := by unfold parK; rw [if_neg k12, if_pos k3]
      have hpa : parA c.Grid p = (p.Cell.Aux.all (aliveN c.Grid) && aliveN c.Grid p.B) := by unfold parA; rw [if_neg k12, if_pos k3]
      have hidx := za (hI.more _ _ hat)
      have hpk1 := zbL hS c.Grid.Shards.length (Nat.le_refl _)
      rw [List.take_length] at hpk1
      have hgn := hS.n
      have hrk := zbi (t := 3) (m := 0) (cs := cellsOf c.Channels.flatten) (fun y hy => by
        obtain ⟨q, g1, g2, g3⟩ := zbC hy
        rw [← g3]
        exact ((hC.p q g1).2 g2).2) (cellsOf X).length (by have := (List.getElem?_eq_some_iff.1 hat).1; omega)
      obtain ⟨M1, e1, e2⟩ := zmk (fuel := fuel) (t := 3) (m := 0) (i := (cellsOf X).length) (b := (portK c.Grid.Shards).length + (rowK 3 0 ((cellsOf c.Channels.flatten).take (cellsOf X).length)).length) hf hs hI hM c3 (by omega) (by omega) (fun k hk => by
        have := zin (g := c.Grid) (k := k + 1) hat c0 (by omega)
        rw [← Nat.add_assoc] at this
        exact this)
      rw [hidx, Option.bind_some, show (⟨p.Cell.Kind, p.Cell.Level, p.Cell.Value, p.Cell.Data, p.Cell.Aux⟩ : D.ShardCell) = p.Cell from rfl, e1, Option.bind_some, hpa, hcx, hpar, hpk]
      dsimp only
      cases ha : p.Cell.Aux.all (aliveN c.Grid) with
      | false =>
        rw [Bool.not_false, if_pos rfl, Bool.false_and]
        unfold z39
        rw [if_pos rfl]
        exact ⟨fun h => (by cases h), fun _ => ⟨_, rfl, _, rfl⟩⟩
      | true =>
        rw [Bool.not_true, if_neg (by simp), zaL hs, Option.bind_some, Bool.true_and]
        unfold z39
        dsimp only
        cases hb : aliveN c.Grid p.B with
        | false =>
          rw [Bool.not_false, if_pos rfl]
          exact ⟨fun h => (by cases h), fun _ => ⟨_, rfl, _, rfl⟩⟩
        | true =>
          rw [Bool.not_true, if_neg (by simp), hidx, Option.bind_some]
          have hR1 := e2 ha
          obtain ⟨y, y1, y2⟩ := zcu (fuel := fuel) (L' := M1) hI hR1.cells hR1.vars hb
          have hx := zin (g := c.Grid) (k := 0) hat c0 (Nat.zero_le _)
          rw [Nat.add_zero] at hx
          have hcs := zfY (t := 3) (m := 0) (i := (cellsOf X).length) c3
          obtain ⟨M2, f1, f2⟩ := zcf (fuel := fuel) hR1 hx y2 (by rw [List.length_append]; omega)
          rw [y1, Option.bind_some, f1, Option.bind_some]
          unfold z6Q z4S z4T
          dsimp only
          refine ⟨fun _ => ⟨M2, ?_, ?_⟩, fun h => by cases h⟩
          · rw [z9 (n := ((cellsOf X).length : Int) + 1) (by omega) (by omega)]
            rfl
          · rw [← List.append_assoc, ← List.append_assoc]
            exact f2
    · have hcx : cellsOf (X ++ [p]) = cellsOf X := by rw [z8a, z6L, if_neg k3]; simp [cellsOf]
      have hpk : parK (cellsOf X).length p = [] := by unfold parK; rw [if_neg k12, if_neg k3]
      have hpa : parA c.Grid p = true := by unfold parA; rw [if_neg k12, if_neg k3]
      rw [if_neg (by simpa using k3), hcx, hpar, hpk, hpa, List.append_nil]
      exact ⟨fun _ => ⟨M, rfl, hM⟩, fun h => by cases h⟩
end
end Go.E

