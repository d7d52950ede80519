/- Grids: the program's statements and its counts of names. Conditions: the grid's parts are well formed. -/
import Derived.Test.YteommboffflkbaaGreatGridAll
namespace Go.E
open Go.RowKit Go.Proofs
set_option linter.unusedSimpArgs false
set_option linter.unusedVariables false

def thA (a : D.Address) : D.thing := ⟨a, 0, false⟩
def auxT (m i k : Nat) (a : D.Address) : List D.statement := [⟨⟨⟨(m : Int), 1, (i : Int)⟩, (k : Int) + 1, true⟩, thA a⟩]
def redT (_ : Nat) (r : D.ShardRedex) : List D.statement := [⟨thA r.A, thA r.B⟩]
def fullT (m i : Nat) (v : D.ShardVar) : List D.statement := if v.Full = true then [⟨thA ⟨(m : Int), 2, (i : Int)⟩, thA v.Held⟩] else []
def cellT (m i : Nat) (c : D.ShardCell) : List D.statement := fl (auxT m i) c.Aux c.Aux.length
def shardT (m : Nat) (s : D.Shard) : List D.statement := fl (cellT m) s.Cells s.Cells.length ++ (fl redT s.Redexes s.Redexes.length ++ fl (fullT m) s.Vars s.Vars.length)
def rootT (g : D.Grid) : List D.statement := [⟨⟨noneN, 0, true⟩, thA g.Root⟩]
def gridT (g : D.Grid) : List D.statement := rootT g ++ fl shardT g.Shards g.Shards.length

theorem addLoop {α S τ ρ β : Type} {xs : List α} {body : S → Option (Rd S τ ρ)} {mk : Int → List β → S} {out : List β → τ} (f : Nat → α → List β) {s0 : List β} {fuel : Nat} (hl : xs.length ≤ 1048576) (hf : 18446744073709551616 ≤ fuel)
    (step : ∀ (i : Nat) x, xs[i]? = some x → body (mk i (s0 ++ fl f xs i)) = some (.next (mk (w64 (i + 1)) (s0 ++ fl f xs i ++ f i x))))
    (last : body (mk xs.length (s0 ++ fl f xs xs.length)) = some (.brk (out (s0 ++ fl f xs xs.length)))) :
    iter body fuel (mk 0 s0) = some (.inl (out (s0 ++ fl f xs xs.length))) := by
  obtain ⟨o, h1, h2⟩ := z1E (body := body) (fun k s => s = mk k (s0 ++ fl f xs k)) xs.length (fun o => o = .inl (out (s0 ++ fl f xs xs.length))) (by
    rintro k s hk rfl
    obtain ⟨x, hx⟩ := z52 hk
    refine .inl ⟨_, step k x hx, ?_⟩
    rw [zd (by omega) (by omega), z6B hx, List.append_assoc]
    rfl) (by
    rintro s rfl
    exact .inr ⟨_, last, rfl⟩) (fuel := fuel) (i := 0) (s := mk 0 s0) (Nat.zero_le _) (by omega) (by rw [z6Q, List.append_nil]; rfl)
  rw [h1, h2]
theorem zhe {fuel : Nat} {m i : Nat} {aux : List D.Address} (hf : 18446744073709551616 ≤ fuel) (hl : aux.length ≤ 3) : z18 fuel ⟨(m : Int), 1, (i : Int)⟩ aux = some (fl (auxT m i) aux aux.length) := by
  unfold z18
  have h := addLoop (xs := aux) (body := zP fuel ⟨(m : Int), 1, (i : Int)⟩ aux) (mk := fun k s => (s, k)) (out := fun s => s) (auxT m i) (s0 := []) (by omega) hf (fun k a ha => by
    have hkl := (List.getElem?_eq_some_iff.1 ha).1
    have hfl := z6C (f := auxT m i) (xs := aux) (b := 1) (fun _ _ _ => by simp [auxT]) k (by omega)
    rw [List.nil_append]
    generalize fl (auxT m i) aux k = s at hfl ⊢
    unfold zP z4E
    dsimp only
    have hw : w64 ((k : Int) + 1) = (k : Int) + 1 := zd (by omega) (by omega)
    rw [if_pos (by simpa using hkl), za ha, Option.bind_some, hw, if_pos (decide_eq_true (by omega)), Option.bind_some, if_pos (by simp; omega)]
    unfold z1R
    dsimp only
    rw [hw]
    rfl) (by
    unfold zP
    rw [if_neg (by simp)])
  rw [h, Option.bind_some, z8]
  rfl
theorem zbT {m i : Nat} {c : D.ShardCell} (h : c.Aux.length ≤ 3) : (cellT m i c).length ≤ 3 := by
  have := z6C (f := auxT m i) (xs := c.Aux) (b := 1) (fun _ _ _ => by simp [auxT]) c.Aux.length (Nat.le_refl _)
  unfold cellT
  omega
theorem zc3 {g : D.Grid} {m : Nat} {s : D.Shard} (hS : Small g) (hm : g.Shards[m]? = some s) : (shardT m s).length ≤ 2000 := by
  obtain ⟨a1, a2, a3, a4, a5⟩ := hS.s s (List.mem_of_getElem? hm)
  unfold shardT
  rw [List.length_append, List.length_append]
  have := z6C (f := cellT m) (xs := s.Cells) (b := 3) (fun j c hc => zbT (a4 c (List.mem_of_getElem? hc)).2.1) s.Cells.length (Nat.le_refl _)
  have := z6C (f := redT) (xs := s.Redexes) (b := 1) (fun j c hc => by simp [redT]) s.Redexes.length (Nat.le_refl _)
  have := z6C (f := fullT m) (xs := s.Vars) (b := 1) (fun j c hc => by unfold fullT; split <;> simp) s.Vars.length (Nat.le_refl _)
  omega
theorem zaR {fuel : Nat} {g : D.Grid} (hf : 18446744073709551616 ≤ fuel) (hS : Small g) : z21 fuel g = some (gridT g) := by
  have hn := hS.n
  unfold z21 z4E
  rw [if_neg (by simp), Option.bind_some]
  have h := addLoop (xs := g.Shards) (body := zR fuel g) (mk := fun k s => (k, s)) (out := fun s => s) shardT (s0 := rootT g) (fuel := fuel) (by omega) hf (fun m s hm => by
    obtain ⟨a1, a2, a3, a4, a5⟩ := hS.s s (List.mem_of_getElem? hm)
    have hml := (List.getElem?_eq_some_iff.1 hm).1
    have hfl := z6C (f := shardT) (xs := g.Shards) (b := 2000) (fun j c hc => zc3 hS hc) m (by omega)
    have hk0 : (rootT g ++ fl shardT g.Shards m).length ≤ 100000 := by rw [List.length_append]; unfold rootT; simp only [List.length_cons, List.length_nil]; omega
    generalize rootT g ++ fl shardT g.Shards m = s0 at hk0 ⊢
    unfold zR
    dsimp only
    rw [if_pos (by simpa using hml), za hm, Option.bind_some]
    have h1 := addLoop (xs := s.Cells) (body := z1o fuel ((m : Int), s0) s) (mk := fun k s => (k, s)) (out := fun s => s) (cellT m) (s0 := s0) (fuel := fuel) (by omega) hf (fun i c hc => by
      have hil := (List.getElem?_eq_some_iff.1 hc).1
      have c2 := (a4 c (List.mem_of_getElem? hc)).2.1
      have hfl := z6C (f := cellT m) (xs := s.Cells) (b := 3) (fun j c hc => zbT (a4 c (List.mem_of_getElem? hc)).2.1) i (by omega)
      have hcl := zbT (m := m) (i := i) c2
      have hk1 : (s0 ++ fl (cellT m) s.Cells i).length ≤ 200000 := by rw [List.length_append]; omega
      generalize s0 ++ fl (cellT m) s.Cells i = s1 at hk1 ⊢
      unfold z1o z2u
      dsimp only
      rw [if_pos (by simpa using hil), za hc, Option.bind_some, Option.bind_some, zhe hf c2, Option.bind_some, if_pos (by unfold cellT at hcl; simp only [decide_eq_true_eq]; omega)]
      rfl) (by
      unfold z1o
      rw [if_neg (by simp)])
    try dsimp only at h1
    rw [h1, Option.bind_some, z8]
    have hl1 := z6C (f := cellT m) (xs := s.Cells) (b := 3) (fun j c hc => zbT (a4 c (List.mem_of_getElem? hc)).2.1) s.Cells.length (Nat.le_refl _)
    have hk1 : (s0 ++ fl (cellT m) s.Cells s.Cells.length).length ≤ 200000 := by rw [List.length_append]; omega
    unfold shardT
    rw [← List.append_assoc, ← List.append_assoc]
    generalize s0 ++ fl (cellT m) s.Cells s.Cells.length = s1 at hk1 ⊢
    unfold z3V
    try dsimp only
    have h2 := addLoop (xs := s.Redexes) (body := z1n fuel s) (mk := fun k s => (k, s)) (out := fun s => s) redT (s0 := s1) (fuel := fuel) (by omega) hf (fun i c hc => by
      have hil := (List.getElem?_eq_some_iff.1 hc).1
      have hfl := z6C (f := redT) (xs := s.Redexes) (b := 1) (fun j c hc => by simp [redT]) i (by omega)
      have hk2 : (s1 ++ fl redT s.Redexes i).length ≤ 300000 := by rw [List.length_append]; omega
      generalize s1 ++ fl redT s.Redexes i = s2 at hk2 ⊢
      unfold z1n
      dsimp only
      rw [if_pos (by simpa using hil), za hc, Option.bind_some, if_pos (by simp; omega)]
      rfl) (by
      unfold z1n
      rw [if_neg (by simp)])
    try dsimp only at h2
    rw [h2, Option.bind_some, z8]
    have hl2 := z6C (f := redT) (xs := s.Redexes) (b := 1) (fun j c hc => by simp [redT]) s.Redexes.length (Nat.le_refl _)
    have hk2 : (s1 ++ fl redT s.Redexes s.Redexes.length).length ≤ 300000 := by rw [List.length_append]; omega
    generalize s1 ++ fl redT s.Redexes s.Redexes.length = s2 at hk2 ⊢
    unfold z3U
    have h3 := addLoop (xs := s.Vars) (body := z1m fuel ((m : Int), s0) s) (mk := fun k s => (k, s)) (out := fun s => s) (fullT m) (s0 := s2) (fuel := fuel) (by omega) hf (fun i c hc => by
      have hil := (List.getElem?_eq_some_iff.1 hc).1
      have hfl := z6C (f := fullT m) (xs := s.Vars) (b := 1) (fun j c hc => by unfold fullT; split <;> simp) i (by omega)
      have hk3 : (s2 ++ fl (fullT m) s.Vars i).length ≤ 400000 := by rw [List.length_append]; omega
      generalize s2 ++ fl (fullT m) s.Vars i = s3 at hk3 ⊢
      unfold z1m z2W fullT z29 z1k
      dsimp only
      rw [if_pos (by simpa using hil), za hc, Option.bind_some]
      cases c.Full with
      | false => rw [if_neg (by simp), if_neg (by simp), List.append_nil]
      | true =>
        rw [if_pos rfl, if_pos rfl, Option.bind_some, if_pos (by simp; omega)]
        rfl) (by
      unfold z1m
      rw [if_neg (by simp)])
    try dsimp only at h3
    rw [h3, Option.bind_some, z8]
    rfl) (by
    unfold zR
    rw [if_neg (by simp)])
  have h' : iter (zR fuel g) fuel (0, [⟨⟨⟨0, 0, 0⟩, 0, true⟩, ⟨⟨g.Root.Machine, g.Root.Kind, g.Root.Index⟩, 0, false⟩⟩]) = some (.inl (gridT g)) := h
  have h'' : iter (zR fuel g) fuel (0, [⟨⟨⟨0, 0, 0⟩, 0, (0 : Int) != 1⟩, ⟨⟨g.Root.Machine, g.Root.Kind, g.Root.Index⟩, 0, false⟩⟩]) = some (.inl (gridT g)) := h'
  rw [h'', Option.bind_some, z8]
  rfl


def nameT (t : D.thing) : List D.Address := if t.own = true then [] else [t.at_]
def namesT (st : D.statement) : List D.Address := nameT st.a ++ nameT st.b
def namesK (T : List D.statement) : List D.Address := fl (fun _ st => namesT st) T T.length
def Cnt (M : List (D.Address × Int)) (N : List D.Address) : Prop := ∀ a, (mget M a).getD 0 = (N.count a : Nat)
theorem zhz {M : List (D.Address × Int)} {N : List D.Address} {a : D.Address} (h : Cnt M N) (hN : N.length ≤ 1000000) : Cnt (mput M a (w64 ((mget M a).getD 0 + 1))) (N ++ [a]) := by
  intro b
  have hl := List.count_le_length (a := a) (l := N)
  rw [h a, zd (by omega) (by omega), zcg, List.count_append, List.count_singleton]
  by_cases hab : a = b
  · subst hab; simp
  · rw [if_neg hab, h b]
    simp [hab]
theorem zeB {fuel : Nat} {st : D.statement} {M : List (D.Address × Int)} {N : List D.Address} (hf : 18446744073709551616 ≤ fuel) (h : Cnt M N) (hN : N.length ≤ 900000) :
    ∃ M', iter (z1j fuel st) fuel (0, M) = some (.inl M') ∧ Cnt M' (N ++ namesT st) := by
  have hfu : ∃ n, fuel = n + 3 := ⟨fuel - 3, by omega⟩
  have key : ∀ (i : Nat) (x : D.thing) (M : List (D.Address × Int)) (N : List D.Address), i < 2 → [st.a, st.b][i]? = some x → Cnt M N → N.length ≤ 1000000 → ∃ M', z1j fuel st ((i : Int), M) = some (.next (w64 (i + 1), M')) ∧ Cnt M' (N ++ nameT x) := by
    intro i x M N hi hx hC hN
    unfold z1j
    dsimp only
    rw [if_pos (by simp; omega), za hx, Option.bind_some]
    unfold nameT z6n z5n
    cases x.own with
    | true => exact ⟨M, by rw [if_neg (by simp)], by rw [if_pos rfl, List.append_nil]; exact hC⟩
    | false => exact ⟨_, by rw [if_pos (by simp)], by rw [if_neg (by simp)]; exact zhz hC hN⟩
  obtain ⟨M1, e1, c1⟩ := key 0 st.a M N (by omega) rfl h (by omega)
  have hna : (nameT st.a).length ≤ 1 := by unfold nameT; split <;> simp
  obtain ⟨M2, e2, c2⟩ := key 1 st.b M1 (N ++ nameT st.a) (by omega) rfl c1 (by rw [List.length_append]; omega)
  have e3 : z1j fuel st (2, M2) = some (.brk M2) := by unfold z1j; rw [if_neg (by simp)]
  have w1 : w64 (((0 : Nat) : Int) + 1) = 1 := by rw [zd (by omega) (by omega)]; rfl
  have w2 : w64 (((1 : Nat) : Int) + 1) = 2 := by rw [zd (by omega) (by omega)]; rfl
  rw [w1] at e1
  rw [w2] at e2
  refine ⟨M2, ?_, by unfold namesT; rw [← List.append_assoc]; exact c2⟩
  have e1' : z1j fuel st (0, M) = some (.next (1, M1)) := e1
  have e2' : z1j fuel st (1, M1) = some (.next (2, M2)) := e2
  generalize hb : z1j fuel st = B at *
  obtain ⟨n, rfl⟩ := hfu
  simp only [iter, e1', e2', e3]
theorem zez {st : D.statement} : (namesT st).length ≤ 2 := by
  unfold namesT nameT
  rw [List.length_append]
  split <;> split <;> simp
theorem zeA {fuel : Nat} {T : List D.statement} (hf : 18446744073709551616 ≤ fuel) (hT : T.length ≤ 400000) : ∃ M, z6L fuel T = some M ∧ Cnt M (namesK T) := by
  unfold z6L
  obtain ⟨o, h1, M, rfl, h2⟩ := z1E (body := z5o fuel T) (fun i s => ∃ M, s = ((i : Int), M) ∧ Cnt M (fl (fun _ st => namesT st) T i)) T.length (fun o => ∃ M, o = .inl M ∧ Cnt M (namesK T)) (by
    rintro i _ hi ⟨M, rfl, hM⟩
    obtain ⟨st, hst⟩ := z52 hi
    have hfl := z6C (f := fun _ st => namesT st) (xs := T) (b := 2) (fun _ _ _ => zez) i (by omega)
    obtain ⟨M', e1, e2⟩ := zeB (fuel := fuel) (st := st) hf hM (by omega)
    refine .inl ⟨(w64 (i + 1), M'), ?_, M', by rw [zd (by omega) (by omega)]; rfl, by rw [z6B hst]; exact e2⟩
    unfold z5o
    dsimp only
    rw [if_pos (by simpa using hi), za hst, Option.bind_some, e1, Option.bind_some, z8]
    rfl) (by
    rintro _ ⟨M, rfl, hM⟩
    refine .inr ⟨M, ?_, M, rfl, hM⟩
    unfold z5o
    rw [if_neg (by simp)]) (fuel := fuel) (i := 0) (s := (0, [])) (Nat.zero_le _) (by omega) ⟨[], rfl, fun a => by rw [z6Q]; rfl⟩
  rw [h1, Option.bind_some, z8]
  exact ⟨M, rfl, h2⟩
def okTh (g : D.Grid) (t : D.thing) : Bool := t.own || aliveN g t.at_
def okT (g : D.Grid) (st : D.statement) : Bool := okTh g st.a && okTh g st.b
def shardC (N : List D.Address) (m : Nat) (s : D.Shard) : Bool := (s.Cells.zipIdx.all fun y => decide (y.1.Kind = 0) || decide (N.count ⟨(m : Int), 1, (y.2 : Int)⟩ = 1)) && s.Vars.zipIdx.all fun y => !y.1.Used || decide (N.count ⟨(m : Int), 2, (y.2 : Int)⟩ = 2)
def implN (g : D.Grid) (T : List D.statement) : Bool := T.all (okT g) && g.Shards.zipIdx.all fun x => shardC (namesK T) x.2 x.1
theorem zeu {fuel : Nat} {g : D.Grid} {T : List D.statement} (hf : 18446744073709551616 ≤ fuel) (hs : g.sz ≤ 1048576) (hT : T.length ≤ 400000) : z22 fuel g T = some (implN g T) := by
  have hm : maxLen = 9223372036854775807 := rfl
  obtain ⟨z1, z2⟩ := z9o hs
  unfold z22 implN
  have h1 := allLoop (xs := T) (body := z1u fuel g T) (p := fun _ st => okT g st) (t := ()) (v := false) (fuel := fuel) (by omega) hf (fun i st hi hx => by
    unfold z1u
    rw [if_pos (by simpa using hi), za hx, Option.bind_some]
    have j7 : ∀ b, zn fuel (i : Int) b = if b = true then some (.ret false) else some (.next (w64 (i + 1))) := fun b => by unfold zn; rfl
    simp only [zdX, Option.bind_some, j7]
    unfold okT okTh
    cases st.a.own <;> cases st.b.own <;> cases aliveN g st.a.at_ <;> cases aliveN g st.b.at_ <;> rfl) (by unfold z1u; rw [if_neg (by simp)])
  rw [z5v (p := okT g)] at h1
  rw [h1, Option.bind_some]
  cases T.all (okT g) with
  | false => rfl
  | true =>
    rw [if_pos rfl, z8, Bool.true_and]
    unfold z3X
    obtain ⟨M, e1, hC⟩ := zeA (T := T) hf hT
    rw [e1, Option.bind_some]
    have h2 := allLoop (xs := g.Shards) (body := z1t fuel g M) (p := fun m s => shardC (namesK T) m s) (t := ()) (v := false) (fuel := fuel) (by omega) hf (fun m s hi hx => by
      obtain ⟨y1, y2, y3, y4⟩ := z8q (z2 s (List.mem_of_getElem? hx))
      unfold z1t
      rw [if_pos (by simpa using hi), za hx, Option.bind_some]
      have hcs := allLoop (xs := s.Cells) (body := z1s fuel M (m : Int) s) (p := fun i c => decide (c.Kind = 0) || decide ((namesK T).count ⟨(m : Int), 1, (i : Int)⟩ = 1)) (t := ()) (v := Rd.ret false) (fuel := fuel) (by omega) hf (fun i c hj hc => by
        unfold z1s z2u z1p
        rw [if_pos (by simpa using hj), za hc, Option.bind_some, Option.bind_some, hC]
        by_cases k0 : c.Kind = 0
        · simp [k0]
        · by_cases h : (namesK T).count ⟨(m : Int), 1, (i : Int)⟩ = 1
          · simp [k0, h]
          · have h9 : ¬ (((namesK T).count ⟨(m : Int), 1, (i : Int)⟩ : Nat) : Int) = 1 := by omega
            simp [k0, h, h9]) (by unfold z1s; rw [if_neg (by simp)])
      have hvs := allLoop (xs := s.Vars) (body := z1r fuel M (m : Int) s) (p := fun i v => !v.Used || decide ((namesK T).count ⟨(m : Int), 2, (i : Int)⟩ = 2)) (t := ()) (v := Rd.ret false) (fuel := fuel) (by omega) hf (fun i c hj hc => by
        unfold z1r z2W z1q
        rw [if_pos (by simpa using hj), za hc, Option.bind_some, Option.bind_some, hC]
        cases c.Used with
        | false => rfl
        | true =>
          by_cases h : (namesK T).count ⟨(m : Int), 2, (i : Int)⟩ = 2
          · simp [h]
          · have h9 : ¬ (((namesK T).count ⟨(m : Int), 2, (i : Int)⟩ : Nat) : Int) = 2 := by omega
            simp [h, h9]) (by unfold z1r; rw [if_neg (by simp)])
      rw [hcs, Option.bind_some]
      unfold shardC
      cases (s.Cells.zipIdx.all fun y => decide (y.1.Kind = 0) || decide ((namesK T).count ⟨(m : Int), 1, (y.2 : Int)⟩ = 1)) with
      | false => rfl
      | true =>
        rw [if_pos rfl, z8, Bool.true_and]
        unfold z3W
        rw [hvs, Option.bind_some]
        cases (s.Vars.zipIdx.all fun y => !y.1.Used || decide ((namesK T).count ⟨(m : Int), 2, (y.2 : Int)⟩ = 2)) <;> rfl) (by unfold z1t; rw [if_neg (by simp)])
    rw [h2, Option.bind_some]
    cases (g.Shards.zipIdx.all fun x => shardC (namesK T) x.2 x.1) <;> rfl
end Go.E

