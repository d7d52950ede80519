/- Clusters: the reference's walk over the parcels. Conditions: the cluster's parts are well formed. -/
import Derived.Test.YteommboffflkbaaGreatClusSpec
namespace Go.E
open Go.RowKit Go.Proofs
set_option linter.unusedSimpArgs false
set_option linter.unusedVariables false

theorem z8p {α : Type} {xs : List (List α)} {i : Nat} {x : List α} (h : xs[i]? = some x) : (xs.take (i + 1)).flatten = (xs.take i).flatten ++ x := by
  rw [List.take_add_one, h]
  simp
theorem za2 {α : Type} {xs : List α} {i : Nat} {x : α} (h : xs[i]? = some x) : xs.take (i + 1) = xs.take i ++ [x] := by
  rw [List.take_add_one, h]
  rfl
theorem z5Z {α : Type} {b : Nat} : ∀ {xs : List (List α)}, (∀ x, x ∈ xs → x.length ≤ b) → xs.flatten.length ≤ b * xs.length
  | [], _ => by simp
  | x :: xs, h => by
    rw [List.flatten_cons, List.length_append, List.length_cons, Nat.mul_succ]
    have := h x (by simp)
    have := z5Z (xs := xs) fun y hy => h y (by simp [hy])
    omega
theorem z7H : ∀ {ps : List D.Parcel}, (cellsOf ps).length ≤ ps.length
  | [] => Nat.le_refl _
  | p :: ps => by
    rw [z4Z]
    have := z7H (ps := ps)
    split
    · simp only [List.length_cons]; omega
    · simp only [List.length_cons]; omega
theorem z8j : ∀ {ps : List D.Parcel} {c : D.ShardCell}, c ∈ cellsOf ps → ∃ p, p ∈ ps ∧ p.Kind = 3 ∧ p.Cell = c
  | [], _, h => by simp [cellsOf] at h
  | p :: ps, c, h => by
    rw [z4Z] at h
    split at h
    · rename_i h3
      rcases List.mem_cons.1 h with rfl | h
      · exact ⟨p, by simp, h3, rfl⟩
      · obtain ⟨q, h1, h2⟩ := z8j h
        exact ⟨q, by simp [h1], h2⟩
    · obtain ⟨q, h1, h2⟩ := z8j h
      exact ⟨q, by simp [h1], h2⟩
theorem zhc {X Y : List D.Parcel} {p : D.Parcel} (h3 : p.Kind = 3) : (cellsOf (X ++ p :: Y))[(cellsOf X).length]? = some p.Cell := by
  rw [z63, List.getElem?_append_right (Nat.le_refl _), Nat.sub_self, z4Z, if_pos h3]
  rfl

structure Chans (c : D.Cluster) : Prop where
  n : c.Channels.length ≤ 16
  l : ∀ ch, ch ∈ c.Channels → ch.length ≤ 200
  p : ∀ q, q ∈ c.Channels.flatten → q.Cell.sz ≤ 1048576 ∧ (q.Kind = 3 → q.Cell.Kind ≠ 0 ∧ q.Cell.Aux.length ≤ 3)
theorem zha {c : D.Cluster} (hs : c.sz ≤ 1048576) (h : clusPN c = true) : piecesN c.Grid = true ∧ Chans c := by
  unfold clusPN at h
  simp only [Bool.and_eq_true, decide_eq_true_eq] at h
  obtain ⟨h1, ⟨h2, h3⟩, h4, h5, h6, h7⟩ := h
  obtain ⟨z1, z2, z3, z4, z5, z6, z7⟩ := zbR hs
  have hk : 1 ≤ c.Grid.Shards.length ∧ c.Grid.Shards.length ≤ 4 := by
    unfold piecesN at h1
    rw [Bool.and_eq_true, decide_eq_true_eq] at h1
    exact h1.1
  unfold chansN at h7
  rw [Bool.and_eq_true] at h7
  have h8 := (z64 (p := fun i ch => listN c.Grid.Shards.length i ch)).1 h7.2
  have h9 : ∀ ch, ch ∈ c.Channels → ch.length ≤ 200 ∧ ∀ q, q ∈ ch → q.Kind = 3 → q.Cell.Kind ≠ 0 ∧ q.Cell.Aux.length ≤ 3 := fun ch hc => by
    obtain ⟨i, hi⟩ := List.getElem?_of_mem hc
    have h10 := h8 i ch hi
    unfold listN at h10
    rw [Bool.and_eq_true, decide_eq_true_eq, List.all_eq_true] at h10
    refine ⟨h10.1, fun q hq h3' => ?_⟩
    have h11 := h10.2 q hq
    unfold parcelN at h11
    rw [if_neg (by omega), if_neg (by omega), if_pos h3'] at h11
    simp only [Bool.and_eq_true, decide_eq_true_eq] at h11
    exact ⟨h11.1.1, zdm h11.1.2⟩
  refine ⟨h1, ⟨?_, fun ch hc => (h9 ch hc).1, fun q hq => ?_⟩⟩
  · rw [h2]; exact Nat.mul_le_mul hk.2 hk.2
  · obtain ⟨ch, hc, hq2⟩ := List.mem_flatten.1 hq
    exact ⟨(z3 ch hc).2 q hq2, (h9 ch hc).2 q hq2⟩

section
variable {fuel : Nat} {c : D.Cluster}
theorem ze7 (hf : 18446744073709551616 ≤ fuel) (hC : Chans c) : iter (z2j fuel c) fuel (0, []) = some (.inl (cellsOf c.Channels.flatten)) := by
  have hn := hC.n
  have hfl := z5Z hC.l
  have hcl := z7H (ps := c.Channels.flatten)
  obtain ⟨o, h, rfl⟩ := z1E (body := z2j fuel c) (fun i s => s = ((i : Int), cellsOf (c.Channels.take i).flatten)) c.Channels.length (fun o => o = .inl (cellsOf c.Channels.flatten)) (by
    rintro i s hi rfl
    obtain ⟨ch, hc⟩ := z52 hi
    have hch := hC.l ch (List.mem_of_getElem? hc)
    refine .inl ⟨_, ?_, rfl⟩
    have hin := z1E (body := z3z fuel c ((i : Int), cellsOf (c.Channels.take i).flatten)) (fun n s => s = ((n : Int), cellsOf ((c.Channels.take i).flatten ++ ch.take n))) ch.length (fun o => o = .inl (cellsOf ((c.Channels.take i).flatten ++ ch))) (by
      rintro n s hn' rfl
      obtain ⟨p, hp⟩ := z52 hn'
      refine .inl ⟨_, ?_, rfl⟩
      have hb : (cellsOf ((c.Channels.take i).flatten ++ ch.take n)).length ≤ 100000 := by
        have h1 := z7H (ps := (c.Channels.take i).flatten ++ ch.take n)
        have h2 := z5Z (xs := c.Channels.take i) fun y hy => hC.l y (List.mem_of_mem_take hy)
        rw [List.length_append, List.length_take] at h1
        rw [List.length_take] at h2
        omega
      have e : cellsOf ((c.Channels.take i).flatten ++ ch.take (n + 1)) = cellsOf ((c.Channels.take i).flatten ++ ch.take n) ++ (if p.Kind = 3 then [p.Cell] else []) := by
        rw [za2 hp, ← List.append_assoc, z63]
        congr 1
      rw [e]
      generalize cellsOf ((c.Channels.take i).flatten ++ ch.take n) = s at hb ⊢
      unfold z3z z33
      dsimp only
      rw [za hc, Option.bind_some, if_pos (by simpa using hn'), Option.bind_some, za hp, Option.bind_some]
      by_cases h3 : p.Kind = 3
      · rw [if_pos (by simp [h3]), Option.bind_some, za hp, Option.bind_some, if_pos (by simp only [List.length_cons, List.length_nil, decide_eq_true_eq]; omega), if_pos h3, zd (by omega) (by omega)]
        rfl
      · rw [if_neg (by simpa using h3), if_neg h3, List.append_nil, zd (by omega) (by omega)]
        rfl) (by
      rintro s rfl
      refine .inr ⟨_, ?_, rfl⟩
      unfold z3z
      dsimp only
      rw [za hc, Option.bind_some, if_neg (by simp), List.take_length]) (fuel := fuel) (i := 0) (s := (0, cellsOf (c.Channels.take i).flatten)) (Nat.zero_le _) (by omega) (by simp)
    obtain ⟨o, e1, rfl⟩ := hin
    unfold z2j
    dsimp only
    rw [if_pos (by simpa using hi), e1, Option.bind_some, z8, z8p hc]
    unfold z68
    dsimp only
    rw [zd (by omega) (by omega)]
    rfl) (by
    rintro s rfl
    refine .inr ⟨_, ?_, rfl⟩
    unfold z2j
    rw [if_neg (by simp), List.take_length]) (fuel := fuel) (i := 0) (s := (0, [])) (Nat.zero_le _) (by omega) rfl
  exact h
theorem zgK {g : D.Grid} (hS : Small g) : (gridS g).length ≤ 20000 := by
  have hn := hS.n
  have hfl := z6C (f := shardS) (xs := g.Shards) (b := 4000) (fun j s hc => zc4 hS hc) g.Shards.length (Nat.le_refl _)
  unfold gridS rootS
  rw [List.length_append]
  simp only [List.length_cons, List.length_nil]
  omega

theorem zda {L : D.l27Links} {at_ : List Int} {X Y : List D.Parcel} {p : D.Parcel} {M : D.l27Links} {ch : List D.Parcel} {i n : Nat} {z : Int × Int × D.l27Links} (hf : 18446744073709551616 ≤ fuel) (hs : c.Grid.sz ≤ 1048576) (hS : Small c.Grid) (hI : Items c.Grid (cellsOf c.Channels.flatten) L at_) (hC : Chans c)
    (hX : c.Channels.flatten = X ++ p :: Y) (hc : c.Channels[i]? = some ch) (hp : ch[n]? = some p) (hM : Run c.Grid (cellsOf c.Channels.flatten) L M (gridS c.Grid ++ parS 0 X)) (hz : z.2.1 = (i : Int)) :
    (parA c.Grid p = true → ∃ M', zY fuel c (L, at_) z (((cellsOf X).length : Int), (n : Int), M) = some (.next (((cellsOf (X ++ [p])).length : Int), w64 ((n : Int) + 1), M')) ∧ Run c.Grid (cellsOf c.Channels.flatten) L M' (gridS c.Grid ++ parS 0 (X ++ [p]))) ∧
    (parA c.Grid p = false → ∃ r, zY fuel c (L, at_) z (((cellsOf X).length : Int), (n : Int), M) = some (.ret r) ∧ ∃ M', r = .ret (M', false)) := by
  have hnl := (List.getElem?_eq_some_iff.1 hp).1
  have hfl := z5Z hC.l
  have hn16 := hC.n
  have hXl : X.length + 1 ≤ 3200 := by
    have : c.Channels.flatten.length = X.length + (Y.length + 1) := by rw [hX, List.length_append, List.length_cons]
    omega
  have hcX := z7H (ps := X)
  have hpm : p ∈ c.Channels.flatten := by rw [hX]; simp
  obtain ⟨q1, q2⟩ := hC.p p hpm
  have hgl := zgK hS
  have hpl := zew (ps := X) (j := 0) (fun q hq h3 => ((hC.p q (by rw [hX]; simp [hq])).2 h3).2)
  have hks : (gridS c.Grid ++ parS 0 X).length ≤ 100000 := by rw [List.length_append]; omega
  have hpar : parS 0 (X ++ [p]) = parS 0 X ++ parK (cellsOf X).length p := by rw [z8H, Nat.zero_add, zgt]
  have ge : (⟨c.Grid.Shards, (⟨c.Grid.Root.Machine, c.Grid.Root.Kind, c.Grid.Root.Index⟩ : D.Address)⟩ : D.Grid) = c.Grid := rfl
  have he : zY fuel c (L, at_) z (((cellsOf X).length : Int), (n : Int), M) = z2i fuel c (L, at_) (((cellsOf X).length : Int), (n : Int), M) p (decide (p.Kind = 1 ∨ p.Kind = 2)) := by
    unfold zY
    dsimp only
    rw [hz, za hc, Option.bind_some, if_pos (by simpa using hnl), Option.bind_some, za hp, Option.bind_some]
    simp only [beqD]
    by_cases k1 : p.Kind = 1
    · simp [k1]
    · by_cases k2 : p.Kind = 2 <;> simp [k1, k2]
  rw [he]
  unfold z2i
  dsimp only
  rw [ge]
  by_cases k12 : p.Kind = 1 ∨ p.Kind = 2
  · have k3 : p.Kind ≠ 3 := by omega
    have hcx : cellsOf (X ++ [p]) = cellsOf X := by rw [z63, z4Z, if_neg k3]; simp [cellsOf]
    have hpk : parK (cellsOf X).length p = [keyA p.A, keyA p.B] := by unfold parK; rw [if_pos k12]
    have hpa : parA c.Grid p = (aliveN c.Grid p.A && aliveN c.Grid p.B) := by unfold parA; rw [if_pos k12]
    obtain ⟨M', e1, e2⟩ := zbC (fuel := fuel) (a := p.A) (b := p.B) hs hI hM (by omega)
    rw [if_pos (decide_eq_true k12), e1, Option.bind_some, hpa, hcx, hpar, hpk]
    constructor
    · intro h
      dsimp only
      rw [h, Bool.not_true, if_neg (by simp)]
      exact ⟨M', rfl, by rw [← List.append_assoc]; exact e2 h⟩
    · intro h
      dsimp only
      rw [h, Bool.not_false, if_pos rfl]
      exact ⟨_, rfl, _, rfl⟩
  · rw [if_neg (by simpa using k12)]
    by_cases k3 : p.Kind = 3
    · obtain ⟨c0, c3⟩ := q2 k3
      rw [if_pos (by simp [k3])]
      have hcx : (cellsOf (X ++ [p])).length = (cellsOf X).length + 1 := by rw [z63, z4Z, if_pos k3]; simp [cellsOf]
      have hat : (cellsOf c.Channels.flatten)[(cellsOf X).length]? = some p.Cell := by rw [hX]; exact zhc k3
      have hpk : parK (cellsOf X).length p = cellS 3 0 (cellsOf X).length p.Cell ++ [(3, 0, (cellsOf X).length, 0), keyA p.B] := by unfold parK; rw [if_neg k12, if_pos k3]
      have hpa : parA c.Grid p = (p.Cell.Aux.all (aliveN c.Grid) && aliveN c.Grid p.B) := by unfold parA; rw [if_neg k12, if_pos k3]
      have hidx := za (hI.more _ _ hat)
      have hpk1 := z8r hS c.Grid.Shards.length (Nat.le_refl _)
      rw [List.take_length] at hpk1
      have hgn := hS.n
      have hrk := z86 (t := 3) (m := 0) (cs := cellsOf c.Channels.flatten) (fun y hy => by
        obtain ⟨q, g1, g2, g3⟩ := z8j hy
        rw [← g3]
        exact ((hC.p q g1).2 g2).2) (cellsOf X).length (by have := (List.getElem?_eq_some_iff.1 hat).1; omega)
      obtain ⟨M1, e1, e2⟩ := zg9 (fuel := fuel) (t := 3) (m := 0) (i := (cellsOf X).length) (b := (portK c.Grid.Shards).length + (rowK 3 0 ((cellsOf c.Channels.flatten).take (cellsOf X).length)).length) hf hs hI hM c3 (by omega) (by omega) (fun k hk => by
        have := zdx (g := c.Grid) (k := k + 1) hat c0 (by omega)
        rw [← Nat.add_assoc] at this
        exact this)
      rw [hidx, Option.bind_some, show (⟨p.Cell.Kind, p.Cell.Level, p.Cell.Value, p.Cell.Data, p.Cell.Aux⟩ : D.ShardCell) = p.Cell from rfl, e1, Option.bind_some, hpa, hcx, hpar, hpk]
      dsimp only
      cases ha : p.Cell.Aux.all (aliveN c.Grid) with
      | false =>
        rw [Bool.not_false, if_pos rfl, Bool.false_and]
        unfold z2h
        rw [if_pos rfl]
        exact ⟨fun h => (by cases h), fun _ => ⟨_, rfl, _, rfl⟩⟩
      | true =>
        rw [Bool.not_true, if_neg (by simp), z7J hs, Option.bind_some, Bool.true_and]
        unfold z2h
        dsimp only
        cases hb : aliveN c.Grid p.B with
        | false =>
          rw [Bool.not_false, if_pos rfl]
          exact ⟨fun h => (by cases h), fun _ => ⟨_, rfl, _, rfl⟩⟩
        | true =>
          rw [Bool.not_true, if_neg (by simp), hidx, Option.bind_some]
          have hR1 := e2 ha
          obtain ⟨y, y1, y2⟩ := z90 (fuel := fuel) (L' := M1) hI hR1.cells hR1.vars hb
          have hx := zdx (g := c.Grid) (k := 0) hat c0 (Nat.zero_le _)
          rw [Nat.add_zero] at hx
          have hcs := zbS (t := 3) (m := 0) (i := (cellsOf X).length) c3
          obtain ⟨M2, f1, f2⟩ := z8R (fuel := fuel) hR1 hx y2 (by rw [List.length_append]; omega)
          rw [y1, Option.bind_some, f1, Option.bind_some]
          unfold z53 z3x z3y
          dsimp only
          refine ⟨fun _ => ⟨M2, ?_, ?_⟩, fun h => by cases h⟩
          · rw [zd (n := ((cellsOf X).length : Int) + 1) (by omega) (by omega)]
            rfl
          · rw [← List.append_assoc, ← List.append_assoc]
            exact f2
    · have hcx : cellsOf (X ++ [p]) = cellsOf X := by rw [z63, z4Z, if_neg k3]; simp [cellsOf]
      have hpk : parK (cellsOf X).length p = [] := by unfold parK; rw [if_neg k12, if_neg k3]
      have hpa : parA c.Grid p = true := by unfold parA; rw [if_neg k12, if_neg k3]
      rw [if_neg (by simpa using k3), hcx, hpar, hpk, hpa, List.append_nil]
      exact ⟨fun _ => ⟨M, rfl, hM⟩, fun h => by cases h⟩
end
end Go.E

