/- Clusters: the parts by themselves and the reference's walk over the parcels. Conditions: the cluster's own size. -/
import Derived.Test.YteommboffflkbaaGreatClusKeys
import Derived.Test.YteommboffflkbaaGreatGridBegin
import Derived.Test.YteommboffflkbaaGreatMixedS
import Derived.Test.YteommboffflkbaaGreatFA
import Derived.Test.YteommboffflkbaaGreatFG
import Derived.Test.YteommboffflkbaaGreatFGb
import Derived.Test.YteommboffflkbaaGreatFGc
import Derived.Test.YteommboffflkbaaGreatFGd
import Derived.Test.YteommboffflkbaaGreatFGe
namespace Go.E
open Go.RowKit Go.Proofs
set_option linter.unusedSimpArgs false
set_option linter.unusedVariables false


def numN (xs : List Int) (k : Nat) : Bool := decide (xs.length = k) && xs.all fun x => decide (0 ≤ x ∧ x ≤ 1000000000)
def emptyN (c : D.ShardCell) : Bool := decide (c.Kind = 0 ∧ c.Level = 0 ∧ c.Value = 0 ∧ c.Data = [] ∧ c.Aux = [])
def parcelN (to : Int) (p : D.Parcel) : Bool :=
  if p.Kind = 1 then emptyN p.Cell && decide (p.A.Machine = to) else
  if p.Kind = 2 then emptyN p.Cell && decide (p.A.Machine = to ∧ p.A.Kind = 2) else
  if p.Kind = 3 then (decide (p.Cell.Kind ≠ 0) && shCellN p.Cell) && (decide (p.A = noneN) && decide (p.B.Machine = to)) else
  if p.Kind = 4 then emptyN p.Cell && (decide (p.A = noneN) && decide (p.B = noneN)) else false
def listN (k i : Nat) (ch : List D.Parcel) : Bool := decide (ch.length ≤ 200) && ch.all (parcelN ((i % k : Nat) : Int))
def diagN (k i : Nat) (ch : List D.Parcel) : Bool := decide (i / k ≠ i % k) || decide (ch = [])
def chansN (k : Nat) (cs : List (List D.Parcel)) : Bool := (cs.zipIdx.all fun x => diagN k x.2 x.1) && cs.zipIdx.all fun x => listN k x.2 x.1
def clusPN (c : D.Cluster) : Bool := piecesN c.Grid && (decide (c.Channels.length = c.Grid.Shards.length * c.Grid.Shards.length ∧ c.Counts.length = c.Grid.Shards.length) && (numN c.Sent c.Grid.Shards.length && (numN c.Got c.Grid.Shards.length && ((c.Counts.all fun x => numN x 7) && chansN c.Grid.Shards.length c.Channels))))

theorem zbA {c : D.Cluster} (h : c.sz ≤ 1048576) : c.Grid.sz ≤ 1048576 ∧ c.Channels.length ≤ 1048576 ∧ (∀ ch, ch ∈ c.Channels → ch.length ≤ 1048576 ∧ ∀ p, p ∈ ch → p.Cell.sz ≤ 1048576) ∧ c.Counts.length ≤ 1048576 ∧ (∀ x, x ∈ c.Counts → x.length ≤ 1048576) ∧ c.Sent.length ≤ 1048576 ∧ c.Got.length ≤ 1048576 := by
  unfold D.Cluster.sz at h
  have h1 : szL (fun x => szL D.Parcel.sz x) c.Channels ≤ 1048576 := by first | omega | (simp only [] at h; omega)
  have h2 : szL (fun x : List Int => x.length) c.Counts ≤ 1048576 := by first | omega | (simp only [] at h; omega)
  refine ⟨by omega, z6n h1, fun ch hc => ?_, z6n h2, fun x hx => z68 h2 hx, by omega, by omega⟩
  have h3 := z68 h1 hc
  refine ⟨z6n h3, fun p hp => ?_⟩
  have h4 := z68 h3 hp
  unfold D.Parcel.sz at h4
  omega
theorem z8X {fuel k : Nat} {xs : List Int} (hf : 18446744073709551616 ≤ fuel) (hl : xs.length ≤ 1048576) : z1z fuel xs (k : Int) = some (numN xs k) := by
  have hm : maxLen = 9223372036854775807 := rfl
  unfold z1z numN
  by_cases h : xs.length = k
  · subst h
    rw [if_neg (by simp)]
    have h1 := allLoop (xs := xs) (body := z3d fuel xs (xs.length : Int)) (p := fun _ x => decide (0 ≤ x ∧ x ≤ 1000000000)) (t := ()) (v := false) (fuel := fuel) (by omega) hf (fun i x hi hx => by
      unfold z3d
      rw [if_pos (by simpa using hi), zd hx, Option.bind_some, z7i, Option.bind_some]
      cases decide (0 ≤ x ∧ x ≤ 1000000000) <;> rfl) (by unfold z3d; rw [if_neg (by simp)])
    rw [z5w (p := fun x : Int => decide (0 ≤ x ∧ x ≤ 1000000000))] at h1
    rw [h1, Option.bind_some]
    cases xs.all fun x => decide (0 ≤ x ∧ x ≤ 1000000000) <;> simp [aft, z6R]
  · rw [if_pos (by simp; omega), decide_eq_false h]; rfl
theorem zhg {fuel : Nat} {xs ys : List Int} (hf : 18446744073709551616 ≤ fuel) (hl : xs.length ≤ maxLen) : z6W fuel xs ys = some (decide (xs = ys)) := by
  unfold z6W
  exact eqWhole hl hf rfl (fun i a b hi ha hb => by
    unfold z6M
    rw [if_pos (by simpa using hi), zd ha, Option.bind_some, zd hb, Option.bind_some]
    by_cases h : a = b <;> simp [h]) (by unfold z6M; rw [if_neg (by simp)])
theorem zgP {fuel : Nat} {xs ys : List D.Address} (hf : 18446744073709551616 ≤ fuel) (hl : xs.length ≤ maxLen) : z2e fuel xs ys = some (decide (xs = ys)) := by
  unfold z2e
  exact eqWhole hl hf rfl (fun i a b hi ha hb => by
    unfold z2w
    rw [if_pos (by simpa using hi), zd ha, Option.bind_some, zd hb, Option.bind_some, zcY]
    by_cases h : a = b <;> simp [h]) (by unfold z2w; rw [if_neg (by simp)])
theorem zh0 {fuel : Nat} {c : D.ShardCell} (hf : 18446744073709551616 ≤ fuel) (hs : c.sz ≤ 1048576) : z2U fuel c ⟨0, 0, 0, [], []⟩ = some (emptyN c) := by
  have hm : maxLen = 9223372036854775807 := rfl
  unfold D.ShardCell.sz at hs
  unfold z2U emptyN
  dsimp only
  rw [zhg hf (by omega), zgP hf (by omega)]
  by_cases h1 : c.Kind = 0 <;> by_cases h2 : c.Level = 0 <;> by_cases h3 : c.Value = 0 <;> by_cases h4 : c.Data = [] <;> by_cases h5 : c.Aux = [] <;> simp [h1, h2, h3, h4, h5]
theorem zh1 {fuel : Nat} {c : D.ShardCell} (hf : 18446744073709551616 ≤ fuel) (hs : c.sz ≤ 1048576) : z1r fuel c ⟨0, 0, 0, [], []⟩ = some (emptyN c) := by
  have hm : maxLen = 9223372036854775807 := rfl
  unfold D.ShardCell.sz at hs
  unfold z1r emptyN
  dsimp only
  rw [zdE hf (by omega), zcD hf (by omega)]
  by_cases h1 : c.Kind = 0 <;> by_cases h2 : c.Level = 0 <;> by_cases h3 : c.Value = 0 <;> by_cases h4 : c.Data = [] <;> by_cases h5 : c.Aux = [] <;> simp [h1, h2, h3, h4, h5]
theorem ze0 {a : D.Address} : (((a.Machine : Int) == 0) && (((a.Kind : Int) == 0) && (((a.Index : Int) == 0) && true))) = decide (a = noneN) := zcY (a := a) (b := noneN)
theorem beqD {a b : Int} : (a == b) = decide (a = b) := by by_cases h : a = b <;> simp [h]
theorem zcw {fuel : Nat} {p : D.Parcel} {to : Int} (hf : 18446744073709551616 ≤ fuel) (hs : p.Cell.sz ≤ 1048576) : z4f fuel p to = some (parcelN to p) := by
  unfold z4f
  rw [show (⟨p.Cell.Kind, p.Cell.Level, p.Cell.Value, p.Cell.Data, p.Cell.Aux⟩ : D.ShardCell) = p.Cell from rfl, zh0 hf hs, zfk hf hs, ze0, ze0]
  simp only [Option.bind_some, beqD]
  unfold parcelN
  by_cases k1 : p.Kind = 1
  · cases emptyN p.Cell <;> simp [k1]
  · by_cases k2 : p.Kind = 2
    · cases emptyN p.Cell <;> by_cases h : p.A.Machine = to <;> by_cases h' : p.A.Kind = 2 <;> simp [k2, h, h']
    · by_cases k3 : p.Kind = 3
      · by_cases h0 : p.Cell.Kind = 0 <;> cases shCellN p.Cell <;> by_cases h : p.A = noneN <;> by_cases h' : p.B.Machine = to <;> simp [k3, h0, h, h']
      · by_cases k4 : p.Kind = 4
        · cases emptyN p.Cell <;> by_cases h : p.A = noneN <;> by_cases h' : p.B = noneN <;> simp [k4, h, h']
        · simp [k1, k2, k3, k4]
theorem zfO {fuel : Nat} {p : D.Parcel} {to : Int} (hf : 18446744073709551616 ≤ fuel) (hs : p.Cell.sz ≤ 1048576) : z4G fuel p to = some (parcelN to p) := by
  have key : ∀ b, z28 fuel p to b = if b = true then some false else if p.Kind = 1 then some (decide (p.A.Machine = to)) else if p.Kind = 2 then some (decide (p.A.Machine = to ∧ p.A.Kind = 2)) else if p.Kind = 3 then some ((decide (p.Cell.Kind ≠ 0) && shCellN p.Cell) && (decide (p.A = noneN) && decide (p.B.Machine = to))) else if p.Kind = 4 then some (decide (p.A = noneN) && decide (p.B = noneN)) else some false := fun b => by
    unfold z28
    rw [zfm hf hs, ze0, ze0]
    simp only [Option.bind_some, beqD]
    cases b with
    | true => rfl
    | false =>
      rw [if_neg Bool.false_ne_true, if_neg Bool.false_ne_true]
      by_cases k1 : p.Kind = 1
      · simp [k1]
      · by_cases k2 : p.Kind = 2
        · by_cases h : p.A.Machine = to <;> by_cases h' : p.A.Kind = 2 <;> simp [k2, h, h']
        · by_cases k3 : p.Kind = 3
          · by_cases h0 : p.Cell.Kind = 0 <;> cases shCellN p.Cell <;> by_cases h : p.A = noneN <;> by_cases h' : p.B.Machine = to <;> simp [k3, h0, h, h']
          · by_cases k4 : p.Kind = 4
            · by_cases h : p.A = noneN <;> by_cases h' : p.B = noneN <;> simp [k4, h, h']
            · simp [k1, k2, k3, k4]
  unfold z4G
  rw [zh1 hf hs, key, Option.bind_some, key]
  unfold parcelN
  by_cases k3 : p.Kind = 3
  · simp [k3]
  · by_cases k1 : p.Kind = 1
    · cases emptyN p.Cell <;> simp [k1]
    · by_cases k2 : p.Kind = 2
      · cases emptyN p.Cell <;> simp [k2]
      · by_cases k4 : p.Kind = 4
        · cases emptyN p.Cell <;> simp [k4]
        · cases emptyN p.Cell <;> simp [k1, k2, k3, k4]
theorem tmodN {i k : Nat} (hk : k ≠ 0) : ((i : Int).tmod (k : Int)) = ((i % k : Nat) : Int) := by rw [Int.tmod_eq_emod_of_nonneg (by omega)]; exact (Int.natCast_emod i k).symm
theorem zkn {k : Nat} {cs : List (List D.Parcel)} (hk : 0 < k) (hl : cs.length = k * k) : (cs.zipIdx.all fun x => diagN k x.2 x.1) = true ↔ ∀ m, m < k → cs[m * k + m]? = some [] := by
  rw [z6m (p := fun i ch => diagN k i ch)]
  constructor
  · intro h m hm
    have hlt : m * k + m < cs.length := by
      have : m * k + k ≤ k * k := by rw [← Nat.succ_mul]; exact Nat.mul_le_mul_right _ hm
      omega
    obtain ⟨ch, hc⟩ := z5v hlt
    have h1 := h _ _ hc
    rw [Nat.zero_add] at h1
    unfold diagN at h1
    have e1 : (m * k + m) / k = m := by rw [Nat.mul_comm, Nat.mul_add_div hk, Nat.div_eq_of_lt hm, Nat.add_zero]
    have e2 : (m * k + m) % k = m := by rw [Nat.mul_comm, Nat.mul_add_mod, Nat.mod_eq_of_lt hm]
    rw [e1, e2] at h1
    simp only [ne_eq, not_true_eq_false, decide_false, Bool.false_or, decide_eq_true_eq] at h1
    rw [hc, h1]
  · intro h i ch hc
    rw [Nat.zero_add]
    unfold diagN
    have hil := (List.getElem?_eq_some_iff.1 hc).1
    by_cases e : i / k = i % k
    · have h1 := h (i % k) (Nat.mod_lt _ hk)
      have e2 : i % k * k + i % k = i := by
        have := Nat.div_add_mod i k
        rw [e, Nat.mul_comm] at this
        exact this
      rw [e2, hc] at h1
      simp only [Option.some.injEq] at h1
      rw [h1]; simp
    · simp [e]
theorem zdW {fuel : Nat} {c : D.Cluster} (hf : 18446744073709551616 ≤ fuel) (hs : c.sz ≤ 1048576) : z5P fuel c = some (clusPN c) := by
  have hm : maxLen = 9223372036854775807 := rfl
  obtain ⟨z1, z2, z3, z4, z5, z6, z7⟩ := zbA hs
  have no : z16 fuel c true = some false := by unfold z16; rfl
  unfold z5P clusPN
  rw [show (⟨c.Grid.Shards, (⟨c.Grid.Root.Machine, c.Grid.Root.Kind, c.Grid.Root.Index⟩ : D.Address)⟩ : D.Grid) = c.Grid from rfl, zcv hf z1, Option.bind_some, z8X hf z6, z8X hf z7]
  cases hp : piecesN c.Grid with
  | false => rw [Bool.not_false, if_pos rfl, no]; rfl
  | true =>
    have hk : 1 ≤ c.Grid.Shards.length ∧ c.Grid.Shards.length ≤ 4 := by
      unfold piecesN at hp
      rw [Bool.and_eq_true, decide_eq_true_eq] at hp
      exact hp.1
    have hkk : c.Grid.Shards.length * c.Grid.Shards.length ≤ 16 := Nat.mul_le_mul hk.2 hk.2
    rw [Bool.not_true, if_neg (by simp), zf (by omega) (by omega), Bool.true_and]
    generalize hkd : c.Grid.Shards.length = k at *
    by_cases h1 : c.Channels.length = k * k
    · rw [if_neg (by simp [h1])]
      by_cases h2 : c.Counts.length = k
      · rw [if_neg (by simp [h2]), Option.bind_some, Option.bind_some]
        cases h3 : numN c.Sent k with
        | false => rw [Bool.not_false, if_pos rfl, no]; simp
        | true =>
          rw [Bool.not_true, if_neg (by simp)]
          cases h4 : numN c.Got k with
          | false => rw [Bool.not_false, no]; simp
          | true =>
            rw [Bool.not_true, decide_eq_true ⟨h1, h2⟩, Bool.true_and, Bool.true_and, Bool.true_and]
            unfold z16
            rw [if_neg (by simp)]
            have hD := allLoop (xs := c.Counts) (body := z3L fuel c) (p := fun m x => numN x 7 && decide (c.Channels[m * k + m]? = some [])) (t := ()) (v := false) (fuel := fuel) (by omega) hf (fun m x hi hx => by
              have hmk : m * k + m < c.Channels.length := by
                have : m * k + k ≤ k * k := by rw [← Nat.succ_mul]; exact Nat.mul_le_mul_right _ (by omega)
                omega
              obtain ⟨ch, hc⟩ := z5v hmk
              have hmk2 : (m : Int) * (k : Int) = ((m * k : Nat) : Int) := by simp
              have hb : m * k ≤ 16 := by omega
              unfold z3L z3H
              rw [hkd, if_pos (by simp; omega), zd hx, Option.bind_some]
              have h7 := z8X (k := 7) hf (z5 x (List.mem_of_getElem? hx))
              rw [show ((7 : Nat) : Int) = 7 from rfl] at h7
              rw [h7, Option.bind_some, hmk2, zf (n := ((m * k : Nat) : Int)) (by omega) (by omega), zf (n := ((m * k : Nat) : Int) + (m : Int)) (by omega) (by omega), show ((m * k : Nat) : Int) + (m : Int) = ((m * k + m : Nat) : Int) by omega, zd hc, hc]
              cases numN x 7 with
              | false => rfl
              | true =>
                cases ch with
                | nil => simp
                | cons y ys => simp) (by unfold z3L; rw [hkd, h2, if_neg (by simp)])
            rw [hD, Option.bind_some]
            have hdiag := zkn (cs := c.Channels) (by omega : 0 < k) h1
            have hcond : ((c.Counts.zipIdx.all fun y => numN y.1 7 && decide (c.Channels[y.2 * k + y.2]? = some [])) = true) ↔ ((c.Counts.all fun x => numN x 7) = true ∧ (c.Channels.zipIdx.all fun x => diagN k x.2 x.1) = true) := by
              rw [hdiag, z6m (p := fun m x => numN x 7 && decide (c.Channels[m * k + m]? = some [])), List.all_eq_true]
              constructor
              · intro h
                refine ⟨fun x hx => ?_, fun m hm' => ?_⟩
                · obtain ⟨m, hm'⟩ := List.getElem?_of_mem hx
                  have := h m x hm'
                  rw [Bool.and_eq_true] at this
                  exact this.1
                · obtain ⟨x, hx⟩ := z5v (xs := c.Counts) (i := m) (by omega)
                  have := h m x hx
                  rw [Nat.zero_add, Bool.and_eq_true, decide_eq_true_eq] at this
                  exact this.2
              · rintro ⟨ha, hb⟩ m x hx
                have hml := (List.getElem?_eq_some_iff.1 hx).1
                rw [Nat.zero_add, ha x (List.mem_of_getElem? hx), hb m (by omega)]
                simp
            unfold chansN
            by_cases hC : (c.Counts.zipIdx.all fun y => numN y.1 7 && decide (c.Channels[y.2 * k + y.2]? = some [])) = true
            · obtain ⟨e1, e2⟩ := hcond.1 hC
              rw [if_pos hC, z8, e1, e2, Bool.true_and, Bool.true_and]
              unfold z79
              have hL := allLoop (xs := c.Channels) (body := z3K fuel c) (p := fun i ch => listN k i ch) (t := ()) (v := false) (fuel := fuel) (by omega) hf (fun i ch hi hc => by
                obtain ⟨y1, y2⟩ := z3 ch (List.mem_of_getElem? hc)
                unfold z3K listN
                rw [if_pos (by simpa using hi), zd hc, Option.bind_some]
                by_cases hl : ch.length ≤ 200
                · rw [if_neg (by simp; omega), decide_eq_true hl, Bool.true_and]
                  have hP := allLoop (xs := ch) (body := z3J fuel c (i : Int)) (p := fun _ p => parcelN ((i % k : Nat) : Int) p) (t := ()) (v := Rd.ret false) (fuel := fuel) (by omega) hf (fun j p hj hp' => by
                    unfold z3J
                    rw [zd hc, Option.bind_some, if_pos (by simpa using hj), Option.bind_some, zd hp', Option.bind_some, hkd, if_pos (by simp; omega), tmodN (by omega), zcw hf (y2 p (List.mem_of_getElem? hp')), Option.bind_some]
                    cases parcelN ((i % k : Nat) : Int) p <;> rfl) (by unfold z3J; rw [zd hc, Option.bind_some, if_neg (by simp)])
                  rw [z5w (p := parcelN ((i % k : Nat) : Int))] at hP
                  rw [hP, Option.bind_some]
                  cases ch.all (parcelN ((i % k : Nat) : Int)) <;> rfl
                · rw [if_pos (by simp; omega), decide_eq_false hl]; rfl) (by unfold z3K; rw [if_neg (by simp)])
              rw [hL, Option.bind_some]
              cases (c.Channels.zipIdx.all fun x => listN k x.2 x.1) <;> rfl
            · rw [if_neg hC]
              have : ((c.Counts.all fun x => numN x 7) && ((c.Channels.zipIdx.all fun x => diagN k x.2 x.1) && (c.Channels.zipIdx.all fun x => listN k x.2 x.1))) = false := by
                cases ha : (c.Counts.all fun x => numN x 7) with
                | false => rfl
                | true =>
                  cases hb : (c.Channels.zipIdx.all fun x => diagN k x.2 x.1) with
                  | false => rfl
                  | true => exact absurd (hcond.2 ⟨ha, hb⟩) hC
              rw [this]; rfl
      · rw [if_pos (by simp; omega), no, decide_eq_false (fun h => h2 h.2)]; rfl
    · rw [if_pos (by simp; omega), no, decide_eq_false (fun h => h1 h.1)]; rfl
end Go.E

namespace Go.E
open Go.RowKit Go.Proofs
set_option linter.unusedSimpArgs false
set_option linter.unusedVariables false

theorem zah {α : Type} {xs : List (List α)} {i : Nat} {x : List α} (h : xs[i]? = some x) : (xs.take (i + 1)).flatten = (xs.take i).flatten ++ x := by
  rw [List.take_add_one, h]
  simp
theorem zaP {α : Type} {xs : List α} {i : Nat} {x : α} (h : xs[i]? = some x) : xs.take (i + 1) = xs.take i ++ [x] := by
  rw [List.take_add_one, h]
  rfl
theorem z7k {α : Type} {b : Nat} : ∀ {xs : List (List α)}, (∀ x, x ∈ xs → x.length ≤ b) → xs.flatten.length ≤ b * xs.length
  | [], _ => by simp
  | x :: xs, h => by
    rw [List.flatten_cons, List.length_append, List.length_cons, Nat.mul_succ]
    have := h x (by simp)
    have := z7k (xs := xs) fun y hy => h y (by simp [hy])
    omega
theorem z9w : ∀ {ps : List D.Parcel}, (cellsOf ps).length ≤ ps.length
  | [] => Nat.le_refl _
  | p :: ps => by
    rw [z67]
    have := z9w (ps := ps)
    split
    · simp only [List.length_cons]; omega
    · simp only [List.length_cons]; omega
theorem zac : ∀ {ps : List D.Parcel} {c : D.ShardCell}, c ∈ cellsOf ps → ∃ p, p ∈ ps ∧ p.Kind = 3 ∧ p.Cell = c
  | [], _, h => by simp [cellsOf] at h
  | p :: ps, c, h => by
    rw [z67] at h
    split at h
    · rename_i h3
      rcases List.mem_cons.1 h with rfl | h
      · exact ⟨p, by simp, h3, rfl⟩
      · obtain ⟨q, h1, h2⟩ := zac h
        exact ⟨q, by simp [h1], h2⟩
    · obtain ⟨q, h1, h2⟩ := zac h
      exact ⟨q, by simp [h1], h2⟩
theorem zkp {X Y : List D.Parcel} {p : D.Parcel} (h3 : p.Kind = 3) : (cellsOf (X ++ p :: Y))[(cellsOf X).length]? = some p.Cell := by
  rw [z7q, List.getElem?_append_right (Nat.le_refl _), Nat.sub_self, z67, if_pos h3]
  rfl

structure Chans (c : D.Cluster) : Prop where
  n : c.Channels.length ≤ 16
  l : ∀ ch, ch ∈ c.Channels → ch.length ≤ 200
  p : ∀ q, q ∈ c.Channels.flatten → q.Cell.sz ≤ 1048576 ∧ (q.Kind = 3 → q.Cell.Kind ≠ 0 ∧ q.Cell.Aux.length ≤ 3)
theorem zgq {c : D.Cluster} (hs : c.sz ≤ 1048576) (h : clusPN c = true) : piecesN c.Grid = true ∧ Chans c := by
  unfold clusPN at h
  simp only [Bool.and_eq_true, decide_eq_true_eq] at h
  obtain ⟨h1, ⟨h2, h3⟩, h4, h5, h6, h7⟩ := h
  obtain ⟨z1, z2, z3, z4, z5, z6, z7⟩ := zbA hs
  have hk : 1 ≤ c.Grid.Shards.length ∧ c.Grid.Shards.length ≤ 4 := by
    unfold piecesN at h1
    rw [Bool.and_eq_true, decide_eq_true_eq] at h1
    exact h1.1
  unfold chansN at h7
  rw [Bool.and_eq_true] at h7
  have h8 := (z6m (p := fun i ch => listN c.Grid.Shards.length i ch)).1 h7.2
  have h9 : ∀ ch, ch ∈ c.Channels → ch.length ≤ 200 ∧ ∀ q, q ∈ ch → q.Kind = 3 → q.Cell.Kind ≠ 0 ∧ q.Cell.Aux.length ≤ 3 := fun ch hc => by
    obtain ⟨i, hi⟩ := List.getElem?_of_mem hc
    have h10 := h8 i ch hi
    unfold listN at h10
    rw [Bool.and_eq_true, decide_eq_true_eq, List.all_eq_true] at h10
    refine ⟨h10.1, fun q hq h3' => ?_⟩
    have h11 := h10.2 q hq
    unfold parcelN at h11
    rw [if_neg (by omega), if_neg (by omega), if_pos h3'] at h11
    simp only [Bool.and_eq_true, decide_eq_true_eq] at h11
    exact ⟨h11.1.1, zfZ h11.1.2⟩
  refine ⟨h1, ⟨?_, fun ch hc => (h9 ch hc).1, fun q hq => ?_⟩⟩
  · rw [h2]; exact Nat.mul_le_mul hk.2 hk.2
  · obtain ⟨ch, hc, hq2⟩ := List.mem_flatten.1 hq
    exact ⟨(z3 ch hc).2 q hq2, (h9 ch hc).2 q hq2⟩

section
variable {fuel : Nat} {c : D.Cluster}
theorem zh4 (hf : 18446744073709551616 ≤ fuel) (hC : Chans c) : iter (z2T fuel c) fuel (0, []) = some (.inl (cellsOf c.Channels.flatten)) := by
  have hn := hC.n
  have hfl := z7k hC.l
  have hcl := z9w (ps := c.Channels.flatten)
  obtain ⟨o, h, rfl⟩ := z1L (body := z2T fuel c) (fun i s => s = ((i : Int), cellsOf (c.Channels.take i).flatten)) c.Channels.length (fun o => o = .inl (cellsOf c.Channels.flatten)) (by
    rintro i s hi rfl
    obtain ⟨ch, hc⟩ := z5v hi
    have hch := hC.l ch (List.mem_of_getElem? hc)
    refine .inl ⟨_, ?_, rfl⟩
    have hin := z1L (body := z4s fuel c ((i : Int), cellsOf (c.Channels.take i).flatten)) (fun n s => s = ((n : Int), cellsOf ((c.Channels.take i).flatten ++ ch.take n))) ch.length (fun o => o = .inl (cellsOf ((c.Channels.take i).flatten ++ ch))) (by
      rintro n s hn' rfl
      obtain ⟨p, hp⟩ := z5v hn'
      refine .inl ⟨_, ?_, rfl⟩
      have hb : (cellsOf ((c.Channels.take i).flatten ++ ch.take n)).length ≤ 100000 := by
        have h1 := z9w (ps := (c.Channels.take i).flatten ++ ch.take n)
        have h2 := z7k (xs := c.Channels.take i) fun y hy => hC.l y (List.mem_of_mem_take hy)
        rw [List.length_append, List.length_take] at h1
        rw [List.length_take] at h2
        omega
      have e : cellsOf ((c.Channels.take i).flatten ++ ch.take (n + 1)) = cellsOf ((c.Channels.take i).flatten ++ ch.take n) ++ (if p.Kind = 3 then [p.Cell] else []) := by
        rw [zaP hp, ← List.append_assoc, z7q]
        congr 1
      rw [e]
      generalize cellsOf ((c.Channels.take i).flatten ++ ch.take n) = s at hb ⊢
      unfold z4s z3M
      dsimp only
      rw [zd hc, Option.bind_some, if_pos (by simpa using hn'), Option.bind_some, zd hp, Option.bind_some]
      by_cases h3 : p.Kind = 3
      · rw [if_pos (by simp [h3]), Option.bind_some, zd hp, Option.bind_some, if_pos (by simp only [List.length_cons, List.length_nil, decide_eq_true_eq]; omega), if_pos h3, zf (by omega) (by omega)]
        rfl
      · rw [if_neg (by simpa using h3), if_neg h3, List.append_nil, zf (by omega) (by omega)]
        rfl) (by
      rintro s rfl
      refine .inr ⟨_, ?_, rfl⟩
      unfold z4s
      dsimp only
      rw [zd hc, Option.bind_some, if_neg (by simp), List.take_length]) (fuel := fuel) (i := 0) (s := (0, cellsOf (c.Channels.take i).flatten)) (Nat.zero_le _) (by omega) (by simp)
    obtain ⟨o, e1, rfl⟩ := hin
    unfold z2T
    dsimp only
    rw [if_pos (by simpa using hi), e1, Option.bind_some, z8, zah hc]
    unfold z7t
    dsimp only
    rw [zf (by omega) (by omega)]
    rfl) (by
    rintro s rfl
    refine .inr ⟨_, ?_, rfl⟩
    unfold z2T
    rw [if_neg (by simp), List.take_length]) (fuel := fuel) (i := 0) (s := (0, [])) (Nat.zero_le _) (by omega) rfl
  exact h
theorem zk1 {g : D.Grid} (hS : Small g) : (gridS g).length ≤ 20000 := by
  have hn := hS.n
  have hfl := z81 (f := shardS) (xs := g.Shards) (b := 4000) (fun j s hc => zex hS hc) g.Shards.length (Nat.le_refl _)
  unfold gridS rootS
  rw [List.length_append]
  simp only [List.length_cons, List.length_nil]
  omega

theorem zfN {L : D.l27Links} {at_ : List Int} {X Y : List D.Parcel} {p : D.Parcel} {M : D.l27Links} {ch : List D.Parcel} {i n : Nat} {z : Int × Int × D.l27Links} (hf : 18446744073709551616 ≤ fuel) (hs : c.Grid.sz ≤ 1048576) (hS : Small c.Grid) (hI : Items c.Grid (cellsOf c.Channels.flatten) L at_) (hC : Chans c)
    (hX : c.Channels.flatten = X ++ p :: Y) (hc : c.Channels[i]? = some ch) (hp : ch[n]? = some p) (hM : Run c.Grid (cellsOf c.Channels.flatten) L M (gridS c.Grid ++ parS 0 X)) (hz : z.2.1 = (i : Int)) :
    (parA c.Grid p = true → ∃ M', z1e fuel c (L, at_) z (((cellsOf X).length : Int), (n : Int), M) = some (.next (((cellsOf (X ++ [p])).length : Int), w64 ((n : Int) + 1), M')) ∧ Run c.Grid (cellsOf c.Channels.flatten) L M' (gridS c.Grid ++ parS 0 (X ++ [p]))) ∧
    (parA c.Grid p = false → ∃ r, z1e fuel c (L, at_) z (((cellsOf X).length : Int), (n : Int), M) = some (.ret r) ∧ ∃ M', r = .ret (M', false)) := by
  have hnl := (List.getElem?_eq_some_iff.1 hp).1
  have hfl := z7k hC.l
  have hn16 := hC.n
  have hXl : X.length + 1 ≤ 3200 := by
    have : c.Channels.flatten.length = X.length + (Y.length + 1) := by rw [hX, List.length_append, List.length_cons]
    omega
  have hcX := z9w (ps := X)
  have hpm : p ∈ c.Channels.flatten := by rw [hX]; simp
  obtain ⟨q1, q2⟩ := hC.p p hpm
  have hgl := zk1 hS
  have hpl := zhp (ps := X) (j := 0) (fun q hq h3 => ((hC.p q (by rw [hX]; simp [hq])).2 h3).2)
  have hks : (gridS c.Grid ++ parS 0 X).length ≤ 100000 := by rw [List.length_append]; omega
  have hpar : parS 0 (X ++ [p]) = parS 0 X ++ parK (cellsOf X).length p := by rw [zaE, Nat.zero_add, zjJ]
  have ge : (⟨c.Grid.Shards, (⟨c.Grid.Root.Machine, c.Grid.Root.Kind, c.Grid.Root.Index⟩ : D.Address)⟩ : D.Grid) = c.Grid := rfl
  have he : z1e fuel c (L, at_) z (((cellsOf X).length : Int), (n : Int), M) = z2S fuel c (L, at_) (((cellsOf X).length : Int), (n : Int), M) p (decide (p.Kind = 1 ∨ p.Kind = 2)) := by
    unfold z1e
    dsimp only
    rw [hz, zd hc, Option.bind_some, if_pos (by simpa using hnl), Option.bind_some, zd hp, Option.bind_some]
    simp only [beqD]
    by_cases k1 : p.Kind = 1
    · simp [k1]
    · by_cases k2 : p.Kind = 2 <;> simp [k1, k2]
  rw [he]
  unfold z2S
  dsimp only
  rw [ge]
  by_cases k12 : p.Kind = 1 ∨ p.Kind = 2
  · have k3 : p.Kind ≠ 3 := by omega
    have hcx : cellsOf (X ++ [p]) = cellsOf X := by rw [z7q, z67, if_neg k3]; simp [cellsOf]
    have hpk : parK (cellsOf X).length p = [keyA p.A, keyA p.B] := by unfold parK; rw [if_pos k12]
    have hpa : parA c.Grid p = (aliveN c.Grid p.A && aliveN c.Grid p.B) := by unfold parA; rw [if_pos k12]
    obtain ⟨M', e1, e2⟩ := zdY (fuel := fuel) (a := p.A) (b := p.B) hs hI hM (by omega)
    rw [if_pos (decide_eq_true k12), e1, Option.bind_some, hpa, hcx, hpar, hpk]
    constructor
    · intro h
      dsimp only
      rw [h, Bool.not_true, if_neg (by simp)]
      exact ⟨M', rfl, by rw [← List.append_assoc]; exact e2 h⟩
    · intro h
      dsimp only
      rw [h, Bool.not_false, if_pos rfl]
      exact ⟨_, rfl, _, rfl⟩
  · rw [if_neg (by simpa using k12)]
    by_cases k3 : p.Kind = 3
    · obtain ⟨c0, c3⟩ := q2 k3
      rw [if_pos (by simp [k3])]
      have hcx : (cellsOf (X ++ [p])).length = (cellsOf X).length + 1 := by rw [z7q, z67, if_pos k3]; simp [cellsOf]
      have hat : (cellsOf c.Channels.flatten)[(cellsOf X).length]? = some p.Cell := by rw [hX]; exact zkp k3
      have hpk : parK (cellsOf X).length p = cellS 3 0 (cellsOf X).length p.Cell ++ [(3, 0, (cellsOf X).length, 0), keyA p.B] := by unfold parK; rw [if_neg k12, if_pos k3]
      have hpa : parA c.Grid p = (p.Cell.Aux.all (aliveN c.Grid) && aliveN c.Grid p.B) := by unfold parA; rw [if_neg k12, if_pos k3]
      have hidx := zd (hI.more _ _ hat)
      have hpk1 := zaj hS c.Grid.Shards.length (Nat.le_refl _)
      rw [List.take_length] at hpk1
      have hgn := hS.n
      have hrk := z9X (t := 3) (m := 0) (cs := cellsOf c.Channels.flatten) (fun y hy => by
        obtain ⟨q, g1, g2, g3⟩ := zac hy
        rw [← g3]
        exact ((hC.p q g1).2 g2).2) (cellsOf X).length (by have := (List.getElem?_eq_some_iff.1 hat).1; omega)
      obtain ⟨M1, e1, e2⟩ := zjo (fuel := fuel) (t := 3) (m := 0) (i := (cellsOf X).length) (b := (portK c.Grid.Shards).length + (rowK 3 0 ((cellsOf c.Channels.flatten).take (cellsOf X).length)).length) hf hs hI hM c3 (by omega) (by omega) (fun k hk => by
        have := zgt (g := c.Grid) (k := k + 1) hat c0 (by omega)
        rw [← Nat.add_assoc] at this
        exact this)
      rw [hidx, Option.bind_some, show (⟨p.Cell.Kind, p.Cell.Level, p.Cell.Value, p.Cell.Data, p.Cell.Aux⟩ : D.ShardCell) = p.Cell from rfl, e1, Option.bind_some, hpa, hcx, hpar, hpk]
      dsimp only
      cases ha : p.Cell.Aux.all (aliveN c.Grid) with
      | false =>
        rw [Bool.not_false, if_pos rfl, Bool.false_and]
        unfold z2R
        rw [if_pos rfl]
        exact ⟨fun h => (by cases h), fun _ => ⟨_, rfl, _, rfl⟩⟩
      | true =>
        rw [Bool.not_true, if_neg (by simp), z9x hs, Option.bind_some, Bool.true_and]
        unfold z2R
        dsimp only
        cases hb : aliveN c.Grid p.B with
        | false =>
          rw [Bool.not_false, if_pos rfl]
          exact ⟨fun h => (by cases h), fun _ => ⟨_, rfl, _, rfl⟩⟩
        | true =>
          rw [Bool.not_true, if_neg (by simp), hidx, Option.bind_some]
          have hR1 := e2 ha
          obtain ⟨y, y1, y2⟩ := zb4 (fuel := fuel) (L' := M1) hI hR1.cells hR1.vars hb
          have hx := zgt (g := c.Grid) (k := 0) hat c0 (Nat.zero_le _)
          rw [Nat.add_zero] at hx
          have hcs := zec (t := 3) (m := 0) (i := (cellsOf X).length) c3
          obtain ⟨M2, f1, f2⟩ := zaS (fuel := fuel) hR1 hx y2 (by rw [List.length_append]; omega)
          rw [y1, Option.bind_some, f1, Option.bind_some]
          unfold z6d z4q z4r
          dsimp only
          refine ⟨fun _ => ⟨M2, ?_, ?_⟩, fun h => by cases h⟩
          · rw [zf (n := ((cellsOf X).length : Int) + 1) (by omega) (by omega)]
            rfl
          · rw [← List.append_assoc, ← List.append_assoc]
            exact f2
    · have hcx : cellsOf (X ++ [p]) = cellsOf X := by rw [z7q, z67, if_neg k3]; simp [cellsOf]
      have hpk : parK (cellsOf X).length p = [] := by unfold parK; rw [if_neg k12, if_neg k3]
      have hpa : parA c.Grid p = true := by unfold parA; rw [if_neg k12, if_neg k3]
      rw [if_neg (by simpa using k3), hcx, hpar, hpk, hpa, List.append_nil]
      exact ⟨fun _ => ⟨M, rfl, hM⟩, fun h => by cases h⟩
end
end Go.E

namespace Go.E
open Go.RowKit Go.Proofs
set_option linter.unusedSimpArgs false
set_option linter.unusedVariables false

section
variable {fuel : Nat} {c : D.Cluster}
theorem zko {L : D.l27Links} {at_ : List Int} {i : Nat} {ch : List D.Parcel} {M0 : D.l27Links} {z : Int × Int × D.l27Links} (hf : 18446744073709551616 ≤ fuel) (hs : c.Grid.sz ≤ 1048576) (hS : Small c.Grid) (hI : Items c.Grid (cellsOf c.Channels.flatten) L at_) (hC : Chans c)
    (hc : c.Channels[i]? = some ch) (hM : Run c.Grid (cellsOf c.Channels.flatten) L M0 (gridS c.Grid ++ parS 0 (c.Channels.take i).flatten)) (hz : z.2.1 = (i : Int)) :
    (ch.all (parA c.Grid) = true ∧ ∃ t, iter (z1e fuel c (L, at_) z) fuel (((cellsOf (c.Channels.take i).flatten).length : Int), 0, M0) = some (.inl t) ∧ ∃ M, t = (((cellsOf (c.Channels.take (i + 1)).flatten).length : Int), M) ∧ Run c.Grid (cellsOf c.Channels.flatten) L M (gridS c.Grid ++ parS 0 (c.Channels.take (i + 1)).flatten)) ∨
    (ch.all (parA c.Grid) = false ∧ ∃ r, iter (z1e fuel c (L, at_) z) fuel (((cellsOf (c.Channels.take i).flatten).length : Int), 0, M0) = some (.inr r) ∧ ∃ M, r = .ret (M, false)) := by
  have hch := hC.l ch (List.mem_of_getElem? hc)
  have hfl : c.Channels.flatten = (c.Channels.take i).flatten ++ (ch ++ (c.Channels.drop (i + 1)).flatten) := by
    have h1 := zah hc
    have h2 : c.Channels.flatten = (c.Channels.take (i + 1)).flatten ++ (c.Channels.drop (i + 1)).flatten := by rw [← List.flatten_append, List.take_append_drop]
    rw [h2, h1, List.append_assoc]
  have h := tryLoop (xs := ch) (body := z1e fuel c (L, at_) z) (fuel := fuel)
    (fun n st => ∃ M : D.l27Links, st = (((cellsOf ((c.Channels.take i).flatten ++ ch.take n)).length : Int), (n : Int), M) ∧ Run c.Grid (cellsOf c.Channels.flatten) L M (gridS c.Grid ++ parS 0 ((c.Channels.take i).flatten ++ ch.take n)))
    (fun _ p => parA c.Grid p)
    (fun t => ∃ M, t = (((cellsOf (c.Channels.take (i + 1)).flatten).length : Int), M) ∧ Run c.Grid (cellsOf c.Channels.flatten) L M (gridS c.Grid ++ parS 0 (c.Channels.take (i + 1)).flatten))
    (fun r => ∃ M, r = .ret (M, false)) (s0 := (((cellsOf (c.Channels.take i).flatten).length : Int), 0, M0)) (by omega) hf (by
    rintro n p _ hp ⟨M, rfl, hM'⟩
    have hnl := (List.getElem?_eq_some_iff.1 hp).1
    have hX : c.Channels.flatten = ((c.Channels.take i).flatten ++ ch.take n) ++ p :: (ch.drop (n + 1) ++ (c.Channels.drop (i + 1)).flatten) := by
      rw [hfl, List.append_assoc]
      congr 1
      have : ch = ch.take n ++ p :: ch.drop (n + 1) := by
        have h3 := List.take_append_drop (n + 1) ch
        rw [zaP hp, List.append_assoc] at h3
        exact h3.symm
      rw [← List.cons_append, ← List.append_assoc, ← this]
    obtain ⟨g1, g2⟩ := zfN (z := z) hf hs hS hI hC hX hc hp hM' hz
    refine ⟨fun hp1 => ?_, fun hp1 => ?_⟩
    · obtain ⟨M', e1, e2⟩ := g1 hp1
      have ht : (c.Channels.take i).flatten ++ ch.take (n + 1) = ((c.Channels.take i).flatten ++ ch.take n) ++ [p] := by rw [zaP hp, List.append_assoc]
      refine ⟨_, e1, M', ?_, ?_⟩
      · rw [ht, zf (by omega) (by omega)]; rfl
      · rw [ht]; exact e2
    · exact g2 hp1) (by
    rintro _ ⟨M, rfl, hM'⟩
    rw [List.take_length] at hM'
    refine ⟨_, ?_, M, rfl, by rw [zah hc]; exact hM'⟩
    unfold z1e
    dsimp only
    rw [hz, zd hc, Option.bind_some, if_neg (by simp), List.take_length, zah hc]) ⟨M0, by simp, by simpa using hM⟩
  rw [z5w (p := parA c.Grid)] at h
  exact h
theorem zjh {L : D.l27Links} {at_ : List Int} {M0 : D.l27Links} (hf : 18446744073709551616 ≤ fuel) (hs : c.Grid.sz ≤ 1048576) (hS : Small c.Grid) (hI : Items c.Grid (cellsOf c.Channels.flatten) L at_) (hC : Chans c)
    (hM : Run c.Grid (cellsOf c.Channels.flatten) L M0 (gridS c.Grid)) :
    (c.Channels.flatten.all (parA c.Grid) = true ∧ ∃ t, iter (z2d fuel c (L, at_)) fuel (0, 0, M0) = some (.inl t) ∧ Run c.Grid (cellsOf c.Channels.flatten) L t (gridS c.Grid ++ parS 0 c.Channels.flatten)) ∨
    (c.Channels.flatten.all (parA c.Grid) = false ∧ ∃ r, iter (z2d fuel c (L, at_)) fuel (0, 0, M0) = some (.inr r) ∧ ∃ M, r = (M, false)) := by
  have hn := hC.n
  have hfl := z7k hC.l
  have h := tryLoop (xs := c.Channels) (body := z2d fuel c (L, at_)) (fuel := fuel)
    (fun i st => ∃ M : D.l27Links, st = (((cellsOf (c.Channels.take i).flatten).length : Int), (i : Int), M) ∧ Run c.Grid (cellsOf c.Channels.flatten) L M (gridS c.Grid ++ parS 0 (c.Channels.take i).flatten))
    (fun _ ch => ch.all (parA c.Grid))
    (fun t => Run c.Grid (cellsOf c.Channels.flatten) L t (gridS c.Grid ++ parS 0 c.Channels.flatten))
    (fun r => ∃ M, r = (M, false)) (s0 := (0, 0, M0)) (by omega) hf (by
    rintro i ch _ hc ⟨M, rfl, hM'⟩
    have hil := (List.getElem?_eq_some_iff.1 hc).1
    unfold z2d
    dsimp only
    rw [if_pos (by simpa using hil)]
    rcases zko (z := (((cellsOf (c.Channels.take i).flatten).length : Int), (i : Int), M)) hf hs hS hI hC hc hM' rfl with ⟨c1, t, c2, M1, rfl, c3⟩ | ⟨c1, r, c2, M1, rfl⟩
    · rw [c1, c2, Option.bind_some, z8]
      unfold z7u
      dsimp only
      exact ⟨fun _ => ⟨_, rfl, M1, by rw [zf (by omega) (by omega)]; rfl, c3⟩, fun h => by cases h⟩
    · rw [c1, c2, Option.bind_some]
      exact ⟨fun h => (by cases h), fun _ => ⟨_, rfl, _, rfl⟩⟩) (by
    rintro _ ⟨M, rfl, hM'⟩
    rw [List.take_length] at hM'
    refine ⟨_, ?_, hM'⟩
    unfold z2d
    rw [if_neg (by simp)]) ⟨M0, by simp [cellsOf], by simpa [parS] using hM⟩
  rw [z5w (p := fun ch : List D.Parcel => ch.all (parA c.Grid)), ← List.all_flatten] at h
  exact h
theorem zkL (hf : 18446744073709551616 ≤ fuel) (hs : c.Grid.sz ≤ 1048576) (hS : Small c.Grid) (hC : Chans c) :
    ∃ L at_ L', Items c.Grid (cellsOf c.Channels.flatten) L at_ ∧ z6r fuel c = some (L', gridA c.Grid && c.Channels.flatten.all (parA c.Grid)) ∧ ((gridA c.Grid && c.Channels.flatten.all (parA c.Grid)) = true → Run c.Grid (cellsOf c.Channels.flatten) L L' (gridS c.Grid ++ parS 0 c.Channels.flatten)) := by
  have hn := hC.n
  have hfl := z7k hC.l
  have hcl := z9w (ps := c.Channels.flatten)
  have ge : (⟨c.Grid.Shards, (⟨c.Grid.Root.Machine, c.Grid.Root.Kind, c.Grid.Root.Index⟩ : D.Address)⟩ : D.Grid) = c.Grid := rfl
  obtain ⟨L, at_, b1, hI⟩ := zjm (fuel := fuel) (g := c.Grid) (more := cellsOf c.Channels.flatten) hf hS ⟨by omega, fun y hy => by
    obtain ⟨q, g1, g2, g3⟩ := zac hy
    rw [← g3]
    exact ⟨(hC.p q g1).1, ((hC.p q g1).2 g2).2⟩⟩
  obtain ⟨M0, a1, a2⟩ := zkQ (fuel := fuel) hf hs hS hI
  refine ⟨L, at_, ?_⟩
  unfold z6r
  rw [zh4 hf hC, Option.bind_some, z8]
  unfold z7v
  rw [ge, b1, Option.bind_some]
  dsimp only
  rw [a1, Option.bind_some]
  dsimp only
  cases hA : gridA c.Grid with
  | false => exact ⟨M0, hI, rfl, fun h => by cases h⟩
  | true =>
    rw [Bool.not_true, if_neg (by simp), Bool.true_and]
    rcases zjh hf hs hS hI hC (a2 hA) with ⟨c1, t, c2, c3⟩ | ⟨c1, r, c2, M1, rfl⟩
    · rw [c1, c2, Option.bind_some, z8]
      exact ⟨t, hI, rfl, fun _ => c3⟩
    · rw [c1, c2, Option.bind_some]
      exact ⟨M1, hI, rfl, fun h => by cases h⟩

def clusN (c : D.Cluster) : Bool := clusPN c && implN c.Grid (gridT c.Grid ++ chansT c.Channels)
theorem zje (hf : 18446744073709551616 ≤ fuel) (hs : c.sz ≤ 1048576) : z88 fuel c = some (clusN c) := by
  obtain ⟨z1, _⟩ := zbA hs
  unfold z88 clusN
  rw [zdW hf hs, Option.bind_some]
  cases hp : clusPN c with
  | false => rfl
  | true =>
    obtain ⟨hpn, hC⟩ := zgq hs hp
    have hS := zdQ z1 hpn
    obtain ⟨L, at_, L', hI, e1, e2⟩ := zkL (fuel := fuel) hf z1 hS hC
    have hn := hC.n
    have hgn := hS.n
    have hfl := z7k hC.l
    have hcl := z9w (ps := c.Channels.flatten)
    rw [Bool.not_true, if_neg (by simp), e1, Option.bind_some, Bool.true_and, ← zjf]
    dsimp only
    cases hA : gridA c.Grid with
    | false => rfl
    | true =>
      cases hB : c.Channels.flatten.all (parA c.Grid) with
      | false => rfl
      | true =>
        have hpl : L.ports.length ≤ 1048576 := by
          rw [hI.ports]
          have h := zaj hS c.Grid.Shards.length (Nat.le_refl _)
          rw [List.take_length] at h
          have h2 := z9X (t := 3) (m := 0) (cs := cellsOf c.Channels.flatten) (fun y hy => by
            obtain ⟨q, g1, g2, g3⟩ := zac hy
            rw [← g3]
            exact ((hC.p q g1).2 g2).2) (cellsOf c.Channels.flatten).length (Nat.le_refl _)
          rw [List.take_length] at h2
          rw [List.length_append]
          omega
        rw [Bool.true_and, if_pos rfl]
        have h9 := zh3 hf z1 hI (e2 (by rw [hA, hB]; rfl)) hpl
        have h10 : z4g fuel (⟨c.Grid.Shards, (⟨c.Grid.Root.Machine, c.Grid.Root.Kind, c.Grid.Root.Index⟩ : D.Address)⟩ : D.Grid) L' = _ := h9
        rw [h10]
        rfl


theorem zaJ {k : Int} {xs : List Int} (hf : 18446744073709551616 ≤ fuel) (hl : xs.length ≤ 1048576) : z5M fuel k xs = some (xs.all fun x => decide (0 ≤ x ∧ x ≤ k)) := by
  have hm : maxLen = 9223372036854775807 := rfl
  unfold z5M
  rw [zbH (p := fun x => !decide (0 ≤ x ∧ x ≤ k)) hf (by omega) (fun x => by
    unfold z76
    by_cases h : x < 0
    · rw [if_pos (decide_eq_true h), decide_eq_false (by omega)]; rfl
    · rw [if_neg (by simpa using h)]
      by_cases h2 : x > k
      · rw [decide_eq_true h2, decide_eq_false (by omega)]; rfl
      · rw [decide_eq_false h2, decide_eq_true (by omega)]; rfl), Option.bind_some, z9f, Bool.not_not]
theorem zeb {p : List Int → Bool} {f : List Int → Option Bool} {xs : List (List Int)} (hf : 18446744073709551616 ≤ fuel) (hl : xs.length ≤ maxLen) (h : ∀ n, n ∈ xs → f n = some (p n)) :
    zN fuel xs f = some (xs.any p) := by
  unfold zN z1i
  obtain ⟨r, h1, h2⟩ := askIndex (xs := xs) (p := p) (body := zJ fuel xs f) (j := z1A fuel) (t := ()) hl hf rfl (fun i x hi hx => by
    simp only [zJ, zd hx, h x (List.mem_of_getElem? hx), lt_t (show (i : Int) < xs.length by omega), if_true, Option.bind_some]) (by simp [zJ])
  rw [h1, Option.bind_some, h2]
theorem zcR {p : D.Parcel → Bool} {f : D.Parcel → Option Bool} {xs : List D.Parcel} (hf : 18446744073709551616 ≤ fuel) (hl : xs.length ≤ maxLen) (h : ∀ n, n ∈ xs → f n = some (p n)) :
    zg fuel xs f = some (xs.any p) := by
  unfold zg zS
  obtain ⟨r, h1, h2⟩ := askIndex (xs := xs) (p := p) (body := zm fuel xs f) (j := z1c fuel) (t := ()) hl hf rfl (fun i x hi hx => by
    simp only [zm, zd hx, h x (List.mem_of_getElem? hx), lt_t (show (i : Int) < xs.length by omega), if_true, Option.bind_some]) (by simp [zm])
  rw [h1, Option.bind_some, h2]
theorem zcP {xs : List Int} (hf : 18446744073709551616 ≤ fuel) (hl : xs.length ≤ 1048576) : z1K fuel xs = some (numN xs 7) := by
  unfold z1K numN
  rw [zaJ hf hl, Option.bind_some]
  by_cases h : xs.length = 7
  · rw [if_pos (by simp [h]), decide_eq_true h, Bool.true_and]
  · rw [if_neg (by simp; omega), decide_eq_false h, Bool.false_and]
theorem zgn {i k : Nat} : ((i : Int).tdiv (k : Int)) = ((i / k : Nat) : Int) := by rw [Int.tdiv_eq_ediv_of_nonneg (by omega)]; exact (Int.natCast_ediv i k).symm
theorem zc7 {k : Nat} {cs : List (List D.Parcel)} (hf : 18446744073709551616 ≤ fuel) (hk : 1 ≤ k ∧ k ≤ 4) (hl : cs.length ≤ 1048576) (hc : ∀ ch, ch ∈ cs → ch.length ≤ 1048576 ∧ ∀ p, p ∈ ch → p.Cell.sz ≤ 1048576) : z2u fuel cs (k : Int) = some (decide (cs.length = k * k) && chansN k cs) := by
  have hm : maxLen = 9223372036854775807 := rfl
  have hkk : k * k ≤ 16 := Nat.mul_le_mul hk.2 hk.2
  have hke : (k : Int) * (k : Int) = ((k * k : Nat) : Int) := by simp
  unfold z2u
  rw [hke, zf (by omega) (by omega)]
  by_cases h1 : cs.length = k * k
  · rw [if_neg (by simp [h1]), decide_eq_true h1, Bool.true_and]
    have hL := allLoop (xs := cs) (body := z2m fuel cs (k : Int)) (p := fun i ch => diagN k i ch && listN k i ch) (t := ()) (v := false) (fuel := fuel) (by omega) hf (fun i ch hi hx => by
      obtain ⟨y1, y2⟩ := hc ch (List.mem_of_getElem? hx)
      have hP := zcR (fuel := fuel) (p := fun p => !parcelN ((i % k : Nat) : Int) p) (f := fun y0 => z1B fuel y0 ((i % k : Nat) : Int)) (xs := ch) hf (by omega) (fun p hp => by
        unfold z1B
        rw [zfO hf (y2 p hp)]
        rfl)
      rw [z9f] at hP
      have j2 : ∀ b, zP fuel (i : Int) b = if b = true then some (.ret false) else some (.next (w64 ((i : Int) + 1))) := fun b => by unfold zP; rfl
      have hdk : ((i / k : Nat) : Int) ≤ (i : Int) := Int.ofNat_le.2 (Nat.div_le_self i k)
      have hd0 : (0 : Int) ≤ ((i / k : Nat) : Int) := Int.natCast_nonneg _
      unfold z2m
      rw [if_pos (by simpa using hi), zd hx, Option.bind_some, if_pos (by simp; omega), if_pos (by simp; omega), zgn, tmodN (by omega), zf (n := ((i / k : Nat) : Int)) (by omega) (by omega), hP]
      simp only [Option.bind_some, j2]
      unfold diagN listN
      by_cases e : i / k = i % k
      · rw [if_pos (by simp [e])]
        cases ch with
        | nil => simp [e]
        | cons y ys => simp [e]
      · rw [if_neg (by simp; omega)]
        by_cases h2 : ch.length ≤ 200
        · rw [if_neg (by simp; omega)]
          cases hq : ch.all (parcelN ((i % k : Nat) : Int)) <;> simp [e, h2, hq]
        · rw [if_pos (by simp; omega)]
          simp [e, h2]) (by unfold z2m; rw [if_neg (by simp)])
    rw [hL, Option.bind_some]
    have hand : (cs.zipIdx.all fun y => diagN k y.2 y.1 && listN k y.2 y.1) = chansN k cs := by
      unfold chansN
      induction cs.zipIdx with
      | nil => rfl
      | cons y ys ih =>
        simp only [List.all_cons, ih]
        cases diagN k y.2 y.1 <;> cases listN k y.2 y.1 <;> cases (ys.all fun x => diagN k x.2 x.1) <;> rfl
    rw [hand]
    cases chansN k cs <;> simp [aft, z5J]
  · rw [if_pos (by simp; omega), decide_eq_false h1]; rfl
theorem zjp {at_ : D.Address} {aux : List D.Address} (hf : 18446744073709551616 ≤ fuel) (hl : aux.length ≤ 3) : z1s fuel at_ aux = some (fl (auxTA at_) aux aux.length) := by
  unfold z1s
  have h := addLoop (xs := aux) (body := z15 fuel at_ aux) (mk := fun k s => (s, k)) (out := fun s => s) (auxTA at_) (s0 := []) (by omega) hf (fun k a ha => by
    have hkl := (List.getElem?_eq_some_iff.1 ha).1
    have hfl := z81 (f := auxTA at_) (xs := aux) (b := 1) (fun _ _ _ => by simp [auxTA]) k (by omega)
    rw [List.nil_append]
    generalize fl (auxTA at_) aux k = s at hfl ⊢
    unfold z15 z5K
    dsimp only
    have hw : w64 ((k : Int) + 1) = (k : Int) + 1 := zf (by omega) (by omega)
    rw [if_pos (by simpa using hkl), zd ha, Option.bind_some, hw, if_pos (decide_eq_true (by omega)), Option.bind_some, if_pos (by simp; omega)]
    unfold z2n
    dsimp only
    rw [hw]
    rfl) (by
    unfold z15
    rw [if_neg (by simp)])
  rw [h, Option.bind_some, z8]
  rfl
theorem zho {ch i : Nat} {p : D.Parcel} (h : p.Kind = 3 → p.Cell.Aux.length ≤ 3) : (parT ch i p).length ≤ 4 := by
  unfold parT
  split
  · simp
  · split
    · rename_i h3
      have := z81 (f := auxTA ⟨(ch : Int), 3, (i : Int)⟩) (xs := p.Cell.Aux) (b := 1) (fun _ _ _ => by simp [auxTA]) p.Cell.Aux.length (Nat.le_refl _)
      have := h h3
      rw [List.length_append]
      simp only [List.length_cons, List.length_nil]
      omega
    · simp
theorem zfM (hf : 18446744073709551616 ≤ fuel) (hC : Chans c) : zR fuel c = some (chansT c.Channels) ∧ (chansT c.Channels).length ≤ 20000 := by
  have hn := hC.n
  have hp3 : ∀ ch, ch ∈ c.Channels → ∀ p, p ∈ ch → p.Kind = 3 → p.Cell.Aux.length ≤ 3 := fun ch h1 p h2 h3 => ((hC.p p (List.mem_flatten.2 ⟨ch, h1, h2⟩)).2 h3).2
  have hcl : ∀ (i : Nat) ch, c.Channels[i]? = some ch → (chanT i ch).length ≤ 800 := fun i ch hc => by
    have hch := hC.l ch (List.mem_of_getElem? hc)
    have := z81 (f := parT i) (xs := ch) (b := 4) (fun j p hp => zho (hp3 ch (List.mem_of_getElem? hc) p (List.mem_of_getElem? hp))) ch.length (Nat.le_refl _)
    unfold chanT
    omega
  have hall : ∀ i, i ≤ c.Channels.length → (fl chanT c.Channels i).length ≤ 800 * i := fun i hi => z81 (f := chanT) (xs := c.Channels) (b := 800) hcl i hi
  refine ⟨?_, by have := hall c.Channels.length (Nat.le_refl _); unfold chansT; omega⟩
  unfold zR
  have h := addLoop (xs := c.Channels) (body := z10 fuel c) (mk := fun k s => (s, k)) (out := fun s => s) chanT (s0 := []) (fuel := fuel) (by omega) hf (fun i ch hc => by
    have hil := (List.getElem?_eq_some_iff.1 hc).1
    have hch := hC.l ch (List.mem_of_getElem? hc)
    have h0 := hall i (by omega)
    rw [List.nil_append]
    generalize fl chanT c.Channels i = s0 at h0 ⊢
    unfold z10
    dsimp only
    rw [if_pos (by simpa using hil), zd hc, Option.bind_some]
    have h1 := addLoop (xs := ch) (body := zB fuel (s0, (i : Int)) ch) (mk := fun k s => (k, s)) (out := fun s => s) (parT i) (s0 := s0) (fuel := fuel) (by omega) hf (fun n p hp => by
      have hnl := (List.getElem?_eq_some_iff.1 hp).1
      have h3' := hp3 ch (List.mem_of_getElem? hc) p (List.mem_of_getElem? hp)
      have hfl := z81 (f := parT i) (xs := ch) (b := 4) (fun j p hp => zho (hp3 ch (List.mem_of_getElem? hc) p (List.mem_of_getElem? hp))) n (by omega)
      have hb : (s0 ++ fl (parT i) ch n).length ≤ 100000 := by rw [List.length_append]; omega
      generalize s0 ++ fl (parT i) ch n = s at hb ⊢
      have he : zB fuel (s0, (i : Int)) ch ((n : Int), s) = zA fuel (s0, (i : Int)) ((n : Int), s) p (decide (p.Kind = 1 ∨ p.Kind = 2)) := by
        unfold zB
        dsimp only
        rw [if_pos (by simpa using hnl), zd hp, Option.bind_some]
        simp only [beqD]
        by_cases k1 : p.Kind = 1
        · simp [k1]
        · by_cases k2 : p.Kind = 2 <;> simp [k1, k2]
      rw [he]
      unfold zA parT
      dsimp only
      by_cases k12 : p.Kind = 1 ∨ p.Kind = 2
      · rw [if_pos (decide_eq_true k12), if_pos (by simp; omega), if_pos k12]
        rfl
      · rw [if_neg (by simpa using k12), if_neg k12]
        by_cases k3 : p.Kind = 3
        · have haux := zjp (fuel := fuel) (at_ := ⟨(i : Int), 3, (n : Int)⟩) hf (h3' k3)
          have hal := z81 (f := auxTA ⟨(i : Int), 3, (n : Int)⟩) (xs := p.Cell.Aux) (b := 1) (fun _ _ _ => by simp [auxTA]) p.Cell.Aux.length (Nat.le_refl _)
          have h33 := h3' k3
          rw [if_pos (by simp [k3]), if_pos k3]
          unfold z51
          rw [Option.bind_some, haux, Option.bind_some, if_pos (by simp only [decide_eq_true_eq]; omega)]
          unfold z5K
          rw [if_neg (by simp), Option.bind_some, if_pos (by simp only [List.length_append, List.length_cons, List.length_nil, decide_eq_true_eq]; omega), ← List.append_assoc]
          rfl
        · rw [if_neg (by simpa using k3), if_neg k3, List.append_nil]
          rfl) (by
      unfold zB
      rw [if_neg (by simp)])
    try dsimp only at h1
    rw [h1, Option.bind_some, z8]
    rfl) (by
    unfold z10
    rw [if_neg (by simp)])
  rw [h, Option.bind_some, z8]
  rfl
theorem zjg (hf : 18446744073709551616 ≤ fuel) (hs : c.sz ≤ 1048576) : z41 fuel c = some (clusN c) := by
  have hm : maxLen = 9223372036854775807 := rfl
  obtain ⟨z1, z2, z3, z4, z5, z6, z7⟩ := zbA hs
  have ge : (⟨c.Grid.Shards, (⟨c.Grid.Root.Machine, c.Grid.Root.Kind, c.Grid.Root.Index⟩ : D.Address)⟩ : D.Grid) = c.Grid := rfl
  have no1 : ∀ r, z19 fuel c r true = some false := fun r => by unfold z19; rfl
  have no2 : zn fuel c true = some false := by unfold zn; rfl
  have j2 : zn fuel c false = if (c.Counts.all fun x => numN x 7) = true then ((zR fuel c).bind fun r47 => (z2a fuel c.Grid r47).bind fun r56 => some r56) else some false := by
    unfold zn
    rw [if_neg (by simp), zeb (p := fun x => !numN x 7) hf (by omega) (fun x hx => by unfold z47; rw [zcP hf (z5 x hx)]; rfl), z9f, Option.bind_some]
    cases (c.Counts.all fun x => numN x 7) <;> rfl
  unfold z41 z1D
  rw [Option.bind_some]
  by_cases hk : 1 ≤ c.Grid.Shards.length ∧ c.Grid.Shards.length ≤ 4
  · rw [if_neg (by simp; omega), if_neg (by simp; omega), zc7 hf hk z2 z3, Option.bind_some]
    by_cases h1 : c.Channels.length = c.Grid.Shards.length * c.Grid.Shards.length
    · rw [decide_eq_true h1, Bool.true_and]
      cases h2 : chansN c.Grid.Shards.length c.Channels with
      | false =>
        rw [Bool.not_false, no1]
        have : clusPN c = false := by unfold clusPN; rw [h2]; simp
        unfold clusN
        rw [this]; rfl
      | true =>
        rw [Bool.not_true]
        unfold z19
        rw [if_neg (by simp)]
        have key : ∀ b, (b = false → clusPN c = false) → b = false → zn fuel c true = some (clusN c) := fun b h hb => by
          rw [no2]
          unfold clusN
          rw [h hb]; rfl
        by_cases h3 : c.Counts.length = c.Grid.Shards.length
        · rw [if_neg (by simp [h3])]
          by_cases h4 : c.Sent.length = c.Grid.Shards.length
          · rw [if_neg (by simp [h4])]
            by_cases h5 : c.Got.length = c.Grid.Shards.length
            · rw [if_neg (by simp [h5]), zaJ hf z6, zaJ hf z7, Option.bind_some, Option.bind_some]
              have e4 : numN c.Sent c.Grid.Shards.length = (c.Sent.all fun x => decide (0 ≤ x ∧ x ≤ 1000000000)) := by unfold numN; rw [decide_eq_true h4, Bool.true_and]
              have e5 : numN c.Got c.Grid.Shards.length = (c.Got.all fun x => decide (0 ≤ x ∧ x ≤ 1000000000)) := by unfold numN; rw [decide_eq_true h5, Bool.true_and]
              rw [← e4, ← e5]
              cases h6 : numN c.Sent c.Grid.Shards.length with
              | false =>
                rw [Bool.not_false, if_pos rfl]
                exact key false (fun _ => by unfold clusPN; rw [h6]; simp) rfl
              | true =>
                rw [Bool.not_true, if_neg (by simp)]
                cases h7 : numN c.Got c.Grid.Shards.length with
                | false =>
                  rw [Bool.not_false]
                  exact key false (fun _ => by unfold clusPN; rw [h7]; simp) rfl
                | true =>
                  rw [Bool.not_true, j2]
                  cases h8 : (c.Counts.all fun x => numN x 7) with
                  | false =>
                    have : clusPN c = false := by unfold clusPN; rw [h8]; simp
                    unfold clusN
                    rw [if_neg (by simp), this]; rfl
                  | true =>
                    have hcp : clusPN c = piecesN c.Grid := by
                      unfold clusPN
                      rw [h2, h6, h7, h8, decide_eq_true ⟨h1, h3⟩]
                      simp
                    rw [if_pos rfl]

                    have hC : Chans c := by
                      refine ⟨by rw [h1]; exact Nat.mul_le_mul hk.2 hk.2, fun ch hc => ?_, fun q hq => ?_⟩
                      · unfold chansN at h2
                        rw [Bool.and_eq_true] at h2
                        obtain ⟨i, hi⟩ := List.getElem?_of_mem hc
                        have h10 := (z6m (p := fun i ch => listN c.Grid.Shards.length i ch)).1 h2.2 i ch hi
                        unfold listN at h10
                        rw [Bool.and_eq_true, decide_eq_true_eq] at h10
                        exact h10.1
                      · obtain ⟨ch, hc, hq2⟩ := List.mem_flatten.1 hq
                        refine ⟨(z3 ch hc).2 q hq2, fun h3' => ?_⟩
                        unfold chansN at h2
                        rw [Bool.and_eq_true] at h2
                        obtain ⟨i, hi⟩ := List.getElem?_of_mem hc
                        have h10 := (z6m (p := fun i ch => listN c.Grid.Shards.length i ch)).1 h2.2 i ch hi
                        unfold listN at h10
                        rw [Bool.and_eq_true, decide_eq_true_eq, List.all_eq_true] at h10
                        have h11 := h10.2 q hq2
                        unfold parcelN at h11
                        rw [if_neg (by omega), if_neg (by omega), if_pos h3'] at h11
                        simp only [Bool.and_eq_true, decide_eq_true_eq] at h11
                        exact ⟨h11.1.1, zfZ h11.1.2⟩
                    obtain ⟨e9, e10⟩ := zfM (fuel := fuel) hf hC
                    rw [e9, Option.bind_some, zfK hf z1]
                    unfold z1d clusN
                    rw [hcp]
                    cases hp : piecesN c.Grid with
                    | false => rfl
                    | true =>
                      have hS := zdQ z1 hp
                      have hgn := hS.n
                      have hfl := z81 (f := shardT) (xs := c.Grid.Shards) (b := 2000) (fun j s hc => zew hS hc) c.Grid.Shards.length (Nat.le_refl _)
                      have hl : (gridT c.Grid).length ≤ 100000 := by unfold gridT rootT; rw [List.length_append]; simp only [List.length_cons, List.length_nil]; omega
                      rw [Bool.not_true, if_neg (by simp), zd5 hf hS, Option.bind_some, if_pos (by simp only [decide_eq_true_eq]; omega), zhn hf z1 (by rw [List.length_append]; omega), Option.bind_some, Option.bind_some, Bool.true_and]
            · rw [if_pos (by simp; omega)]
              exact key false (fun _ => by unfold clusPN numN; rw [decide_eq_false h5]; simp) rfl
          · rw [if_pos (by simp; omega)]
            exact key false (fun _ => by unfold clusPN numN; rw [decide_eq_false h4]; simp) rfl
        · rw [if_pos (by simp; omega)]
          exact key false (fun _ => by unfold clusPN; rw [decide_eq_false (fun h => h3 h.2)]; simp) rfl
    · rw [decide_eq_false h1, Bool.false_and, Bool.not_false, no1]
      have : clusPN c = false := by unfold clusPN; rw [decide_eq_false (fun h => h1 h.1)]; simp
      unfold clusN
      rw [this]; rfl
  · have : clusPN c = false := by unfold clusPN piecesN; rw [decide_eq_false hk]; rfl
    unfold clusN
    rw [this]
    by_cases h : c.Grid.Shards.length < 1
    · rw [if_pos (by simp; omega), no1]; rfl
    · rw [if_neg (by simp; omega), if_pos (by simp; omega), no1]; rfl
end
end Go.E

namespace Go.E
open Go.RowKit Go.Proofs
set_option linter.unusedSimpArgs false
set_option linter.unusedVariables false

section
variable {fuel : Nat} {c : D.Cluster}
end

theorem zcS {c : D.Cluster} (hs : c.sz ≤ 1048576) (h : clusN c = true) : Small c.Grid ∧ Chans c ∧ c.Grid.Shards.length ≠ 0 ∧ c.Channels.length = c.Grid.Shards.length * c.Grid.Shards.length := by
  unfold clusN at h
  rw [Bool.and_eq_true] at h
  obtain ⟨z1, _⟩ := zbA hs
  obtain ⟨hp, hC⟩ := zgq hs h.1
  have h1 := h.1
  unfold clusPN at h1
  simp only [Bool.and_eq_true, decide_eq_true_eq] at h1
  have h2 := hp
  unfold piecesN at h2
  rw [Bool.and_eq_true, decide_eq_true_eq] at h2
  exact ⟨zdQ z1 hp, hC, by omega, h1.2.1.1⟩
end Go.E

namespace Go.E
open Go.RowKit Go.Proofs
set_option linter.unusedSimpArgs false
set_option linter.unusedVariables false

def oneN (b : Bool) : Nat := if b = true then 1 else 0
def markN (ch : List D.Parcel) : Nat := sumL (fun p : D.Parcel => oneN (p.Kind == 4)) ch
section
variable {fuel : Nat} {c : D.Cluster}
theorem zhx {b : Bool} : oneN b ≤ 1 := by unfold oneN; split <;> omega
theorem zkw {α : Type} {f : α → Nat} {b : Nat} : ∀ {xs : List α}, (∀ x, x ∈ xs → f x ≤ b) → sumL f xs ≤ b * xs.length
  | [], _ => by simp [sumL]
  | x :: xs, h => by
    have h1 := h x (by simp)
    have h2 := zkw (b := b) (xs := xs) fun y hy => h y (by simp [hy])
    simp only [sumL, List.length_cons, Nat.mul_add]
    omega
theorem zhF {ch : List D.Parcel} : markN ch ≤ ch.length := by
  have := zkw (f := fun p : D.Parcel => oneN (p.Kind == 4)) (b := 1) (xs := ch) fun _ _ => zhx
  unfold markN
  omega
theorem zfn {b : Bool} : z3w fuel b = some ((oneN b : Nat) : Int) := by unfold z3w; cases b <;> rfl
theorem zdq {b : Bool} : z5y fuel b = some ((oneN b : Nat) : Int) := by unfold z5y; cases b <;> rfl
theorem zdA {ch : List D.Parcel} (hf : 18446744073709551616 ≤ fuel) (hl : ch.length ≤ 1048576) : z3y fuel ch = some ((markN ch : Nat) : Int) := by
  unfold z3y
  have h := sumLoop (xs := ch) (body := z39 fuel ch) (mk := fun i s => (s, i)) (out := fun s => s) (f := fun p : D.Parcel => oneN (p.Kind == 4)) (c0 := 0) (fuel := fuel) (by omega) hf (fun i p hp => by
    have hil := (List.getElem?_eq_some_iff.1 hp).1
    have hb := zhF (ch := ch.take i)
    have hb1 := zhx (b := p.Kind == 4)
    unfold markN at hb
    rw [List.length_take] at hb
    unfold z39
    dsimp only
    rw [if_pos (by simpa using hil), zd hp, Option.bind_some, zfn, Option.bind_some, zf (n := _ + ((oneN _ : Nat) : Int)) (by omega) (by omega)]) (fun s => by
    unfold z39
    rw [if_neg (by simp)])
  try dsimp only at h
  rw [h, Option.bind_some, z8, Int.zero_add]
  rfl
theorem zdB {ch : List D.Parcel} (hf : 18446744073709551616 ≤ fuel) (hl : ch.length ≤ 1048576) : z64 fuel ch = some ((markN ch : Nat) : Int) := by
  unfold z64
  have h := sumLoop (xs := ch) (body := z5s fuel ch) (mk := fun i s => (s, i)) (out := fun s => s) (f := fun p : D.Parcel => oneN (p.Kind == 4)) (c0 := 0) (fuel := fuel) (by omega) hf (fun i p hp => by
    have hil := (List.getElem?_eq_some_iff.1 hp).1
    have hb := zhF (ch := ch.take i)
    have hb1 := zhx (b := p.Kind == 4)
    unfold markN at hb
    rw [List.length_take] at hb
    unfold z5s
    dsimp only
    rw [if_pos (by simpa using hil), zd hp, Option.bind_some, zdq, Option.bind_some, zf (n := _ + ((oneN _ : Nat) : Int)) (by omega) (by omega)]) (fun s => by
    unfold z5s
    rw [if_neg (by simp)])
  try dsimp only at h
  rw [h, Option.bind_some, z8, Int.zero_add]
  rfl
end
end Go.E

namespace Go.E
open Go.RowKit Go.Proofs
set_option linter.unusedSimpArgs false
set_option linter.unusedVariables false

theorem z8x {fuel : Nat} {x : (List Int)} (hf : 18446744073709551616 ≤ fuel) (hs : x.length ≤ 1048576) : z2M fuel x x = some true := by
  have hl := hs
  unfold z2M
  rw [if_neg (by simp)]
  refine z66 (n := x.length) (t := ()) (by unfold maxLen; omega) hf rfl ?_ ?_
  · intro i hi
    obtain ⟨y, hy⟩ := z5v hi
    have hsy : 0 ≤ 1048576 := Nat.zero_le _
    simp [z6i, zd hy, hi, z25]
  · simp [z6i]

theorem z8u {fuel : Nat} {x : (List Int)} {l : Int} (hf : 18446744073709551616 ≤ fuel) (hw : WfL I64 x) (h0 : 0 ≤ l) (h1 : l ≤ 1048576) : SzOk (x.length) l (z2L fuel x l) := by
  unfold z2L
  generalize hz : w64 (l - (x.length : Int)) = z
  exact SzOk.sub2 h0 h1 hw.1 (m := 0) rfl hz fun g0 g1 => SzOk.same g0

theorem z8t {fuel : Nat} {x : (List Int)} (hf : 18446744073709551616 ≤ fuel) (hs : x.length ≤ 1048576) : z2K fuel x = some x := by
  have hl := hs
  unfold z2K
  refine z75 hl hf (fun _ => rfl) ?_ ?_
  · intro i y out hy hl2
    have hi := (List.getElem?_eq_some_iff.1 hy).1
    have hsy : 0 ≤ 1048576 := Nat.zero_le _
    simp only [z6f, zd hy, Option.bind_some, lt_t (show (i : Int) < x.length by omega), if_true]
    rw [if_pos (by simp; omega)]
    simp
  · intro out
    simp [z6f]

theorem z4H {fuel : Nat} {x : D.Address} (hf : 18446744073709551616 ≤ fuel) (hs : 0 ≤ 1048576) : z1m fuel x = some x := by
  skip
  unfold z1m
  rfl

theorem z4R {fuel : Nat} {x : D.Address} (hf : 18446744073709551616 ≤ fuel) (hs : 0 ≤ 1048576) : z1n fuel x x = some true := by
  skip
  simp [z1n, z25]

theorem zay {fuel : Nat} {x : (List (List Int))} {l : Int} (hf : 18446744073709551616 ≤ fuel) (hw : WfL (WfL I64) x) (h0 : 0 ≤ l) (h1 : l ≤ 1048576) : SzOk (szL (fun x => x.length) x) l (z4m fuel x l) := by
  unfold z4m
  generalize hz : w64 (l - (x.length : Int)) = z
  refine SzOk.sub2 h0 h1 hw.1 (m := sumL (fun x => x.length) x) rfl hz fun g0 g1 => ?_
  refine SzOk.loop hw.1 hf g0 (by omega) (fun _ => rfl) ?_ ?_
  · intro i y l hy h0 h1
    have hi := (List.getElem?_eq_some_iff.1 hy).1
    have hwy := hw.2 y (List.mem_of_getElem? hy)
    obtain ⟨r, h2, h3⟩ := z8u hf hwy h0 h1
    simp only [z5F, zd hy, Option.bind_some, lt_t (show (i : Int) < x.length by omega), if_true, h2]
    by_cases hlt : r < 0
    · exact .inl (by simp only [lt_t hlt, if_true])
    · exact .inr ⟨r, by simp only [lt_f hlt, if_false], h3.resolve_left hlt⟩
  · intro l
    simp [z5F]

theorem zaw {fuel : Nat} {x : (List (List Int))} (hf : 18446744073709551616 ≤ fuel) (hs : szL (fun x => x.length) x ≤ 1048576) : z4j fuel x = some x := by
  have hl := z6n hs
  unfold z4j
  refine z75 hl hf (fun _ => rfl) ?_ ?_
  · intro i y out hy hl2
    have hi := (List.getElem?_eq_some_iff.1 hy).1
    have hsy : y.length ≤ 1048576 := z68 hs (List.mem_of_getElem? hy)
    simp only [z5D, zd hy, Option.bind_some, lt_t (show (i : Int) < x.length by omega), if_true, z8t hf hsy]
    rw [if_pos (by simp; omega)]
    simp
  · intro out
    simp [z5D]

theorem zaD {fuel : Nat} {x : (List (List Int))} (hf : 18446744073709551616 ≤ fuel) (hs : szL (fun x => x.length) x ≤ 1048576) : z4o fuel x x = some true := by
  have hl := z6n hs
  unfold z4o
  rw [if_neg (by simp)]
  refine z66 (n := x.length) (t := ()) (by unfold maxLen; omega) hf rfl ?_ ?_
  · intro i hi
    obtain ⟨y, hy⟩ := z5v hi
    have hsy : y.length ≤ 1048576 := z68 hs (List.mem_of_getElem? hy)
    simp [z5H, zd hy, hi, z25, z8x hf hsy]
  · simp [z5H]

theorem zcg {fuel : Nat} {x : (List D.Address)} {l : Int} (hf : 18446744073709551616 ≤ fuel) (hw : WfL D.Address.wf x) (h0 : 0 ≤ l) (h1 : l ≤ 1048576) : SzOk (x.length) l (z5n fuel x l) := by
  unfold z5n
  generalize hz : w64 (l - (x.length : Int)) = z
  exact SzOk.sub2 h0 h1 hw.1 (m := 0) rfl hz fun g0 g1 => SzOk.same g0

theorem zce {fuel : Nat} {x : D.ShardVar} (hf : 18446744073709551616 ≤ fuel) (hs : 0 ≤ 1048576) : z5i fuel x = some x := by
  skip
  unfold z5i
  simp only [z4H hf (show 0 ≤ 1048576 by exact Nat.zero_le _), Option.bind_some]

theorem zbh {fuel : Nat} {x : D.ShardRedex} (hf : 18446744073709551616 ≤ fuel) (hs : 0 ≤ 1048576) : z3W fuel x = some x := by
  skip
  unfold z3W
  simp only [z4H hf (show 0 ≤ 1048576 by exact Nat.zero_le _), z4H hf (show 0 ≤ 1048576 by exact Nat.zero_le _), Option.bind_some]

theorem zcf {fuel : Nat} {x : (List D.Address)} (hf : 18446744073709551616 ≤ fuel) (hs : x.length ≤ 1048576) : z5k fuel x = some x := by
  have hl := hs
  unfold z5k
  refine z75 hl hf (fun _ => rfl) ?_ ?_
  · intro i y out hy hl2
    have hi := (List.getElem?_eq_some_iff.1 hy).1
    have hsy : 0 ≤ 1048576 := Nat.zero_le _
    simp only [z4U, zd hy, Option.bind_some, lt_t (show (i : Int) < x.length by omega), if_true, z4H hf hsy]
    rw [if_pos (by simp; omega)]
    simp
  · intro out
    simp [z4U]

theorem zcE {fuel : Nat} {x : D.ShardVar} (hf : 18446744073709551616 ≤ fuel) (hs : 0 ≤ 1048576) : z5o fuel x x = some true := by
  skip
  simp [z5o, z25, z4R hf (show 0 ≤ 1048576 by exact Nat.zero_le _)]

theorem zbx {fuel : Nat} {x : D.ShardRedex} (hf : 18446744073709551616 ≤ fuel) (hs : 0 ≤ 1048576) : z3Z fuel x x = some true := by
  skip
  simp [z3Z, z25, z4R hf (show 0 ≤ 1048576 by exact Nat.zero_le _), z4R hf (show 0 ≤ 1048576 by exact Nat.zero_le _)]

theorem zcF {fuel : Nat} {x : (List D.Address)} (hf : 18446744073709551616 ≤ fuel) (hs : x.length ≤ 1048576) : z5q fuel x x = some true := by
  have hl := hs
  unfold z5q
  rw [if_neg (by simp)]
  refine z66 (n := x.length) (t := ()) (by unfold maxLen; omega) hf rfl ?_ ?_
  · intro i hi
    obtain ⟨y, hy⟩ := z5v hi
    have hsy : 0 ≤ 1048576 := Nat.zero_le _
    simp [z4X, zd hy, hi, z25, z4R hf hsy]
  · simp [z4X]

theorem zbL {fuel : Nat} {x : (List D.ShardVar)} {l : Int} (hf : 18446744073709551616 ≤ fuel) (hw : WfL D.ShardVar.wf x) (h0 : 0 ≤ l) (h1 : l ≤ 1048576) : SzOk (x.length) l (z4D fuel x l) := by
  unfold z4D
  generalize hz : w64 (l - (x.length : Int)) = z
  exact SzOk.sub2 h0 h1 hw.1 (m := 0) rfl hz fun g0 g1 => SzOk.same g0

theorem zaR {fuel : Nat} {x : (List D.ShardRedex)} {l : Int} (hf : 18446744073709551616 ≤ fuel) (hw : WfL D.ShardRedex.wf x) (h0 : 0 ≤ l) (h1 : l ≤ 1048576) : SzOk (x.length) l (z3g fuel x l) := by
  unfold z3g
  generalize hz : w64 (l - (x.length : Int)) = z
  exact SzOk.sub2 h0 h1 hw.1 (m := 0) rfl hz fun g0 g1 => SzOk.same g0

theorem z9H {fuel : Nat} {x : D.ShardCell} {l : Int} (hf : 18446744073709551616 ≤ fuel) (hw : D.ShardCell.wf x) (h0 : 0 ≤ l) (h1 : l ≤ 1048576) : SzOk (D.ShardCell.sz x) l (z32 fuel x l) := by
  obtain ⟨w0, w1, w2, w3, w4, _⟩ := hw
  unfold z32 D.ShardCell.sz
  refine SzOk.bind (z8u hf w3 h0 (by omega)) rfl fun r1 g1a g1b => ?_
  refine SzOk.bind (zcg hf w4 g1a (by omega)) rfl fun r2 g2a g2b => ?_
  exact SzOk.same g2a

theorem zbK {fuel : Nat} {x : (List D.ShardVar)} (hf : 18446744073709551616 ≤ fuel) (hs : x.length ≤ 1048576) : z4C fuel x = some x := by
  have hl := hs
  unfold z4C
  refine z75 hl hf (fun _ => rfl) ?_ ?_
  · intro i y out hy hl2
    have hi := (List.getElem?_eq_some_iff.1 hy).1
    have hsy : 0 ≤ 1048576 := Nat.zero_le _
    simp only [z4B, zd hy, Option.bind_some, lt_t (show (i : Int) < x.length by omega), if_true, zce hf hsy]
    rw [if_pos (by simp; omega)]
    simp
  · intro out
    simp [z4B]

theorem zaO {fuel : Nat} {x : (List D.ShardRedex)} (hf : 18446744073709551616 ≤ fuel) (hs : x.length ≤ 1048576) : z3f fuel x = some x := by
  have hl := hs
  unfold z3f
  refine z75 hl hf (fun _ => rfl) ?_ ?_
  · intro i y out hy hl2
    have hi := (List.getElem?_eq_some_iff.1 hy).1
    have hsy : 0 ≤ 1048576 := Nat.zero_le _
    simp only [z3u, zd hy, Option.bind_some, lt_t (show (i : Int) < x.length by omega), if_true, zbh hf hsy]
    rw [if_pos (by simp; omega)]
    simp
  · intro out
    simp [z3u]

theorem z9G {fuel : Nat} {x : D.ShardCell} (hf : 18446744073709551616 ≤ fuel) (hs : D.ShardCell.sz x ≤ 1048576) : z31 fuel x = some x := by
  unfold D.ShardCell.sz at hs
  unfold z31
  simp only [z8t hf (show x.Data.length ≤ 1048576 by omega), zcf hf (show x.Aux.length ≤ 1048576 by omega), Option.bind_some]

theorem zbV {fuel : Nat} {x : (List D.ShardVar)} (hf : 18446744073709551616 ≤ fuel) (hs : x.length ≤ 1048576) : z4F fuel x x = some true := by
  have hl := hs
  unfold z4F
  rw [if_neg (by simp)]
  refine z66 (n := x.length) (t := ()) (by unfold maxLen; omega) hf rfl ?_ ?_
  · intro i hi
    obtain ⟨y, hy⟩ := z5v hi
    have hsy : 0 ≤ 1048576 := Nat.zero_le _
    simp [z4E, zd hy, hi, z25, zcE hf hsy]
  · simp [z4E]

theorem zb9 {fuel : Nat} {x : (List D.ShardRedex)} (hf : 18446744073709551616 ≤ fuel) (hs : x.length ≤ 1048576) : z3h fuel x x = some true := by
  have hl := hs
  unfold z3h
  rw [if_neg (by simp)]
  refine z66 (n := x.length) (t := ()) (by unfold maxLen; omega) hf rfl ?_ ?_
  · intro i hi
    obtain ⟨y, hy⟩ := z5v hi
    have hsy : 0 ≤ 1048576 := Nat.zero_le _
    simp [z3v, zd hy, hi, z25, zbx hf hsy]
  · simp [z3v]

theorem z9M {fuel : Nat} {x : D.ShardCell} (hf : 18446744073709551616 ≤ fuel) (hs : D.ShardCell.sz x ≤ 1048576) : z33 fuel x x = some true := by
  unfold D.ShardCell.sz at hs
  simp [z33, z25, z8x hf (show x.Data.length ≤ 1048576 by omega), zcF hf (show x.Aux.length ≤ 1048576 by omega)]

theorem zdN {fuel : Nat} {x : D.Parcel} {l : Int} (hf : 18446744073709551616 ≤ fuel) (hw : D.Parcel.wf x) (h0 : 0 ≤ l) (h1 : l ≤ 1048576) : SzOk (D.Parcel.sz x) l (z6x fuel x l) := by
  obtain ⟨w0, w1, w2, w3, _⟩ := hw
  unfold z6x D.Parcel.sz
  refine SzOk.bind (z9H hf w1 h0 (by omega)) rfl fun r1 g1a g1b => ?_
  exact SzOk.same g1a

theorem zdM {fuel : Nat} {x : D.Parcel} (hf : 18446744073709551616 ≤ fuel) (hs : D.Parcel.sz x ≤ 1048576) : z6w fuel x = some x := by
  unfold D.Parcel.sz at hs
  unfold z6w
  simp only [z9G hf (show D.ShardCell.sz x.Cell ≤ 1048576 by omega), z4H hf (show 0 ≤ 1048576 by exact Nat.zero_le _), z4H hf (show 0 ≤ 1048576 by exact Nat.zero_le _), Option.bind_some]

theorem ze5 {fuel : Nat} {x : D.Parcel} (hf : 18446744073709551616 ≤ fuel) (hs : D.Parcel.sz x ≤ 1048576) : z6y fuel x x = some true := by
  unfold D.Parcel.sz at hs
  simp [z6y, z25, z9M hf (show D.ShardCell.sz x.Cell ≤ 1048576 by omega), z4R hf (show 0 ≤ 1048576 by exact Nat.zero_le _), z4R hf (show 0 ≤ 1048576 by exact Nat.zero_le _)]

theorem zbj {fuel : Nat} {x : (List D.ShardCell)} {l : Int} (hf : 18446744073709551616 ≤ fuel) (hw : WfL D.ShardCell.wf x) (h0 : 0 ≤ l) (h1 : l ≤ 1048576) : SzOk (szL D.ShardCell.sz x) l (z3Y fuel x l) := by
  unfold z3Y
  generalize hz : w64 (l - (x.length : Int)) = z
  refine SzOk.sub2 h0 h1 hw.1 (m := sumL D.ShardCell.sz x) rfl hz fun g0 g1 => ?_
  refine SzOk.loop hw.1 hf g0 (by omega) (fun _ => rfl) ?_ ?_
  · intro i y l hy h0 h1
    have hi := (List.getElem?_eq_some_iff.1 hy).1
    have hwy := hw.2 y (List.mem_of_getElem? hy)
    obtain ⟨r, h2, h3⟩ := z9H hf hwy h0 h1
    simp only [z43, zd hy, Option.bind_some, lt_t (show (i : Int) < x.length by omega), if_true, h2]
    by_cases hlt : r < 0
    · exact .inl (by simp only [lt_t hlt, if_true])
    · exact .inr ⟨r, by simp only [lt_f hlt, if_false], h3.resolve_left hlt⟩
  · intro l
    simp [z43]

theorem zbi {fuel : Nat} {x : (List D.ShardCell)} (hf : 18446744073709551616 ≤ fuel) (hs : szL D.ShardCell.sz x ≤ 1048576) : z3X fuel x = some x := by
  have hl := z6n hs
  unfold z3X
  refine z75 hl hf (fun _ => rfl) ?_ ?_
  · intro i y out hy hl2
    have hi := (List.getElem?_eq_some_iff.1 hy).1
    have hsy : D.ShardCell.sz y ≤ 1048576 := z68 hs (List.mem_of_getElem? hy)
    simp only [z42, zd hy, Option.bind_some, lt_t (show (i : Int) < x.length by omega), if_true, z9G hf hsy]
    rw [if_pos (by simp; omega)]
    simp
  · intro out
    simp [z42]

theorem zby {fuel : Nat} {x : (List D.ShardCell)} (hf : 18446744073709551616 ≤ fuel) (hs : szL D.ShardCell.sz x ≤ 1048576) : z40 fuel x x = some true := by
  have hl := z6n hs
  unfold z40
  rw [if_neg (by simp)]
  refine z66 (n := x.length) (t := ()) (by unfold maxLen; omega) hf rfl ?_ ?_
  · intro i hi
    obtain ⟨y, hy⟩ := z5v hi
    have hsy : D.ShardCell.sz y ≤ 1048576 := z68 hs (List.mem_of_getElem? hy)
    simp [z44, zd hy, hi, z25, z9M hf hsy]
  · simp [z44]

theorem zd3 {fuel : Nat} {x : (List D.Parcel)} {l : Int} (hf : 18446744073709551616 ≤ fuel) (hw : WfL D.Parcel.wf x) (h0 : 0 ≤ l) (h1 : l ≤ 1048576) : SzOk (szL D.Parcel.sz x) l (z5U fuel x l) := by
  unfold z5U
  generalize hz : w64 (l - (x.length : Int)) = z
  refine SzOk.sub2 h0 h1 hw.1 (m := sumL D.Parcel.sz x) rfl hz fun g0 g1 => ?_
  refine SzOk.loop hw.1 hf g0 (by omega) (fun _ => rfl) ?_ ?_
  · intro i y l hy h0 h1
    have hi := (List.getElem?_eq_some_iff.1 hy).1
    have hwy := hw.2 y (List.mem_of_getElem? hy)
    obtain ⟨r, h2, h3⟩ := zdN hf hwy h0 h1
    simp only [z5E, zd hy, Option.bind_some, lt_t (show (i : Int) < x.length by omega), if_true, h2]
    by_cases hlt : r < 0
    · exact .inl (by simp only [lt_t hlt, if_true])
    · exact .inr ⟨r, by simp only [lt_f hlt, if_false], h3.resolve_left hlt⟩
  · intro l
    simp [z5E]

theorem zd1 {fuel : Nat} {x : (List D.Parcel)} (hf : 18446744073709551616 ≤ fuel) (hs : szL D.Parcel.sz x ≤ 1048576) : z5S fuel x = some x := by
  have hl := z6n hs
  unfold z5S
  refine z75 hl hf (fun _ => rfl) ?_ ?_
  · intro i y out hy hl2
    have hi := (List.getElem?_eq_some_iff.1 hy).1
    have hsy : D.Parcel.sz y ≤ 1048576 := z68 hs (List.mem_of_getElem? hy)
    simp only [z5C, zd hy, Option.bind_some, lt_t (show (i : Int) < x.length by omega), if_true, zdM hf hsy]
    rw [if_pos (by simp; omega)]
    simp
  · intro out
    simp [z5C]

theorem zd7 {fuel : Nat} {x : (List D.Parcel)} (hf : 18446744073709551616 ≤ fuel) (hs : szL D.Parcel.sz x ≤ 1048576) : z5W fuel x x = some true := by
  have hl := z6n hs
  unfold z5W
  rw [if_neg (by simp)]
  refine z66 (n := x.length) (t := ()) (by unfold maxLen; omega) hf rfl ?_ ?_
  · intro i hi
    obtain ⟨y, hy⟩ := z5v hi
    have hsy : D.Parcel.sz y ≤ 1048576 := z68 hs (List.mem_of_getElem? hy)
    simp [z5G, zd hy, hi, z25, ze5 hf hsy]
  · simp [z5G]

theorem zeu {fuel : Nat} {x : D.Shard} {l : Int} (hf : 18446744073709551616 ≤ fuel) (hw : D.Shard.wf x) (h0 : 0 ≤ l) (h1 : l ≤ 1048576) : SzOk (D.Shard.sz x) l (z6Y fuel x l) := by
  obtain ⟨w0, w1, w2, _⟩ := hw
  unfold z6Y D.Shard.sz
  refine SzOk.bind (zbj hf w0 h0 (by omega)) rfl fun r1 g1a g1b => ?_
  refine SzOk.bind (zbL hf w1 g1a (by omega)) rfl fun r2 g2a g2b => ?_
  refine SzOk.bind (zaR hf w2 g2a (by omega)) rfl fun r3 g3a g3b => ?_
  exact SzOk.same g3a

theorem zet {fuel : Nat} {x : D.Shard} (hf : 18446744073709551616 ≤ fuel) (hs : D.Shard.sz x ≤ 1048576) : z6X fuel x = some x := by
  unfold D.Shard.sz at hs
  unfold z6X
  simp only [zbi hf (show szL D.ShardCell.sz x.Cells ≤ 1048576 by omega), zbK hf (show x.Vars.length ≤ 1048576 by omega), zaO hf (show x.Redexes.length ≤ 1048576 by omega), Option.bind_some]

theorem zeP {fuel : Nat} {x : D.Shard} (hf : 18446744073709551616 ≤ fuel) (hs : D.Shard.sz x ≤ 1048576) : z6Z fuel x x = some true := by
  unfold D.Shard.sz at hs
  simp [z6Z, z25, zby hf (show szL D.ShardCell.sz x.Cells ≤ 1048576 by omega), zbV hf (show x.Vars.length ≤ 1048576 by omega), zb9 hf (show x.Redexes.length ≤ 1048576 by omega)]

theorem z9S {fuel : Nat} {x : (List (List D.Parcel))} {l : Int} (hf : 18446744073709551616 ≤ fuel) (hw : WfL (WfL D.Parcel.wf) x) (h0 : 0 ≤ l) (h1 : l ≤ 1048576) : SzOk (szL (fun x => szL D.Parcel.sz x) x) l (z3B fuel x l) := by
  unfold z3B
  generalize hz : w64 (l - (x.length : Int)) = z
  refine SzOk.sub2 h0 h1 hw.1 (m := sumL (fun x => szL D.Parcel.sz x) x) rfl hz fun g0 g1 => ?_
  refine SzOk.loop hw.1 hf g0 (by omega) (fun _ => rfl) ?_ ?_
  · intro i y l hy h0 h1
    have hi := (List.getElem?_eq_some_iff.1 hy).1
    have hwy := hw.2 y (List.mem_of_getElem? hy)
    obtain ⟨r, h2, h3⟩ := zd3 hf hwy h0 h1
    simp only [z4V, zd hy, Option.bind_some, lt_t (show (i : Int) < x.length by omega), if_true, h2]
    by_cases hlt : r < 0
    · exact .inl (by simp only [lt_t hlt, if_true])
    · exact .inr ⟨r, by simp only [lt_f hlt, if_false], h3.resolve_left hlt⟩
  · intro l
    simp [z4V]

theorem z9R {fuel : Nat} {x : (List (List D.Parcel))} (hf : 18446744073709551616 ≤ fuel) (hs : szL (fun x => szL D.Parcel.sz x) x ≤ 1048576) : z3A fuel x = some x := by
  have hl := z6n hs
  unfold z3A
  refine z75 hl hf (fun _ => rfl) ?_ ?_
  · intro i y out hy hl2
    have hi := (List.getElem?_eq_some_iff.1 hy).1
    have hsy : szL D.Parcel.sz y ≤ 1048576 := z68 hs (List.mem_of_getElem? hy)
    simp only [z4T, zd hy, Option.bind_some, lt_t (show (i : Int) < x.length by omega), if_true, zd1 hf hsy]
    rw [if_pos (by simp; omega)]
    simp
  · intro out
    simp [z4T]

theorem zaa {fuel : Nat} {x : (List (List D.Parcel))} (hf : 18446744073709551616 ≤ fuel) (hs : szL (fun x => szL D.Parcel.sz x) x ≤ 1048576) : z3C fuel x x = some true := by
  have hl := z6n hs
  unfold z3C
  rw [if_neg (by simp)]
  refine z66 (n := x.length) (t := ()) (by unfold maxLen; omega) hf rfl ?_ ?_
  · intro i hi
    obtain ⟨y, hy⟩ := z5v hi
    have hsy : szL D.Parcel.sz y ≤ 1048576 := z68 hs (List.mem_of_getElem? hy)
    simp [z4W, zd hy, hi, z25, zd7 hf hsy]
  · simp [z4W]

theorem zaQ {fuel : Nat} {x : (List D.Shard)} {l : Int} (hf : 18446744073709551616 ≤ fuel) (hw : WfL D.Shard.wf x) (h0 : 0 ≤ l) (h1 : l ≤ 1048576) : SzOk (szL D.Shard.sz x) l (z5m fuel x l) := by
  unfold z5m
  generalize hz : w64 (l - (x.length : Int)) = z
  refine SzOk.sub2 h0 h1 hw.1 (m := sumL D.Shard.sz x) rfl hz fun g0 g1 => ?_
  refine SzOk.loop hw.1 hf g0 (by omega) (fun _ => rfl) ?_ ?_
  · intro i y l hy h0 h1
    have hi := (List.getElem?_eq_some_iff.1 hy).1
    have hwy := hw.2 y (List.mem_of_getElem? hy)
    obtain ⟨r, h2, h3⟩ := zeu hf hwy h0 h1
    simp only [z6g, zd hy, Option.bind_some, lt_t (show (i : Int) < x.length by omega), if_true, h2]
    by_cases hlt : r < 0
    · exact .inl (by simp only [lt_t hlt, if_true])
    · exact .inr ⟨r, by simp only [lt_f hlt, if_false], h3.resolve_left hlt⟩
  · intro l
    simp [z6g]

theorem zaN {fuel : Nat} {x : (List D.Shard)} (hf : 18446744073709551616 ≤ fuel) (hs : szL D.Shard.sz x ≤ 1048576) : z5j fuel x = some x := by
  have hl := z6n hs
  unfold z5j
  refine z75 hl hf (fun _ => rfl) ?_ ?_
  · intro i y out hy hl2
    have hi := (List.getElem?_eq_some_iff.1 hy).1
    have hsy : D.Shard.sz y ≤ 1048576 := z68 hs (List.mem_of_getElem? hy)
    simp only [z6e, zd hy, Option.bind_some, lt_t (show (i : Int) < x.length by omega), if_true, zet hf hsy]
    rw [if_pos (by simp; omega)]
    simp
  · intro out
    simp [z6e]

theorem zb8 {fuel : Nat} {x : (List D.Shard)} (hf : 18446744073709551616 ≤ fuel) (hs : szL D.Shard.sz x ≤ 1048576) : z5p fuel x x = some true := by
  have hl := z6n hs
  unfold z5p
  rw [if_neg (by simp)]
  refine z66 (n := x.length) (t := ()) (by unfold maxLen; omega) hf rfl ?_ ?_
  · intro i hi
    obtain ⟨y, hy⟩ := z5v hi
    have hsy : D.Shard.sz y ≤ 1048576 := z68 hs (List.mem_of_getElem? hy)
    simp [z6h, zd hy, hi, z25, zeP hf hsy]
  · simp [z6h]

theorem zfE {fuel : Nat} {x : D.Grid} {l : Int} (hf : 18446744073709551616 ≤ fuel) (hw : D.Grid.wf x) (h0 : 0 ≤ l) (h1 : l ≤ 1048576) : SzOk (D.Grid.sz x) l (z7G fuel x l) := by
  obtain ⟨w0, w1, _⟩ := hw
  unfold z7G D.Grid.sz
  refine SzOk.bind (zaQ hf w0 h0 (by omega)) rfl fun r1 g1a g1b => ?_
  exact SzOk.same g1a

theorem zfC {fuel : Nat} {x : D.Grid} (hf : 18446744073709551616 ≤ fuel) (hs : D.Grid.sz x ≤ 1048576) : z7E fuel x = some x := by
  unfold D.Grid.sz at hs
  unfold z7E
  simp only [zaN hf (show szL D.Shard.sz x.Shards ≤ 1048576 by omega), z4H hf (show 0 ≤ 1048576 by exact Nat.zero_le _), Option.bind_some]

theorem zfR {fuel : Nat} {x : D.Grid} (hf : 18446744073709551616 ≤ fuel) (hs : D.Grid.sz x ≤ 1048576) : z7K fuel x x = some true := by
  unfold D.Grid.sz at hs
  simp [z7K, z25, zb8 hf (show szL D.Shard.sz x.Shards ≤ 1048576 by omega), z4R hf (show 0 ≤ 1048576 by exact Nat.zero_le _)]

theorem zd4 {fuel : Nat} {x : D.Cluster} {l : Int} (hf : 18446744073709551616 ≤ fuel) (hw : D.Cluster.wf x) (h0 : 0 ≤ l) (h1 : l ≤ 1048576) : SzOk (D.Cluster.sz x) l (z5V fuel x l) := by
  obtain ⟨w0, w1, w2, w3, w4, _⟩ := hw
  unfold z5V D.Cluster.sz
  refine SzOk.bind (zfE hf w0 h0 (by omega)) rfl fun r1 g1a g1b => ?_
  refine SzOk.bind (z9S hf w1 g1a (by omega)) rfl fun r2 g2a g2b => ?_
  refine SzOk.bind (zay hf w2 g2a (by omega)) rfl fun r3 g3a g3b => ?_
  refine SzOk.bind (z8u hf w3 g3a (by omega)) rfl fun r4 g4a g4b => ?_
  refine SzOk.bind (z8u hf w4 g4a (by omega)) rfl fun r5 g5a g5b => ?_
  exact SzOk.same g5a

theorem zd2 {fuel : Nat} {x : D.Cluster} (hf : 18446744073709551616 ≤ fuel) (hs : D.Cluster.sz x ≤ 1048576) : z5T fuel x = some x := by
  unfold D.Cluster.sz at hs
  unfold z5T
  simp only [zfC hf (show D.Grid.sz x.Grid ≤ 1048576 by omega), z9R hf (show szL (fun x => szL D.Parcel.sz x) x.Channels ≤ 1048576 by omega), zaw hf (show szL (fun x => x.length) x.Counts ≤ 1048576 by omega), z8t hf (show x.Sent.length ≤ 1048576 by omega), z8t hf (show x.Got.length ≤ 1048576 by omega), Option.bind_some]

theorem zd8 {fuel : Nat} {x : D.Cluster} (hf : 18446744073709551616 ≤ fuel) (hs : D.Cluster.sz x ≤ 1048576) : z5X fuel x x = some true := by
  unfold D.Cluster.sz at hs
  simp [z5X, z25, zfR hf (show D.Grid.sz x.Grid ≤ 1048576 by omega), zaa hf (show szL (fun x => szL D.Parcel.sz x) x.Channels ≤ 1048576 by omega), zaD hf (show szL (fun x => x.length) x.Counts ≤ 1048576 by omega), z8x hf (show x.Sent.length ≤ 1048576 by omega), z8x hf (show x.Got.length ≤ 1048576 by omega)]

theorem zbE : Opens Tryz.prog 2 tInt I64 := Opens.int Tryz.underlying2 (by kernel_rfl)
theorem zdZ : Opens Tryz.prog 29 ty29 (WfL I64) := Opens.sl Tryz.underlying29 (by kernel_rfl) zbE
set_option maxRecDepth 100000 in
theorem zaF : Opens Tryz.prog 24 ty24 D.Address.wf := Opens.struct (f := fun c : D.Address => (c.Machine, c.Kind, c.Index, ())) Tryz.underlying24 (by kernel_rfl) (OpensF.cons zbE rfl rfl (OpensF.cons zbE rfl rfl (OpensF.cons zbE rfl rfl OpensF.nil))) (fun ⟨a0, a1, a2, _⟩ => ⟨⟨a0, a1, a2⟩, rfl⟩)
theorem zjO : Opens Tryz.prog 201 zd0 (WfL D.Address.wf) := Opens.sl Tryz.underlying201 (by kernel_rfl) zaF
set_option maxRecDepth 100000 in
theorem zg1 : Opens Tryz.prog 203 zcZ D.ShardCell.wf := Opens.struct (f := fun c : D.ShardCell => (c.Kind, c.Level, c.Value, c.Data, c.Aux, ())) Tryz.underlying203 (by kernel_rfl) (OpensF.cons zbE rfl rfl (OpensF.cons zbE rfl rfl (OpensF.cons zbE rfl rfl (OpensF.cons zdZ rfl rfl (OpensF.cons zjO rfl rfl OpensF.nil))))) (fun ⟨a0, a1, a2, a3, a4, _⟩ => ⟨⟨a0, a1, a2, a3, a4⟩, rfl⟩)
theorem zjS : Opens Tryz.prog 195 zeq (WfL D.ShardCell.wf) := Opens.sl Tryz.underlying195 (by kernel_rfl) zg1
theorem zht : Opens Tryz.prog 4 tBool fun _ => True := Opens.bool Tryz.underlying4 (by kernel_rfl)
set_option maxRecDepth 100000 in
theorem zjM : Opens Tryz.prog 288 zgz D.ShardVar.wf := Opens.struct (f := fun c : D.ShardVar => (c.Used, c.Full, c.Held, ())) Tryz.underlying288 (by kernel_rfl) (OpensF.cons zht rfl rfl (OpensF.cons zht rfl rfl (OpensF.cons zaF rfl rfl OpensF.nil))) (fun ⟨a0, a1, a2, _⟩ => ⟨⟨a0, a1, a2⟩, rfl⟩)
theorem zjR : Opens Tryz.prog 196 zep (WfL D.ShardVar.wf) := Opens.sl Tryz.underlying196 (by kernel_rfl) zjM
set_option maxRecDepth 100000 in
theorem zjL : Opens Tryz.prog 291 zgy D.ShardRedex.wf := Opens.struct (f := fun c : D.ShardRedex => (c.A, c.B, ())) Tryz.underlying291 (by kernel_rfl) (OpensF.cons zaF rfl rfl (OpensF.cons zaF rfl rfl OpensF.nil)) (fun ⟨a0, a1, _⟩ => ⟨⟨a0, a1⟩, rfl⟩)
theorem zjQ : Opens Tryz.prog 197 zeo (WfL D.ShardRedex.wf) := Opens.sl Tryz.underlying197 (by kernel_rfl) zjL
set_option maxRecDepth 100000 in
theorem zjP : Opens Tryz.prog 199 zfw D.Shard.wf := Opens.struct (f := fun c : D.Shard => (c.Cells, c.Vars, c.Redexes, ())) Tryz.underlying199 (by kernel_rfl) (OpensF.cons zjS rfl rfl (OpensF.cons zjR rfl rfl (OpensF.cons zjQ rfl rfl OpensF.nil))) (fun ⟨a0, a1, a2, _⟩ => ⟨⟨a0, a1, a2⟩, rfl⟩)
theorem zhw : Opens Tryz.prog 22 ty22 (WfL D.Shard.wf) := Opens.sl Tryz.underlying22 (by kernel_rfl) zjP
set_option maxRecDepth 100000 in
theorem zkE : Opens Tryz.prog 26 ty26 D.Grid.wf := Opens.struct (f := fun c : D.Grid => (c.Shards, c.Root, ())) Tryz.underlying26 (by kernel_rfl) (OpensF.cons zhw rfl rfl (OpensF.cons zaF rfl rfl OpensF.nil)) (fun ⟨a0, a1, _⟩ => ⟨⟨a0, a1⟩, rfl⟩)
set_option maxRecDepth 100000 in
theorem zjN : Opens Tryz.prog 205 zfv D.Parcel.wf := Opens.struct (f := fun c : D.Parcel => (c.Kind, c.Cell, c.A, c.B, ())) Tryz.underlying205 (by kernel_rfl) (OpensF.cons zbE rfl rfl (OpensF.cons zg1 rfl rfl (OpensF.cons zaF rfl rfl (OpensF.cons zaF rfl rfl OpensF.nil)))) (fun ⟨a0, a1, a2, a3, _⟩ => ⟨⟨a0, a1, a2, a3⟩, rfl⟩)
theorem zjT : Opens Tryz.prog 141 zfA (WfL D.Parcel.wf) := Opens.sl Tryz.underlying141 (by kernel_rfl) zjN
theorem zhv : Opens Tryz.prog 27 ty27 (WfL (WfL D.Parcel.wf)) := Opens.sl Tryz.underlying27 (by kernel_rfl) zjT
theorem zhu : Opens Tryz.prog 28 ty28 (WfL (WfL I64)) := Opens.sl Tryz.underlying28 (by kernel_rfl) zdZ
set_option maxRecDepth 100000 in
theorem zkD : Opens Tryz.prog 31 ty31 D.Cluster.wf := Opens.struct (f := fun c : D.Cluster => (c.Grid, c.Channels, c.Counts, c.Sent, c.Got, ())) Tryz.underlying31 (by kernel_rfl) (OpensF.cons zkE rfl rfl (OpensF.cons zhv rfl rfl (OpensF.cons zhu rfl rfl (OpensF.cons zdZ rfl rfl (OpensF.cons zdZ rfl rfl OpensF.nil))))) (fun ⟨a0, a1, a2, a3, a4, _⟩ => ⟨⟨a0, a1, a2, a3, a4⟩, rfl⟩)
end Go.E

namespace Go.E
open Go.RowKit Go.Proofs
set_option linter.unusedSimpArgs false
set_option linter.unusedVariables false

section
variable {fuel : Nat} {c : D.Cluster}
end
end Go.E

namespace Go.E
open Go.RowKit
set_option linter.unusedVariables false

def D.Detector.wf (x : D.Detector) : Prop := D.Cluster.wf x.Cluster ∧ I64 x.Holder ∧ I64 x.Count ∧ True ∧ WfL (fun _ => True) x.Stained ∧ I64 x.Rounds ∧ True ∧ True
def D.Detector.sz (x : D.Detector) : Nat := D.Cluster.sz x.Cluster + (x.Stained.length + (0))
end Go.E

namespace Go.E
open Go.RowKit
set_option linter.unusedVariables false

def D.Shot.wf (x : D.Shot) : Prop := WfL (fun _ => True) x.Taken ∧ WfL D.Shard.wf x.Shards ∧ WfL (WfL I64) x.Counts ∧ WfL (fun _ => True) x.Recording ∧ WfL (WfL D.Parcel.wf) x.Saved ∧ True
def D.Shot.sz (x : D.Shot) : Nat := x.Taken.length + (szL D.Shard.sz x.Shards + (szL (fun x => x.length) x.Counts + (x.Recording.length + (szL (fun x => szL D.Parcel.sz x) x.Saved + (0)))))
def D.Watched.wf (x : D.Watched) : Prop := D.Cluster.wf x.Cluster ∧ D.Shot.wf x.Shot ∧ True
def D.Watched.sz (x : D.Watched) : Nat := D.Cluster.sz x.Cluster + (D.Shot.sz x.Shot + (0))
end Go.E

namespace Go.E
open Go.RowKit Go.Proofs
set_option linter.unusedSimpArgs false
set_option linter.unusedVariables false

theorem zbC {fuel : Nat} {x : (List Bool)} {l : Int} (hf : 18446744073709551616 ≤ fuel) (hw : WfL (fun _ => True) x) (h0 : 0 ≤ l) (h1 : l ≤ 1048576) : SzOk (x.length) l (z62 fuel x l) := by
  unfold z62
  generalize hz : w64 (l - (x.length : Int)) = z
  exact SzOk.sub2 h0 h1 hw.1 (m := 0) rfl hz fun g0 g1 => SzOk.same g0

theorem zbB {fuel : Nat} {x : (List Bool)} (hf : 18446744073709551616 ≤ fuel) (hs : x.length ≤ 1048576) : z61 fuel x = some x := by
  have hl := hs
  unfold z61
  refine z75 hl hf (fun _ => rfl) ?_ ?_
  · intro i y out hy hl2
    have hi := (List.getElem?_eq_some_iff.1 hy).1
    have hsy : 0 ≤ 1048576 := Nat.zero_le _
    simp only [z6N, zd hy, Option.bind_some, lt_t (show (i : Int) < x.length by omega), if_true]
    rw [if_pos (by simp; omega)]
    simp
  · intro out
    simp [z6N]

theorem zbG {fuel : Nat} {x : (List Bool)} (hf : 18446744073709551616 ≤ fuel) (hs : x.length ≤ 1048576) : z63 fuel x x = some true := by
  have hl := hs
  unfold z63
  rw [if_neg (by simp)]
  refine z66 (n := x.length) (t := ()) (by unfold maxLen; omega) hf rfl ?_ ?_
  · intro i hi
    obtain ⟨y, hy⟩ := z5v hi
    have hsy : 0 ≤ 1048576 := Nat.zero_le _
    simp [z6O, zd hy, hi, z25]
  · simp [z6O]

theorem zhs : Opens Tryz.prog 56 ty56 (WfL (fun _ => True)) := Opens.sl Tryz.underlying56 (by kernel_rfl) zht
end Go.E

