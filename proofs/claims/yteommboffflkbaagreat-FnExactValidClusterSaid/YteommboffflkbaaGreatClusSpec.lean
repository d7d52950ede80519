/- Clusters: the parts by themselves and the reference's walk over the parcels. Conditions: the cluster's own size. -/
import Derived.Test.YteommboffflkbaaGreatClusKeys
namespace Go.E
open Go.RowKit Go.Proofs
set_option linter.unusedSimpArgs false
set_option linter.unusedVariables false


def numN (xs : List Int) (k : Nat) : Bool := decide (xs.length = k) && xs.all fun x => decide (0 ≤ x ∧ x ≤ 1000000000)
def emptyN (c : D.ShardCell) : Bool := decide (c.Kind = 0 ∧ c.Level = 0 ∧ c.Value = 0 ∧ c.Data = [] ∧ c.Aux = [])
def parcelN (to : Int) (p : D.Parcel) : Bool :=
  if p.Kind = 1 then emptyN p.Cell && decide (p.A.Machine = to) else
  if p.Kind = 2 then emptyN p.Cell && decide (p.A.Machine = to ∧ p.A.Kind = 2) else
  if p.Kind = 3 then (decide (p.Cell.Kind ≠ 0) && shCellN p.Cell) && (decide (p.A = noneN) && decide (p.B.Machine = to)) else
  if p.Kind = 4 then emptyN p.Cell && (decide (p.A = noneN) && decide (p.B = noneN)) else false
def listN (k i : Nat) (ch : List D.Parcel) : Bool := decide (ch.length ≤ 200) && ch.all (parcelN ((i % k : Nat) : Int))
def diagN (k i : Nat) (ch : List D.Parcel) : Bool := decide (i / k ≠ i % k) || decide (ch = [])
def chansN (k : Nat) (cs : List (List D.Parcel)) : Bool := (cs.zipIdx.all fun x => diagN k x.2 x.1) && cs.zipIdx.all fun x => listN k x.2 x.1
def clusPN (c : D.Cluster) : Bool := piecesN c.Grid && (decide (c.Channels.length = c.Grid.Shards.length * c.Grid.Shards.length ∧ c.Counts.length = c.Grid.Shards.length) && (numN c.Sent c.Grid.Shards.length && (numN c.Got c.Grid.Shards.length && ((c.Counts.all fun x => numN x 7) && chansN c.Grid.Shards.length c.Channels))))

theorem zbR {c : D.Cluster} (h : c.sz ≤ 1048576) : c.Grid.sz ≤ 1048576 ∧ c.Channels.length ≤ 1048576 ∧ (∀ ch, ch ∈ c.Channels → ch.length ≤ 1048576 ∧ ∀ p, p ∈ ch → p.Cell.sz ≤ 1048576) ∧ c.Counts.length ≤ 1048576 ∧ (∀ x, x ∈ c.Counts → x.length ≤ 1048576) ∧ c.Sent.length ≤ 1048576 ∧ c.Got.length ≤ 1048576 := by
  unfold D.Cluster.sz at h
  have h1 : szL (fun x => szL D.Parcel.sz x) c.Channels ≤ 1048576 := by first | omega | (simp only [] at h; omega)
  have h2 : szL (fun x : List Int => x.length) c.Counts ≤ 1048576 := by first | omega | (simp only [] at h; omega)
  refine ⟨by omega, z5T h1, fun ch hc => ?_, z5T h2, fun x hx => z5S h2 hx, by omega, by omega⟩
  have h3 := z5S h1 hc
  refine ⟨z5T h3, fun p hp => ?_⟩
  have h4 := z5S h3 hp
  unfold D.Parcel.sz at h4
  omega
theorem z88 {fuel k : Nat} {xs : List Int} (hf : 18446744073709551616 ≤ fuel) (hl : xs.length ≤ 1048576) : z24 fuel xs (k : Int) = some (numN xs k) := by
  have hm : maxLen = 9223372036854775807 := rfl
  unfold z24 numN
  by_cases h : xs.length = k
  · subst h
    rw [if_neg (by simp)]
    have h1 := allLoop (xs := xs) (body := z2z fuel xs (xs.length : Int)) (p := fun _ x => decide (0 ≤ x ∧ x ≤ 1000000000)) (t := ()) (v := false) (fuel := fuel) (by omega) hf (fun i x hi hx => by
      unfold z2z
      rw [if_pos (by simpa using hi), za hx, Option.bind_some, z5X, Option.bind_some]
      cases decide (0 ≤ x ∧ x ≤ 1000000000) <;> rfl) (by unfold z2z; rw [if_neg (by simp)])
    rw [z5v (p := fun x : Int => decide (0 ≤ x ∧ x ≤ 1000000000))] at h1
    rw [h1, Option.bind_some]
    cases xs.all fun x => decide (0 ≤ x ∧ x ≤ 1000000000) <;> simp [aft, z5C]
  · rw [if_pos (by simp; omega), decide_eq_false h]; rfl
theorem zeo {fuel : Nat} {xs ys : List Int} (hf : 18446744073709551616 ≤ fuel) (hl : xs.length ≤ maxLen) : z5G fuel xs ys = some (decide (xs = ys)) := by
  unfold z5G
  exact eqWhole hl hf rfl (fun i a b hi ha hb => by
    unfold z5y
    rw [if_pos (by simpa using hi), za ha, Option.bind_some, za hb, Option.bind_some]
    by_cases h : a = b <;> simp [h]) (by unfold z5y; rw [if_neg (by simp)])
theorem zdT {fuel : Nat} {xs ys : List D.Address} (hf : 18446744073709551616 ≤ fuel) (hl : xs.length ≤ maxLen) : z1K fuel xs ys = some (decide (xs = ys)) := by
  unfold z1K
  exact eqWhole hl hf rfl (fun i a b hi ha hb => by
    unfold z1W
    rw [if_pos (by simpa using hi), za ha, Option.bind_some, za hb, Option.bind_some, zaH]
    by_cases h : a = b <;> simp [h]) (by unfold z1W; rw [if_neg (by simp)])
theorem ze3 {fuel : Nat} {c : D.ShardCell} (hf : 18446744073709551616 ≤ fuel) (hs : c.sz ≤ 1048576) : z3A fuel c ⟨0, 0, 0, [], []⟩ = some (emptyN c) := by
  have hm : maxLen = 9223372036854775807 := rfl
  unfold D.ShardCell.sz at hs
  unfold z3A emptyN
  dsimp only
  rw [zeo hf (by omega), zdT hf (by omega)]
  by_cases h1 : c.Kind = 0 <;> by_cases h2 : c.Level = 0 <;> by_cases h3 : c.Value = 0 <;> by_cases h4 : c.Data = [] <;> by_cases h5 : c.Aux = [] <;> simp [h1, h2, h3, h4, h5]
theorem ze4 {fuel : Nat} {c : D.ShardCell} (hf : 18446744073709551616 ≤ fuel) (hs : c.sz ≤ 1048576) : z1g fuel c ⟨0, 0, 0, [], []⟩ = some (emptyN c) := by
  have hm : maxLen = 9223372036854775807 := rfl
  unfold D.ShardCell.sz at hs
  unfold z1g emptyN
  dsimp only
  rw [zbm hf (by omega), zao hf (by omega)]
  by_cases h1 : c.Kind = 0 <;> by_cases h2 : c.Level = 0 <;> by_cases h3 : c.Value = 0 <;> by_cases h4 : c.Data = [] <;> by_cases h5 : c.Aux = [] <;> simp [h1, h2, h3, h4, h5]
theorem zbE {a : D.Address} : (((a.Machine : Int) == 0) && (((a.Kind : Int) == 0) && (((a.Index : Int) == 0) && true))) = decide (a = noneN) := zaH (a := a) (b := noneN)
theorem beqD {a b : Int} : (a == b) = decide (a = b) := by by_cases h : a = b <;> simp [h]
theorem zdb {fuel : Nat} {p : D.Parcel} {to : Int} (hf : 18446744073709551616 ≤ fuel) (hs : p.Cell.sz ≤ 1048576) : z4K fuel p to = some (parcelN to p) := by
  unfold z4K
  rw [show (⟨p.Cell.Kind, p.Cell.Level, p.Cell.Value, p.Cell.Data, p.Cell.Aux⟩ : D.ShardCell) = p.Cell from rfl, ze3 hf hs, zcK hf hs, zbE, zbE]
  simp only [Option.bind_some, beqD]
  unfold parcelN
  by_cases k1 : p.Kind = 1
  · cases emptyN p.Cell <;> simp [k1]
  · by_cases k2 : p.Kind = 2
    · cases emptyN p.Cell <;> by_cases h : p.A.Machine = to <;> by_cases h' : p.A.Kind = 2 <;> simp [k2, h, h']
    · by_cases k3 : p.Kind = 3
      · by_cases h0 : p.Cell.Kind = 0 <;> cases shCellN p.Cell <;> by_cases h : p.A = noneN <;> by_cases h' : p.B.Machine = to <;> simp [k3, h0, h, h']
      · by_cases k4 : p.Kind = 4
        · cases emptyN p.Cell <;> by_cases h : p.A = noneN <;> by_cases h' : p.B = noneN <;> simp [k4, h, h']
        · simp [k1, k2, k3, k4]
theorem zdc {fuel : Nat} {p : D.Parcel} {to : Int} (hf : 18446744073709551616 ≤ fuel) (hs : p.Cell.sz ≤ 1048576) : z3P fuel p to = some (parcelN to p) := by
  have key : ∀ b, z1C fuel p to b = if b = true then some false else if p.Kind = 1 then some (decide (p.A.Machine = to)) else if p.Kind = 2 then some (decide (p.A.Machine = to ∧ p.A.Kind = 2)) else if p.Kind = 3 then some ((decide (p.Cell.Kind ≠ 0) && shCellN p.Cell) && (decide (p.A = noneN) && decide (p.B.Machine = to))) else if p.Kind = 4 then some (decide (p.A = noneN) && decide (p.B = noneN)) else some false := fun b => by
    unfold z1C
    rw [zcL hf hs, zbE, zbE]
    simp only [Option.bind_some, beqD]
    cases b with
    | true => rfl
    | false =>
      rw [if_neg Bool.false_ne_true, if_neg Bool.false_ne_true]
      by_cases k1 : p.Kind = 1
      · simp [k1]
      · by_cases k2 : p.Kind = 2
        · by_cases h : p.A.Machine = to <;> by_cases h' : p.A.Kind = 2 <;> simp [k2, h, h']
        · by_cases k3 : p.Kind = 3
          · by_cases h0 : p.Cell.Kind = 0 <;> cases shCellN p.Cell <;> by_cases h : p.A = noneN <;> by_cases h' : p.B.Machine = to <;> simp [k3, h0, h, h']
          · by_cases k4 : p.Kind = 4
            · by_cases h : p.A = noneN <;> by_cases h' : p.B = noneN <;> simp [k4, h, h']
            · simp [k1, k2, k3, k4]
  unfold z3P
  rw [ze4 hf hs, key, Option.bind_some, key]
  unfold parcelN
  by_cases k3 : p.Kind = 3
  · simp [k3]
  · by_cases k1 : p.Kind = 1
    · cases emptyN p.Cell <;> simp [k1]
    · by_cases k2 : p.Kind = 2
      · cases emptyN p.Cell <;> simp [k2]
      · by_cases k4 : p.Kind = 4
        · cases emptyN p.Cell <;> simp [k4]
        · cases emptyN p.Cell <;> simp [k1, k2, k3, k4]
theorem tmodN {i k : Nat} (hk : k ≠ 0) : ((i : Int).tmod (k : Int)) = ((i % k : Nat) : Int) := by rw [Int.tmod_eq_emod_of_nonneg (by omega)]; exact (Int.natCast_emod i k).symm
theorem zh9 {k : Nat} {cs : List (List D.Parcel)} (hk : 0 < k) (hl : cs.length = k * k) : (cs.zipIdx.all fun x => diagN k x.2 x.1) = true ↔ ∀ m, m < k → cs[m * k + m]? = some [] := by
  rw [z64 (p := fun i ch => diagN k i ch)]
  constructor
  · intro h m hm
    have hlt : m * k + m < cs.length := by
      have : m * k + k ≤ k * k := by rw [← Nat.succ_mul]; exact Nat.mul_le_mul_right _ hm
      omega
    obtain ⟨ch, hc⟩ := z52 hlt
    have h1 := h _ _ hc
    rw [Nat.zero_add] at h1
    unfold diagN at h1
    have e1 : (m * k + m) / k = m := by rw [Nat.mul_comm, Nat.mul_add_div hk, Nat.div_eq_of_lt hm, Nat.add_zero]
    have e2 : (m * k + m) % k = m := by rw [Nat.mul_comm, Nat.mul_add_mod, Nat.mod_eq_of_lt hm]
    rw [e1, e2] at h1
    simp only [ne_eq, not_true_eq_false, decide_false, Bool.false_or, decide_eq_true_eq] at h1
    rw [hc, h1]
  · intro h i ch hc
    rw [Nat.zero_add]
    unfold diagN
    have hil := (List.getElem?_eq_some_iff.1 hc).1
    by_cases e : i / k = i % k
    · have h1 := h (i % k) (Nat.mod_lt _ hk)
      have e2 : i % k * k + i % k = i := by
        have := Nat.div_add_mod i k
        rw [e, Nat.mul_comm] at this
        exact this
      rw [e2, hc] at h1
      simp only [Option.some.injEq] at h1
      rw [h1]; simp
    · simp [e]
theorem zbA {fuel : Nat} {c : D.Cluster} (hf : 18446744073709551616 ≤ fuel) (hs : c.sz ≤ 1048576) : z4J fuel c = some (clusPN c) := by
  have hm : maxLen = 9223372036854775807 := rfl
  obtain ⟨z1, z2, z3, z4, z5, z6, z7⟩ := zbR hs
  have no : zQ fuel c true = some false := by unfold zQ; rfl
  unfold z4J clusPN
  rw [show (⟨c.Grid.Shards, (⟨c.Grid.Root.Machine, c.Grid.Root.Kind, c.Grid.Root.Index⟩ : D.Address)⟩ : D.Grid) = c.Grid from rfl, zd6 hf z1, Option.bind_some, z88 hf z6, z88 hf z7]
  cases hp : piecesN c.Grid with
  | false => rw [Bool.not_false, if_pos rfl, no]; rfl
  | true =>
    have hk : 1 ≤ c.Grid.Shards.length ∧ c.Grid.Shards.length ≤ 4 := by
      unfold piecesN at hp
      rw [Bool.and_eq_true, decide_eq_true_eq] at hp
      exact hp.1
    have hkk : c.Grid.Shards.length * c.Grid.Shards.length ≤ 16 := Nat.mul_le_mul hk.2 hk.2
    rw [Bool.not_true, if_neg (by simp), zd (by omega) (by omega), Bool.true_and]
    generalize hkd : c.Grid.Shards.length = k at *
    by_cases h1 : c.Channels.length = k * k
    · rw [if_neg (by simp [h1])]
      by_cases h2 : c.Counts.length = k
      · rw [if_neg (by simp [h2]), Option.bind_some, Option.bind_some]
        cases h3 : numN c.Sent k with
        | false => rw [Bool.not_false, if_pos rfl, no]; simp
        | true =>
          rw [Bool.not_true, if_neg (by simp)]
          cases h4 : numN c.Got k with
          | false => rw [Bool.not_false, no]; simp
          | true =>
            rw [Bool.not_true, decide_eq_true ⟨h1, h2⟩, Bool.true_and, Bool.true_and, Bool.true_and]
            unfold zQ
            rw [if_neg (by simp)]
            have hD := allLoop (xs := c.Counts) (body := z32 fuel c) (p := fun m x => numN x 7 && decide (c.Channels[m * k + m]? = some [])) (t := ()) (v := false) (fuel := fuel) (by omega) hf (fun m x hi hx => by
              have hmk : m * k + m < c.Channels.length := by
                have : m * k + k ≤ k * k := by rw [← Nat.succ_mul]; exact Nat.mul_le_mul_right _ (by omega)
                omega
              obtain ⟨ch, hc⟩ := z52 hmk
              have hmk2 : (m : Int) * (k : Int) = ((m * k : Nat) : Int) := by simp
              have hb : m * k ≤ 16 := by omega
              unfold z32 z2Z
              rw [hkd, if_pos (by simp; omega), za hx, Option.bind_some]
              have h7 := z88 (k := 7) hf (z5 x (List.mem_of_getElem? hx))
              rw [show ((7 : Nat) : Int) = 7 from rfl] at h7
              rw [h7, Option.bind_some, hmk2, zd (n := ((m * k : Nat) : Int)) (by omega) (by omega), zd (n := ((m * k : Nat) : Int) + (m : Int)) (by omega) (by omega), show ((m * k : Nat) : Int) + (m : Int) = ((m * k + m : Nat) : Int) by omega, za hc, hc]
              cases numN x 7 with
              | false => rfl
              | true =>
                cases ch with
                | nil => simp
                | cons y ys => simp) (by unfold z32; rw [hkd, h2, if_neg (by simp)])
            rw [hD, Option.bind_some]
            have hdiag := zh9 (cs := c.Channels) (by omega : 0 < k) h1
            have hcond : ((c.Counts.zipIdx.all fun y => numN y.1 7 && decide (c.Channels[y.2 * k + y.2]? = some [])) = true) ↔ ((c.Counts.all fun x => numN x 7) = true ∧ (c.Channels.zipIdx.all fun x => diagN k x.2 x.1) = true) := by
              rw [hdiag, z64 (p := fun m x => numN x 7 && decide (c.Channels[m * k + m]? = some [])), List.all_eq_true]
              constructor
              · intro h
                refine ⟨fun x hx => ?_, fun m hm' => ?_⟩
                · obtain ⟨m, hm'⟩ := List.getElem?_of_mem hx
                  have := h m x hm'
                  rw [Bool.and_eq_true] at this
                  exact this.1
                · obtain ⟨x, hx⟩ := z52 (xs := c.Counts) (i := m) (by omega)
                  have := h m x hx
                  rw [Nat.zero_add, Bool.and_eq_true, decide_eq_true_eq] at this
                  exact this.2
              · rintro ⟨ha, hb⟩ m x hx
                have hml := (List.getElem?_eq_some_iff.1 hx).1
                rw [Nat.zero_add, ha x (List.mem_of_getElem? hx), hb m (by omega)]
                simp
            unfold chansN
            by_cases hC : (c.Counts.zipIdx.all fun y => numN y.1 7 && decide (c.Channels[y.2 * k + y.2]? = some [])) = true
            · obtain ⟨e1, e2⟩ := hcond.1 hC
              rw [if_pos hC, z8, e1, e2, Bool.true_and, Bool.true_and]
              unfold z5U
              have hL := allLoop (xs := c.Channels) (body := z31 fuel c) (p := fun i ch => listN k i ch) (t := ()) (v := false) (fuel := fuel) (by omega) hf (fun i ch hi hc => by
                obtain ⟨y1, y2⟩ := z3 ch (List.mem_of_getElem? hc)
                unfold z31 listN
                rw [if_pos (by simpa using hi), za hc, Option.bind_some]
                by_cases hl : ch.length ≤ 200
                · rw [if_neg (by simp; omega), decide_eq_true hl, Bool.true_and]
                  have hP := allLoop (xs := ch) (body := z30 fuel c (i : Int)) (p := fun _ p => parcelN ((i % k : Nat) : Int) p) (t := ()) (v := Rd.ret false) (fuel := fuel) (by omega) hf (fun j p hj hp' => by
                    unfold z30
                    rw [za hc, Option.bind_some, if_pos (by simpa using hj), Option.bind_some, za hp', Option.bind_some, hkd, if_pos (by simp; omega), tmodN (by omega), zdb hf (y2 p (List.mem_of_getElem? hp')), Option.bind_some]
                    cases parcelN ((i % k : Nat) : Int) p <;> rfl) (by unfold z30; rw [za hc, Option.bind_some, if_neg (by simp)])
                  rw [z5v (p := parcelN ((i % k : Nat) : Int))] at hP
                  rw [hP, Option.bind_some]
                  cases ch.all (parcelN ((i % k : Nat) : Int)) <;> rfl
                · rw [if_pos (by simp; omega), decide_eq_false hl]; rfl) (by unfold z31; rw [if_neg (by simp)])
              rw [hL, Option.bind_some]
              cases (c.Channels.zipIdx.all fun x => listN k x.2 x.1) <;> rfl
            · rw [if_neg hC]
              have : ((c.Counts.all fun x => numN x 7) && ((c.Channels.zipIdx.all fun x => diagN k x.2 x.1) && (c.Channels.zipIdx.all fun x => listN k x.2 x.1))) = false := by
                cases ha : (c.Counts.all fun x => numN x 7) with
                | false => rfl
                | true =>
                  cases hb : (c.Channels.zipIdx.all fun x => diagN k x.2 x.1) with
                  | false => rfl
                  | true => exact absurd (hcond.2 ⟨ha, hb⟩) hC
              rw [this]; rfl
      · rw [if_pos (by simp; omega), no, decide_eq_false (fun h => h2 h.2)]; rfl
    · rw [if_pos (by simp; omega), no, decide_eq_false (fun h => h1 h.1)]; rfl
end Go.E

