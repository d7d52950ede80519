/- Detectors: both sides' whole test. Conditions: the detector's own size. -/
import Derived.Test.YteommboffflkbaaGreatHV
import Derived.Test.YteommboffflkbaaGreatClusSum
import Derived.Test.YteommboffflkbaaGreatRounds
namespace Go.E
open Go.RowKit Go.Proofs
set_option linter.unusedSimpArgs false
set_option linter.unusedVariables false

def sumN (xs : List Int) : Nat := sumL Int.toNat xs
def honN (c : D.Cluster) : Bool := (c.Channels.all fun ch => decide (markN ch = 0)) && decide (((sumN c.Sent : Nat) : Int) - ((sumN c.Got : Nat) : Int) = ((goN c : Nat) : Int))
def detN (d : D.Detector) : Bool := clusN d.Cluster && (honN d.Cluster && (decide (0 ≤ d.Holder ∧ d.Holder ≤ (d.Cluster.Grid.Shards.length : Int) - 1) && (decide (-4000000000 ≤ d.Count ∧ d.Count ≤ 4000000000) && (decide (d.Stained.length = d.Cluster.Grid.Shards.length) && decide (0 ≤ d.Rounds ∧ d.Rounds ≤ 1000000000)))))

section
variable {fuel : Nat} {c : D.Cluster}
structure Nums (c : D.Cluster) : Prop where
  sl : c.Sent.length = c.Grid.Shards.length
  gl : c.Got.length = c.Grid.Shards.length
  n : c.Grid.Shards.length ≤ 4
  s : ∀ x, x ∈ c.Sent → 0 ≤ x ∧ x ≤ 1000000000
  g : ∀ x, x ∈ c.Got → 0 ≤ x ∧ x ≤ 1000000000
theorem zjt (hs : c.sz ≤ 1048576) (h : clusN c = true) : Nums c := by
  obtain ⟨hS, _⟩ := zaJ hs h
  unfold clusN clusPN at h
  simp only [Bool.and_eq_true, decide_eq_true_eq] at h
  have h1 := h.1.2.2.1
  have h2 := h.1.2.2.2.1
  unfold numN at h1 h2
  simp only [Bool.and_eq_true, decide_eq_true_eq, List.all_eq_true] at h1 h2
  exact ⟨h1.1, h2.1, hS.n, h1.2, h2.2⟩
theorem zdU {xs : List Int} (h : ∀ x, x ∈ xs → 0 ≤ x ∧ x ≤ 1000000000) (i : Nat) : sumL Int.toNat (xs.take i) ≤ 1000000000 * xs.length := by
  have h1 := zhS (f := Int.toNat) (b := 1000000000) (xs := xs.take i) fun x hx => by
    have := h x (List.mem_of_mem_take hx)
    omega
  rw [List.length_take] at h1
  have : min i xs.length ≤ xs.length := Nat.min_le_right _ _
  have := Nat.mul_le_mul_left 1000000000 this
  omega
theorem zhT {xs : List Int} (hf : 18446744073709551616 ≤ fuel) (hl : xs.length ≤ 4) (h : ∀ x, x ∈ xs → 0 ≤ x ∧ x ≤ 1000000000) : z9G fuel xs = some ((sumN xs : Nat) : Int) := by
  unfold z9G
  have h1 := sumLoop (xs := xs) (body := z8y fuel xs) (mk := fun i s => (s, i)) (out := fun s => s) (f := Int.toNat) (c0 := 0) (fuel := fuel) (by omega) hf (fun i x hx => by
    have hil := (List.getElem?_eq_some_iff.1 hx).1
    have hb := zdU h i
    have hb1 := h x (List.mem_of_getElem? hx)
    have e : (x.toNat : Int) = x := Int.toNat_of_nonneg hb1.1
    unfold z8y
    dsimp only
    rw [if_pos (by simpa using hil), za hx, Option.bind_some, e, z9 (n := _ + x) (by omega) (by omega)]) (fun s => by
    unfold z8y
    rw [if_neg (by simp)])
  try dsimp only at h1
  rw [h1, Option.bind_some, z8, Int.zero_add]
  rfl
theorem zmb (hf : 18446744073709551616 ≤ fuel) (hN : Nums c) : iter (z2P fuel c) fuel (0, 0) = some (.inl (((sumN c.Sent : Nat) : Int) - ((sumN c.Got : Nat) : Int))) := by
  have h1 := hN.sl
  have h2 := hN.gl
  have h3 := hN.n
  obtain ⟨o, e1, e2⟩ := z12 (body := z2P fuel c) (fun i st => st = (((sumL Int.toNat (c.Sent.take i) : Nat) : Int) - ((sumL Int.toNat (c.Got.take i) : Nat) : Int), (i : Int))) c.Sent.length (fun o => o = .inl (((sumN c.Sent : Nat) : Int) - ((sumN c.Got : Nat) : Int))) (by
    rintro i st hi rfl
    obtain ⟨x, hx⟩ := z4a hi
    obtain ⟨y, hy⟩ := z4a (xs := c.Got) (i := i) (by omega)
    have b1 := zdU hN.s i
    have b2 := zdU hN.g i
    have b3 := hN.s x (List.mem_of_getElem? hx)
    have b4 := hN.g y (List.mem_of_getElem? hy)
    have t1 := zau (f := Int.toNat) hx
    have t2 := zau (f := Int.toNat) hy
    refine .inl ⟨_, ?_, rfl⟩
    unfold z2P z8Y
    dsimp only
    rw [if_pos (by simpa using hi), za hx, Option.bind_some, za hy, Option.bind_some, Option.bind_some, z9 (n := x - y) (by omega) (by omega), z9 (n := _ + (x - y)) (by omega) (by omega), z9 (n := (i : Int) + 1) (by omega) (by omega), t1, t2]
    refine congrArg some (congrArg Rd.next (Prod.ext ?_ rfl))
    dsimp only
    omega) (by
    rintro st rfl
    refine .inr ⟨_, by unfold z2P; rw [if_neg (by simp)], ?_⟩
    rw [List.take_length]
    unfold sumN
    rw [show c.Got.take c.Sent.length = c.Got from List.take_of_length_le (by omega)]) (fuel := fuel) (i := 0) (s := (0, 0)) (by omega) (by omega) (by simp [sumL])
  rw [e1, e2]
theorem zn0 (hf : 18446744073709551616 ≤ fuel) (hC : Chans c) (hN : Nums c) : z6q fuel c = some (honN c) := by
  have hcn := hC.n
  unfold z6q
  rw [zmb hf hN, Option.bind_some, z8]
  unfold z7Z honN
  have h := allLoop (xs := c.Channels) (body := z4c fuel c) (p := fun _ ch => decide (markN ch = 0)) (t := ()) (v := false) (fuel := fuel) (by unfold maxLen; omega) hf (fun i ch hi hx => by
    have hch := hC.l ch (List.mem_of_getElem? hx)
    unfold z4c
    rw [if_pos (by simpa using hi), za hx, Option.bind_some, zfi hf (by omega), Option.bind_some]
    by_cases hm : markN ch = 0
    · rw [if_neg (by simp [hm]), if_pos (by simp [hm])]
    · rw [if_pos (by simp; omega), if_neg (by simp [hm])]) (by
    unfold z4c
    rw [if_neg (by simp)])
  rw [z6P (p := fun ch : List D.Parcel => decide (markN ch = 0))] at h
  rw [h, Option.bind_some]
  cases c.Channels.all fun ch => decide (markN ch = 0) with
  | false => rfl
  | true =>
    rw [if_pos rfl, z8]
    unfold z7Y
    rw [zjD hf hC, Option.bind_some, beqD, Bool.true_and]
theorem zfX {p : List D.Parcel → Bool} {f : List D.Parcel → Option Bool} {xs : List (List D.Parcel)} (hf : 18446744073709551616 ≤ fuel) (hl : xs.length ≤ maxLen) (h : ∀ n, n ∈ xs → f n = some (p n)) :
    zg fuel xs f = some (xs.any p) := by
  unfold zg zr
  obtain ⟨r, h1, h2⟩ := askIndex (xs := xs) (p := p) (body := zf fuel xs f) (j := zP fuel) (t := ()) hl hf rfl (fun i x hi hx => by
    simp only [zf, za hx, h x (List.mem_of_getElem? hx), lt_t (show (i : Int) < xs.length by omega), if_true, Option.bind_some]) (by simp [zf])
  rw [h1, Option.bind_some, h2]
theorem zn1 (hf : 18446744073709551616 ≤ fuel) (hC : Chans c) (hN : Nums c) : z2v fuel c = some (honN c) := by
  have hcn := hC.n
  have h1 := hN.sl
  have h2 := hN.gl
  have h3 := hN.n
  have b1 := zdU hN.s c.Sent.length
  have b2 := zdU hN.g c.Got.length
  rw [List.take_length] at b1 b2
  unfold z2v z2Y honN
  rw [zfX (p := fun ch => !decide (markN ch = 0)) hf (by unfold maxLen; omega) (fun ch hch => by
    have hl := hC.l ch hch
    unfold z2d
    rw [zfj hf (by omega), Option.bind_some]
    by_cases hm : markN ch = 0
    · simp [hm]
    · rw [decide_eq_true (by omega), decide_eq_false hm]; rfl), zap, Option.bind_some, Option.bind_some]
  cases c.Channels.all fun ch => decide (markN ch = 0) with
  | false => rfl
  | true =>
    rw [if_pos (by rfl), zhT hf (by omega) hN.s, zhT hf (by omega) hN.g, zjE hf hC, Option.bind_some, Option.bind_some, Option.bind_some, z9 (n := ((sumN c.Sent : Nat) : Int) - ((sumN c.Got : Nat) : Int)) (by unfold sumN; omega) (by unfold sumN; omega), beqD, Bool.true_and]
theorem zig {d : D.Detector} (hf : 18446744073709551616 ≤ fuel) (hs : d.Cluster.sz ≤ 1048576) : z86 fuel d = some (detN d) := by
  have ge : (⟨(⟨d.Cluster.Grid.Shards, (⟨d.Cluster.Grid.Root.Machine, d.Cluster.Grid.Root.Kind, d.Cluster.Grid.Root.Index⟩ : D.Address)⟩ : D.Grid), d.Cluster.Channels, d.Cluster.Counts, d.Cluster.Sent, d.Cluster.Got⟩ : D.Cluster) = d.Cluster := rfl
  unfold z86 detN
  rw [ge, zbA hf hs, Option.bind_some]
  cases h : clusN d.Cluster with
  | false => rfl
  | true =>
    obtain ⟨hS, hC, hk, hl⟩ := zaJ hs h
    have hN := zjt hs h
    have h1 := hN.sl
    have hn := hS.n
    rw [if_neg (by simp), zn0 hf hC hN, Option.bind_some, Bool.true_and]
    unfold z70
    cases honN d.Cluster with
    | false => rfl
    | true =>
      rw [if_neg (by simp), z9 (by omega) (by omega), z6O, z6O, z6O, Option.bind_some, Option.bind_some, Option.bind_some, h1, Bool.true_and, beqD]
      cases decide (0 ≤ d.Holder ∧ d.Holder ≤ (d.Cluster.Grid.Shards.length : Int) - 1) with
      | false => rfl
      | true =>
        cases decide (-4000000000 ≤ d.Count ∧ d.Count ≤ 4000000000) with
        | false => rfl
        | true =>
          by_cases he : d.Stained.length = d.Cluster.Grid.Shards.length
          · rw [if_pos rfl, if_pos rfl, if_pos (by simp [he]), decide_eq_true he]; rfl
          · rw [if_pos rfl, if_pos rfl, if_neg (by simp; omega), decide_eq_false he]; rfl
theorem zih {d : D.Detector} (hf : 18446744073709551616 ≤ fuel) (hs : d.Cluster.sz ≤ 1048576) : z1G fuel d = some (detN d) := by
  have ge : (⟨(⟨d.Cluster.Grid.Shards, (⟨d.Cluster.Grid.Root.Machine, d.Cluster.Grid.Root.Kind, d.Cluster.Grid.Root.Index⟩ : D.Address)⟩ : D.Grid), d.Cluster.Channels, d.Cluster.Counts, d.Cluster.Sent, d.Cluster.Got⟩ : D.Cluster) = d.Cluster := rfl
  unfold z1G detN
  rw [ge, zbB hf hs, Option.bind_some]
  cases h : clusN d.Cluster with
  | false => rfl
  | true =>
    obtain ⟨hS, hC, hk, hl⟩ := zaJ hs h
    have hN := zjt hs h
    have hn := hS.n
    rw [if_neg (by simp), zn1 hf hC hN, Option.bind_some, Bool.true_and]
    unfold z2u zZ z6m
    cases honN d.Cluster with
    | false => rfl
    | true =>
      dsimp only
      rw [if_neg (by simp), Option.bind_some, z9 (by omega) (by omega), za5 hf (by simp), za5 hf (by simp), Option.bind_some, Option.bind_some, Bool.true_and, beqD]
      simp only [List.all_cons, List.all_nil, Bool.and_true]
      cases decide (0 ≤ d.Holder ∧ d.Holder ≤ (d.Cluster.Grid.Shards.length : Int) - 1) with
      | false => rfl
      | true =>
        by_cases hc1 : -4000000000 ≤ d.Count
        · by_cases hc2 : d.Count ≤ 4000000000
          · rw [if_pos rfl, if_pos (by simp; omega), decide_eq_true hc2, decide_eq_true (show -4000000000 ≤ d.Count ∧ d.Count ≤ 4000000000 from ⟨hc1, hc2⟩), Option.bind_some, if_pos rfl]
            by_cases he : d.Stained.length = d.Cluster.Grid.Shards.length
            · rw [if_pos (by simp [he]), decide_eq_true he]; rfl
            · rw [if_neg (by simp; omega), decide_eq_false he]; rfl
          · rw [if_pos rfl, if_pos (by simp; omega), decide_eq_false hc2, decide_eq_false (show ¬(-4000000000 ≤ d.Count ∧ d.Count ≤ 4000000000) from fun h => hc2 h.2)]; rfl
        · rw [if_pos rfl, if_neg (by simp; omega), decide_eq_false (show ¬(-4000000000 ≤ d.Count ∧ d.Count ≤ 4000000000) from fun h => hc1 h.1)]; rfl
end
end Go.E

