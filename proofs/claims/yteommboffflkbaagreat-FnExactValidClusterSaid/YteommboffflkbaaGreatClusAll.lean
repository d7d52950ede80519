/- Clusters: both sides' whole test. Conditions: the cluster's own size. -/
import Derived.Test.YteommboffflkbaaGreatClusLinks
namespace Go.E
open Go.RowKit Go.Proofs
set_option linter.unusedSimpArgs false
set_option linter.unusedVariables false

section
variable {fuel : Nat} {c : D.Cluster}
theorem zhb {L : D.l27Links} {at_ : List Int} {i : Nat} {ch : List D.Parcel} {M0 : D.l27Links} {z : Int × Int × D.l27Links} (hf : 18446744073709551616 ≤ fuel) (hs : c.Grid.sz ≤ 1048576) (hS : Small c.Grid) (hI : Items c.Grid (cellsOf c.Channels.flatten) L at_) (hC : Chans c)
    (hc : c.Channels[i]? = some ch) (hM : Run c.Grid (cellsOf c.Channels.flatten) L M0 (gridS c.Grid ++ parS 0 (c.Channels.take i).flatten)) (hz : z.2.1 = (i : Int)) :
    (ch.all (parA c.Grid) = true ∧ ∃ t, iter (zY fuel c (L, at_) z) fuel (((cellsOf (c.Channels.take i).flatten).length : Int), 0, M0) = some (.inl t) ∧ ∃ M, t = (((cellsOf (c.Channels.take (i + 1)).flatten).length : Int), M) ∧ Run c.Grid (cellsOf c.Channels.flatten) L M (gridS c.Grid ++ parS 0 (c.Channels.take (i + 1)).flatten)) ∨
    (ch.all (parA c.Grid) = false ∧ ∃ r, iter (zY fuel c (L, at_) z) fuel (((cellsOf (c.Channels.take i).flatten).length : Int), 0, M0) = some (.inr r) ∧ ∃ M, r = .ret (M, false)) := by
  have hch := hC.l ch (List.mem_of_getElem? hc)
  have hfl : c.Channels.flatten = (c.Channels.take i).flatten ++ (ch ++ (c.Channels.drop (i + 1)).flatten) := by
    have h1 := z8p hc
    have h2 : c.Channels.flatten = (c.Channels.take (i + 1)).flatten ++ (c.Channels.drop (i + 1)).flatten := by rw [← List.flatten_append, List.take_append_drop]
    rw [h2, h1, List.append_assoc]
  have h := tryLoop (xs := ch) (body := zY fuel c (L, at_) z) (fuel := fuel)
    (fun n st => ∃ M : D.l27Links, st = (((cellsOf ((c.Channels.take i).flatten ++ ch.take n)).length : Int), (n : Int), M) ∧ Run c.Grid (cellsOf c.Channels.flatten) L M (gridS c.Grid ++ parS 0 ((c.Channels.take i).flatten ++ ch.take n)))
    (fun _ p => parA c.Grid p)
    (fun t => ∃ M, t = (((cellsOf (c.Channels.take (i + 1)).flatten).length : Int), M) ∧ Run c.Grid (cellsOf c.Channels.flatten) L M (gridS c.Grid ++ parS 0 (c.Channels.take (i + 1)).flatten))
    (fun r => ∃ M, r = .ret (M, false)) (s0 := (((cellsOf (c.Channels.take i).flatten).length : Int), 0, M0)) (by omega) hf (by
    rintro n p _ hp ⟨M, rfl, hM'⟩
    have hnl := (List.getElem?_eq_some_iff.1 hp).1
    have hX : c.Channels.flatten = ((c.Channels.take i).flatten ++ ch.take n) ++ p :: (ch.drop (n + 1) ++ (c.Channels.drop (i + 1)).flatten) := by
      rw [hfl, List.append_assoc]
      congr 1
      have : ch = ch.take n ++ p :: ch.drop (n + 1) := by
        have h3 := List.take_append_drop (n + 1) ch
        rw [za2 hp, List.append_assoc] at h3
        exact h3.symm
      rw [← List.cons_append, ← List.append_assoc, ← this]
    obtain ⟨g1, g2⟩ := zda (z := z) hf hs hS hI hC hX hc hp hM' hz
    refine ⟨fun hp1 => ?_, fun hp1 => ?_⟩
    · obtain ⟨M', e1, e2⟩ := g1 hp1
      have ht : (c.Channels.take i).flatten ++ ch.take (n + 1) = ((c.Channels.take i).flatten ++ ch.take n) ++ [p] := by rw [za2 hp, List.append_assoc]
      refine ⟨_, e1, M', ?_, ?_⟩
      · rw [ht, zd (by omega) (by omega)]; rfl
      · rw [ht]; exact e2
    · exact g2 hp1) (by
    rintro _ ⟨M, rfl, hM'⟩
    rw [List.take_length] at hM'
    refine ⟨_, ?_, M, rfl, by rw [z8p hc]; exact hM'⟩
    unfold zY
    dsimp only
    rw [hz, za hc, Option.bind_some, if_neg (by simp), List.take_length, z8p hc]) ⟨M0, by simp, by simpa using hM⟩
  rw [z5v (p := parA c.Grid)] at h
  exact h
theorem zg4 {L : D.l27Links} {at_ : List Int} {M0 : D.l27Links} (hf : 18446744073709551616 ≤ fuel) (hs : c.Grid.sz ≤ 1048576) (hS : Small c.Grid) (hI : Items c.Grid (cellsOf c.Channels.flatten) L at_) (hC : Chans c)
    (hM : Run c.Grid (cellsOf c.Channels.flatten) L M0 (gridS c.Grid)) :
    (c.Channels.flatten.all (parA c.Grid) = true ∧ ∃ t, iter (z1J fuel c (L, at_)) fuel (0, 0, M0) = some (.inl t) ∧ Run c.Grid (cellsOf c.Channels.flatten) L t (gridS c.Grid ++ parS 0 c.Channels.flatten)) ∨
    (c.Channels.flatten.all (parA c.Grid) = false ∧ ∃ r, iter (z1J fuel c (L, at_)) fuel (0, 0, M0) = some (.inr r) ∧ ∃ M, r = (M, false)) := by
  have hn := hC.n
  have hfl := z5Z hC.l
  have h := tryLoop (xs := c.Channels) (body := z1J fuel c (L, at_)) (fuel := fuel)
    (fun i st => ∃ M : D.l27Links, st = (((cellsOf (c.Channels.take i).flatten).length : Int), (i : Int), M) ∧ Run c.Grid (cellsOf c.Channels.flatten) L M (gridS c.Grid ++ parS 0 (c.Channels.take i).flatten))
    (fun _ ch => ch.all (parA c.Grid))
    (fun t => Run c.Grid (cellsOf c.Channels.flatten) L t (gridS c.Grid ++ parS 0 c.Channels.flatten))
    (fun r => ∃ M, r = (M, false)) (s0 := (0, 0, M0)) (by omega) hf (by
    rintro i ch _ hc ⟨M, rfl, hM'⟩
    have hil := (List.getElem?_eq_some_iff.1 hc).1
    unfold z1J
    dsimp only
    rw [if_pos (by simpa using hil)]
    rcases zhb (z := (((cellsOf (c.Channels.take i).flatten).length : Int), (i : Int), M)) hf hs hS hI hC hc hM' rfl with ⟨c1, t, c2, M1, rfl, c3⟩ | ⟨c1, r, c2, M1, rfl⟩
    · rw [c1, c2, Option.bind_some, z8]
      unfold z69
      dsimp only
      exact ⟨fun _ => ⟨_, rfl, M1, by rw [zd (by omega) (by omega)]; rfl, c3⟩, fun h => by cases h⟩
    · rw [c1, c2, Option.bind_some]
      exact ⟨fun h => (by cases h), fun _ => ⟨_, rfl, _, rfl⟩⟩) (by
    rintro _ ⟨M, rfl, hM'⟩
    rw [List.take_length] at hM'
    refine ⟨_, ?_, hM'⟩
    unfold z1J
    rw [if_neg (by simp)]) ⟨M0, by simp [cellsOf], by simpa [parS] using hM⟩
  rw [z5v (p := fun ch : List D.Parcel => ch.all (parA c.Grid)), ← List.all_flatten] at h
  exact h
theorem zhx (hf : 18446744073709551616 ≤ fuel) (hs : c.Grid.sz ≤ 1048576) (hS : Small c.Grid) (hC : Chans c) :
    ∃ L at_ L', Items c.Grid (cellsOf c.Channels.flatten) L at_ ∧ z5c fuel c = some (L', gridA c.Grid && c.Channels.flatten.all (parA c.Grid)) ∧ ((gridA c.Grid && c.Channels.flatten.all (parA c.Grid)) = true → Run c.Grid (cellsOf c.Channels.flatten) L L' (gridS c.Grid ++ parS 0 c.Channels.flatten)) := by
  have hn := hC.n
  have hfl := z5Z hC.l
  have hcl := z7H (ps := c.Channels.flatten)
  have ge : (⟨c.Grid.Shards, (⟨c.Grid.Root.Machine, c.Grid.Root.Kind, c.Grid.Root.Index⟩ : D.Address)⟩ : D.Grid) = c.Grid := rfl
  obtain ⟨L, at_, b1, hI⟩ := zg7 (fuel := fuel) (g := c.Grid) (more := cellsOf c.Channels.flatten) hf hS ⟨by omega, fun y hy => by
    obtain ⟨q, g1, g2, g3⟩ := z8j hy
    rw [← g3]
    exact ⟨(hC.p q g1).1, ((hC.p q g1).2 g2).2⟩⟩
  obtain ⟨M0, a1, a2⟩ := zhA (fuel := fuel) hf hs hS hI
  refine ⟨L, at_, ?_⟩
  unfold z5c
  rw [ze7 hf hC, Option.bind_some, z8]
  unfold z6a
  rw [ge, b1, Option.bind_some]
  dsimp only
  rw [a1, Option.bind_some]
  dsimp only
  cases hA : gridA c.Grid with
  | false => exact ⟨M0, hI, rfl, fun h => by cases h⟩
  | true =>
    rw [Bool.not_true, if_neg (by simp), Bool.true_and]
    rcases zg4 hf hs hS hI hC (a2 hA) with ⟨c1, t, c2, c3⟩ | ⟨c1, r, c2, M1, rfl⟩
    · rw [c1, c2, Option.bind_some, z8]
      exact ⟨t, hI, rfl, fun _ => c3⟩
    · rw [c1, c2, Option.bind_some]
      exact ⟨M1, hI, rfl, fun h => by cases h⟩

def clusN (c : D.Cluster) : Bool := clusPN c && implN c.Grid (gridT c.Grid ++ chansT c.Channels)
theorem zg1 (hf : 18446744073709551616 ≤ fuel) (hs : c.sz ≤ 1048576) : z6H fuel c = some (clusN c) := by
  obtain ⟨z1, _⟩ := zbR hs
  unfold z6H clusN
  rw [zbA hf hs, Option.bind_some]
  cases hp : clusPN c with
  | false => rfl
  | true =>
    obtain ⟨hpn, hC⟩ := zha hs hp
    have hS := zdk z1 hpn
    obtain ⟨L, at_, L', hI, e1, e2⟩ := zhx (fuel := fuel) hf z1 hS hC
    have hn := hC.n
    have hgn := hS.n
    have hfl := z5Z hC.l
    have hcl := z7H (ps := c.Channels.flatten)
    rw [Bool.not_true, if_neg (by simp), e1, Option.bind_some, Bool.true_and, ← zg2]
    dsimp only
    cases hA : gridA c.Grid with
    | false => rfl
    | true =>
      cases hB : c.Channels.flatten.all (parA c.Grid) with
      | false => rfl
      | true =>
        have hpl : L.ports.length ≤ 1048576 := by
          rw [hI.ports]
          have h := z8r hS c.Grid.Shards.length (Nat.le_refl _)
          rw [List.take_length] at h
          have h2 := z86 (t := 3) (m := 0) (cs := cellsOf c.Channels.flatten) (fun y hy => by
            obtain ⟨q, g1, g2, g3⟩ := z8j hy
            rw [← g3]
            exact ((hC.p q g1).2 g2).2) (cellsOf c.Channels.flatten).length (Nat.le_refl _)
          rw [List.take_length] at h2
          rw [List.length_append]
          omega
        rw [Bool.true_and, if_pos rfl]
        have h9 := ze6 hf z1 hI (e2 (by rw [hA, hB]; rfl)) hpl
        have h10 : z3t fuel (⟨c.Grid.Shards, (⟨c.Grid.Root.Machine, c.Grid.Root.Kind, c.Grid.Root.Index⟩ : D.Address)⟩ : D.Grid) L' = _ := h9
        rw [h10]
        rfl


theorem z8L {k : Int} {xs : List Int} (hf : 18446744073709551616 ≤ fuel) (hl : xs.length ≤ 1048576) : z4G fuel k xs = some (xs.all fun x => decide (0 ≤ x ∧ x ≤ k)) := by
  have hm : maxLen = 9223372036854775807 := rfl
  unfold z4G
  rw [z9w (p := fun x => !decide (0 ≤ x ∧ x ≤ k)) hf (by omega) (fun x => by
    unfold z5Q
    by_cases h : x < 0
    · rw [if_pos (decide_eq_true h), decide_eq_false (by omega)]; rfl
    · rw [if_neg (by simpa using h)]
      by_cases h2 : x > k
      · rw [decide_eq_true h2, decide_eq_false (by omega)]; rfl
      · rw [decide_eq_false h2, decide_eq_true (by omega)]; rfl), Option.bind_some, z7S, Bool.not_not]
theorem zbQ {p : List Int → Bool} {f : List Int → Option Bool} {xs : List (List Int)} (hf : 18446744073709551616 ≤ fuel) (hl : xs.length ≤ maxLen) (h : ∀ n, n ∈ xs → f n = some (p n)) :
    zx fuel xs f = some (xs.any p) := by
  unfold zx z10
  obtain ⟨r, h1, h2⟩ := askIndex (xs := xs) (p := p) (body := zv fuel xs f) (j := z1a fuel) (t := ()) hl hf rfl (fun i x hi hx => by
    simp only [zv, za hx, h x (List.mem_of_getElem? hx), lt_t (show (i : Int) < xs.length by omega), if_true, Option.bind_some]) (by simp [zv])
  rw [h1, Option.bind_some, h2]
theorem zaB {p : D.Parcel → Bool} {f : D.Parcel → Option Bool} {xs : List D.Parcel} (hf : 18446744073709551616 ≤ fuel) (hl : xs.length ≤ maxLen) (h : ∀ n, n ∈ xs → f n = some (p n)) :
    z9 fuel xs f = some (xs.any p) := by
  unfold z9 zD
  obtain ⟨r, h1, h2⟩ := askIndex (xs := xs) (p := p) (body := zg fuel xs f) (j := zW fuel) (t := ()) hl hf rfl (fun i x hi hx => by
    simp only [zg, za hx, h x (List.mem_of_getElem? hx), lt_t (show (i : Int) < xs.length by omega), if_true, Option.bind_some]) (by simp [zg])
  rw [h1, Option.bind_some, h2]
theorem zde {xs : List Int} (hf : 18446744073709551616 ≤ fuel) (hl : xs.length ≤ 1048576) : z20 fuel xs = some (numN xs 7) := by
  unfold z20 numN
  rw [z8L hf hl, Option.bind_some]
  by_cases h : xs.length = 7
  · rw [if_pos (by simp [h]), decide_eq_true h, Bool.true_and]
  · rw [if_neg (by simp; omega), decide_eq_false h, Bool.false_and]
theorem zh8 {i k : Nat} : ((i : Int).tdiv (k : Int)) = ((i / k : Nat) : Int) := by rw [Int.tdiv_eq_ediv_of_nonneg (by omega)]; exact (Int.natCast_ediv i k).symm
theorem zcR {k : Nat} {cs : List (List D.Parcel)} (hf : 18446744073709551616 ≤ fuel) (hk : 1 ≤ k ∧ k ≤ 4) (hl : cs.length ≤ 1048576) (hc : ∀ ch, ch ∈ cs → ch.length ≤ 1048576 ∧ ∀ p, p ∈ ch → p.Cell.sz ≤ 1048576) : z2N fuel cs (k : Int) = some (decide (cs.length = k * k) && chansN k cs) := by
  have hm : maxLen = 9223372036854775807 := rfl
  have hkk : k * k ≤ 16 := Nat.mul_le_mul hk.2 hk.2
  have hke : (k : Int) * (k : Int) = ((k * k : Nat) : Int) := by simp
  unfold z2N
  rw [hke, zd (by omega) (by omega)]
  by_cases h1 : cs.length = k * k
  · rw [if_neg (by simp [h1]), decide_eq_true h1, Bool.true_and]
    have hL := allLoop (xs := cs) (body := z1Q fuel cs (k : Int)) (p := fun i ch => diagN k i ch && listN k i ch) (t := ()) (v := false) (fuel := fuel) (by omega) hf (fun i ch hi hx => by
      obtain ⟨y1, y2⟩ := hc ch (List.mem_of_getElem? hx)
      have hP := zaB (fuel := fuel) (p := fun p => !parcelN ((i % k : Nat) : Int) p) (f := fun y0 => z1b fuel y0 ((i % k : Nat) : Int)) (xs := ch) hf (by omega) (fun p hp => by
        unfold z1b
        rw [zdc hf (y2 p hp)]
        rfl)
      rw [z7S] at hP
      have j2 : ∀ b, zA fuel (i : Int) b = if b = true then some (.ret false) else some (.next (w64 ((i : Int) + 1))) := fun b => by unfold zA; rfl
      have hdk : ((i / k : Nat) : Int) ≤ (i : Int) := Int.ofNat_le.2 (Nat.div_le_self i k)
      have hd0 : (0 : Int) ≤ ((i / k : Nat) : Int) := Int.natCast_nonneg _
      unfold z1Q
      rw [if_pos (by simpa using hi), za hx, Option.bind_some, if_pos (by simp; omega), if_pos (by simp; omega), zh8, tmodN (by omega), zd (n := ((i / k : Nat) : Int)) (by omega) (by omega), hP]
      simp only [Option.bind_some, j2]
      unfold diagN listN
      by_cases e : i / k = i % k
      · rw [if_pos (by simp [e])]
        cases ch with
        | nil => simp [e]
        | cons y ys => simp [e]
      · rw [if_neg (by simp; omega)]
        by_cases h2 : ch.length ≤ 200
        · rw [if_neg (by simp; omega)]
          cases hq : ch.all (parcelN ((i % k : Nat) : Int)) <;> simp [e, h2, hq]
        · rw [if_pos (by simp; omega)]
          simp [e, h2]) (by unfold z1Q; rw [if_neg (by simp)])
    rw [hL, Option.bind_some]
    have hand : (cs.zipIdx.all fun y => diagN k y.2 y.1 && listN k y.2 y.1) = chansN k cs := by
      unfold chansN
      induction cs.zipIdx with
      | nil => rfl
      | cons y ys ih =>
        simp only [List.all_cons, ih]
        cases diagN k y.2 y.1 <;> cases listN k y.2 y.1 <;> cases (ys.all fun x => diagN k x.2 x.1) <;> rfl
    rw [hand]
    cases chansN k cs <;> simp [aft, z4D]
  · rw [if_pos (by simp; omega), decide_eq_false h1]; rfl
theorem zga {at_ : D.Address} {aux : List D.Address} (hf : 18446744073709551616 ≤ fuel) (hl : aux.length ≤ 3) : z18 fuel at_ aux = some (fl (auxTA at_) aux aux.length) := by
  unfold z18
  have h := addLoop (xs := aux) (body := zP fuel at_ aux) (mk := fun k s => (s, k)) (out := fun s => s) (auxTA at_) (s0 := []) (by omega) hf (fun k a ha => by
    have hkl := (List.getElem?_eq_some_iff.1 ha).1
    have hfl := z6C (f := auxTA at_) (xs := aux) (b := 1) (fun _ _ _ => by simp [auxTA]) k (by omega)
    rw [List.nil_append]
    generalize fl (auxTA at_) aux k = s at hfl ⊢
    unfold zP z4E
    dsimp only
    have hw : w64 ((k : Int) + 1) = (k : Int) + 1 := zd (by omega) (by omega)
    rw [if_pos (by simpa using hkl), za ha, Option.bind_some, hw, if_pos (decide_eq_true (by omega)), Option.bind_some, if_pos (by simp; omega)]
    unfold z1R
    dsimp only
    rw [hw]
    rfl) (by
    unfold zP
    rw [if_neg (by simp)])
  rw [h, Option.bind_some, z8]
  rfl
theorem zev {ch i : Nat} {p : D.Parcel} (h : p.Kind = 3 → p.Cell.Aux.length ≤ 3) : (parT ch i p).length ≤ 4 := by
  unfold parT
  split
  · simp
  · split
    · rename_i h3
      have := z6C (f := auxTA ⟨(ch : Int), 3, (i : Int)⟩) (xs := p.Cell.Aux) (b := 1) (fun _ _ _ => by simp [auxTA]) p.Cell.Aux.length (Nat.le_refl _)
      have := h h3
      rw [List.length_append]
      simp only [List.length_cons, List.length_nil]
      omega
    · simp
theorem zd9 (hf : 18446744073709551616 ≤ fuel) (hC : Chans c) : zC fuel c = some (chansT c.Channels) ∧ (chansT c.Channels).length ≤ 20000 := by
  have hn := hC.n
  have hp3 : ∀ ch, ch ∈ c.Channels → ∀ p, p ∈ ch → p.Kind = 3 → p.Cell.Aux.length ≤ 3 := fun ch h1 p h2 h3 => ((hC.p p (List.mem_flatten.2 ⟨ch, h1, h2⟩)).2 h3).2
  have hcl : ∀ (i : Nat) ch, c.Channels[i]? = some ch → (chanT i ch).length ≤ 800 := fun i ch hc => by
    have hch := hC.l ch (List.mem_of_getElem? hc)
    have := z6C (f := parT i) (xs := ch) (b := 4) (fun j p hp => zev (hp3 ch (List.mem_of_getElem? hc) p (List.mem_of_getElem? hp))) ch.length (Nat.le_refl _)
    unfold chanT
    omega
  have hall : ∀ i, i ≤ c.Channels.length → (fl chanT c.Channels i).length ≤ 800 * i := fun i hi => z6C (f := chanT) (xs := c.Channels) (b := 800) hcl i hi
  refine ⟨?_, by have := hall c.Channels.length (Nat.le_refl _); unfold chansT; omega⟩
  unfold zC
  have h := addLoop (xs := c.Channels) (body := zJ fuel c) (mk := fun k s => (s, k)) (out := fun s => s) chanT (s0 := []) (fuel := fuel) (by omega) hf (fun i ch hc => by
    have hil := (List.getElem?_eq_some_iff.1 hc).1
    have hch := hC.l ch (List.mem_of_getElem? hc)
    have h0 := hall i (by omega)
    rw [List.nil_append]
    generalize fl chanT c.Channels i = s0 at h0 ⊢
    unfold zJ
    dsimp only
    rw [if_pos (by simpa using hil), za hc, Option.bind_some]
    have h1 := addLoop (xs := ch) (body := zq fuel (s0, (i : Int)) ch) (mk := fun k s => (k, s)) (out := fun s => s) (parT i) (s0 := s0) (fuel := fuel) (by omega) hf (fun n p hp => by
      have hnl := (List.getElem?_eq_some_iff.1 hp).1
      have h3' := hp3 ch (List.mem_of_getElem? hc) p (List.mem_of_getElem? hp)
      have hfl := z6C (f := parT i) (xs := ch) (b := 4) (fun j p hp => zev (hp3 ch (List.mem_of_getElem? hc) p (List.mem_of_getElem? hp))) n (by omega)
      have hb : (s0 ++ fl (parT i) ch n).length ≤ 100000 := by rw [List.length_append]; omega
      generalize s0 ++ fl (parT i) ch n = s at hb ⊢
      have he : zq fuel (s0, (i : Int)) ch ((n : Int), s) = zp fuel (s0, (i : Int)) ((n : Int), s) p (decide (p.Kind = 1 ∨ p.Kind = 2)) := by
        unfold zq
        dsimp only
        rw [if_pos (by simpa using hnl), za hp, Option.bind_some]
        simp only [beqD]
        by_cases k1 : p.Kind = 1
        · simp [k1]
        · by_cases k2 : p.Kind = 2 <;> simp [k1, k2]
      rw [he]
      unfold zp parT
      dsimp only
      by_cases k12 : p.Kind = 1 ∨ p.Kind = 2
      · rw [if_pos (decide_eq_true k12), if_pos (by simp; omega), if_pos k12]
        rfl
      · rw [if_neg (by simpa using k12), if_neg k12]
        by_cases k3 : p.Kind = 3
        · have haux := zga (fuel := fuel) (at_ := ⟨(i : Int), 3, (n : Int)⟩) hf (h3' k3)
          have hal := z6C (f := auxTA ⟨(i : Int), 3, (n : Int)⟩) (xs := p.Cell.Aux) (b := 1) (fun _ _ _ => by simp [auxTA]) p.Cell.Aux.length (Nat.le_refl _)
          have h33 := h3' k3
          rw [if_pos (by simp [k3]), if_pos k3]
          unfold z47
          rw [Option.bind_some, haux, Option.bind_some, if_pos (by simp only [decide_eq_true_eq]; omega)]
          unfold z4E
          rw [if_neg (by simp), Option.bind_some, if_pos (by simp only [List.length_append, List.length_cons, List.length_nil, decide_eq_true_eq]; omega), ← List.append_assoc]
          rfl
        · rw [if_neg (by simpa using k3), if_neg k3, List.append_nil]
          rfl) (by
      unfold zq
      rw [if_neg (by simp)])
    try dsimp only at h1
    rw [h1, Option.bind_some, z8]
    rfl) (by
    unfold zJ
    rw [if_neg (by simp)])
  rw [h, Option.bind_some, z8]
  rfl
theorem zg3 (hf : 18446744073709551616 ≤ fuel) (hs : c.sz ≤ 1048576) : z26 fuel c = some (clusN c) := by
  have hm : maxLen = 9223372036854775807 := rfl
  obtain ⟨z1, z2, z3, z4, z5, z6, z7⟩ := zbR hs
  have ge : (⟨c.Grid.Shards, (⟨c.Grid.Root.Machine, c.Grid.Root.Kind, c.Grid.Root.Index⟩ : D.Address)⟩ : D.Grid) = c.Grid := rfl
  have no1 : ∀ r, zT fuel c r true = some false := fun r => by unfold zT; rfl
  have no2 : zh fuel c true = some false := by unfold zh; rfl
  have j2 : zh fuel c false = if (c.Counts.all fun x => numN x 7) = true then ((zC fuel c).bind fun r47 => (z1D fuel c.Grid r47).bind fun r56 => some r56) else some false := by
    unfold zh
    rw [if_neg (by simp), zbQ (p := fun x => !numN x 7) hf (by omega) (fun x hx => by unfold z3m; rw [zde hf (z5 x hx)]; rfl), z7S, Option.bind_some]
    cases (c.Counts.all fun x => numN x 7) <;> rfl
  unfold z26 z2S
  rw [Option.bind_some]
  by_cases hk : 1 ≤ c.Grid.Shards.length ∧ c.Grid.Shards.length ≤ 4
  · rw [if_neg (by simp; omega), if_neg (by simp; omega), zcR hf hk z2 z3, Option.bind_some]
    by_cases h1 : c.Channels.length = c.Grid.Shards.length * c.Grid.Shards.length
    · rw [decide_eq_true h1, Bool.true_and]
      cases h2 : chansN c.Grid.Shards.length c.Channels with
      | false =>
        rw [Bool.not_false, no1]
        have : clusPN c = false := by unfold clusPN; rw [h2]; simp
        unfold clusN
        rw [this]; rfl
      | true =>
        rw [Bool.not_true]
        unfold zT
        rw [if_neg (by simp)]
        have key : ∀ b, (b = false → clusPN c = false) → b = false → zh fuel c true = some (clusN c) := fun b h hb => by
          rw [no2]
          unfold clusN
          rw [h hb]; rfl
        by_cases h3 : c.Counts.length = c.Grid.Shards.length
        · rw [if_neg (by simp [h3])]
          by_cases h4 : c.Sent.length = c.Grid.Shards.length
          · rw [if_neg (by simp [h4])]
            by_cases h5 : c.Got.length = c.Grid.Shards.length
            · rw [if_neg (by simp [h5]), z8L hf z6, z8L hf z7, Option.bind_some, Option.bind_some]
              have e4 : numN c.Sent c.Grid.Shards.length = (c.Sent.all fun x => decide (0 ≤ x ∧ x ≤ 1000000000)) := by unfold numN; rw [decide_eq_true h4, Bool.true_and]
              have e5 : numN c.Got c.Grid.Shards.length = (c.Got.all fun x => decide (0 ≤ x ∧ x ≤ 1000000000)) := by unfold numN; rw [decide_eq_true h5, Bool.true_and]
              rw [← e4, ← e5]
              cases h6 : numN c.Sent c.Grid.Shards.length with
              | false =>
                rw [Bool.not_false, if_pos rfl]
                exact key false (fun _ => by unfold clusPN; rw [h6]; simp) rfl
              | true =>
                rw [Bool.not_true, if_neg (by simp)]
                cases h7 : numN c.Got c.Grid.Shards.length with
                | false =>
                  rw [Bool.not_false]
                  exact key false (fun _ => by unfold clusPN; rw [h7]; simp) rfl
                | true =>
                  rw [Bool.not_true, j2]
                  cases h8 : (c.Counts.all fun x => numN x 7) with
                  | false =>
                    have : clusPN c = false := by unfold clusPN; rw [h8]; simp
                    unfold clusN
                    rw [if_neg (by simp), this]; rfl
                  | true =>
                    have hcp : clusPN c = piecesN c.Grid := by
                      unfold clusPN
                      rw [h2, h6, h7, h8, decide_eq_true ⟨h1, h3⟩]
                      simp
                    rw [if_pos rfl]

                    have hC : Chans c := by
                      refine ⟨by rw [h1]; exact Nat.mul_le_mul hk.2 hk.2, fun ch hc => ?_, fun q hq => ?_⟩
                      · unfold chansN at h2
                        rw [Bool.and_eq_true] at h2
                        obtain ⟨i, hi⟩ := List.getElem?_of_mem hc
                        have h10 := (z64 (p := fun i ch => listN c.Grid.Shards.length i ch)).1 h2.2 i ch hi
                        unfold listN at h10
                        rw [Bool.and_eq_true, decide_eq_true_eq] at h10
                        exact h10.1
                      · obtain ⟨ch, hc, hq2⟩ := List.mem_flatten.1 hq
                        refine ⟨(z3 ch hc).2 q hq2, fun h3' => ?_⟩
                        unfold chansN at h2
                        rw [Bool.and_eq_true] at h2
                        obtain ⟨i, hi⟩ := List.getElem?_of_mem hc
                        have h10 := (z64 (p := fun i ch => listN c.Grid.Shards.length i ch)).1 h2.2 i ch hi
                        unfold listN at h10
                        rw [Bool.and_eq_true, decide_eq_true_eq, List.all_eq_true] at h10
                        have h11 := h10.2 q hq2
                        unfold parcelN at h11
                        rw [if_neg (by omega), if_neg (by omega), if_pos h3'] at h11
                        simp only [Bool.and_eq_true, decide_eq_true_eq] at h11
                        exact ⟨h11.1.1, zdm h11.1.2⟩
                    obtain ⟨e9, e10⟩ := zd9 (fuel := fuel) hf hC
                    rw [e9, Option.bind_some, zd7 hf z1]
                    unfold zX clusN
                    rw [hcp]
                    cases hp : piecesN c.Grid with
                    | false => rfl
                    | true =>
                      have hS := zdk z1 hp
                      have hgn := hS.n
                      have hfl := z6C (f := shardT) (xs := c.Grid.Shards) (b := 2000) (fun j s hc => zc3 hS hc) c.Grid.Shards.length (Nat.le_refl _)
                      have hl : (gridT c.Grid).length ≤ 100000 := by unfold gridT rootT; rw [List.length_append]; simp only [List.length_cons, List.length_nil]; omega
                      rw [Bool.not_true, if_neg (by simp), zaR hf hS, Option.bind_some, if_pos (by simp only [decide_eq_true_eq]; omega), zeu hf z1 (by rw [List.length_append]; omega), Option.bind_some, Option.bind_some, Bool.true_and]
            · rw [if_pos (by simp; omega)]
              exact key false (fun _ => by unfold clusPN numN; rw [decide_eq_false h5]; simp) rfl
          · rw [if_pos (by simp; omega)]
            exact key false (fun _ => by unfold clusPN numN; rw [decide_eq_false h4]; simp) rfl
        · rw [if_pos (by simp; omega)]
          exact key false (fun _ => by unfold clusPN; rw [decide_eq_false (fun h => h3 h.2)]; simp) rfl
    · rw [decide_eq_false h1, Bool.false_and, Bool.not_false, no1]
      have : clusPN c = false := by unfold clusPN; rw [decide_eq_false (fun h => h1 h.1)]; simp
      unfold clusN
      rw [this]; rfl
  · have : clusPN c = false := by unfold clusPN piecesN; rw [decide_eq_false hk]; rfl
    unfold clusN
    rw [this]
    by_cases h : c.Grid.Shards.length < 1
    · rw [if_pos (by simp; omega), no1]; rfl
    · rw [if_neg (by simp; omega), if_pos (by simp; omega), no1]; rfl
end
end Go.E

