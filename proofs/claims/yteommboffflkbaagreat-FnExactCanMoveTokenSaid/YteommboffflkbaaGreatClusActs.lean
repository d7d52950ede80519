/- Clusters: both sides' whole test. Conditions: the cluster's own size. -/
import Derived.Test.YteommboffflkbaaGreatClusLinks
import Derived.Test.YteommboffflkbaaGreatRounds
namespace Go.E
open Go.RowKit Go.Proofs
set_option linter.unusedSimpArgs false
set_option linter.unusedVariables false

section
variable {fuel : Nat} {c : D.Cluster}
theorem znH {L : D.l27Links} {at_ : List Int} {i : Nat} {ch : List D.Parcel} {M0 : D.l27Links} {z : Int × Int × D.l27Links} (hf : 18446744073709551616 ≤ fuel) (hs : c.Grid.sz ≤ 1048576) (hS : Small c.Grid) (hI : Items c.Grid (cellsOf c.Channels.flatten) L at_) (hC : Chans c)
    (hc : c.Channels[i]? = some ch) (hM : Run c.Grid (cellsOf c.Channels.flatten) L M0 (gridS c.Grid ++ parS 0 (c.Channels.take i).flatten)) (hz : z.2.1 = (i : Int)) :
    (ch.all (parA c.Grid) = true ∧ ∃ t, iter (z1a fuel c (L, at_) z) fuel (((cellsOf (c.Channels.take i).flatten).length : Int), 0, M0) = some (.inl t) ∧ ∃ M, t = (((cellsOf (c.Channels.take (i + 1)).flatten).length : Int), M) ∧ Run c.Grid (cellsOf c.Channels.flatten) L M (gridS c.Grid ++ parS 0 (c.Channels.take (i + 1)).flatten)) ∨
    (ch.all (parA c.Grid) = false ∧ ∃ r, iter (z1a fuel c (L, at_) z) fuel (((cellsOf (c.Channels.take i).flatten).length : Int), 0, M0) = some (.inr r) ∧ ∃ M, r = .ret (M, false)) := by
  have hch := hC.l ch (List.mem_of_getElem? hc)
  have hfl : c.Channels.flatten = (c.Channels.take i).flatten ++ (ch ++ (c.Channels.drop (i + 1)).flatten) := by
    have h1 := zbH hc
    have h2 : c.Channels.flatten = (c.Channels.take (i + 1)).flatten ++ (c.Channels.drop (i + 1)).flatten := by rw [← List.flatten_append, List.take_append_drop]
    rw [h2, h1, List.append_assoc]
  have h := tryLoop (xs := ch) (body := z1a fuel c (L, at_) z) (fuel := fuel)
    (fun n st => ∃ M : D.l27Links, st = (((cellsOf ((c.Channels.take i).flatten ++ ch.take n)).length : Int), (n : Int), M) ∧ Run c.Grid (cellsOf c.Channels.flatten) L M (gridS c.Grid ++ parS 0 ((c.Channels.take i).flatten ++ ch.take n)))
    (fun _ p => parA c.Grid p)
    (fun t => ∃ M, t = (((cellsOf (c.Channels.take (i + 1)).flatten).length : Int), M) ∧ Run c.Grid (cellsOf c.Channels.flatten) L M (gridS c.Grid ++ parS 0 (c.Channels.take (i + 1)).flatten))
    (fun r => ∃ M, r = .ret (M, false)) (s0 := (((cellsOf (c.Channels.take i).flatten).length : Int), 0, M0)) (by omega) hf (by
    rintro n p _ hp ⟨M, rfl, hM'⟩
    have hnl := (List.getElem?_eq_some_iff.1 hp).1
    have hX : c.Channels.flatten = ((c.Channels.take i).flatten ++ ch.take n) ++ p :: (ch.drop (n + 1) ++ (c.Channels.drop (i + 1)).flatten) := by
      rw [hfl, List.append_assoc]
      congr 1
      have : ch = ch.take n ++ p :: ch.drop (n + 1) := by
        have h3 := List.take_append_drop (n + 1) ch
        rw [zcd hp, List.append_assoc] at h3
        exact h3.symm
      rw [← List.cons_append, ← List.append_assoc, ← this]
    obtain ⟨g1, g2⟩ := zhG (z := z) hf hs hS hI hC hX hc hp hM' hz
    refine ⟨fun hp1 => ?_, fun hp1 => ?_⟩
    · obtain ⟨M', e1, e2⟩ := g1 hp1
      have ht : (c.Channels.take i).flatten ++ ch.take (n + 1) = ((c.Channels.take i).flatten ++ ch.take n) ++ [p] := by rw [zcd hp, List.append_assoc]
      refine ⟨_, e1, M', ?_, ?_⟩
      · rw [ht, z9 (by omega) (by omega)]; rfl
      · rw [ht]; exact e2
    · exact g2 hp1) (by
    rintro _ ⟨M, rfl, hM'⟩
    rw [List.take_length] at hM'
    refine ⟨_, ?_, M, rfl, by rw [zbH hc]; exact hM'⟩
    unfold z1a
    dsimp only
    rw [hz, za hc, Option.bind_some, if_neg (by simp), List.take_length, zbH hc]) ⟨M0, by simp, by simpa using hM⟩
  rw [z6P (p := parA c.Grid)] at h
  exact h
theorem zme {L : D.l27Links} {at_ : List Int} {M0 : D.l27Links} (hf : 18446744073709551616 ≤ fuel) (hs : c.Grid.sz ≤ 1048576) (hS : Small c.Grid) (hI : Items c.Grid (cellsOf c.Channels.flatten) L at_) (hC : Chans c)
    (hM : Run c.Grid (cellsOf c.Channels.flatten) L M0 (gridS c.Grid)) :
    (c.Channels.flatten.all (parA c.Grid) = true ∧ ∃ t, iter (z2g fuel c (L, at_)) fuel (0, 0, M0) = some (.inl t) ∧ Run c.Grid (cellsOf c.Channels.flatten) L t (gridS c.Grid ++ parS 0 c.Channels.flatten)) ∨
    (c.Channels.flatten.all (parA c.Grid) = false ∧ ∃ r, iter (z2g fuel c (L, at_)) fuel (0, 0, M0) = some (.inr r) ∧ ∃ M, r = (M, false)) := by
  have hn := hC.n
  have hfl := z84 hC.l
  have h := tryLoop (xs := c.Channels) (body := z2g fuel c (L, at_)) (fuel := fuel)
    (fun i st => ∃ M : D.l27Links, st = (((cellsOf (c.Channels.take i).flatten).length : Int), (i : Int), M) ∧ Run c.Grid (cellsOf c.Channels.flatten) L M (gridS c.Grid ++ parS 0 (c.Channels.take i).flatten))
    (fun _ ch => ch.all (parA c.Grid))
    (fun t => Run c.Grid (cellsOf c.Channels.flatten) L t (gridS c.Grid ++ parS 0 c.Channels.flatten))
    (fun r => ∃ M, r = (M, false)) (s0 := (0, 0, M0)) (by omega) hf (by
    rintro i ch _ hc ⟨M, rfl, hM'⟩
    have hil := (List.getElem?_eq_some_iff.1 hc).1
    unfold z2g
    dsimp only
    rw [if_pos (by simpa using hil)]
    rcases znH (z := (((cellsOf (c.Channels.take i).flatten).length : Int), (i : Int), M)) hf hs hS hI hC hc hM' rfl with ⟨c1, t, c2, M1, rfl, c3⟩ | ⟨c1, r, c2, M1, rfl⟩
    · rw [c1, c2, Option.bind_some, z8]
      unfold z8g
      dsimp only
      exact ⟨fun _ => ⟨_, rfl, M1, by rw [z9 (by omega) (by omega)]; rfl, c3⟩, fun h => by cases h⟩
    · rw [c1, c2, Option.bind_some]
      exact ⟨fun h => (by cases h), fun _ => ⟨_, rfl, _, rfl⟩⟩) (by
    rintro _ ⟨M, rfl, hM'⟩
    rw [List.take_length] at hM'
    refine ⟨_, ?_, hM'⟩
    unfold z2g
    rw [if_neg (by simp)]) ⟨M0, by simp [cellsOf], by simpa [parS] using hM⟩
  rw [z6P (p := fun ch : List D.Parcel => ch.all (parA c.Grid)), ← List.all_flatten] at h
  exact h
theorem zo2 (hf : 18446744073709551616 ≤ fuel) (hs : c.Grid.sz ≤ 1048576) (hS : Small c.Grid) (hC : Chans c) :
    ∃ L at_ L', Items c.Grid (cellsOf c.Channels.flatten) L at_ ∧ z71 fuel c = some (L', gridA c.Grid && c.Channels.flatten.all (parA c.Grid)) ∧ ((gridA c.Grid && c.Channels.flatten.all (parA c.Grid)) = true → Run c.Grid (cellsOf c.Channels.flatten) L L' (gridS c.Grid ++ parS 0 c.Channels.flatten)) := by
  have hn := hC.n
  have hfl := z84 hC.l
  have hcl := zaK (ps := c.Channels.flatten)
  have ge : (⟨c.Grid.Shards, (⟨c.Grid.Root.Machine, c.Grid.Root.Kind, c.Grid.Root.Index⟩ : D.Address)⟩ : D.Grid) = c.Grid := rfl
  obtain ⟨L, at_, b1, hI⟩ := zmi (fuel := fuel) (g := c.Grid) (more := cellsOf c.Channels.flatten) hf hS ⟨by omega, fun y hy => by
    obtain ⟨q, g1, g2, g3⟩ := zbC hy
    rw [← g3]
    exact ⟨(hC.p q g1).1, ((hC.p q g1).2 g2).2⟩⟩
  obtain ⟨M0, a1, a2⟩ := zo5 (fuel := fuel) hf hs hS hI
  refine ⟨L, at_, ?_⟩
  unfold z71
  rw [zj0 hf hC, Option.bind_some, z8]
  unfold z8h
  rw [ge, b1, Option.bind_some]
  dsimp only
  rw [a1, Option.bind_some]
  dsimp only
  cases hA : gridA c.Grid with
  | false => exact ⟨M0, hI, rfl, fun h => by cases h⟩
  | true =>
    rw [Bool.not_true, if_neg (by simp), Bool.true_and]
    rcases zme hf hs hS hI hC (a2 hA) with ⟨c1, t, c2, c3⟩ | ⟨c1, r, c2, M1, rfl⟩
    · rw [c1, c2, Option.bind_some, z8]
      exact ⟨t, hI, rfl, fun _ => c3⟩
    · rw [c1, c2, Option.bind_some]
      exact ⟨M1, hI, rfl, fun h => by cases h⟩

def clusN (c : D.Cluster) : Bool := clusPN c && implN c.Grid (gridT c.Grid ++ chansT c.Channels)
theorem zbA (hf : 18446744073709551616 ≤ fuel) (hs : c.sz ≤ 1048576) : z4R fuel c = some (clusN c) := by
  obtain ⟨z1, _⟩ := zd7 hs
  unfold z4R clusN
  rw [zfB hf hs, Option.bind_some]
  cases hp : clusPN c with
  | false => rfl
  | true =>
    obtain ⟨hpn, hC⟩ := zik hs hp
    have hS := zfw z1 hpn
    obtain ⟨L, at_, L', hI, e1, e2⟩ := zo2 (fuel := fuel) hf z1 hS hC
    have hn := hC.n
    have hgn := hS.n
    have hfl := z84 hC.l
    have hcl := zaK (ps := c.Channels.flatten)
    rw [Bool.not_true, if_neg (by simp), e1, Option.bind_some, Bool.true_and, ← zmd]
    dsimp only
    cases hA : gridA c.Grid with
    | false => rfl
    | true =>
      cases hB : c.Channels.flatten.all (parA c.Grid) with
      | false => rfl
      | true =>
        have hpl : L.ports.length ≤ 1048576 := by
          rw [hI.ports]
          have h := zbL hS c.Grid.Shards.length (Nat.le_refl _)
          rw [List.take_length] at h
          have h2 := zbi (t := 3) (m := 0) (cs := cellsOf c.Channels.flatten) (fun y hy => by
            obtain ⟨q, g1, g2, g3⟩ := zbC hy
            rw [← g3]
            exact ((hC.p q g1).2 g2).2) (cellsOf c.Channels.flatten).length (Nat.le_refl _)
          rw [List.take_length] at h2
          rw [List.length_append]
          omega
        rw [Bool.true_and, if_pos rfl]
        have h9 := ziZ hf z1 hI (e2 (by rw [hA, hB]; rfl)) hpl
        have h10 : z4M fuel (⟨c.Grid.Shards, (⟨c.Grid.Root.Machine, c.Grid.Root.Kind, c.Grid.Root.Index⟩ : D.Address)⟩ : D.Grid) L' = _ := h9
        rw [h10]
        rfl


theorem za5 {k : Int} {xs : List Int} (hf : 18446744073709551616 ≤ fuel) (hl : xs.length ≤ 1048576) : z3Y fuel k xs = some (xs.all fun x => decide (0 ≤ x ∧ x ≤ k)) := by
  have hm : maxLen = 9223372036854775807 := rfl
  unfold z3Y
  rw [zdb (p := fun x => !decide (0 ≤ x ∧ x ≤ k)) hf (by omega) (fun x => by
    unfold z7W
    by_cases h : x < 0
    · rw [if_pos (decide_eq_true h), decide_eq_false (by omega)]; rfl
    · rw [if_neg (by simpa using h)]
      by_cases h2 : x > k
      · rw [decide_eq_true h2, decide_eq_false (by omega)]; rfl
      · rw [decide_eq_false h2, decide_eq_true (by omega)]; rfl), Option.bind_some, zap, Bool.not_not]
theorem zfW {p : List Int → Bool} {f : List Int → Option Bool} {xs : List (List Int)} (hf : 18446744073709551616 ≤ fuel) (hl : xs.length ≤ maxLen) (h : ∀ n, n ∈ xs → f n = some (p n)) :
    zE fuel xs f = some (xs.any p) := by
  unfold zE z1g
  obtain ⟨r, h1, h2⟩ := askIndex (xs := xs) (p := p) (body := zC fuel xs f) (j := z1y fuel) (t := ()) hl hf rfl (fun i x hi hx => by
    simp only [zC, za hx, h x (List.mem_of_getElem? hx), lt_t (show (i : Int) < xs.length by omega), if_true, Option.bind_some]) (by simp [zC])
  rw [h1, Option.bind_some, h2]
theorem zey {p : D.Parcel → Bool} {f : D.Parcel → Option Bool} {xs : List D.Parcel} (hf : 18446744073709551616 ≤ fuel) (hl : xs.length ≤ maxLen) (h : ∀ n, n ∈ xs → f n = some (p n)) :
    zc fuel xs f = some (xs.any p) := by
  unfold zc zM
  obtain ⟨r, h1, h2⟩ := askIndex (xs := xs) (p := p) (body := zk fuel xs f) (j := z16 fuel) (t := ()) hl hf rfl (fun i x hi hx => by
    simp only [zk, za hx, h x (List.mem_of_getElem? hx), lt_t (show (i : Int) < xs.length by omega), if_true, Option.bind_some]) (by simp [zk])
  rw [h1, Option.bind_some, h2]
theorem zhM {xs : List Int} (hf : 18446744073709551616 ≤ fuel) (hl : xs.length ≤ 1048576) : z2K fuel xs = some (numN xs 7) := by
  unfold z2K numN
  rw [za5 hf hl, Option.bind_some]
  by_cases h : xs.length = 7
  · rw [if_pos (by simp [h]), decide_eq_true h, Bool.true_and]
  · rw [if_neg (by simp; omega), decide_eq_false h, Bool.false_and]
theorem zfT {i k : Nat} : ((i : Int).tdiv (k : Int)) = ((i / k : Nat) : Int) := by rw [Int.tdiv_eq_ediv_of_nonneg (by omega)]; exact (Int.natCast_ediv i k).symm
theorem zhj {k : Nat} {cs : List (List D.Parcel)} (hf : 18446744073709551616 ≤ fuel) (hk : 1 ≤ k ∧ k ≤ 4) (hl : cs.length ≤ 1048576) (hc : ∀ ch, ch ∈ cs → ch.length ≤ 1048576 ∧ ∀ p, p ∈ ch → p.Cell.sz ≤ 1048576) : z3R fuel cs (k : Int) = some (decide (cs.length = k * k) && chansN k cs) := by
  have hm : maxLen = 9223372036854775807 := rfl
  have hkk : k * k ≤ 16 := Nat.mul_le_mul hk.2 hk.2
  have hke : (k : Int) * (k : Int) = ((k * k : Nat) : Int) := by simp
  unfold z3R
  rw [hke, z9 (by omega) (by omega)]
  by_cases h1 : cs.length = k * k
  · rw [if_neg (by simp [h1]), decide_eq_true h1, Bool.true_and]
    have hL := allLoop (xs := cs) (body := z2s fuel cs (k : Int)) (p := fun i ch => diagN k i ch && listN k i ch) (t := ()) (v := false) (fuel := fuel) (by omega) hf (fun i ch hi hx => by
      obtain ⟨y1, y2⟩ := hc ch (List.mem_of_getElem? hx)
      have hP := zey (fuel := fuel) (p := fun p => !parcelN ((i % k : Nat) : Int) p) (f := fun y0 => z1z fuel y0 ((i % k : Nat) : Int)) (xs := ch) hf (by omega) (fun p hp => by
        unfold z1z
        rw [zhJ hf (y2 p hp)]
        rfl)
      rw [zap] at hP
      have j2 : ∀ b, zH fuel (i : Int) b = if b = true then some (.ret false) else some (.next (w64 ((i : Int) + 1))) := fun b => by unfold zH; rfl
      have hdk : ((i / k : Nat) : Int) ≤ (i : Int) := Int.ofNat_le.2 (Nat.div_le_self i k)
      have hd0 : (0 : Int) ≤ ((i / k : Nat) : Int) := Int.natCast_nonneg _
      unfold z2s
      rw [if_pos (by simpa using hi), za hx, Option.bind_some, if_pos (by simp; omega), if_pos (by simp; omega), zfT, tmodN (by omega), z9 (n := ((i / k : Nat) : Int)) (by omega) (by omega), hP]
      simp only [Option.bind_some, j2]
      unfold diagN listN
      by_cases e : i / k = i % k
      · rw [if_pos (by simp [e])]
        cases ch with
        | nil => simp [e]
        | cons y ys => simp [e]
      · rw [if_neg (by simp; omega)]
        by_cases h2 : ch.length ≤ 200
        · rw [if_neg (by simp; omega)]
          cases hq : ch.all (parcelN ((i % k : Nat) : Int)) <;> simp [e, h2, hq]
        · rw [if_pos (by simp; omega)]
          simp [e, h2]) (by unfold z2s; rw [if_neg (by simp)])
    rw [hL, Option.bind_some]
    have hand : (cs.zipIdx.all fun y => diagN k y.2 y.1 && listN k y.2 y.1) = chansN k cs := by
      unfold chansN
      induction cs.zipIdx with
      | nil => rfl
      | cons y ys ih =>
        simp only [List.all_cons, ih]
        cases diagN k y.2 y.1 <;> cases listN k y.2 y.1 <;> cases (ys.all fun x => diagN k x.2 x.1) <;> rfl
    rw [hand]
    cases chansN k cs <;> simp [aft, z6j]
  · rw [if_pos (by simp; omega), decide_eq_false h1]; rfl
theorem zmm {at_ : D.Address} {aux : List D.Address} (hf : 18446744073709551616 ≤ fuel) (hl : aux.length ≤ 3) : z1s fuel at_ aux = some (fl (auxTA at_) aux aux.length) := by
  unfold z1s
  have h := addLoop (xs := aux) (body := zY fuel at_ aux) (mk := fun k s => (s, k)) (out := fun s => s) (auxTA at_) (s0 := []) (by omega) hf (fun k a ha => by
    have hkl := (List.getElem?_eq_some_iff.1 ha).1
    have hfl := z8G (f := auxTA at_) (xs := aux) (b := 1) (fun _ _ _ => by simp [auxTA]) k (by omega)
    rw [List.nil_append]
    generalize fl (auxTA at_) aux k = s at hfl ⊢
    unfold zY z6k
    dsimp only
    have hw : w64 ((k : Int) + 1) = (k : Int) + 1 := z9 (by omega) (by omega)
    rw [if_pos (by simpa using hkl), za ha, Option.bind_some, hw, if_pos (decide_eq_true (by omega)), Option.bind_some, if_pos (by simp; omega)]
    unfold z2t
    dsimp only
    rw [hw]
    rfl) (by
    unfold zY
    rw [if_neg (by simp)])
  rw [h, Option.bind_some, z8]
  rfl
theorem zjn {ch i : Nat} {p : D.Parcel} (h : p.Kind = 3 → p.Cell.Aux.length ≤ 3) : (parT ch i p).length ≤ 4 := by
  unfold parT
  split
  · simp
  · split
    · rename_i h3
      have := z8G (f := auxTA ⟨(ch : Int), 3, (i : Int)⟩) (xs := p.Cell.Aux) (b := 1) (fun _ _ _ => by simp [auxTA]) p.Cell.Aux.length (Nat.le_refl _)
      have := h h3
      rw [List.length_append]
      simp only [List.length_cons, List.length_nil]
      omega
    · simp
theorem zhF (hf : 18446744073709551616 ≤ fuel) (hC : Chans c) : zL fuel c = some (chansT c.Channels) ∧ (chansT c.Channels).length ≤ 20000 := by
  have hn := hC.n
  have hp3 : ∀ ch, ch ∈ c.Channels → ∀ p, p ∈ ch → p.Kind = 3 → p.Cell.Aux.length ≤ 3 := fun ch h1 p h2 h3 => ((hC.p p (List.mem_flatten.2 ⟨ch, h1, h2⟩)).2 h3).2
  have hcl : ∀ (i : Nat) ch, c.Channels[i]? = some ch → (chanT i ch).length ≤ 800 := fun i ch hc => by
    have hch := hC.l ch (List.mem_of_getElem? hc)
    have := z8G (f := parT i) (xs := ch) (b := 4) (fun j p hp => zjn (hp3 ch (List.mem_of_getElem? hc) p (List.mem_of_getElem? hp))) ch.length (Nat.le_refl _)
    unfold chanT
    omega
  have hall : ∀ i, i ≤ c.Channels.length → (fl chanT c.Channels i).length ≤ 800 * i := fun i hi => z8G (f := chanT) (xs := c.Channels) (b := 800) hcl i hi
  refine ⟨?_, by have := hall c.Channels.length (Nat.le_refl _); unfold chansT; omega⟩
  unfold zL
  have h := addLoop (xs := c.Channels) (body := zS fuel c) (mk := fun k s => (s, k)) (out := fun s => s) chanT (s0 := []) (fuel := fuel) (by omega) hf (fun i ch hc => by
    have hil := (List.getElem?_eq_some_iff.1 hc).1
    have hch := hC.l ch (List.mem_of_getElem? hc)
    have h0 := hall i (by omega)
    rw [List.nil_append]
    generalize fl chanT c.Channels i = s0 at h0 ⊢
    unfold zS
    dsimp only
    rw [if_pos (by simpa using hil), za hc, Option.bind_some]
    have h1 := addLoop (xs := ch) (body := zw fuel (s0, (i : Int)) ch) (mk := fun k s => (k, s)) (out := fun s => s) (parT i) (s0 := s0) (fuel := fuel) (by omega) hf (fun n p hp => by
      have hnl := (List.getElem?_eq_some_iff.1 hp).1
      have h3' := hp3 ch (List.mem_of_getElem? hc) p (List.mem_of_getElem? hp)
      have hfl := z8G (f := parT i) (xs := ch) (b := 4) (fun j p hp => zjn (hp3 ch (List.mem_of_getElem? hc) p (List.mem_of_getElem? hp))) n (by omega)
      have hb : (s0 ++ fl (parT i) ch n).length ≤ 100000 := by rw [List.length_append]; omega
      generalize s0 ++ fl (parT i) ch n = s at hb ⊢
      have he : zw fuel (s0, (i : Int)) ch ((n : Int), s) = zv fuel (s0, (i : Int)) ((n : Int), s) p (decide (p.Kind = 1 ∨ p.Kind = 2)) := by
        unfold zw
        dsimp only
        rw [if_pos (by simpa using hnl), za hp, Option.bind_some]
        simp only [beqD]
        by_cases k1 : p.Kind = 1
        · simp [k1]
        · by_cases k2 : p.Kind = 2 <;> simp [k1, k2]
      rw [he]
      unfold zv parT
      dsimp only
      by_cases k12 : p.Kind = 1 ∨ p.Kind = 2
      · rw [if_pos (decide_eq_true k12), if_pos (by simp; omega), if_pos k12]
        rfl
      · rw [if_neg (by simpa using k12), if_neg k12]
        by_cases k3 : p.Kind = 3
        · have haux := zmm (fuel := fuel) (at_ := ⟨(i : Int), 3, (n : Int)⟩) hf (h3' k3)
          have hal := z8G (f := auxTA ⟨(i : Int), 3, (n : Int)⟩) (xs := p.Cell.Aux) (b := 1) (fun _ _ _ => by simp [auxTA]) p.Cell.Aux.length (Nat.le_refl _)
          have h33 := h3' k3
          rw [if_pos (by simp [k3]), if_pos k3]
          unfold z5E
          rw [Option.bind_some, haux, Option.bind_some, if_pos (by simp only [decide_eq_true_eq]; omega)]
          unfold z6k
          rw [if_neg (by simp), Option.bind_some, if_pos (by simp only [List.length_append, List.length_cons, List.length_nil, decide_eq_true_eq]; omega), ← List.append_assoc]
          rfl
        · rw [if_neg (by simpa using k3), if_neg k3, List.append_nil]
          rfl) (by
      unfold zw
      rw [if_neg (by simp)])
    try dsimp only at h1
    rw [h1, Option.bind_some, z8]
    rfl) (by
    unfold zS
    rw [if_neg (by simp)])
  rw [h, Option.bind_some, z8]
  rfl
theorem zbB (hf : 18446744073709551616 ≤ fuel) (hs : c.sz ≤ 1048576) : z1i fuel c = some (clusN c) := by
  have hm : maxLen = 9223372036854775807 := rfl
  obtain ⟨z1, z2, z3, z4, z5, z6, z7⟩ := zd7 hs
  have ge : (⟨c.Grid.Shards, (⟨c.Grid.Root.Machine, c.Grid.Root.Kind, c.Grid.Root.Index⟩ : D.Address)⟩ : D.Grid) = c.Grid := rfl
  have no1 : ∀ r, z14 fuel c r true = some false := fun r => by unfold z14; rfl
  have no2 : zm fuel c true = some false := by unfold zm; rfl
  have j2 : zm fuel c false = if (c.Counts.all fun x => numN x 7) = true then ((zL fuel c).bind fun r47 => (z2a fuel c.Grid r47).bind fun r56 => some r56) else some false := by
    unfold zm
    rw [if_neg (by simp), zfW (p := fun x => !numN x 7) hf (by omega) (fun x hx => by unfold z4E; rw [zhM hf (z5 x hx)]; rfl), zap, Option.bind_some]
    cases (c.Counts.all fun x => numN x 7) <;> rfl
  unfold z1i zZ
  rw [Option.bind_some]
  by_cases hk : 1 ≤ c.Grid.Shards.length ∧ c.Grid.Shards.length ≤ 4
  · rw [if_neg (by simp; omega), if_neg (by simp; omega), zhj hf hk z2 z3, Option.bind_some]
    by_cases h1 : c.Channels.length = c.Grid.Shards.length * c.Grid.Shards.length
    · rw [decide_eq_true h1, Bool.true_and]
      cases h2 : chansN c.Grid.Shards.length c.Channels with
      | false =>
        rw [Bool.not_false, no1]
        have : clusPN c = false := by unfold clusPN; rw [h2]; simp
        unfold clusN
        rw [this]; rfl
      | true =>
        rw [Bool.not_true]
        unfold z14
        rw [if_neg (by simp)]
        have key : ∀ b, (b = false → clusPN c = false) → b = false → zm fuel c true = some (clusN c) := fun b h hb => by
          rw [no2]
          unfold clusN
          rw [h hb]; rfl
        by_cases h3 : c.Counts.length = c.Grid.Shards.length
        · rw [if_neg (by simp [h3])]
          by_cases h4 : c.Sent.length = c.Grid.Shards.length
          · rw [if_neg (by simp [h4])]
            by_cases h5 : c.Got.length = c.Grid.Shards.length
            · rw [if_neg (by simp [h5]), za5 hf z6, za5 hf z7, Option.bind_some, Option.bind_some]
              have e4 : numN c.Sent c.Grid.Shards.length = (c.Sent.all fun x => decide (0 ≤ x ∧ x ≤ 1000000000)) := by unfold numN; rw [decide_eq_true h4, Bool.true_and]
              have e5 : numN c.Got c.Grid.Shards.length = (c.Got.all fun x => decide (0 ≤ x ∧ x ≤ 1000000000)) := by unfold numN; rw [decide_eq_true h5, Bool.true_and]
              rw [← e4, ← e5]
              cases h6 : numN c.Sent c.Grid.Shards.length with
              | false =>
                rw [Bool.not_false, if_pos rfl]
                exact key false (fun _ => by unfold clusPN; rw [h6]; simp) rfl
              | true =>
                rw [Bool.not_true, if_neg (by simp)]
                cases h7 : numN c.Got c.Grid.Shards.length with
                | false =>
                  rw [Bool.not_false]
                  exact key false (fun _ => by unfold clusPN; rw [h7]; simp) rfl
                | true =>
                  rw [Bool.not_true, j2]
                  cases h8 : (c.Counts.all fun x => numN x 7) with
                  | false =>
                    have : clusPN c = false := by unfold clusPN; rw [h8]; simp
                    unfold clusN
                    rw [if_neg (by simp), this]; rfl
                  | true =>
                    have hcp : clusPN c = piecesN c.Grid := by
                      unfold clusPN
                      rw [h2, h6, h7, h8, decide_eq_true ⟨h1, h3⟩]
                      simp
                    rw [if_pos rfl]

                    have hC : Chans c := by
                      refine ⟨by rw [h1]; exact Nat.mul_le_mul hk.2 hk.2, fun ch hc => ?_, fun q hq => ?_⟩
                      · unfold chansN at h2
                        rw [Bool.and_eq_true] at h2
                        obtain ⟨i, hi⟩ := List.getElem?_of_mem hc
                        have h10 := (z8b (p := fun i ch => listN c.Grid.Shards.length i ch)).1 h2.2 i ch hi
                        unfold listN at h10
                        rw [Bool.and_eq_true, decide_eq_true_eq] at h10
                        exact h10.1
                      · obtain ⟨ch, hc, hq2⟩ := List.mem_flatten.1 hq
                        refine ⟨(z3 ch hc).2 q hq2, fun h3' => ?_⟩
                        unfold chansN at h2
                        rw [Bool.and_eq_true] at h2
                        obtain ⟨i, hi⟩ := List.getElem?_of_mem hc
                        have h10 := (z8b (p := fun i ch => listN c.Grid.Shards.length i ch)).1 h2.2 i ch hi
                        unfold listN at h10
                        rw [Bool.and_eq_true, decide_eq_true_eq, List.all_eq_true] at h10
                        have h11 := h10.2 q hq2
                        unfold parcelN at h11
                        rw [if_neg (by omega), if_neg (by omega), if_pos h3'] at h11
                        simp only [Bool.and_eq_true, decide_eq_true_eq] at h11
                        exact ⟨h11.1.1, zhV h11.1.2⟩
                    obtain ⟨e9, e10⟩ := zhF (fuel := fuel) hf hC
                    rw [e9, Option.bind_some, zhD hf z1]
                    unfold z19 clusN
                    rw [hcp]
                    cases hp : piecesN c.Grid with
                    | false => rfl
                    | true =>
                      have hS := zfw z1 hp
                      have hgn := hS.n
                      have hfl := z8G (f := shardT) (xs := c.Grid.Shards) (b := 2000) (fun j s hc => zgh hS hc) c.Grid.Shards.length (Nat.le_refl _)
                      have hl : (gridT c.Grid).length ≤ 100000 := by unfold gridT rootT; rw [List.length_append]; simp only [List.length_cons, List.length_nil]; omega
                      rw [Bool.not_true, if_neg (by simp), zeM hf hS, Option.bind_some, if_pos (by simp only [decide_eq_true_eq]; omega), zjm hf z1 (by rw [List.length_append]; omega), Option.bind_some, Option.bind_some, Bool.true_and]
            · rw [if_pos (by simp; omega)]
              exact key false (fun _ => by unfold clusPN numN; rw [decide_eq_false h5]; simp) rfl
          · rw [if_pos (by simp; omega)]
            exact key false (fun _ => by unfold clusPN numN; rw [decide_eq_false h4]; simp) rfl
        · rw [if_pos (by simp; omega)]
          exact key false (fun _ => by unfold clusPN; rw [decide_eq_false (fun h => h3 h.2)]; simp) rfl
    · rw [decide_eq_false h1, Bool.false_and, Bool.not_false, no1]
      have : clusPN c = false := by unfold clusPN; rw [decide_eq_false (fun h => h1 h.1)]; simp
      unfold clusN
      rw [this]; rfl
  · have : clusPN c = false := by unfold clusPN piecesN; rw [decide_eq_false hk]; rfl
    unfold clusN
    rw [this]
    by_cases h : c.Grid.Shards.length < 1
    · rw [if_pos (by simp; omega), no1]; rfl
    · rw [if_neg (by simp; omega), if_pos (by simp; omega), no1]; rfl
end
end Go.E

namespace Go.E
open Go.RowKit Go.Proofs
set_option linter.unusedSimpArgs false
set_option linter.unusedVariables false

def rxA (m : Nat) (n : Nat) : List D.Action := (List.range n).map fun i : Nat => (⟨1, (m : Int), (i : Int)⟩ : D.Action)
def shA (m : Nat) (s : D.Shard) : List D.Action := rxA m s.Redexes.length
def chA (k : Nat) (i : Nat) (ch : List D.Parcel) : List D.Action := if 0 < ch.length then [(⟨2, ((i / k : Nat) : Int), ((i % k : Nat) : Int)⟩ : D.Action)] else []
def actsN (c : D.Cluster) : List D.Action := fl shA c.Grid.Shards c.Grid.Shards.length ++ fl (chA c.Grid.Shards.length) c.Channels c.Channels.length

section
variable {fuel : Nat} {c : D.Cluster}
theorem zmz {m n : Nat} : rxA m (n + 1) = rxA m n ++ [(⟨1, (m : Int), (n : Int)⟩ : D.Action)] := by simp [rxA, List.range_succ]
theorem zhx {m n : Nat} : (rxA m n).length = n := by simp [rxA]
theorem zof {k i : Nat} {ch : List D.Parcel} : (chA k i ch).length ≤ 1 := by unfold chA; split <;> simp

theorem rxLoop {S τ ρ : Type} {body : S → Option (Rd S τ ρ)} {mk : Int → List D.Action → S} {out : List D.Action → τ} {m n : Nat} {s0 : List D.Action} (hl : n ≤ 1048576) (hf : 18446744073709551616 ≤ fuel)
    (step : ∀ i, i < n → body (mk i (s0 ++ rxA m i)) = some (.next (mk (w64 (i + 1)) (s0 ++ rxA m i ++ [(⟨1, (m : Int), (i : Int)⟩ : D.Action)]))))
    (last : body (mk n (s0 ++ rxA m n)) = some (.brk (out (s0 ++ rxA m n)))) : iter body fuel (mk 0 s0) = some (.inl (out (s0 ++ rxA m n))) := by
  obtain ⟨o, h1, h2⟩ := z12 (body := body) (fun k s => s = mk k (s0 ++ rxA m k)) n (fun o => o = .inl (out (s0 ++ rxA m n))) (by
    rintro k s hk rfl
    refine .inl ⟨_, step k hk, ?_⟩
    rw [zmz, z9 (by omega) (by omega), List.append_assoc]; rfl) (by
    rintro s rfl
    exact .inr ⟨_, last, rfl⟩) (fuel := fuel) (i := 0) (s := mk 0 s0) (by omega) (by omega) (by simp [rxA])
  rw [h1, h2]
theorem zgj (hS : Small c.Grid) : ∀ i, i ≤ c.Grid.Shards.length → (fl shA c.Grid.Shards i).length ≤ 400 * i := fun i hi => z8G (f := shA) (xs := c.Grid.Shards) (b := 400) (fun j s hs => by
    unfold shA
    rw [zhx]
    exact (hS.s s (List.mem_of_getElem? hs)).2.2.1) i hi
theorem zhN {k : Nat} : ∀ i, i ≤ c.Channels.length → (fl (chA k) c.Channels i).length ≤ 1 * i := fun i hi => z8G (f := chA k) (xs := c.Channels) (b := 1) (fun j s _ => zof) i hi
theorem zo9 (hS : Small c.Grid) (hC : Chans c) : (actsN c).length ≤ 2000 := by
  have h1 := zgj hS c.Grid.Shards.length (Nat.le_refl _)
  have h2 := zhN (c := c) (k := c.Grid.Shards.length) c.Channels.length (Nat.le_refl _)
  have h3 := hS.n
  have h4 := hC.n
  unfold actsN
  rw [List.length_append]
  omega
theorem zhd (hf : 18446744073709551616 ≤ fuel) (hS : Small c.Grid) (hC : Chans c) (hk : c.Grid.Shards.length ≠ 0) (hl : c.Channels.length = c.Grid.Shards.length * c.Grid.Shards.length) : z43 fuel c = some (actsN c) := by
  have hn := hS.n
  have hcn := hC.n
  have hke : (c.Grid.Shards.length : Int) * (c.Grid.Shards.length : Int) = (c.Channels.length : Int) := by rw [hl]; simp
  unfold z43 actsN
  have h := addLoop (xs := c.Grid.Shards) (body := z3z fuel c) (mk := fun i s => (i, s)) (out := fun s => s) shA (s0 := []) (fuel := fuel) (by omega) hf (fun m s hm => by
    have hml := (List.getElem?_eq_some_iff.1 hm).1
    have hr := (hS.s s (List.mem_of_getElem? hm)).2.2.1
    have h0 := zgj hS m (by omega)
    rw [List.nil_append]
    generalize fl shA c.Grid.Shards m = s0 at h0 ⊢
    unfold z3z
    dsimp only
    rw [if_pos (by simpa using hml)]
    have h1 := rxLoop (body := z3x fuel c ((m : Int), s0)) (mk := fun i s => (i, s)) (out := fun s => s) (m := m) (n := s.Redexes.length) (s0 := s0) (fuel := fuel) (by omega) hf (fun i hi => by
      have hb : (s0 ++ rxA m i).length ≤ 100000 := by rw [List.length_append, zhx]; omega
      generalize s0 ++ rxA m i = t at hb ⊢
      unfold z3x
      dsimp only
      rw [za hm, Option.bind_some, if_pos (by simpa using hi), if_pos (by simp only [List.length_cons, List.length_nil, decide_eq_true_eq]; omega)]) (by
      unfold z3x
      dsimp only
      rw [za hm, Option.bind_some, if_neg (by simp)])
    try dsimp only at h1
    rw [h1, Option.bind_some, z8]
    rfl) (by
    unfold z3z
    rw [if_neg (by simp)])
  rw [h, Option.bind_some, z8]
  unfold z7v
  have hs0 := zgj hS c.Grid.Shards.length (Nat.le_refl _)
  rw [List.nil_append]
  generalize fl shA c.Grid.Shards c.Grid.Shards.length = s0 at hs0 ⊢
  have h2 := addLoop (xs := c.Channels) (body := z3y fuel c) (mk := fun i s => (i, s)) (out := fun s => s) (chA c.Grid.Shards.length) (s0 := s0) (fuel := fuel) (by omega) hf (fun i ch hi => by
    have hil := (List.getElem?_eq_some_iff.1 hi).1
    have hb0 := zhN (c := c) (k := c.Grid.Shards.length) i (by omega)
    have hb : (s0 ++ fl (chA c.Grid.Shards.length) c.Channels i).length ≤ 100000 := by rw [List.length_append]; omega
    generalize s0 ++ fl (chA c.Grid.Shards.length) c.Channels i = t at hb ⊢
    have hdk : ((i / c.Grid.Shards.length : Nat) : Int) ≤ (i : Int) := Int.ofNat_le.2 (Nat.div_le_self _ _)
    have hd0 : (0 : Int) ≤ ((i / c.Grid.Shards.length : Nat) : Int) := Int.natCast_nonneg _
    unfold z3y chA
    dsimp only
    rw [hke, z9 (by omega) (by omega), if_pos (by simpa using hil), za hi, Option.bind_some, zfT, tmodN hk, z9 (n := ((i / c.Grid.Shards.length : Nat) : Int)) (by omega) (by omega)]
    by_cases hc : 0 < ch.length
    · rw [if_pos (by simpa using hc), if_pos (by simp only [decide_eq_true_eq]; omega), if_pos (by simp only [decide_eq_true_eq]; omega), if_pos (by simp only [List.length_cons, List.length_nil, decide_eq_true_eq]; omega), if_pos hc]
      rfl
    · rw [if_neg (by simpa using hc), if_neg hc, List.append_nil]
      rfl) (by
    unfold z3y
    dsimp only
    rw [hke, z9 (by omega) (by omega), if_neg (by simp)])
  try dsimp only at h2
  rw [h2, Option.bind_some, z8]
  rfl
theorem zhe (hf : 18446744073709551616 ≤ fuel) (hS : Small c.Grid) (hC : Chans c) (hk : c.Grid.Shards.length ≠ 0) : z1J fuel c = some (actsN c) := by
  have hn := hS.n
  have hcn := hC.n
  unfold z1J actsN
  have h := addLoop (xs := c.Grid.Shards) (body := z1Z fuel c) (mk := fun i s => (s, i)) (out := fun s => s) shA (s0 := []) (fuel := fuel) (by omega) hf (fun m s hm => by
    have hml := (List.getElem?_eq_some_iff.1 hm).1
    have hr := (hS.s s (List.mem_of_getElem? hm)).2.2.1
    have h0 := zgj hS m (by omega)
    rw [List.nil_append]
    generalize fl shA c.Grid.Shards m = s0 at h0 ⊢
    unfold z1Z
    dsimp only
    rw [if_pos (by simpa using hml), za hm, Option.bind_some]
    have h1 := rxLoop (body := z1X fuel (s0, (m : Int)) s) (mk := fun i s => (i, s)) (out := fun s => s) (m := m) (n := s.Redexes.length) (s0 := s0) (fuel := fuel) (by omega) hf (fun i hi => by
      have hb : (s0 ++ rxA m i).length ≤ 100000 := by rw [List.length_append, zhx]; omega
      generalize s0 ++ rxA m i = t at hb ⊢
      unfold z1X
      dsimp only
      rw [if_pos (by simpa using hi), if_pos (by simp only [List.length_cons, List.length_nil, decide_eq_true_eq]; omega)]) (by
      unfold z1X
      dsimp only
      rw [if_neg (by simp)])
    try dsimp only at h1
    rw [h1, Option.bind_some, z8]
    rfl) (by
    unfold z1Z
    rw [if_neg (by simp)])
  rw [h, Option.bind_some, z8]
  unfold z5r zZ
  rw [Option.bind_some]
  have hs0 := zgj hS c.Grid.Shards.length (Nat.le_refl _)
  rw [List.nil_append]
  generalize fl shA c.Grid.Shards c.Grid.Shards.length = s0 at hs0 ⊢
  have h2 := addLoop (xs := c.Channels) (body := z1Y fuel c (c.Grid.Shards.length : Int)) (mk := fun i s => (i, s)) (out := fun s => s) (chA c.Grid.Shards.length) (s0 := s0) (fuel := fuel) (by omega) hf (fun i ch hi => by
    have hil := (List.getElem?_eq_some_iff.1 hi).1
    have hb0 := zhN (c := c) (k := c.Grid.Shards.length) i (by omega)
    have hb : (s0 ++ fl (chA c.Grid.Shards.length) c.Channels i).length ≤ 100000 := by rw [List.length_append]; omega
    generalize s0 ++ fl (chA c.Grid.Shards.length) c.Channels i = t at hb ⊢
    have hdk : ((i / c.Grid.Shards.length : Nat) : Int) ≤ (i : Int) := Int.ofNat_le.2 (Nat.div_le_self _ _)
    have hd0 : (0 : Int) ≤ ((i / c.Grid.Shards.length : Nat) : Int) := Int.natCast_nonneg _
    unfold z1Y chA
    dsimp only
    rw [if_pos (by simpa using hil), za hi, Option.bind_some, zfT, tmodN hk, z9 (n := ((i / c.Grid.Shards.length : Nat) : Int)) (by omega) (by omega)]
    by_cases hc : 0 < ch.length
    · rw [if_pos (by simpa using hc), if_pos (by simp only [decide_eq_true_eq]; omega), if_pos (by simp only [decide_eq_true_eq]; omega), if_pos (by simp only [List.length_cons, List.length_nil, decide_eq_true_eq]; omega), if_pos hc]
      rfl
    · rw [if_neg (by simpa using hc), if_neg hc, List.append_nil]
      rfl) (by
    unfold z1Y
    dsimp only
    rw [if_neg (by simp)])
  try dsimp only at h2
  rw [h2, Option.bind_some, z8]
  rfl
end

theorem zaJ {c : D.Cluster} (hs : c.sz ≤ 1048576) (h : clusN c = true) : Small c.Grid ∧ Chans c ∧ c.Grid.Shards.length ≠ 0 ∧ c.Channels.length = c.Grid.Shards.length * c.Grid.Shards.length := by
  unfold clusN at h
  rw [Bool.and_eq_true] at h
  obtain ⟨z1, _⟩ := zd7 hs
  obtain ⟨hp, hC⟩ := zik hs h.1
  have h1 := h.1
  unfold clusPN at h1
  simp only [Bool.and_eq_true, decide_eq_true_eq] at h1
  have h2 := hp
  unfold piecesN at h2
  rw [Bool.and_eq_true, decide_eq_true_eq] at h2
  exact ⟨zfw z1 hp, hC, by omega, h1.2.1.1⟩
end Go.E

