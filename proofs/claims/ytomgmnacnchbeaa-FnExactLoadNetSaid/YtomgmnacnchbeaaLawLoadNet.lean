/- LoadNet: the plain law. Conditions: none but the argument's own size. -/
import Derived.Test.YtomgmnacnchbeaaMarksL
import Derived.Test.YtomgmnacnchbeaaLoadRun
namespace Go.E
open Go.RowKit Go.Proofs
set_option linter.unusedSimpArgs false
set_option linter.unusedVariables false


def atN (i : Nat) : List Int := (-1 : Int) :: (List.range i).map fun (j : Nat) => (j : Int)
def cellsN (N k : Nat) : List Int := (List.range N).map fun (j : Nat) => if j ≤ k then ((j - 1 : Nat) : Int) else 0
theorem z9R {i j : Nat} (h : j < i) : (atN i)[j + 1]? = some (j : Int) := by
  unfold atN
  rw [List.getElem?_cons_succ, List.getElem?_map, List.getElem?_range h]
  rfl
theorem zbA {N k j : Nat} (h : j + 1 < N) (hk : j + 1 ≤ k) : (cellsN N k)[j + 1]? = some (j : Int) := by
  unfold cellsN
  rw [List.getElem?_map, List.getElem?_range h, Option.map_some, if_pos hk, Nat.add_sub_cancel]
theorem z7b {n : D.Net} (hn : netN n = true) {i : Nat} {a : D.Agent} (ha : n.Agents[i]? = some a) : agN a = true := by
  unfold netN agentsN at hn
  rw [Bool.and_eq_true, Bool.and_eq_true] at hn
  have h2 := (z5U (xs := n.Agents) (p := fun i a => agN a && ((a.Kind == 1) == (i == 0)))).1 hn.1.2 _ _ ha
  rw [Bool.and_eq_true] at h2
  exact h2.1
theorem z9S {a : D.Agent} (h : agN a = true) : 1 ≤ a.Ports.length := by
  unfold agN at h
  rw [Bool.and_eq_true, decide_eq_true_eq] at h
  omega
theorem z7N {n : D.Net} (hn : netN n = true) {a : D.Agent} (ha : n.Agents[0]? = some a) : a.Ports.length = 1 := by
  have h1 := z7b hn ha
  have h2 := z6d hn ha
  have hk : a.Kind = 1 := by simpa using h2
  unfold agN agentN at h1
  rw [Bool.and_eq_true, Bool.and_eq_true, hk] at h1
  have h3 := of_decide_eq_true h1.2.1
  have h4 : portsN 1 (if (1 : Int) = 9 then (a.Ports.length : Int) - 1 else 0) = 1 := by rw [if_neg (by decide)]; decide
  omega
theorem shape {n : D.Net} (hn : netN n = true) {p : D.Port} (hp : hasN n.Agents p = true) : p = prt 0 0 ∨ ∃ (j s : Nat) (a : D.Agent), p = prt (j + 1) s ∧ n.Agents[j + 1]? = some a ∧ s < a.Ports.length := by
  obtain ⟨h1, h2, a, h3, h4⟩ := z4p.1 hp
  obtain ⟨pa, ps⟩ := p
  dsimp only at h1 h2 h3 h4
  by_cases h0 : pa = 0
  · subst h0
    have := z7N hn h3
    left
    unfold prt
    congr 1
    omega
  · right
    refine ⟨pa.toNat - 1, ps.toNat, a, ?_, ?_, by omega⟩
    · unfold prt
      congr 1 <;> omega
    · rw [show pa.toNat - 1 + 1 = pa.toNat by omega]; exact h3
theorem z9U {fuel : Nat} {a : D.Agent} {K L V : Int} {Da : List Int} (hf : 18446744073709551616 ≤ fuel) (h1 : 1 ≤ a.Ports.length) (h2 : a.Ports.length ≤ 1048576) :
    iter (z16 fuel a) fuel (1, (⟨K, L, V, Da, []⟩ : D.Cell)) = some (.inl ⟨K, L, V, Da, List.replicate (a.Ports.length - 1) ⟨0, 0⟩⟩) := by
  obtain ⟨o, h, rfl⟩ := zp (body := z16 fuel a) (fun k s => 1 ≤ k ∧ s = ((k : Int), (⟨K, L, V, Da, List.replicate (k - 1) ⟨0, 0⟩⟩ : D.Cell))) a.Ports.length (fun o => o = .inl (⟨K, L, V, Da, List.replicate (a.Ports.length - 1) ⟨0, 0⟩⟩ : D.Cell)) (by
    rintro k s hk ⟨h0, rfl⟩
    refine .inl ⟨_, ?_, by omega, rfl⟩
    unfold z16
    dsimp only
    rw [if_pos (by simpa using hk), if_pos (by first | (simp; done) | (simp; omega)), z7 (by omega) (by omega), show k + 1 - 1 = (k - 1) + 1 by omega, List.replicate_succ']
    rfl) (by
    rintro s ⟨h0, rfl⟩
    refine .inr ⟨_, ?_, rfl⟩
    unfold z16
    rw [if_neg (by simp)]) (fuel := fuel) (i := 1) (s := (1, (⟨K, L, V, Da, []⟩ : D.Cell))) h1 (by omega) ⟨Nat.le_refl _, rfl⟩
  exact h
theorem za8 {fuel size : Nat} {n : D.Net} (hf : 18446744073709551616 ≤ fuel) (hn : netN n = true) (hw : D.Net.wf n) (hs : n.sz ≤ 1048576) (hN : n.Agents.length - 1 ≤ size) (h600 : n.Agents.length ≤ 600) (h1N : 1 ≤ n.Agents.length) :
    iter (z18 fuel n 0) fuel (1, ([(-1)] : List Int), pm [] size ⟨0, 0⟩ []) = some (.inl (atN (n.Agents.length - 1), memN n size wz 0 ⟨0, 0⟩)) := by
  obtain ⟨o, h, rfl⟩ := zp (body := z18 fuel n 0) (fun i s => 1 ≤ i ∧ s = ((i : Int), atN (i - 1), pm ((agC n wz).take (i - 1)) size ⟨0, 0⟩ [])) n.Agents.length (fun o => o = .inl (atN (n.Agents.length - 1), memN n size wz 0 ⟨0, 0⟩)) (by
    rintro i s hi ⟨h0, rfl⟩
    obtain ⟨j, rfl⟩ : ∃ j, i = j + 1 := ⟨i - 1, by omega⟩
    obtain ⟨a, ha⟩ := z40 hi
    obtain ⟨d1, d2⟩ := z8h hs (List.mem_of_getElem? ha)
    have hwa := (hw.1.2 a (List.mem_of_getElem? ha))
    have hlv : w64 (a.Level + 0) = a.Level := by rw [Int.add_zero]; exact zco hwa.2.1
    refine .inl ⟨_, ?_, by omega, rfl⟩
    have htl : ((agC n wz).take j).length = j := by rw [List.length_take, z3C]; omega
    have hat : (atN j).length = j + 1 := by unfold atN; simp
    have e1 : atN j ++ [(j : Int)] = atN (j + 1) := by
      unfold atN
      rw [List.range_succ, List.map_append]
      rfl
    have e2 : ∀ z : D.Cell, z = cN wz (j + 1) a → z2D fuel (((j + 1 : Nat) : Int), atN j, pm ((agC n wz).take j) size ⟨0, 0⟩ []) z = some (.next (w64 (((j + 1 : Nat) : Int) + 1), atN (j + 1), pm ((agC n wz).take (j + 1)) size ⟨0, 0⟩ [])) := fun z hz => by
      subst hz
      unfold z2D
      dsimp only
      rw [z7Z (by rw [htl]; omega), Option.bind_some, htl]
      dsimp only
      rw [if_pos (by rw [hat]; simp only [List.length_cons, List.length_nil, decide_eq_true_eq]; omega), e1, z9C ha]
    have e3 : ∀ lv, lv = a.Level → zQ fuel (((j + 1 : Nat) : Int), atN j, pm ((agC n wz).take j) size ⟨0, 0⟩ []) a ⟨a.Kind, lv, a.Value, a.Data, []⟩ = some (.next (w64 (((j + 1 : Nat) : Int) + 1), atN (j + 1), pm ((agC n wz).take (j + 1)) size ⟨0, 0⟩ [])) := fun lv hlv2 => by
      subst hlv2
      unfold zQ
      rw [z9U hf (z9S (z7b hn ha)) d2, Option.bind_some, z8, e2 _ zbB.symm]
    unfold z18 z4C z2E
    dsimp only
    rw [Nat.add_sub_cancel, if_pos (decide_eq_true (by omega)), zg ha, Option.bind_some, if_pos (by simp only [List.length_nil, decide_eq_true_eq]; omega), Option.bind_some, z7S, Option.bind_some, List.nil_append, e3 _ hlv, e3 _ rfl, ite_self, z7 (by omega) (by omega)]
    rfl) (by
    rintro s ⟨h0, rfl⟩
    refine .inr ⟨_, ?_, rfl⟩
    unfold z18
    rw [if_neg (by simp)]
    unfold memN
    rw [List.take_of_length_le (by rw [z3C]; omega)]
    simp) (fuel := fuel) (i := 1) (s := (1, ([(-1)] : List Int), pm [] size ⟨0, 0⟩ [])) h1N (by omega) ⟨Nat.le_refl _, by simp [atN]⟩
  exact h
theorem zbz {N k : Nat} (h : k + 1 < N) : (cellsN N k).set (k + 1) (k : Int) = cellsN N (k + 1) := by
  refine List.ext_getElem? fun j => ?_
  unfold cellsN
  rw [List.getElem?_set, List.getElem?_map, List.getElem?_map]
  by_cases hj : j < N
  · rw [List.getElem?_range hj]
    simp only [List.length_map, List.length_range, Option.map_some]
    by_cases h1 : k + 1 = j
    · subst h1; simp [hj]
    · rw [if_neg h1]
      by_cases h2 : j ≤ k
      · rw [if_pos h2, if_pos (by omega)]
      · rw [if_neg h2, if_neg (by omega)]
  · rw [List.getElem?_eq_none (by first | (simp; done) | (simp; omega)), if_neg (by omega)]
    rfl
theorem za9 {fuel size : Nat} {n : D.Net} (hf : 18446744073709551616 ≤ fuel) (hn : netN n = true) (hs : n.sz ≤ 1048576) (hN : n.Agents.length - 1 ≤ size) (h600 : n.Agents.length ≤ 600) (h1N : 1 ≤ n.Agents.length) :
    iter (z1y fuel n) fuel (0, List.replicate n.Agents.length (0 : Int), pm [] size ⟨0, 0⟩ []) = some (.inl (cellsN n.Agents.length (n.Agents.length - 1), memN n size wz 0 ⟨0, 0⟩)) := by
  have hdl : ((n.Agents.take n.Agents.length).drop (1 : Int).toNat) = n.Agents.drop 1 := by rw [List.take_length]; rfl
  have e0 : List.replicate n.Agents.length (0 : Int) = cellsN n.Agents.length 0 := by
    refine List.ext_getElem? fun j => ?_
    unfold cellsN
    rw [List.getElem?_replicate, List.getElem?_map]
    by_cases hj : j < n.Agents.length
    · rw [if_pos hj, List.getElem?_range hj, Option.map_some]
      split
      · simp; omega
      · rfl
    · rw [if_neg hj, List.getElem?_eq_none (by first | (simp; done) | (simp; omega))]; rfl
  obtain ⟨o, h, rfl⟩ := zp (body := z1y fuel n) (fun k s => s = ((k : Int), cellsN n.Agents.length k, pm ((agC n wz).take k) size ⟨0, 0⟩ [])) (n.Agents.length - 1) (fun o => o = .inl (cellsN n.Agents.length (n.Agents.length - 1), memN n size wz 0 ⟨0, 0⟩)) (by
    rintro j s hj rfl
    obtain ⟨a, ha⟩ := z40 (xs := n.Agents) (i := j + 1) (by omega)
    obtain ⟨d1, d2⟩ := z8h hs (List.mem_of_getElem? ha)
    have hp1 := z9S (z7b hn ha)
    have htl : ((agC n wz).take j).length = j := by rw [List.length_take, z3C]; omega
    have hcl : (cellsN n.Agents.length j).length = n.Agents.length := by unfold cellsN; simp
    have hpt : (w64 ((a.Ports.length : Int) - 1)).toNat = a.Ports.length - 1 := by rw [z7 (by omega) (by omega)]; omega
    refine .inl ⟨_, ?_, rfl⟩
    unfold z1y z3S zN
    dsimp only
    rw [hdl, if_pos (by first | (simp; done) | (simp; omega)), zg (x := a) (by rw [List.getElem?_drop, Nat.add_comm]; exact ha), Option.bind_some, if_pos (by first | (simp; done) | (simp; omega)), Option.bind_some, if_pos (by rw [z7 (by omega) (by omega)]; simp; omega), Option.bind_some, z8s, z7Z (by rw [htl]; omega), Option.bind_some, htl, hpt]
    dsimp only
    rw [z7 (by omega) (by omega), show ((j : Int) + 1).toNat = j + 1 by omega, if_pos (by rw [hcl]; simp; omega), zbz (by omega), List.nil_append, ← zbB (i := j + 1), z9C ha]
    rfl) (by
    rintro s rfl
    refine .inr ⟨_, ?_, rfl⟩
    unfold z1y
    rw [hdl, if_neg (by first | (simp; done) | (simp; omega))]
    unfold memN
    rw [List.take_of_length_le (by rw [z3C]; omega)]
    simp) (fuel := fuel) (i := 0) (s := (0, List.replicate n.Agents.length (0 : Int), pm [] size ⟨0, 0⟩ [])) (Nat.zero_le _) (by omega) (by rw [e0]; rfl)
  exact h


theorem zaA {w : D.Port → D.Word} {p q : D.Port} {v : D.Word} : setW (setW w p v) q v = setW (setW w q v) p v := by
  funext r
  unfold setW
  by_cases h1 : r = q <;> by_cases h2 : r = p <;> simp [h1, h2]
theorem z87 {n : D.Net} {size t : Nat} {w : D.Port → D.Word} {R v : D.Word} : memN n size (setW w (prt 0 0) v) t R = memN n size w t R := by unfold memN; rw [zcn]
theorem zcr {n : D.Net} {size t : Nat} {w w' : D.Port → D.Word} {R : D.Word} {C : List D.Cell} (h : C = (memN n size w' t R).Cells) : (⟨C, (memN n size w t R).Free, ⟨(memN n size w t R).Root.Tag, (memN n size w t R).Root.At⟩, (memN n size w t R).Redexes⟩ : D.Memory) = memN n size w' t R := by
  rw [h, zaP (w := w) (w' := w') (R := R) (R' := R)]
  rfl
theorem zaJ {j s : Nat} : prt (j + 1) s ≠ prt 0 0 := fun e => by unfold prt at e; simp only [D.Port.mk.injEq] at e; omega
theorem z5X {fuel size t : Nat} {n : D.Net} {w : D.Port → D.Word} {p : D.Port} {v : D.Word} {cells : List Int} (hn : netN n = true) (hp : hasN n.Agents p = true) (hx : auxN p = true) (hc : ∀ j, j + 1 < n.Agents.length → cells[j + 1]? = some (j : Int)) (hl : ∀ a, a ∈ n.Agents → a.Ports.length ≤ 1048576) :
    zn fuel (memN n size w t (w (prt 0 0))) p v cells = some (memN n size (setW w p v) t (setW w p v (prt 0 0))) := by
  rcases shape hn hp with rfl | ⟨j, s, a, rfl, ha, hs⟩
  · unfold zn
    rw [if_pos (by simp [prt]), z87]
    simp [memN, pm, setW]
  · cases s with
    | zero => exact absurd hx (by unfold auxN prt; simp; omega)
    | succ s =>
      have hjl := (List.getElem?_eq_some_iff.1 ha).1
      obtain ⟨c1, c2⟩ := z9E (size := size) (t := t) (w := w) (R := w (prt 0 0)) (v := v) ha hs
      have hpl := hl a (List.mem_of_getElem? ha)
      have e1 : w64 ((((s + 1 : Nat) : Int)) - 1) = (s : Int) := by rw [z7 (by omega) (by omega)]; omega
      have e2 : setW w (prt (j + 1) (s + 1)) v (prt 0 0) = w (prt 0 0) := by unfold setW; rw [if_neg (Ne.symm zaJ)]
      unfold zn
      rw [if_neg (by first | (simp [prt]; done) | (simp [prt]; omega))]
      show ((idx cells ((j + 1 : Nat) : Int)).bind fun x18 => _) = _
      rw [zg (hc j hjl), Option.bind_some, zg c1, Option.bind_some]
      show (if decide (0 ≤ w64 ((((s + 1 : Nat) : Int)) - 1) ∧ (w64 ((((s + 1 : Nat) : Int)) - 1)).toNat < (cN w (j + 1) a).Words.length) = true then some (⟨(memN n size w t (w (prt 0 0))).Cells.set ((j : Int)).toNat ⟨a.Kind, a.Level, a.Value, a.Data, (cN w (j + 1) a).Words.set (w64 ((((s + 1 : Nat) : Int)) - 1)).toNat v⟩, (memN n size w t (w (prt 0 0))).Free, ⟨(memN n size w t (w (prt 0 0))).Root.Tag, (memN n size w t (w (prt 0 0))).Root.At⟩, (memN n size w t (w (prt 0 0))).Redexes⟩ : D.Memory) else none) = _
      rw [e1, Int.toNat_natCast, Int.toNat_natCast, if_pos (by unfold cN; simp; omega), c2, zcr rfl, e2]
theorem z66 {β : Type} {size t j s : Nat} {n : D.Net} {w : D.Port → D.Word} {R v : D.Word} {a : D.Agent} {k : Int} {K : D.Memory → Option β} (ha : n.Agents[j + 1]? = some a) (hs : s + 1 < a.Ports.length) (hl : a.Ports.length ≤ 1048576) (hk : k = ((s + 1 : Nat) : Int)) :
    ((idx (memN n size w t R).Cells (j : Int)).bind fun x => if decide (0 ≤ w64 (k - 1) ∧ (w64 (k - 1)).toNat < x.Words.length) = true then K (⟨(memN n size w t R).Cells.set (j : Int).toNat ⟨x.Kind, x.Level, x.Value, x.Data, x.Words.set (w64 (k - 1)).toNat v⟩, (memN n size w t R).Free, ⟨(memN n size w t R).Root.Tag, (memN n size w t R).Root.At⟩, (memN n size w t R).Redexes⟩ : D.Memory) else none) = K (memN n size (setW w (prt (j + 1) (s + 1)) v) t R) := by
  obtain ⟨c1, c2⟩ := z9E (size := size) (t := t) (w := w) (R := R) (v := v) ha hs
  subst hk
  have e1 : w64 ((((s + 1 : Nat) : Int)) - 1) = (s : Int) := by rw [z7 (by omega) (by omega)]; omega
  rw [zg c1, Option.bind_some, e1, Int.toNat_natCast, Int.toNat_natCast, if_pos (by unfold cN; simp; omega)]
  show K (⟨(memN n size w t R).Cells.set j ⟨a.Kind, a.Level, a.Value, a.Data, (cN w (j + 1) a).Words.set s v⟩, _, _, _⟩ : D.Memory) = _
  rw [c2, zcr rfl]

theorem zam {j : Nat} : auxN (prt (j + 1) 0) = false := by
  unfold auxN prt
  rw [Bool.or_eq_false_iff]
  exact ⟨by simp, decide_eq_false (by dsimp only; omega)⟩
theorem zcj {i s : Nat} : auxN (prt i (s + 1)) = true := by
  unfold auxN prt
  rw [Bool.or_eq_true]
  exact .inl (decide_eq_true (by dsimp only; omega))
theorem zcN : auxN (prt 0 0) = true := rfl
theorem z9D {n : D.Net} {l : List D.Wire} {x : D.Wire} : sumL varW (l ++ [x]) = sumL varW l + varW x := by rw [z1A]; simp [sumL]
theorem zat {fuel size i : Nat} {n : D.Net} {l Ws : List D.Wire} {p q : D.Port} {M0 : D.Memory} (hn : netN n = true) (hp : hasN n.Agents p = true) (hq : portAt n p = some q) (hb : befN p q = true) (hN : n.Agents.length - 1 + sumL varW (l ++ [⟨p, q⟩]) ≤ size) (hW : Ws[i]? = some ⟨p, q⟩) (hl : ∀ a, a ∈ n.Agents → a.Ports.length ≤ 1048576) :
    zJ fuel ⟨0, 0⟩ (atN (n.Agents.length - 1), M0) Ws ((i : Int), SW n l (prt 0 0), memN n size (SW n l) (sumL varW l) ⟨0, 0⟩) = some (.next (w64 ((i : Int) + 1), SW n (l ++ [⟨p, q⟩]) (prt 0 0), memN n size (SW n (l ++ [⟨p, q⟩])) (sumL varW (l ++ [⟨p, q⟩])) ⟨0, 0⟩)) := by
  obtain ⟨h1, h2, h3⟩ := z5O hn hp hq
  obtain ⟨p1, p2, _⟩ := z4p.1 hp
  obtain ⟨q1, q2, _⟩ := z4p.1 h2
  have hk := z8g hb p1 p2 q2
  have hsum := z9D (n := n) (l := l) (x := ⟨p, q⟩)
  have hil := (List.getElem?_eq_some_iff.1 hW).1
  rcases shape hn h2 with rfl | ⟨j, s, b, rfl, hb1, hs1⟩
  · exfalso
    unfold befN prt at hb
    simp only [Bool.or_eq_true, Bool.and_eq_true, decide_eq_true_eq] at hb
    omega
  have hjl := (List.getElem?_eq_some_iff.1 hb1).1
  have hA : idx (atN (n.Agents.length - 1)) (prt (j + 1) s).Agent = some (j : Int) := zg (z9R (by omega))
  have hbl := hl b (List.mem_of_getElem? hb1)
  have nx : ∀ st, zH fuel ((i : Int), SW n l (prt 0 0), memN n size (SW n l) (sumL varW l) ⟨0, 0⟩) st = some (.next (w64 ((i : Int) + 1), st.1, st.2)) := fun st => rfl
  have nx11 : ∀ m, zC fuel ((i : Int), SW n l (prt 0 0), memN n size (SW n l) (sumL varW l) ⟨0, 0⟩) m = some (.next (w64 ((i : Int) + 1), SW n l (prt 0 0), m)) := fun m => rfl
  unfold zJ
  dsimp only
  rw [if_pos (by simpa using hil), zg hW, Option.bind_some, Option.bind_some]
  dsimp only
  rcases shape hn hp with rfl | ⟨j0, s0, a0, rfl, ha0, hs0⟩
  · rw [if_pos (by simp [prt])]
    unfold z15
    dsimp only
    cases s with
    | zero =>
      have hv : varW ⟨prt 0 0, prt (j + 1) 0⟩ ≠ 1 := fun e => by
        have := ((z4q hk).1 e).2
        rw [zam] at this; cases this
      have e0 : varW ⟨prt 0 0, prt (j + 1) 0⟩ = 0 := by have := z7W (x := ⟨prt 0 0, prt (j + 1) 0⟩); omega
      have hS := z9z (l := l) (x := ⟨prt 0 0, prt (j + 1) 0⟩) (s := prt 0 0) (o := prt (j + 1) 0) (c := (j : Int)) hv (.inl rfl) (by rw [z65 hq zcN zam]; simp [prt]) (z3c h3 (by rw [zam]; simp))
      rw [if_pos (by simp [prt]), hA, Option.bind_some, nx, hS, hsum, e0, z87, Nat.add_zero]
      simp [setW]
    | succ s =>
      have h5 : auxN (prt (j + 1) (s + 1)) = true := zcj
      have e1 := (z4q (p := prt 0 0) hk).2 ⟨by simp [auxN, prt], h5⟩
      have hS := zct (l := l) hq h3 hk (by simp [auxN, prt]) h5
      rw [hsum, e1] at hN
      rw [if_neg (by first | (simp [prt]; done) | (simp [prt]; omega)), if_pos (by simp [prt]), if_pos (by rfl), z9F (by omega), Option.bind_some]
      unfold z1Q
      dsimp only
      rw [hA, Option.bind_some]
      refine (z66 (K := fun m => zH fuel _ (_, m)) hb1 hs1 hbl rfl).trans ?_
      rw [nx, hS, hsum, e1, zaA, z87]
      simp [setW, wordV]
  · have hj0 := (List.getElem?_eq_some_iff.1 ha0).1
    have hA0 : idx (atN (n.Agents.length - 1)) (prt (j0 + 1) s0).Agent = some (j0 : Int) := zg (z9R (by omega))
    have hal := hl a0 (List.mem_of_getElem? ha0)
    have hr : ∀ (w : D.Port → D.Word) v, setW w (prt (j0 + 1) s0) v (prt 0 0) = w (prt 0 0) := fun w v => by unfold setW; rw [if_neg (Ne.symm zaJ)]
    have hr2 : ∀ (w : D.Port → D.Word) v, setW w (prt (j + 1) s) v (prt 0 0) = w (prt 0 0) := fun w v => by unfold setW; rw [if_neg (Ne.symm zaJ)]
    rw [if_neg (by first | (simp [prt]; done) | (simp [prt]; omega))]
    unfold z15
    dsimp only
    rw [if_neg (by simp), if_neg (by first | (simp [prt]; done) | (simp [prt]; omega))]
    cases s0 with
    | zero =>
      have h4 : auxN (prt (j0 + 1) 0) = false := zam
      have hv : varW ⟨prt (j0 + 1) 0, prt (j + 1) s⟩ ≠ 1 := fun e => by
        have := ((z4q hk).1 e).1
        rw [h4] at this; cases this
      have e0 : varW ⟨prt (j0 + 1) 0, prt (j + 1) s⟩ = 0 := by have := z7W (x := ⟨prt (j0 + 1) 0, prt (j + 1) s⟩); omega
      rw [if_neg (by simp [prt])]
      unfold z14
      dsimp only
      rw [if_neg (by simp), if_neg (by simp [prt])]
      cases s with
      | zero =>
        have hS := zcG (n := n) (l := l) hv (fun r hr => by
          rcases hr with rfl | rfl
          · exact z3c hq (by rw [h4]; simp)
          · exact z3c h3 (by rw [zam]; simp))
        rw [if_neg (by simp [prt])]
        unfold zR zB zx zh
        dsimp only
        rw [if_neg (by simp [prt]), if_neg (by simp [prt]), nx11, hS, hsum, e0, Nat.add_zero]
      | succ s =>
        have h5 : auxN (prt (j + 1) (s + 1)) = true := zcj
        have hS := z9z (l := l) (x := ⟨prt (j0 + 1) 0, prt (j + 1) (s + 1)⟩) (s := prt (j + 1) (s + 1)) (o := prt (j0 + 1) 0) (c := (j0 : Int)) hv (.inr rfl) (by rw [z65 h3 h5 h4]; simp [prt]) (z3c hq (by rw [h4]; simp))
        rw [if_pos (by first | (simp [prt]; done) | (simp [prt]; omega)), hA0, Option.bind_some]
        unfold zR zB zx zh
        dsimp only
        rw [if_neg (by simp [prt]), if_pos (by first | (simp [prt]; done) | (simp [prt]; omega)), hA, Option.bind_some]
        refine (z66 (K := fun m => zC fuel _ m) hb1 hs1 hbl rfl).trans ?_
        rw [nx11, hS, hsum, e0, hr2]
        rfl
    | succ s0 =>
      have h4 : auxN (prt (j0 + 1) (s0 + 1)) = true := zcj
      rw [if_pos (by first | (simp [prt]; done) | (simp [prt]; omega))]
      unfold z14
      dsimp only
      cases s with
      | zero =>
        have h5 : auxN (prt (j + 1) 0) = false := zam
        have hv : varW ⟨prt (j0 + 1) (s0 + 1), prt (j + 1) 0⟩ ≠ 1 := fun e => by
          have := ((z4q hk).1 e).2
          rw [h5] at this; cases this
        have e0 : varW ⟨prt (j0 + 1) (s0 + 1), prt (j + 1) 0⟩ = 0 := by have := z7W (x := ⟨prt (j0 + 1) (s0 + 1), prt (j + 1) 0⟩); omega
        have hS := z9z (l := l) (x := ⟨prt (j0 + 1) (s0 + 1), prt (j + 1) 0⟩) (s := prt (j0 + 1) (s0 + 1)) (o := prt (j + 1) 0) (c := (j : Int)) hv (.inl rfl) (by rw [z65 hq h4 h5]; simp [prt]) (z3c h3 (by rw [h5]; simp))
        rw [if_neg (by simp [prt]), if_pos (by first | (simp [prt]; done) | (simp [prt]; omega)), hA, Option.bind_some]
        unfold zB zx
        dsimp only
        rw [if_pos (by first | (simp [prt]; done) | (simp [prt]; omega)), hA0, Option.bind_some]
        refine (z66 (K := fun m => zh fuel _ _ _ _ m) ha0 hs0 hal rfl).trans ?_
        unfold zh
        dsimp only
        rw [if_neg (by simp [prt]), nx11, hS, hsum, e0, hr]
        rfl
      | succ s =>
        have h5 : auxN (prt (j + 1) (s + 1)) = true := zcj
        have e1 := (z4q (p := prt (j0 + 1) (s0 + 1)) hk).2 ⟨h4, h5⟩
        have hS := zct (l := l) hq h3 hk h4 h5
        rw [hsum, e1] at hN
        rw [if_pos (by first | (simp [prt]; done) | (simp [prt]; omega)), z9F (by omega), Option.bind_some]
        unfold zx
        dsimp only
        rw [if_pos (by first | (simp [prt]; done) | (simp [prt]; omega)), hA0, Option.bind_some]
        refine (z66 (K := fun m => zh fuel _ _ _ _ m) ha0 hs0 hal rfl).trans ?_
        unfold zh
        dsimp only
        rw [if_pos (by first | (simp [prt]; done) | (simp [prt]; omega)), hA, Option.bind_some]
        refine (z66 (K := fun m => zC fuel _ m) hb1 hs1 hbl rfl).trans ?_
        rw [nx11, hS, hsum, e1, hr2, hr]
        rfl
theorem zaL {fuel size k : Nat} {n : D.Net} {ps : List D.Port} {p q : D.Port} {M0 : D.Memory} {cells : List Int} (hn : netN n = true) (hp : hasN n.Agents p = true) (hq : portAt n p = some q) (hN : n.Agents.length - 1 + sumL varW ((ps ++ [p]).flatMap (wireAt n)) ≤ size) (hW : (portsL n)[k]? = some p) (hl : ∀ a, a ∈ n.Agents → a.Ports.length ≤ 1048576)
    (hc : ∀ j, j + 1 < n.Agents.length → cells[j + 1]? = some (j : Int)) :
    zY fuel n (cells, M0) (portsL n) ((k : Int), memN n size (IW n ps) (sumL varW (ps.flatMap (wireAt n))) (IW n ps (prt 0 0))) = some (.next (w64 ((k : Int) + 1), memN n size (IW n (ps ++ [p])) (sumL varW ((ps ++ [p]).flatMap (wireAt n))) (IW n (ps ++ [p]) (prt 0 0)))) := by
  obtain ⟨h1, h2, h3⟩ := z5O hn hp hq
  obtain ⟨p1, p2, _⟩ := z4p.1 hp
  obtain ⟨q1, q2, _⟩ := z4p.1 h2
  have hil := (List.getElem?_eq_some_iff.1 hW).1
  have hfl : (ps ++ [p]).flatMap (wireAt n) = ps.flatMap (wireAt n) ++ wireAt n p := by rw [List.flatMap_append]; simp
  have hz : (befN p q = true → varW ⟨p, q⟩ ≠ 1) → sumL varW ((ps ++ [p]).flatMap (wireAt n)) = sumL varW (ps.flatMap (wireAt n)) := fun h => by
    rw [← Vs_t (n := n), ← Vs_t (n := n), z6S hq h]
  unfold zY
  dsimp only
  rw [if_pos (by simpa using hil), zg hW, Option.bind_some, z6b, hq, Option.bind_some, z7R hn hp h2, Option.bind_some]
  cases hx : auxN p with
  | true =>
    cases hy : auxN q with
    | true =>
      rw [Bool.true_and, if_pos rfl, z7r, Option.bind_some]
      have e1 := z3c (n := n) hq (by rw [hy]; simp)
      cases hb : befN p q with
      | true =>
        have hk := z8g hb p1 p2 q2
        have ev := (z4q (p := p) hk).2 ⟨hx, hy⟩
        have hw : wireAt n p = [⟨p, q⟩] := by unfold wireAt; rw [hq]; dsimp only; rw [if_pos hb]
        have hS := zcL (ps := ps) hq h3 hk hb hx hy
        have hsum := z9D (n := n) (l := ps.flatMap (wireAt n)) (x := ⟨p, q⟩)
        rw [hfl, hw, hsum, ev] at hN
        rw [if_pos rfl, z8s]
        have ht : z1q fuel (memN n size (IW n ps) (sumL varW (ps.flatMap (wireAt n))) (IW n ps (prt 0 0))) ⟨13, 0, 0, [], []⟩ = some (((n.Agents.length - 1 + sumL varW (ps.flatMap (wireAt n)) : Nat) : Int), memN n size (IW n ps) (sumL varW (ps.flatMap (wireAt n)) + 1) (IW n ps (prt 0 0))) := by
          unfold memN
          rw [z7Z (by first | (simp [z3C]; done) | (simp [z3C]; omega)), List.append_assoc, List.replicate_succ']
          simp [z3C, vc]
        rw [ht, Option.bind_some]
        dsimp only
        rw [z5X hn hp hx hc hl, Option.bind_some, z5X hn h2 hy hc hl, Option.bind_some]
        unfold z1w zF
        dsimp only
        rw [hS, hfl, hw, hsum, ev]
        rfl
      | false =>
        have hno : befN p q = true → varW ⟨p, q⟩ ≠ 1 := fun h => by rw [hb] at h; cases h
        have hS := zbD (ps := ps) hq hno e1
        rw [if_neg (by simp)]
        unfold z1w zF
        dsimp only
        rw [hS, hz hno]
    | false =>
      have hno : befN p q = true → varW ⟨p, q⟩ ≠ 1 := fun h e => by
        have := ((z4q (z8g h p1 p2 q2)).1 e).2
        rw [hy] at this; cases this
      have hS := zcH (ps := ps) hq hno (z65 hq hx hy)
      have hqa : ∃ j : Nat, q.Agent = ((j + 1 : Nat) : Int) ∧ j + 1 < n.Agents.length := by
        rcases shape hn h2 with rfl | ⟨j, s, b, rfl, hb1, hs1⟩
        · exact absurd hy (by simp [auxN, prt])
        · exact ⟨j, rfl, (List.getElem?_eq_some_iff.1 hb1).1⟩
      obtain ⟨j, ej, hj⟩ := hqa
      have go : zW fuel (cells, M0) ((k : Int), memN n size (IW n ps) (sumL varW (ps.flatMap (wireAt n))) (IW n ps (prt 0 0))) p q true = some (.next (w64 ((k : Int) + 1), memN n size (IW n (ps ++ [p])) (sumL varW ((ps ++ [p]).flatMap (wireAt n))) (IW n (ps ++ [p]) (prt 0 0)))) := by
        unfold zW
        dsimp only
        rw [if_pos rfl, ej, zg (hc j hj), Option.bind_some, z5X hn hp hx hc hl, Option.bind_some]
        unfold z1v zF
        dsimp only
        rw [hS, hz hno, ej, show ((j + 1 : Nat) : Int) - 1 = (j : Int) by omega]
      rw [Bool.and_false, if_neg (by simp)]
      by_cases hs : p.Slot > 0
      · rw [if_pos (decide_eq_true hs)]; exact go
      · rw [if_neg (by simpa using hs)]
        have : (p.Agent == 0) = true := by
          unfold auxN at hx
          simp only [Bool.or_eq_true, decide_eq_true_eq] at hx
          have := hx.resolve_left hs
          simp [this]
        rw [this]; exact go
  | false =>
    have hno : befN p q = true → varW ⟨p, q⟩ ≠ 1 := fun h e => by
      have := ((z4q (z8g h p1 p2 q2)).1 e).1
      rw [hx] at this; cases this
    have hS := zbD (ps := ps) hq hno (z3c hq (by rw [hx]; simp))
    unfold auxN at hx
    simp only [Bool.or_eq_false_iff, decide_eq_false_iff_not] at hx
    rw [Bool.false_and, if_neg (by simp), if_neg (by simpa using hx.1), show (p.Agent == 0) = false by simpa using hx.2]
    unfold zW
    rw [if_neg (by simp)]
    unfold z1v zF
    dsimp only
    rw [hS, hz hno]


def pairAt (i : Nat) (a : D.Agent) : List D.Pair := match a.Ports[0]? with
  | some q => if q.Slot = 0 ∧ q.Agent > (i : Int) ∧ a.Kind ≠ 1 then [⟨(i : Int), q.Agent⟩] else []
  | none => []
def pairsL (n : D.Net) : List D.Pair := n.Agents.zipIdx.flatMap fun x => pairAt x.2 x.1
theorem zaM {i : Nat} {a : D.Agent} : (pairAt i a).length ≤ 1 := by
  unfold pairAt
  split
  · split <;> simp
  · simp
theorem z5z {n : D.Net} (k : Nat) : ((n.Agents.take k).zipIdx.flatMap fun x => pairAt x.2 x.1).length ≤ k := by
  have h := z6i (g := fun x : D.Agent × Nat => pairAt x.2 x.1) (fun x => zaM) (n.Agents.take k).zipIdx
  rw [List.length_zipIdx, List.length_take] at h
  omega
theorem zab {fuel : Nat} {n : D.Net} (hf : 18446744073709551616 ≤ fuel) (hn : netN n = true) (h600 : n.Agents.length ≤ 600) : z2Z fuel n = some (pairsL n) := by
  unfold z2Z
  have h := zipLoop (xs := n.Agents) (body := z1M fuel n) (mk := fun i s => (s, i)) (out := fun s => s) (g := fun i a => pairAt i a) (s0 := []) (fuel := fuel) (by omega) hf (fun i a ha => by
    have hil := (List.getElem?_eq_some_iff.1 ha).1
    have hlen := z5z (n := n) i
    obtain ⟨q, hq⟩ := z40 (z9S (z7b hn ha))
    simp only [List.nil_append]
    generalize (n.Agents.take i).zipIdx.flatMap (fun x => pairAt x.2 x.1) = s at hlen ⊢
    unfold z1M pairAt
    dsimp only
    rw [if_pos (by simpa using hil), zg ha, Option.bind_some, show idx a.Ports 0 = some q from zg (i := 0) hq, Option.bind_some, hq]
    unfold zV z1L
    dsimp only
    by_cases h1 : q.Slot = 0
    · by_cases h2 : q.Agent > i
      · by_cases h3 : a.Kind = 1
        · simp [h1, h2, h3]
        · have h9 : decide ((s.length : Int) + (([(⟨(i : Int), q.Agent⟩ : D.Pair)] : List D.Pair).length : Int) ≤ 4294967296) = true := by first | (simp; done) | (simp; omega)
          rw [if_pos (by simp [h1]), if_pos (decide_eq_true h2), if_pos (by simpa using h3), if_pos h9, if_pos ⟨h1, h2, h3⟩]
      · simp [h1, h2]
    · simp [h1]) (by
    unfold z1M
    rw [if_neg (by simp)])
  rw [h, Option.bind_some, z8]
  unfold z3V
  rfl
theorem zaa {fuel : Nat} {n : D.Net} (hf : 18446744073709551616 ≤ fuel) (hn : netN n = true) (h600 : n.Agents.length ≤ 600) (h1N : 1 ≤ n.Agents.length) : z3g fuel n = some (pairsL n) := by
  unfold z3g
  obtain ⟨r, hr⟩ := z40 (xs := n.Agents) (i := 0) (by omega)
  have hk : r.Kind = 1 := by simpa using z6d hn hr
  obtain ⟨o, h, rfl⟩ := zp (body := z1X fuel n) (fun i s => 1 ≤ i ∧ s = ((i : Int), (n.Agents.take i).zipIdx.flatMap fun x => pairAt x.2 x.1)) n.Agents.length (fun o => o = .inl (pairsL n)) (by
    rintro i s hi ⟨h0, rfl⟩
    obtain ⟨a, ha⟩ := z40 hi
    have hlen := z5z (n := n) i
    obtain ⟨q, hq⟩ := z40 (z9S (z7b hn ha))
    have hka : a.Kind ≠ 1 := fun e => by
      have h5 := z6d hn ha
      rw [e] at h5
      simp at h5
      omega
    have hk0 : a.Kind ≠ 0 := fun e => by
      have h5 := z7b hn ha
      unfold agN agentN allowN at h5
      simp only [Bool.and_eq_true, decide_eq_true_eq] at h5
      omega
    refine .inl ⟨(w64 ((i : Int) + 1), ((n.Agents.take i).zipIdx.flatMap fun x => pairAt x.2 x.1) ++ pairAt i a), ?_, by omega, ?_⟩
    · generalize (n.Agents.take i).zipIdx.flatMap (fun x => pairAt x.2 x.1) = s at hlen ⊢
      unfold z1X pairAt
      dsimp only
      rw [if_pos (by simpa using hi), zg ha, Option.bind_some, if_neg (by simpa using hk0), Option.bind_some, show idx a.Ports 0 = some q from zg (i := 0) hq, Option.bind_some, hq]
      unfold z1V z1U z1W
      dsimp only
      by_cases h1 : q.Slot = 0
      · by_cases h2 : q.Agent > i
        · have h9 : decide ((s.length : Int) + (([(⟨(i : Int), q.Agent⟩ : D.Pair)] : List D.Pair).length : Int) ≤ 4294967296) = true := by first | (simp; done) | (simp; omega)
          rw [if_pos (by simp [h1]), if_pos (decide_eq_true h2), if_pos h9, if_pos ⟨h1, h2, hka⟩]
        · simp [h1, h2]
      · simp [h1]
    · rw [z7 (by omega) (by omega), z61 ha, List.flatMap_append]
      simp) (by
    rintro s ⟨h0, rfl⟩
    refine .inr ⟨_, ?_, rfl⟩
    unfold z1X
    rw [if_neg (by simp), List.take_length]
    rfl) (fuel := fuel) (i := 1) (s := (1, ([] : List D.Pair))) h1N (by omega) ⟨Nat.le_refl _, by
      have e := z61 hr
      rw [Nat.zero_add] at e
      rw [e, List.flatMap_append]
      simp [pairAt, hk]
      split <;> rfl⟩
  rw [h, Option.bind_some, z8]
  rfl
theorem z8E {n : D.Net} (hn : netN n = true) {x : D.Pair} (h : x ∈ pairsL n) : ∃ i j : Nat, x = ⟨((i + 1 : Nat) : Int), ((j + 1 : Nat) : Int)⟩ ∧ i < j ∧ i + 1 < n.Agents.length ∧ j + 1 < n.Agents.length := by
  obtain ⟨⟨a, i⟩, h1, h2⟩ := List.mem_flatMap.1 h
  rw [List.mem_zipIdx_iff_getElem?] at h1
  dsimp only at h1 h2
  have hil := (List.getElem?_eq_some_iff.1 h1).1
  unfold pairAt at h2
  split at h2
  · rename_i q hq
    split at h2
    · rename_i hc
      rw [List.mem_singleton] at h2
      have hi0 : i ≠ 0 := fun e => by
        subst e
        exact hc.2.2 (by simpa using z6d hn h1)
      have hp : hasN n.Agents (prt i 0) = true := z4p.2 ⟨by simp [prt], by simp [prt], a, by simpa [prt] using h1, by have := (List.getElem?_eq_some_iff.1 hq).1; simp [prt]; omega⟩
      obtain ⟨_, h4, _⟩ := z5O hn hp (z79 h1 hq)
      obtain ⟨q1, _, b, q3, _⟩ := z4p.1 h4
      have hql := (List.getElem?_eq_some_iff.1 q3).1
      refine ⟨i - 1, q.Agent.toNat - 1, ?_, by omega, by omega, by omega⟩
      rw [h2]
      congr 1 <;> omega
    · cases h2
  · cases h2
def redL (n : D.Net) : List D.Pair := (pairsL n).map fun x => ⟨x.A - 1, x.B - 1⟩
def withQ (m : D.Memory) (Q : List D.Pair) : D.Memory := ⟨m.Cells, m.Free, m.Root, Q⟩
theorem zaG {fuel : Nat} {n : D.Net} {m M0 : D.Memory} (hf : 18446744073709551616 ≤ fuel) (hn : netN n = true) (h600 : n.Agents.length ≤ 600) (hm : m.Redexes = []) :
    iter (z17 fuel (atN (n.Agents.length - 1), M0) (pairsL n)) fuel (0, m) = some (.inl (withQ m (redL n))) := by
  have hpl := z5z (n := n) n.Agents.length
  rw [List.take_length] at hpl
  have hpl' : (pairsL n).length ≤ 600 := by unfold pairsL; omega
  obtain ⟨o, h, rfl⟩ := zp (body := z17 fuel (atN (n.Agents.length - 1), M0) (pairsL n)) (fun i s => s = ((i : Int), withQ m (((pairsL n).take i).map fun x => ⟨x.A - 1, x.B - 1⟩))) (pairsL n).length (fun o => o = .inl (withQ m (redL n))) (by
    rintro i s hi rfl
    obtain ⟨x, hx⟩ := z40 hi
    obtain ⟨a, b, rfl, hab, ha, hb⟩ := z8E hn (List.mem_of_getElem? hx)
    refine .inl ⟨_, ?_, rfl⟩
    unfold z17 z34 z42 z4D z4E
    dsimp only
    rw [if_pos (by simpa using hi), zg hx, Option.bind_some]
    dsimp only
    rw [zg (z9R (by omega)), Option.bind_some, Option.bind_some, zg (z9R (by omega)), Option.bind_some, if_pos (by first | (simp; done) | (simp; omega)), if_neg (by first | (simp; done) | (simp; omega)), Option.bind_some, Option.bind_some, if_pos (by unfold withQ; simp; omega), Option.bind_some, z7 (by omega) (by omega), List.take_add_one, hx]
    unfold withQ
    simp [show ((a : Int) + 1 - 1) = a by omega, show ((b : Int) + 1 - 1) = b by omega]) (by
    rintro s rfl
    refine .inr ⟨_, ?_, rfl⟩
    unfold z17
    rw [if_neg (by simp), List.take_length]
    rfl) (fuel := fuel) (i := 0) (s := (0, m)) (Nat.zero_le _) (by omega) (by unfold withQ; rw [List.take_zero]; cases m; simp only at hm; subst hm; rfl)
  exact h
theorem zaH {fuel : Nat} {n : D.Net} {m M0 : D.Memory} {cells : List Int} (hf : 18446744073709551616 ≤ fuel) (hn : netN n = true) (h600 : n.Agents.length ≤ 600) (hm : m.Redexes = []) (hc : ∀ j, j + 1 < n.Agents.length → cells[j + 1]? = some (j : Int)) :
    iter (z1x fuel (cells, M0) (pairsL n)) fuel (0, m) = some (.inl (withQ m (redL n))) := by
  have hpl := z5z (n := n) n.Agents.length
  rw [List.take_length] at hpl
  have hpl' : (pairsL n).length ≤ 600 := by unfold pairsL; omega
  obtain ⟨o, h, rfl⟩ := zp (body := z1x fuel (cells, M0) (pairsL n)) (fun i s => s = ((i : Int), withQ m (((pairsL n).take i).map fun x => ⟨x.A - 1, x.B - 1⟩))) (pairsL n).length (fun o => o = .inl (withQ m (redL n))) (by
    rintro i s hi rfl
    obtain ⟨x, hx⟩ := z40 hi
    obtain ⟨a, b, rfl, hab, ha, hb⟩ := z8E hn (List.mem_of_getElem? hx)
    refine .inl ⟨_, ?_, rfl⟩
    unfold z1x z3A
    dsimp only
    rw [if_pos (by simpa using hi), zg hx, Option.bind_some]
    dsimp only
    rw [zg (hc a ha), Option.bind_some, zg (hc b hb), Option.bind_some, if_pos (by unfold withQ; simp; omega), z7 (by omega) (by omega), List.take_add_one, hx]
    unfold withQ
    simp [show ((a : Int) + 1 - 1) = a by omega, show ((b : Int) + 1 - 1) = b by omega]) (by
    rintro s rfl
    refine .inr ⟨_, ?_, rfl⟩
    unfold z1x
    rw [if_neg (by simp), List.take_length]
    rfl) (fuel := fuel) (i := 0) (s := (0, m)) (Nat.zero_le _) (by omega) (by unfold withQ; rw [List.take_zero]; cases m; simp only at hm; subst hm; rfl)
  exact h


theorem z9V {fuel size : Nat} {n : D.Net} {M0 : D.Memory} (hf : 18446744073709551616 ≤ fuel) (hn : netN n = true) (hl : ∀ a, a ∈ n.Agents → a.Ports.length ≤ 1048576) (hwl : (wiresL n).length ≤ 1048576) (hN : n.Agents.length - 1 + sumL varW (wiresL n) ≤ size) :
    iter (zJ fuel ⟨0, 0⟩ (atN (n.Agents.length - 1), M0) (wiresL n)) fuel (0, ⟨0, 0⟩, memN n size wz 0 ⟨0, 0⟩) = some (.inl (SW n (wiresL n) (prt 0 0), memN n size (SW n (wiresL n)) (sumL varW (wiresL n)) ⟨0, 0⟩)) := by
  have hz : SW n [] = wz := by
    funext r
    unfold SW
    cases statN n r with
    | none => rfl
    | some x => rfl
  obtain ⟨o, h, rfl⟩ := zp (body := zJ fuel ⟨0, 0⟩ (atN (n.Agents.length - 1), M0) (wiresL n)) (fun i s => s = ((i : Int), SW n ((wiresL n).take i) (prt 0 0), memN n size (SW n ((wiresL n).take i)) (sumL varW ((wiresL n).take i)) ⟨0, 0⟩)) (wiresL n).length (fun o => o = .inl (SW n (wiresL n) (prt 0 0), memN n size (SW n (wiresL n)) (sumL varW (wiresL n)) ⟨0, 0⟩)) (by
    rintro i s hi rfl
    obtain ⟨x, hx⟩ := z40 hi
    obtain ⟨p, hp, hx2⟩ := List.mem_flatMap.1 (List.mem_of_getElem? hx)
    have hph := z6N hp
    obtain ⟨q, hq⟩ := z6h hph
    unfold wireAt at hx2
    rw [hq] at hx2
    dsimp only at hx2
    split at hx2
    · rename_i hb
      rw [List.mem_singleton] at hx2
      subst hx2
      have ht : (wiresL n).take (i + 1) = (wiresL n).take i ++ [⟨p, q⟩] := by rw [List.take_add_one, hx]; rfl
      have hle := z5u (f := varW) (xs := wiresL n) (i + 1)
      refine .inl ⟨_, zat (l := (wiresL n).take i) hn hph hq hb (by rw [← ht]; omega) hx hl, ?_⟩
      rw [ht, z7 (by omega) (by omega)]
      rfl
    · cases hx2) (by
    rintro s rfl
    refine .inr ⟨_, ?_, rfl⟩
    unfold zJ
    rw [if_neg (by simp), List.take_length]) (fuel := fuel) (i := 0) (s := (0, ⟨0, 0⟩, memN n size wz 0 ⟨0, 0⟩)) (Nat.zero_le _) (by omega) (by rw [List.take_zero, hz]; rfl)
  exact h
theorem za6 {fuel size : Nat} {n : D.Net} {M0 : D.Memory} {cells : List Int} (hf : 18446744073709551616 ≤ fuel) (hn : netN n = true) (hl : ∀ a, a ∈ n.Agents → a.Ports.length ≤ 1048576) (hpl : (portsL n).length ≤ 1048576) (hN : n.Agents.length - 1 + sumL varW (wiresL n) ≤ size) (hc : ∀ j, j + 1 < n.Agents.length → cells[j + 1]? = some (j : Int)) :
    iter (zY fuel n (cells, M0) (portsL n)) fuel (0, memN n size wz 0 ⟨0, 0⟩) = some (.inl (memN n size (IW n (portsL n)) (sumL varW (wiresL n)) (IW n (portsL n) (prt 0 0)))) := by
  have hz : IW n [] = wz := by
    funext r
    unfold IW
    cases statN n r with
    | none => rfl
    | some x => rfl
  obtain ⟨o, h, rfl⟩ := zp (body := zY fuel n (cells, M0) (portsL n)) (fun i s => s = ((i : Int), memN n size (IW n ((portsL n).take i)) (sumL varW (((portsL n).take i).flatMap (wireAt n))) (IW n ((portsL n).take i) (prt 0 0)))) (portsL n).length (fun o => o = .inl (memN n size (IW n (portsL n)) (sumL varW (wiresL n)) (IW n (portsL n) (prt 0 0)))) (by
    rintro i s hi rfl
    obtain ⟨p, hp⟩ := z40 hi
    have hph := z6N (List.mem_of_getElem? hp)
    obtain ⟨q, hq⟩ := z6h hph
    have ht : (portsL n).take (i + 1) = (portsL n).take i ++ [p] := by rw [List.take_add_one, hp]; rfl
    have hle : sumL varW (((portsL n).take (i + 1)).flatMap (wireAt n)) ≤ sumL varW (wiresL n) := by
      have e : wiresL n = ((portsL n).take (i + 1)).flatMap (wireAt n) ++ ((portsL n).drop (i + 1)).flatMap (wireAt n) := by rw [← List.flatMap_append, List.take_append_drop]; rfl
      rw [e, z1A]
      omega
    refine .inl ⟨_, zaL (ps := (portsL n).take i) hn hph hq (by rw [← ht]; omega) hp hl hc, ?_⟩
    rw [ht, z7 (by omega) (by omega)]
    rfl) (by
    rintro s rfl
    refine .inr ⟨_, ?_, rfl⟩
    unfold zY
    rw [if_neg (by simp), List.take_length]
    rfl) (fuel := fuel) (i := 0) (s := (0, memN n size wz 0 ⟨0, 0⟩)) (Nat.zero_le _) (by omega) (by rw [List.take_zero, hz]; rfl)
  exact h
theorem zaK {k f : Int} : portsN k f ≤ 4 := by
  unfold portsN
  split
  · split <;> omega
  · split
    · omega
    · split
      · omega
      · split
        · omega
        · split <;> omega
theorem zck {a : D.Agent} (h : agN a = true) : a.Data.length ≤ 4 ∧ a.Ports.length ≤ 4 := by
  unfold agN agentN at h
  rw [Bool.and_eq_true, Bool.and_eq_true, Bool.and_eq_true, decide_eq_true_eq, decide_eq_true_eq] at h
  obtain ⟨h1, h2, h3, h4⟩ := h
  have h5 := zaK (k := a.Kind) (f := if a.Kind = 9 then (a.Ports.length : Int) - 1 else 0)
  refine ⟨?_, by omega⟩
  unfold contentN at h4
  repeat' split at h4
  all_goals simp only [Bool.and_eq_true, decide_eq_true_eq] at h4
  all_goals omega
theorem zaz {n : D.Net} {w : D.Port → D.Word} (hn : netN n = true) (h600 : n.Agents.length ≤ 600) : sumL D.Cell.sz (agC n w) ≤ 4800 := by
  have h := z83 (f := D.Cell.sz) (b := 8) (xs := agC n w) (fun c hc => by
    obtain ⟨j, hj⟩ := List.getElem?_of_mem hc
    rw [z60] at hj
    cases ha : n.Agents[j + 1]? with
    | none => rw [ha] at hj; cases hj
    | some a =>
      rw [ha, Option.map_some, Option.some.injEq] at hj
      subst hj
      obtain ⟨h1, h2⟩ := zck (z7b hn ha)
      unfold D.Cell.sz cN
      simp only [List.length_map, List.length_range]
      omega)
  rw [z3C] at h
  omega
theorem z82 {α : Type} {f : α → Nat} : ∀ {xs : List α}, (∀ x, x ∈ xs → f x = 0) → sumL f xs = 0
  | [], _ => rfl
  | x :: xs, h => by simp only [sumL, h x (by simp), z82 fun y hy => h y (List.mem_cons_of_mem _ hy)]
theorem z8y {fuel : Nat} {x0 : D.Net} {x1 : Int} (hf : 18446744073709551616 ≤ fuel) (hw : D.Net.wf x0) (h1 : I64 x1) (hs : x0.sz ≤ 1048576) :
    ∃ r : D.Memory × Int, z3E fuel x0 x1 = some r ∧ z33 fuel x0 x1 = some r ∧ r.1.sz ≤ 1048576 := by
  obtain ⟨z1, z2, z3⟩ := zcq hs
  have none_sz : (⟨[], 0, ⟨0, 0⟩, []⟩ : D.Memory).sz ≤ 1048576 := by unfold D.Memory.sz szL; simp [sumL]
  unfold z3E z33
  rw [zbN hf z1 z3, zbO hf z1 z2 z3, Option.bind_some, Option.bind_some]
  cases hn : netN x0 with
  | false => exact ⟨_, rfl, rfl, none_sz⟩
  | true =>
    have hN : 1 ≤ x0.Agents.length ∧ x0.Agents.length ≤ 600 := by
      have hn2 := hn
      unfold netN agentsN at hn2
      rw [Bool.and_eq_true, Bool.and_eq_true, decide_eq_true_eq] at hn2
      exact hn2.1.1
    rw [if_neg (by simp), if_neg (by simp), z4g, Option.bind_some]
    by_cases hr : 1 ≤ x1 ∧ x1 ≤ 1500
    · rw [decide_eq_true hr, if_neg (by simp), if_neg (by simp; omega), show decide (x1 > 1500) = false by simp; omega]
      unfold zX
      obtain ⟨v1, v2, v3, v4⟩ := zau hf hs hn
      rw [if_neg (by simp), v1, v2, Option.bind_some, Option.bind_some, z7 (n := (x0.Agents.length : Int) - 1) (by omega) (by omega), z7 (by omega) (by omega)]
      by_cases hfull : (x0.Agents.length : Int) - 1 + ((sumL varW (wiresL x0) : Nat) : Int) > x1
      · rw [if_pos (decide_eq_true hfull), if_pos (decide_eq_true (by omega))]
        exact ⟨_, rfl, rfl, none_sz⟩
      · rw [if_neg (by simpa using hfull), if_neg (by simp; omega)]
        obtain ⟨size, rfl⟩ : ∃ size : Nat, x1 = (size : Int) := ⟨x1.toNat, by omega⟩
        have hp : ∀ a, a ∈ x0.Agents → a.Ports.length ≤ 1048576 := fun a ha => (z8h hs ha).2
        have hNs : x0.Agents.length - 1 + sumL varW (wiresL x0) ≤ size := by omega
        have hc : ∀ j, j + 1 < x0.Agents.length → (cellsN x0.Agents.length (x0.Agents.length - 1))[j + 1]? = some (j : Int) := fun j hj => zbA hj (by omega)
        rw [zae hf (by omega) (by omega), zaf hf (by omega) (by omega), Option.bind_some, Option.bind_some, if_pos (by simp; omega), if_pos (by simp; omega), Int.toNat_natCast]
        unfold z46
        have e1 := za8 (size := size) hf hn hw hs (by omega) hN.2 hN.1
        have e2 := za9 (size := size) hf hn hs (by omega) hN.2 hN.1
        have e3 := z9V (size := size) (M0 := memN x0 size wz 0 ⟨0, 0⟩) hf hn hp v4 hNs
        have e4 := za6 (size := size) (M0 := memN x0 size wz 0 ⟨0, 0⟩) (cells := cellsN x0.Agents.length (x0.Agents.length - 1)) hf hn hp (by rw [z5N]; exact z2) hNs hc
        have ee : (⟨(pm [] size ⟨0, 0⟩ []).Cells, (pm [] size ⟨0, 0⟩ []).Free, (⟨(pm [] size ⟨0, 0⟩ []).Root.Tag, (pm [] size ⟨0, 0⟩ []).Root.At⟩ : D.Word), (pm [] size ⟨0, 0⟩ []).Redexes⟩ : D.Memory) = pm [] size ⟨0, 0⟩ [] := rfl
        rw [ee, e1, e2, Option.bind_some, Option.bind_some, z8, z8]
        unfold z45 z4n
        rw [z7E hf z1 z2, netPorts hf z1 z2, Option.bind_some, Option.bind_some, e3, e4, Option.bind_some, Option.bind_some, z8, z8]
        unfold z44 z4m
        rw [zaa hf hn hN.2 hN.1, zab hf hn hN.2, Option.bind_some, Option.bind_some]
        dsimp only
        rw [zaG hf hn hN.2 rfl, zaH hf hn hN.2 rfl hc, Option.bind_some, Option.bind_some, z8, z8]
        unfold z43 z4k
        dsimp only
        rw [Option.bind_some]
        have hA := zcm (fun p hp => z7D hn hp)
        have hroot : SW x0 (wiresL x0) (prt 0 0) = IW x0 (portsL x0) (prt 0 0) := by
          obtain ⟨a, ha⟩ := z40 (xs := x0.Agents) (i := 0) (by omega)
          exact z7D hn (z4p.2 ⟨Int.natCast_nonneg _, Int.natCast_nonneg _, a, by simpa [prt] using ha, by rw [z7N hn ha]; simp [prt]⟩)
        have hpl := z5z (n := x0) x0.Agents.length
        rw [List.take_length] at hpl
        refine ⟨(withQ (memN x0 size (IW x0 (portsL x0)) (sumL varW (wiresL x0)) (IW x0 (portsL x0) (prt 0 0))) (redL x0), 0), ?_, rfl, ?_⟩
        · rw [hroot]
          unfold withQ memN pm
          simp [hA, z3C]
        · unfold withQ memN pm D.Memory.sz szL redL
          dsimp only
          have h2 := zaz (n := x0) (w := IW x0 (portsL x0)) hn hN.2
          have h3 : sumL D.Cell.sz (List.replicate (sumL varW (wiresL x0)) vc) = 0 := z82 fun y hy => by rw [List.eq_of_mem_replicate hy]; rfl
          have h4 : ∀ k, sumL D.Cell.sz (freeC k size) = 0 := fun k => z82 fun y hy => by
            unfold freeC at hy
            obtain ⟨j, _, rfl⟩ := List.mem_map.1 hy
            rfl
          have h5 : ∀ k, (freeC k size).length ≤ size := fun k => by unfold freeC; simp
          have hsz : sumL D.Agent.sz x0.Agents ≤ 1048576 := by unfold D.Net.sz szL at hs; omega
          have hprs : (pairsL x0).length ≤ 600 := by unfold pairsL; omega
          rw [z1A, z1A, h3, h4, List.length_append, List.length_append, List.length_map, List.length_replicate, z3C]
          have := h5 (x0.Agents.length - 1 + sumL varW (wiresL x0))
          omega
    · rw [decide_eq_false hr, if_pos (by rfl)]
      have : ∀ b, b = true → zX fuel x0 x1 b = some (⟨[], 0, ⟨0, 0⟩, []⟩, 2) := fun b hb => by subst hb; unfold zX; rfl
      refine ⟨_, rfl, ?_, none_sz⟩
      by_cases h2 : x1 < 1
      · rw [if_pos (decide_eq_true h2), this true rfl]
      · rw [if_neg (by simpa using h2), this _ (decide_eq_true (by omega))]
theorem lawLoadNet {x0 : D.Net} {x1 : Int} (h0 : D.Net.wf x0) (h1 : I64 x1) : ∃ fuel, z26 fuel x0 x1 = some true := by
  obtain ⟨fuel, hf⟩ : ∃ n : Nat, 18446744073709551616 ≤ n := ⟨_, Nat.le_refl _⟩
  refine ⟨fuel, ?_⟩
  unfold z26
  obtain ⟨r0, e0, s0⟩ := za3 (l := (1048576 : Int)) hf h0 (by decide) (by omega)
  rw [e0, Option.bind_some]
  rcases s0 with s0 | ⟨s0, t0⟩
  · rw [if_pos (by simp [s0])]
  rw [if_neg (by simp [s0])]
  have z0 : D.Net.sz x0 ≤ 1048576 := by omega
  obtain ⟨r, a0, a1, b0⟩ := z8y hf h0 h1 z0
  have m0 := fun {β : Type} (g : _ → Option β) => z5J (g := g) a0
  have m1 := fun {β : Type} (g : _ → Option β) => z5J (g := g) a1
  have m2 := fun {β : Type} (g : _ → Option β) => z5J (g := g) (za2 hf z0)
  have m3 := fun {β : Type} (g : _ → Option β) => z5J (g := g) (zad hf z0)
  have m4 := fun {β : Type} (g : _ → Option β) (k : Int) (h0 : 0 ≤ k) (h1 : k + (ctNet x0 : Nat) ≤ 2147483648) => z5J (g := g) (z8H hf z0 h0 h1)
  have c0 := zci (x := x0)
  have m5 := fun {β : Type} (g : _ → Option β) => z5J (g := g) (z8b hf b0)
  have m6 := fun {β : Type} (g : _ → Option β) (k : Int) (h0 : 0 ≤ k) (h1 : k + (ctMemory r.1 : Nat) ≤ 2147483648) => z5J (g := g) (z7c hf b0 h0 h1)
  have m7 := fun {β : Type} (g : _ → Option β) (k : Int) (h0 : 0 ≤ k) (h1 : k + (ctMemory r.1 : Nat) ≤ 2147483648) => z5J (g := g) (z7h hf b0 h0 h1)
  have d0 := z9s (x := r.1)
  simp (disch := omega) only [↓reduceIte, ↓m0, ↓m1, ↓m2, ↓m3, ↓m4, ↓m5, ↓m6, ↓m7, lt_f, Bool.not_true, Bool.false_eq_true, bne_self_eq_false, z4Y]
  simp (disch := omega) only [↓reduceIte, ↓zE, ↓m0, ↓m1, ↓m2, ↓m3, ↓m4, ↓m5, ↓m6, ↓m7, lt_f, Bool.not_true, Bool.false_eq_true, bne_self_eq_false, z4Y]
  simp (disch := omega) only [↓reduceIte, ↓zr, ↓m0, ↓m1, ↓m2, ↓m3, ↓m4, ↓m5, ↓m6, ↓m7, lt_f, Bool.not_true, Bool.false_eq_true, bne_self_eq_false, z4Y]
  simp (disch := omega) only [↓reduceIte, ↓zD, ↓m0, ↓m1, ↓m2, ↓m3, ↓m4, ↓m5, ↓m6, ↓m7, lt_f, Bool.not_true, Bool.false_eq_true, bne_self_eq_false, z4Y]
end Go.E

