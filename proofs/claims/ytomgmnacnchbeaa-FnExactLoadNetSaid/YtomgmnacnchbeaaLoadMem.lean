/- Memories as LoadNet fills them: the cells in use first, then the chain of the free ones. Conditions: each lemma names its own. -/
import Derived.Test.YtomgmnacnchbeaaNetVars
import Derived.Test.YtomgmnacnchbeaaFLd
namespace Go.E
open Go.RowKit Go.Proofs
set_option linter.unusedSimpArgs false
set_option linter.unusedVariables false

def freeV (k size : Nat) : Int := if k < size then (k : Int) else -1
def freeC (k size : Nat) : List D.Cell := (List.range (size - k)).map fun j => ⟨0, 0, freeV (k + j + 1) size, [], []⟩
def pm (L : List D.Cell) (size : Nat) (R : D.Word) (Q : List D.Pair) : D.Memory := ⟨L ++ freeC L.length size, freeV L.length size, R, Q⟩
def vc : D.Cell := ⟨13, 0, 0, [], []⟩
theorem z7j {k size : Nat} (h : k < size) : freeC k size = ⟨0, 0, freeV (k + 1) size, [], []⟩ :: freeC (k + 1) size := by
  unfold freeC
  rw [show size - k = (size - (k + 1)) + 1 by omega, List.range_succ_eq_map, List.map_cons, List.map_map]
  congr 1
  refine List.map_congr_left fun j _ => ?_
  simp only [Function.comp, Nat.succ_eq_add_one]
  rw [show k + (j + 1) + 1 = k + 1 + j + 1 by omega]
theorem z7Z {fuel size : Nat} {L : List D.Cell} {R : D.Word} {Q : List D.Pair} {c : D.Cell} (h : L.length < size) : z1q fuel (pm L size R Q) c = some ((L.length : Int), pm (L ++ [c]) size R Q) := by
  have e : freeV L.length size = (L.length : Int) := if_pos h
  unfold z1q pm
  dsimp only
  rw [e, zg (x := ⟨0, 0, freeV (L.length + 1) size, [], []⟩) (by rw [z7j h]; simp), Option.bind_some, if_pos (by simp; rw [z7j h]; simp)]
  simp only [Int.toNat_natCast]
  rw [z7j h, List.set_append_right _ _ (Nat.le_refl _), Nat.sub_self, List.set_cons_zero]
  simp
theorem z8s {fuel : Nat} {m : D.Memory} {c : D.Cell} : z2a fuel m c = z1q fuel m c := rfl
theorem zcK {fuel size : Nat} {L : List D.Cell} {R : D.Word} {Q : List D.Pair} (h : L.length < size) : z1b fuel (pm L size R Q) = some (⟨2, (L.length : Int)⟩, pm (L ++ [vc]) size R Q) := by
  unfold z1b
  rw [z7Z h]
  rfl
theorem z8N {size : Nat} (h : 1 ≤ size) (v : Int) : ((List.range size).map fun (j : Nat) => (⟨0, 0, ((j : Int) + 1), [], []⟩ : D.Cell)).set (size - 1) ⟨0, 0, -1, [], []⟩ = freeC 0 size := by
  refine List.ext_getElem? fun j => ?_
  unfold freeC freeV
  rw [List.getElem?_set, List.getElem?_map, List.getElem?_map]
  by_cases hj : j < size
  · rw [List.getElem?_range hj, List.getElem?_range (by omega)]
    simp only [List.length_map, List.length_range, Option.map_some]
    by_cases h1 : size - 1 = j
    · rw [if_pos h1, if_pos (by omega), if_neg (by omega)]
    · rw [if_neg h1, if_pos (by omega)]
      simp
  · rw [List.getElem?_eq_none (by simp; omega), List.getElem?_eq_none (by simp; omega), if_neg (by omega)]
    rfl
theorem zae {fuel size : Nat} (hf : 18446744073709551616 ≤ fuel) (h : 1 ≤ size) (h2 : size ≤ 1500) : z3f fuel (size : Int) = some (pm [] size ⟨0, 0⟩ []) := by
  unfold z3f
  obtain ⟨o, h1, rfl⟩ := zp (body := z1R fuel (size : Int)) (fun k s => s = ((k : Int), (⟨(List.range k).map fun (j : Nat) => (⟨0, 0, ((j : Int) + 1), [], []⟩ : D.Cell), 0, ⟨0, 0⟩, []⟩ : D.Memory))) size (fun o => o = .inl (⟨(List.range size).map fun (j : Nat) => (⟨0, 0, ((j : Int) + 1), [], []⟩ : D.Cell), 0, ⟨0, 0⟩, []⟩ : D.Memory)) (by
    rintro k s hk rfl
    refine .inl ⟨_, ?_, rfl⟩
    unfold z1R
    dsimp only
    rw [if_pos (by simpa using hk), if_pos (by simp; omega), z7 (by omega) (by omega), List.range_succ, List.map_append]
    simp) (by
    rintro s rfl
    refine .inr ⟨_, ?_, rfl⟩
    unfold z1R
    rw [if_neg (by simp)]) (fuel := fuel) (i := 0) (s := (0, (⟨[], 0, ⟨0, 0⟩, []⟩ : D.Memory))) (Nat.zero_le _) (by omega) (by simp)
  rw [h1, Option.bind_some, z8]
  unfold z47
  dsimp only
  rw [z7 (by omega) (by omega), show (size : Int) - 1 = ((size - 1 : Nat) : Int) by omega, zg (x := ⟨0, 0, (((size - 1 : Nat) : Int) + 1), [], []⟩) (by rw [List.getElem?_map, List.getElem?_range (by omega)]; rfl), Option.bind_some, Int.toNat_natCast, z8N h 0]
  unfold pm freeV
  rw [if_pos (by simp; omega)]
  rfl
theorem zaf {fuel size : Nat} (hf : 18446744073709551616 ≤ fuel) (h : 1 ≤ size) (h2 : size ≤ 1500) : z27 fuel (size : Int) = some (pm [] size ⟨0, 0⟩ []) := by
  unfold z27
  rw [if_pos (by simp; omega), Int.toNat_natCast]
  have e0 : (List.replicate size (⟨0, 0, 0, [], []⟩ : D.Cell)) = (List.range size).map fun (j : Nat) => (⟨0, 0, (if j < 0 then (j : Int) + 1 else 0), [], []⟩ : D.Cell) := by
    refine List.ext_getElem? fun j => ?_
    rw [List.getElem?_replicate, List.getElem?_map]
    by_cases hj : j < size
    · rw [if_pos hj, List.getElem?_range hj]; rfl
    · rw [if_neg hj, List.getElem?_eq_none (by simp; omega)]; rfl
  obtain ⟨o, h1, rfl⟩ := zp (body := z11 fuel (size : Int)) (fun k s => s = ((k : Int), (⟨(List.range size).map fun (j : Nat) => (⟨0, 0, (if j < k then (j : Int) + 1 else 0), [], []⟩ : D.Cell), 0, ⟨0, 0⟩, []⟩ : D.Memory))) size (fun o => o = .inl (⟨(List.range size).map fun (j : Nat) => (⟨0, 0, (if j < size then (j : Int) + 1 else 0), [], []⟩ : D.Cell), 0, ⟨0, 0⟩, []⟩ : D.Memory)) (by
    rintro k s hk rfl
    refine .inl ⟨_, ?_, rfl⟩
    unfold z11
    dsimp only
    rw [if_pos (by simpa using hk), zg (x := ⟨0, 0, 0, [], []⟩) (by rw [List.getElem?_map, List.getElem?_range hk]; simp), Option.bind_some, z7 (by omega) (by omega), Int.toNat_natCast]
    congr 4
    refine List.ext_getElem? fun j => ?_
    rw [List.getElem?_set, List.getElem?_map, List.getElem?_map]
    by_cases hj : j < size
    · rw [List.getElem?_range hj]
      simp only [List.length_map, List.length_range, Option.map_some]
      by_cases h1 : k = j
      · subst h1; simp [hj]
      · rw [if_neg h1]
        by_cases h3 : j < k
        · rw [if_pos h3, if_pos (by omega)]
        · rw [if_neg h3, if_neg (by omega)]
    · rw [List.getElem?_eq_none (by simp; omega), if_neg (by omega)]
      rfl) (by
    rintro s rfl
    refine .inr ⟨_, ?_, rfl⟩
    unfold z11
    rw [if_neg (by simp)]) (fuel := fuel) (i := 0) (s := (0, (⟨List.replicate size (⟨0, 0, 0, [], []⟩ : D.Cell), 0, ⟨0, 0⟩, []⟩ : D.Memory))) (Nat.zero_le _) (by omega) (by rw [e0]; rfl)
  rw [h1, Option.bind_some, z8]
  unfold z3p
  dsimp only
  have e1 : ((List.range size).map fun (j : Nat) => (⟨0, 0, (if j < size then (j : Int) + 1 else 0), [], []⟩ : D.Cell)) = (List.range size).map fun (j : Nat) => (⟨0, 0, ((j : Int) + 1), [], []⟩ : D.Cell) := List.map_congr_left fun j hj => by rw [if_pos (List.mem_range.1 hj)]
  rw [e1, z7 (by omega) (by omega), show (size : Int) - 1 = ((size - 1 : Nat) : Int) by omega, zg (x := ⟨0, 0, (((size - 1 : Nat) : Int) + 1), [], []⟩) (by rw [List.getElem?_map, List.getElem?_range (by omega)]; rfl), Option.bind_some, Int.toNat_natCast, z8N h 0]
  unfold pm freeV
  rw [if_pos (by simp; omega)]
  rfl


def cN (w : D.Port → D.Word) (i : Nat) (a : D.Agent) : D.Cell := ⟨a.Kind, a.Level, a.Value, a.Data, (List.range (a.Ports.length - 1)).map fun j => w (prt i (j + 1))⟩
def agC (n : D.Net) (w : D.Port → D.Word) : List D.Cell := (n.Agents.drop 1).zipIdx.map fun x => cN w (x.2 + 1) x.1
def wz : D.Port → D.Word := fun _ => ⟨0, 0⟩
def setW (w : D.Port → D.Word) (r : D.Port) (v : D.Word) : D.Port → D.Word := fun p => if p = r then v else w p
theorem z60 {n : D.Net} {w : D.Port → D.Word} {j : Nat} : (agC n w)[j]? = (n.Agents[j + 1]?).map (cN w (j + 1)) := by
  unfold agC
  rw [List.getElem?_map, List.getElem?_zipIdx, List.getElem?_drop, Nat.add_comm 1 j, Option.map_map]
  simp [Function.comp_def]
theorem z3C {n : D.Net} {w : D.Port → D.Word} : (agC n w).length = n.Agents.length - 1 := by unfold agC; simp
theorem zbB {i : Nat} {a : D.Agent} : cN wz i a = ⟨a.Kind, a.Level, a.Value, a.Data, List.replicate (a.Ports.length - 1) ⟨0, 0⟩⟩ := by
  unfold cN wz
  congr 1
  rw [List.map_const', List.length_range]
theorem zcF {n : D.Net} {w : D.Port → D.Word} {i s : Nat} {a : D.Agent} {v : D.Word} (ha : n.Agents[i + 1]? = some a) (hs : s + 1 < a.Ports.length) :
    (agC n w).set i ⟨a.Kind, a.Level, a.Value, a.Data, (cN w (i + 1) a).Words.set s v⟩ = agC n (setW w (prt (i + 1) (s + 1)) v) := by
  refine List.ext_getElem? fun j => ?_
  rw [List.getElem?_set, z3C, z60, z60]
  have hil := (List.getElem?_eq_some_iff.1 ha).1
  by_cases hij : i = j
  · subst hij
    rw [if_pos rfl, if_pos (by omega), ha]
    simp only [Option.map_some, Option.some.injEq]
    unfold cN
    congr 1
    refine List.ext_getElem? fun k => ?_
    rw [List.getElem?_set, List.getElem?_map, List.getElem?_map]
    by_cases hk : k < a.Ports.length - 1
    · rw [List.getElem?_range hk]
      simp only [List.length_map, List.length_range, Option.map_some]
      unfold setW
      by_cases hsk : s = k
      · subst hsk; simp [hk]
      · rw [if_neg hsk, if_neg (fun e => hsk (by unfold prt at e; simp only [D.Port.mk.injEq] at e; omega))]
    · rw [List.getElem?_eq_none (by simp; omega), if_neg (by omega)]
      rfl
  · rw [if_neg hij]
    cases hj : n.Agents[j + 1]? with
    | none => rfl
    | some b =>
      simp only [Option.map_some, Option.some.injEq]
      unfold cN
      congr 1
      refine List.map_congr_left fun k _ => ?_
      unfold setW
      rw [if_neg (fun e => hij (by unfold prt at e; simp only [D.Port.mk.injEq] at e; omega))]
theorem zcn {n : D.Net} {w : D.Port → D.Word} {v : D.Word} : agC n (setW w (prt 0 0) v) = agC n w := by
  unfold agC
  refine List.map_congr_left fun x _ => ?_
  have e : ∀ k : Nat, setW w (prt 0 0) v (prt (x.2 + 1) (k + 1)) = w (prt (x.2 + 1) (k + 1)) := fun k => by
    unfold setW
    rw [if_neg (fun e => by unfold prt at e; simp only [D.Port.mk.injEq] at e; omega)]
  unfold cN
  simp only [e]
theorem zcm {n : D.Net} {w w' : D.Port → D.Word} (h : ∀ p, hasN n.Agents p = true → w p = w' p) : agC n w = agC n w' := by
  refine List.ext_getElem? fun j => ?_
  rw [z60, z60]
  cases hj : n.Agents[j + 1]? with
  | none => rfl
  | some b =>
    simp only [Option.map_some, Option.some.injEq]
    unfold cN
    congr 1
    refine List.map_congr_left fun k hk => h _ (z4p.2 ⟨Int.natCast_nonneg _, Int.natCast_nonneg _, b, by simpa [prt] using hj, ?_⟩)
    have := List.mem_range.1 hk
    simp only [prt]
    omega
theorem z9C {n : D.Net} {w : D.Port → D.Word} {i : Nat} {a : D.Agent} (ha : n.Agents[i + 1]? = some a) : (agC n w).take i ++ [cN w (i + 1) a] = (agC n w).take (i + 1) := by
  have : (agC n w)[i]? = some (cN w (i + 1) a) := by rw [z60, ha]; rfl
  rw [List.take_add_one, this]
  rfl

def memN (n : D.Net) (size : Nat) (w : D.Port → D.Word) (t : Nat) (R : D.Word) : D.Memory := pm (agC n w ++ List.replicate t vc) size R []
theorem z9F {fuel : Nat} {n : D.Net} {size t : Nat} {w : D.Port → D.Word} {R : D.Word} (h : n.Agents.length - 1 + t < size) : z1b fuel (memN n size w t R) = some (⟨2, ((n.Agents.length - 1 + t : Nat) : Int)⟩, memN n size w (t + 1) R) := by
  unfold memN
  rw [zcK (by simp [z3C]; omega), List.append_assoc, ← List.replicate_succ']
  simp [z3C]
theorem z9E {n : D.Net} {size t i s : Nat} {w : D.Port → D.Word} {R v : D.Word} {a : D.Agent} (ha : n.Agents[i + 1]? = some a) (hs : s + 1 < a.Ports.length) :
    (memN n size w t R).Cells[i]? = some (cN w (i + 1) a) ∧ (memN n size w t R).Cells.set i ⟨a.Kind, a.Level, a.Value, a.Data, (cN w (i + 1) a).Words.set s v⟩ = (memN n size (setW w (prt (i + 1) (s + 1)) v) t R).Cells := by
  have hil := (List.getElem?_eq_some_iff.1 ha).1
  have hl : i < (agC n w).length := by rw [z3C]; omega
  unfold memN pm
  dsimp only
  constructor
  · rw [List.append_assoc, List.getElem?_append_left hl, z60, ha]; rfl
  · rw [List.append_assoc, List.set_append_left _ _ hl, zcF ha hs]
    simp [z3C]
theorem zaP {n : D.Net} {size t : Nat} {w w' : D.Port → D.Word} {R R' : D.Word} : (memN n size w t R).Free = (memN n size w' t R').Free := by
  unfold memN pm
  simp [z3C]
end Go.E

