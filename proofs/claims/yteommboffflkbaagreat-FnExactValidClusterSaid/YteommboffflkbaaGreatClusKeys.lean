/- Clusters: the statements of parcels, at both sides, and what they count. Conditions: none. -/
import Derived.Test.YteommboffflkbaaGreatGridSame
namespace Go.E
open Go.RowKit Go.Proofs
set_option linter.unusedSimpArgs false
set_option linter.unusedVariables false

def cellsOf : List D.Parcel → List D.ShardCell
  | [] => []
  | p :: ps => if p.Kind = 3 then p.Cell :: cellsOf ps else cellsOf ps
def stepC (p : D.Parcel) : Nat := if p.Kind = 3 then 1 else 0

def parK (j : Nat) (p : D.Parcel) : List Key := if p.Kind = 1 ∨ p.Kind = 2 then [keyA p.A, keyA p.B] else if p.Kind = 3 then cellS 3 0 j p.Cell ++ [(3, 0, j, 0), keyA p.B] else []
def parS : Nat → List D.Parcel → List Key
  | _, [] => []
  | j, p :: ps => parK j p ++ parS (j + stepC p) ps
def parA (g : D.Grid) (p : D.Parcel) : Bool := if p.Kind = 1 ∨ p.Kind = 2 then aliveN g p.A && aliveN g p.B else if p.Kind = 3 then p.Cell.Aux.all (aliveN g) && aliveN g p.B else true
def auxTA (at_ : D.Address) (k : Nat) (a : D.Address) : List D.statement := [⟨⟨at_, (k : Int) + 1, true⟩, thA a⟩]
def parT (ch i : Nat) (p : D.Parcel) : List D.statement := if p.Kind = 1 ∨ p.Kind = 2 then [⟨thA p.A, thA p.B⟩] else if p.Kind = 3 then fl (auxTA ⟨(ch : Int), 3, (i : Int)⟩) p.Cell.Aux p.Cell.Aux.length ++ [⟨⟨⟨(ch : Int), 3, (i : Int)⟩, 0, true⟩, thA p.B⟩] else []
def chanT (ch : Nat) (ps : List D.Parcel) : List D.statement := fl (parT ch) ps ps.length
def chansT (cs : List (List D.Parcel)) : List D.statement := fl chanT cs cs.length

theorem z4Z {p : D.Parcel} {ps : List D.Parcel} : cellsOf (p :: ps) = if p.Kind = 3 then p.Cell :: cellsOf ps else cellsOf ps := rfl
theorem z7D {p : D.Parcel} {ps : List D.Parcel} {j : Nat} : parS j (p :: ps) = parK j p ++ parS (j + stepC p) ps := rfl
theorem z63 : ∀ {ps qs : List D.Parcel}, cellsOf (ps ++ qs) = cellsOf ps ++ cellsOf qs
  | [], _ => rfl
  | p :: ps, qs => by
    rw [List.cons_append, z4Z, z4Z, z63]
    split <;> rfl
theorem z8H : ∀ {ps qs : List D.Parcel} {j : Nat}, parS j (ps ++ qs) = parS j ps ++ parS (j + (cellsOf ps).length) qs
  | [], _, _ => rfl
  | p :: ps, qs, j => by
    rw [List.cons_append, z7D, z7D, z8H, List.append_assoc, z4Z]
    congr 3
    unfold stepC
    split
    · rw [List.length_cons]; omega
    · omega
theorem zgt {p : D.Parcel} {j : Nat} : parS j [p] = parK j p := by simp [parS]
theorem zak {a : D.Address} : (keyA a).1 ≠ 3 := by unfold keyA; split <;> simp
theorem zhk {p : D.Parcel} {j : Nat} (h : p.Kind = 3 → p.Cell.Aux.length ≤ 3) : (parK j p).length ≤ 8 := by
  unfold parK
  split
  · simp
  · split
    · rename_i h3
      have := zbS (t := 3) (m := 0) (i := j) (h h3)
      rw [List.length_append]
      simp only [List.length_cons, List.length_nil]
      omega
    · simp
theorem zew : ∀ {ps : List D.Parcel} {j : Nat}, (∀ p, p ∈ ps → p.Kind = 3 → p.Cell.Aux.length ≤ 3) → (parS j ps).length ≤ 8 * ps.length
  | [], _, _ => by simp [parS]
  | p :: ps, j, h => by
    have h1 := zhk (j := j) (h p (by simp))
    have h2 := zew (ps := ps) (j := j + stepC p) fun q hq => h q (by simp [hq])
    rw [z7D, List.length_append, List.length_cons]
    omega


theorem zhG {g : D.Grid} {ch i : Nat} {p : D.Parcel} : (parT ch i p).all (okT g) = parA g p := by
  unfold parT parA
  split
  · simp [okT, okTh, thA]
  · split
    · rw [List.all_append, z6X, ← z5v (p := aliveN g)]
      congr 1
      · congr 1
        funext x
        simp [auxTA, okT, okTh, thA]
      · simp [okT, okTh, thA]
    · rfl
theorem zht {g : D.Grid} {ch : Nat} {ps : List D.Parcel} : (chanT ch ps).all (okT g) = ps.all (parA g) := by
  unfold chanT
  rw [z6X, ← z5v (p := parA g)]
  congr 1
  funext x
  exact zhG
theorem zdp {g : D.Grid} {cs : List (List D.Parcel)} : (chansT cs).all (okT g) = cs.flatten.all (parA g) := by
  unfold chansT
  rw [z6X, List.all_flatten, ← z5v (p := fun ps : List D.Parcel => ps.all (parA g))]
  congr 1
  funext x
  exact zht
theorem zgL {ch i : Nat} {p : D.Parcel} : (parT ch i p).all formT = true := by
  unfold parT
  split
  · simp [formT, formH, thA]
  · split
    · rw [List.all_append, z6X, Bool.and_eq_true, List.all_eq_true]
      exact ⟨fun x _ => by simp [auxTA, formT, formH, thA], by simp [formT, formH, thA]⟩
    · rfl
theorem ze2 {cs : List (List D.Parcel)} : (chansT cs).all formT = true := by
  unfold chansT
  rw [z6X, List.all_eq_true]
  intro x _
  unfold chanT
  rw [z6X, List.all_eq_true]
  intro y _
  exact zgL


theorem zdt {α β γ : Type} [BEq β] [BEq γ] {f : Nat → α → List β} {h : Nat → α → List γ} {xs : List α} {y : β} {z : γ} (e : ∀ i x, (f i x).count y = (h i x).count z) : ∀ n, n ≤ xs.length → (fl f xs n).count y = (fl h xs n).count z
  | 0, _ => by rw [z6Q, z6Q]; rfl
  | n + 1, hn => by
    obtain ⟨x, hx⟩ := z52 (xs := xs) (i := n) (by omega)
    rw [z6B hx, z6B hx, List.count_append, List.count_append, zdt e n (by omega), e n x]
theorem z9L {x : Key} {K m n : Nat} (h : x.1 ≠ K) : ([x] : List Key).count (K, m, n, 0) = 0 := by
  rw [List.count_eq_zero, List.mem_singleton]
  intro e
  rw [← e] at h
  exact h rfl
theorem zgs {ch i j K m n : Nat} {p : D.Parcel} (hK : K = 1 ∨ K = 2) : ((parT ch i p).flatMap keysT).count (K, m, n, 0) = (parK j p).count (K, m, n, 0) := by
  unfold parT parK
  split
  · rfl
  · split
    · rw [List.flatMap_append, z8h, List.count_append, List.count_append]
      congr 1
      · unfold cellS
        refine zdt (fun k a => ?_) _ (Nat.le_refl _)
        have h1 : ((auxTA ⟨(ch : Int), 3, (i : Int)⟩ k a).flatMap keysT) = [(0, 0, 0, 0)] ++ [keyA a] := by simp [auxTA, keysT, kT, thA]
        have h2 : auxK 3 0 j k a = [(3, 0, j, k + 1)] ++ [keyA a] := rfl
        rw [h1, h2, List.count_append, List.count_append, z9L (x := (0, 0, 0, 0)) (by dsimp only; omega), z9L (x := (3, 0, j, k + 1)) (by dsimp only; omega)]
      · have h1 : ([⟨⟨⟨(ch : Int), 3, (i : Int)⟩, 0, true⟩, thA p.B⟩] : List D.statement).flatMap keysT = [(0, 0, 0, 0)] ++ [keyA p.B] := by simp [keysT, kT, thA]
        have h2 : ([(3, 0, j, 0), keyA p.B] : List Key) = [(3, 0, j, 0)] ++ [keyA p.B] := rfl
        rw [h1, h2, List.count_append, List.count_append, z9L (x := (0, 0, 0, 0)) (by dsimp only; omega), z9L (x := (3, 0, j, 0)) (by dsimp only; omega)]
    · rfl
theorem zcJ {ch K m n : Nat} (hK : K = 1 ∨ K = 2) : ∀ {ps : List D.Parcel} {j i : Nat}, ((ps.zipIdx i).flatMap fun x => (parT ch x.2 x.1).flatMap keysT).count (K, m, n, 0) = (parS j ps).count (K, m, n, 0)
  | [], _, _ => rfl
  | p :: ps, j, i => by
    rw [List.zipIdx_cons, List.flatMap_cons, List.count_append, zcJ (ps := ps) (j := j + stepC p) hK, zgs (j := j) hK]
    rw [z7D, List.count_append]
theorem zbn {K m n : Nat} (hK : K = 1 ∨ K = 2) : ∀ {cs : List (List D.Parcel)} {j i : Nat}, ((cs.zipIdx i).flatMap fun x => (chanT x.2 x.1).flatMap keysT).count (K, m, n, 0) = (parS j cs.flatten).count (K, m, n, 0)
  | [], _, _ => rfl
  | ps :: cs, j, i => by
    rw [List.zipIdx_cons, List.flatMap_cons, List.count_append, zbn (cs := cs) (j := j + (cellsOf ps).length) hK, List.flatten_cons, z8H, List.count_append]
    congr 1
    unfold chanT
    rw [z8h]
    unfold fl
    rw [List.take_length]
    exact zcJ hK
theorem zdy {K m n : Nat} {cs : List (List D.Parcel)} (hK : K = 1 ∨ K = 2) : ((chansT cs).flatMap keysT).count (K, m, n, 0) = (parS 0 cs.flatten).count (K, m, n, 0) := by
  unfold chansT
  rw [z8h]
  unfold fl
  rw [List.take_length]
  exact zbn hK


theorem z96 {t m i k : Nat} {a : D.Address} {X : Key} (hX : ∀ a, keyA a ≠ X) : (auxK t m i k a).count X = if (t, m, i, k + 1) = X then 1 else 0 := by
  unfold auxK
  rw [show [((t, m, i, k + 1) : Key), keyA a] = [(t, m, i, k + 1)] ++ [keyA a] from rfl, List.count_append, List.count_singleton, List.count_singleton, if_neg (c := (keyA a == X) = true) (by simpa using hX a)]
  simp
theorem ze1 {g : D.Grid} {X : Key} (h3 : X.1 = 3) : (gridS g).count X = 0 := by
  have hX : ∀ a, keyA a ≠ X := fun a h => zak (a := a) (by rw [h]; exact h3)
  have hr : (rootS g).count X = 0 := by
    unfold rootS
    rw [List.count_eq_zero]
    simp only [List.mem_cons, List.not_mem_nil, or_false]
    rintro (h | h)
    · rw [h] at h3; simp at h3
    · exact hX _ h.symm
  unfold gridS
  rw [List.count_append, hr, z4t (fun m s _ => ?_) _ (Nat.le_refl _)]
  unfold shardS
  rw [List.count_append, List.count_append, z4t (fun i c _ => ?_) _ (Nat.le_refl _), z4t (fun i c _ => zbz hX) _ (Nat.le_refl _), z4t (fun i c _ => z9M hX (fun h => by rw [← h] at h3; simp at h3)) _ (Nat.le_refl _)]
  unfold cellS
  exact z4t (fun k a _ => by rw [z96 hX, if_neg (fun h => by rw [← h] at h3; simp at h3)]) _ (Nat.le_refl _)
theorem zcd {p : D.Parcel} {j : Nat} {X : Key} (hX : ∀ a, keyA a ≠ X) (h : X.1 = 3 → X.2.2.1 ≠ j) : (parK j p).count X = 0 := by
  have pair : ∀ k : Key, k ≠ X → ∀ a, ([k, keyA a] : List Key).count X = 0 := fun k hk a => by
    rw [List.count_eq_zero]
    simp only [List.mem_cons, List.not_mem_nil, or_false]
    rintro (h | h)
    · exact hk h.symm
    · exact hX _ h.symm
  unfold parK
  split
  · exact pair _ (hX _) _
  · split
    · rw [List.count_append, pair _ (fun e => by rw [← e] at h; exact h rfl rfl)]
      unfold cellS
      rw [z4t (fun k a _ => ?_) _ (Nat.le_refl _)]
      rw [z96 hX, if_neg (fun e => by rw [← e] at h; exact h rfl rfl)]
    · rfl
theorem z8Y {X : Key} (hX : ∀ a, keyA a ≠ X) : ∀ {ps : List D.Parcel} {j : Nat}, (X.1 = 3 → X.2.2.1 < j) → (parS j ps).count X = 0
  | [], _, _ => rfl
  | p :: ps, j, h => by
    rw [z7D, List.count_append, zcd hX (fun h3 => Nat.ne_of_lt (h h3)), z8Y hX fun h3 => Nat.lt_of_lt_of_le (h h3) (Nat.le_add_right _ _)]
theorem zgu {p : D.Parcel} {j s : Nat} (h3 : p.Kind = 3) (hs : s ≤ p.Cell.Aux.length) : (parK j p).count (3, 0, j, s) = 1 := by
  have hX : ∀ a, keyA a ≠ (3, 0, j, s) := fun a h => zak (a := a) (by rw [h])
  unfold parK
  rw [if_neg (by omega), if_pos h3, List.count_append, show ([(3, 0, j, 0), keyA p.B] : List Key) = [(3, 0, j, 0)] ++ [keyA p.B] from rfl, List.count_append, List.count_singleton, List.count_singleton, if_neg (c := (keyA p.B == (3, 0, j, s)) = true) (by simpa using hX p.B)]
  unfold cellS
  cases s with
  | zero =>
    rw [z4t (fun k a _ => by rw [z96 hX, if_neg (by simp)]) _ (Nat.le_refl _), if_pos (by simp)]
  | succ s =>
    obtain ⟨a, ha⟩ := z52 (xs := p.Cell.Aux) (i := s) (by omega)
    rw [zck ha (fun k' a' hne _ => ?_) _ (Nat.le_refl _), if_pos (by omega), z96 hX, if_pos rfl, if_neg (by simp)]
    rw [z96 hX, if_neg (by simp only [Prod.mk.injEq]; omega)]
theorem zbB : ∀ {ps : List D.Parcel} {j t s : Nat} {c : D.ShardCell}, (cellsOf ps)[t]? = some c → s ≤ c.Aux.length → (parS j ps).count (3, 0, j + t, s) = 1
  | [], _, _, _, _, h, _ => by simp [cellsOf] at h
  | p :: ps, j, t, s, c, h, hs => by
    have hX : ∀ a, keyA a ≠ (3, 0, j + t, s) := fun a h => zak (a := a) (by rw [h])
    rw [z7D, List.count_append]
    rw [z4Z] at h
    by_cases h3 : p.Kind = 3
    · rw [if_pos h3] at h
      have hst : stepC p = 1 := by unfold stepC; rw [if_pos h3]
      rw [hst]
      cases t with
      | zero =>
        rw [List.getElem?_cons_zero, Option.some.injEq] at h
        subst h
        rw [Nat.add_zero] at hX ⊢
        rw [zgu h3 hs, z8Y hX (fun _ => Nat.lt_succ_self j)]
      | succ t =>
        rw [List.getElem?_cons_succ] at h
        rw [zcd hX (fun _ => by simp), show j + (t + 1) = (j + 1) + t by omega, zbB h hs]
    · rw [if_neg h3] at h
      have hst : stepC p = 0 := by unfold stepC; rw [if_neg h3]
      have hk : (parK j p).count (3, 0, j + t, s) = 0 := by
        unfold parK
        split
        · rw [List.count_eq_zero]
          simp only [List.mem_cons, List.not_mem_nil, or_false]
          rintro (h | h) <;> exact hX _ h.symm
        · rfl
      rw [hst, hk, Nat.add_zero, Nat.zero_add, zbB h hs]
theorem zgn {cs : List D.ShardCell} {k : Key} : k ∈ rowK 3 0 cs ↔ ∃ (i : Nat) (c : D.ShardCell) (j : Nat), cs[i]? = some c ∧ c.Kind ≠ 0 ∧ j ≤ c.Aux.length ∧ k = (3, 0, i, j) := by
  unfold rowK
  rw [List.mem_flatMap]
  constructor
  · rintro ⟨⟨c, i⟩, h3, h4⟩
    rw [List.mem_zipIdx_iff_getElem?] at h3
    dsimp only at h3 h4
    unfold cellK at h4
    split at h4
    · cases h4
    · rename_i k0
      obtain ⟨j, h5, rfl⟩ := List.mem_map.1 h4
      have := List.mem_range.1 h5
      exact ⟨i, c, j, h3, k0, by omega, rfl⟩
  · rintro ⟨i, c, j, h2, h3, h4, rfl⟩
    refine ⟨(c, i), by rw [List.mem_zipIdx_iff_getElem?]; exact h2, ?_⟩
    dsimp only
    unfold cellK
    rw [if_neg h3]
    exact List.mem_map.2 ⟨j, List.mem_range.2 (by omega), rfl⟩
theorem zd8 {g : D.Grid} {P : List D.Parcel} : countsN g (cellsOf P) (gridS g ++ parS 0 P) = true ↔ ∀ (m : Nat) s, g.Shards[m]? = some s → (∀ (i : Nat) c, s.Cells[i]? = some c → c.Kind = 0 ∨ (gridS g ++ parS 0 P).count (1, m, i, 0) = 1) ∧ ∀ (i : Nat) v, s.Vars[i]? = some v → v.Used = false ∨ (gridS g ++ parS 0 P).count (2, m, i, 0) = 2 := by
  unfold countsN
  rw [Bool.and_eq_true, List.all_eq_true, z64 (p := fun m s => varC (gridS g ++ parS 0 P) m s)]
  constructor
  · rintro ⟨h1, h2⟩ m s hm
    refine ⟨fun i c hc => ?_, fun i v hv => ?_⟩
    · by_cases k0 : c.Kind = 0
      · exact .inl k0
      · have := h1 (1, m, i, 0) (List.mem_append.2 (.inl (zcb.2 (.inr ⟨m, s, i, c, 0, hm, hc, k0, Nat.zero_le _, rfl⟩))))
        exact .inr (by simpa only [decide_eq_true_eq] using this)
    · have h3 := h2 m s hm
      unfold varC at h3
      rw [Nat.zero_add] at h3
      have h4 := (z64 (p := fun i (v : D.ShardVar) => !v.Used || decide ((gridS g ++ parS 0 P).count (2, m, i, 0) = 2))).1 h3 i v hv
      rw [Nat.zero_add] at h4
      cases hu : v.Used with
      | false => exact .inl rfl
      | true => rw [hu, Bool.not_true, Bool.false_or, decide_eq_true_eq] at h4; exact .inr h4
  · intro h
    refine ⟨fun k hk => ?_, fun m s hm => ?_⟩
    · rcases List.mem_append.1 hk with hk | hk
      · rcases zcb.1 hk with rfl | ⟨m, s, i, c, j, h1, h2, h3, h4, rfl⟩
        · refine decide_eq_true ?_
          rw [List.count_append, zgo, z8Y (fun a h => zeG (a := a) (by rw [h])) (fun h => by simp at h)]
        · cases j with
          | zero => exact decide_eq_true (((h m s h1).1 i c h2).resolve_left h3)
          | succ j =>
            refine decide_eq_true ?_
            rw [List.count_append, zgr h1 h2 (by omega), z8Y (fun a h => by have := zdr (a := a); rw [h] at this; exact absurd this (Nat.succ_ne_zero j)) (fun h => by simp at h)]
      · obtain ⟨i, c, j, h2, h3, h4, rfl⟩ := zgn.1 hk
        refine decide_eq_true ?_
        have := zbB (j := 0) h2 h4
        rw [Nat.zero_add] at this
        rw [List.count_append, ze1 rfl, this]
    · unfold varC
      refine (z64 (p := fun i (v : D.ShardVar) => !v.Used || decide ((gridS g ++ parS 0 P).count (2, 0 + m, i, 0) = 2))).2 fun i v hv => ?_
      rw [Nat.zero_add, Nat.zero_add]
      rcases (h m s hm).2 i v hv with h1 | h1
      · rw [h1]; rfl
      · rw [decide_eq_true h1, Bool.or_true]
theorem zg2 {g : D.Grid} {cs : List (List D.Parcel)} : (gridA g && (cs.flatten.all (parA g) && countsN g (cellsOf cs.flatten) (gridS g ++ parS 0 cs.flatten))) = implN g (gridT g ++ chansT cs) := by
  unfold implN
  rw [List.all_append, zey, zdp]
  cases hA : gridA g with
  | false => rfl
  | true =>
    cases hB : cs.flatten.all (parA g) with
    | false => rfl
    | true =>
      simp only [Bool.true_and]
      rw [Bool.eq_iff_iff, zd8, zgJ]
      have hk : (gridT g ++ chansT cs).all (okT g) = true := by rw [List.all_append, zey, zdp, hA, hB]; rfl
      have hfo : (gridT g ++ chansT cs).all formT = true := by rw [List.all_append, zeJ, ze2]; rfl
      have hc := fun m i => zaA (g := g) (K := 1) (.inl rfl) m i hk hfo
      have hv := fun m i => zaA (g := g) (K := 2) (.inr rfl) m i hk hfo
      simp only [List.flatMap_append, List.count_append, zeD] at hc hv
      have ec : ∀ m i, (gridS g ++ parS 0 cs.flatten).count (1, m, i, 0) = (namesK (gridT g ++ chansT cs)).count ⟨(m : Int), 1, (i : Int)⟩ := fun m i => by
        rw [zbi, List.flatMap_append, List.count_append, List.count_append, ← zdy (.inl rfl)]
        exact hc m i
      have ev : ∀ m i, (gridS g ++ parS 0 cs.flatten).count (2, m, i, 0) = (namesK (gridT g ++ chansT cs)).count ⟨(m : Int), 2, (i : Int)⟩ := fun m i => by
        rw [zbi, List.flatMap_append, List.count_append, List.count_append, ← zdy (.inr rfl)]
        exact hv m i
      refine forall_congr' fun m => forall_congr' fun s => ?_
      refine imp_congr_right fun hm => and_congr (forall_congr' fun i => forall_congr' fun c => ?_) (forall_congr' fun i => forall_congr' fun c => ?_)
      · rw [ec m i]
      · rw [ev m i]
end Go.E

