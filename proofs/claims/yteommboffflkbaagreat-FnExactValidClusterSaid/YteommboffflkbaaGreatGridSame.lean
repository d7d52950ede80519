/- Grids: both sides' tests are the same. Conditions: none. -/
import Derived.Test.YteommboffflkbaaGreatGridImpl
namespace Go.E
open Go.RowKit Go.Proofs
set_option linter.unusedSimpArgs false
set_option linter.unusedVariables false

theorem z6X {α β : Type} {f : Nat → α → List β} {xs : List α} {p : β → Bool} : (fl f xs xs.length).all p = xs.zipIdx.all fun x => (f x.2 x.1).all p := by
  unfold fl
  rw [List.take_length, List.all_flatMap]
theorem z8h {α β γ : Type} {f : Nat → α → List β} {xs : List α} {h : β → List γ} {n : Nat} : (fl f xs n).flatMap h = fl (fun i x => (f i x).flatMap h) xs n := by
  unfold fl
  rw [List.flatMap_assoc]
theorem zdi {α γ : Type} {h : α → List γ} : ∀ {xs : List α} {k : Nat}, ((xs.zipIdx k).flatMap fun x => h x.1) = xs.flatMap h
  | [], _ => rfl
  | x :: xs, k => by rw [List.zipIdx_cons, List.flatMap_cons, List.flatMap_cons, zdi]
theorem zbi {T : List D.statement} : namesK T = T.flatMap namesT := by
  unfold namesK fl
  rw [List.take_length]
  exact zdi
theorem z9O {α β : Type} {f f' : Nat → α → List β} {xs : List α} {n : Nat} (h : ∀ i x, f i x = f' i x) : fl f xs n = fl f' xs n := by
  have : f = f' := funext fun i => funext fun x => h i x
  rw [this]


theorem zhu {g : D.Grid} {m i : Nat} {c : D.ShardCell} : (cellT m i c).all (okT g) = c.Aux.all (aliveN g) := by
  unfold cellT
  rw [z6X, ← z5v (p := aliveN g)]
  congr 1
  funext x
  simp [auxT, okT, okTh, thA]
theorem zhs {g : D.Grid} {m i : Nat} {v : D.ShardVar} : (fullT m i v).all (okT g) = fullA g m i v := by
  unfold fullT fullA
  cases v.Full <;> simp [okT, okTh, thA]
theorem zgE {g : D.Grid} {m : Nat} {s : D.Shard} : (shardT m s).all (okT g) = shardA g m s := by
  unfold shardT shardA
  rw [List.all_append, List.all_append, z6X, z6X, z6X]
  simp only [zhu, zhs]
  rw [z5v (p := fun c : D.ShardCell => c.Aux.all (aliveN g))]
  congr 2
  rw [← z5v (p := fun r : D.ShardRedex => aliveN g r.A && aliveN g r.B)]
  congr 1
  funext x
  simp [redT, okT, okTh, thA]
theorem zey {g : D.Grid} : (gridT g).all (okT g) = gridA g := by
  unfold gridT gridA rootT
  rw [List.all_append, z6X]
  simp only [zgE]
  simp [okT, okTh, thA]


def kT (t : D.thing) : Key := if t.own = true then (if t.at_.Kind = 1 then (1, t.at_.Machine.toNat, t.at_.Index.toNat, t.slot.toNat) else (0, 0, 0, 0)) else keyA t.at_
def keysT (st : D.statement) : List Key := [kT st.a, kT st.b]
def formH (t : D.thing) : Bool := !t.own || (decide (t.at_.Kind ≠ 1) || decide (0 < t.slot))
def formT (st : D.statement) : Bool := formH st.a && formH st.b
theorem zeF {m i : Nat} {c : D.ShardCell} : (cellT m i c).flatMap keysT = cellS 1 m i c := by
  unfold cellT cellS
  rw [z8h]
  refine z9O fun k a => ?_
  unfold auxT auxK keysT kT thA
  simp
theorem zeE {m i : Nat} {v : D.ShardVar} : (fullT m i v).flatMap keysT = fullK m i v := by
  unfold fullT fullK
  cases v.Full with
  | false => rfl
  | true => simp [keysT, kT, thA, keyA]
theorem ze0 {m : Nat} {s : D.Shard} : (shardT m s).flatMap keysT = shardS m s := by
  unfold shardT shardS
  rw [List.flatMap_append, List.flatMap_append, z8h, z8h, z8h, z9O (fun i c => zeF (m := m) (i := i) (c := c)), z9O (fun i c => zeE (m := m) (i := i) (v := c))]
  congr 2
theorem zeD {g : D.Grid} : (gridT g).flatMap keysT = gridS g := by
  unfold gridT gridS
  rw [List.flatMap_append, z8h, z9O (fun i c => ze0 (m := i) (s := c))]
  rfl
theorem zeJ {g : D.Grid} : (gridT g).all formT = true := by
  unfold gridT rootT
  rw [List.all_append, z6X]
  have hc : ∀ m i c, (cellT m i c).all formT = true := fun m i c => by
    unfold cellT
    rw [z6X, List.all_eq_true]
    intro x _
    simp [auxT, formT, formH, thA]
  have hs : ∀ m s, (shardT m s).all formT = true := fun m s => by
    unfold shardT
    rw [List.all_append, List.all_append, z6X, z6X, z6X]
    rw [Bool.and_eq_true, Bool.and_eq_true, List.all_eq_true, List.all_eq_true, List.all_eq_true]
    refine ⟨fun x _ => hc _ _ _, fun x _ => by simp [redT, formT, formH, thA], fun x _ => ?_⟩
    unfold fullT
    split <;> simp [formT, formH, thA]
  rw [Bool.and_eq_true]
  exact ⟨by simp [formT, formH, thA, noneN], List.all_eq_true.2 fun x _ => hs _ _⟩
theorem zhf {g : D.Grid} {t : D.thing} {K : Nat} (hK : K = 1 ∨ K = 2) (h : okTh g t = true) (hf : formH t = true) (m i : Nat) : [kT t].count (K, m, i, 0) = (nameT t).count ⟨(m : Int), (K : Int), (i : Int)⟩ := by
  unfold okTh at h
  unfold formH at hf
  unfold nameT kT
  cases ho : t.own with
  | true =>
    rw [ho] at hf
    rw [if_pos rfl, if_pos rfl, List.count_singleton]
    by_cases k1 : t.at_.Kind = 1
    · rw [if_pos k1]
      have h2 : 0 < t.slot := by simpa [k1] using hf
      rw [if_neg]
      · rfl
      · intro he
        simp only [beq_iff_eq, Prod.mk.injEq] at he
        omega
    · rw [if_neg k1, if_neg]
      · rfl
      · intro he
        simp only [beq_iff_eq, Prod.mk.injEq] at he
        omega
  | false =>
    rw [ho, Bool.false_or] at h
    obtain ⟨h1, h2, s, _, h3⟩ := zaG h
    have hk : t.at_.Kind = 1 ∨ t.at_.Kind = 2 := by
      rcases h3 with ⟨h3, _⟩ | ⟨h3, _⟩
      · exact .inl h3
      · exact .inr h3
    rw [if_neg (by simp), if_neg (by simp), List.count_singleton, List.count_singleton]
    generalize t.at_ = a at *
    obtain ⟨a1, a2, a3⟩ := a
    dsimp only at *
    unfold keyA
    dsimp only
    have e : (((if a2 = 1 then (1, a1.toNat, a3.toNat, 0) else (2, a1.toNat, a3.toNat, 0)) : Key) == (K, m, i, 0)) = ((⟨a1, a2, a3⟩ : D.Address) == ⟨(m : Int), (K : Int), (i : Int)⟩) := by
      rw [Bool.eq_iff_iff, beq_iff_eq, beq_iff_eq, D.Address.mk.injEq]
      constructor
      · intro he
        split at he
        · simp only [Prod.mk.injEq] at he
          omega
        · simp only [Prod.mk.injEq] at he
          omega
      · rintro ⟨e1, e2, e3⟩
        split
        · obtain rfl : K = 1 := by omega
          simp [e1, e3]
        · obtain rfl : K = 2 := by omega
          simp [e1, e3]
    rw [e]
theorem zaA {g : D.Grid} {K : Nat} (hK : K = 1 ∨ K = 2) (m i : Nat) : ∀ {T : List D.statement}, T.all (okT g) = true → T.all formT = true → (T.flatMap keysT).count (K, m, i, 0) = (T.flatMap namesT).count ⟨(m : Int), (K : Int), (i : Int)⟩
  | [], _, _ => rfl
  | st :: T, h1, h2 => by
    rw [List.all_cons, Bool.and_eq_true] at h1 h2
    unfold okT at h1
    unfold formT at h2
    rw [Bool.and_eq_true] at h1 h2
    have a := zhf hK h1.1.1 h2.1.1 m i
    have b := zhf hK h1.1.2 h2.1.2 m i
    rw [List.flatMap_cons, List.flatMap_cons, List.count_append, List.count_append, zaA hK m i h1.2 h2.2]
    congr 1
    unfold keysT namesT
    rw [show [kT st.a, kT st.b] = [kT st.a] ++ [kT st.b] from rfl, List.count_append, List.count_append, a, b]


theorem z4t {α β : Type} [BEq β] [LawfulBEq β] {f : Nat → α → List β} {xs : List α} {y : β} (h : ∀ (i : Nat) x, xs[i]? = some x → (f i x).count y = 0) : ∀ n, n ≤ xs.length → (fl f xs n).count y = 0
  | 0, _ => by rw [z6Q]; rfl
  | n + 1, hn => by
    obtain ⟨x, hx⟩ := z52 (xs := xs) (i := n) (by omega)
    rw [z6B hx, List.count_append, z4t h n (by omega), h n x hx]
theorem zck {α β : Type} [BEq β] [LawfulBEq β] {f : Nat → α → List β} {xs : List α} {y : β} {j : Nat} {a : α} (ha : xs[j]? = some a) (h : ∀ (i : Nat) x, i ≠ j → xs[i]? = some x → (f i x).count y = 0) : ∀ n, n ≤ xs.length → (fl f xs n).count y = if j < n then (f j a).count y else 0
  | 0, _ => by rw [z6Q]; rfl
  | n + 1, hn => by
    obtain ⟨x, hx⟩ := z52 (xs := xs) (i := n) (by omega)
    rw [z6B hx, List.count_append, zck ha h n (by omega)]
    by_cases hj : n = j
    · subst hj
      rw [ha] at hx
      cases hx
      rw [if_neg (Nat.lt_irrefl _), if_pos (Nat.lt_succ_self _), Nat.zero_add]
    · rw [h n x hj hx, Nat.add_zero]
      by_cases hl : j < n
      · rw [if_pos hl, if_pos (by omega)]
      · rw [if_neg hl, if_neg (by omega)]
theorem zaF {m i k : Nat} {a : D.Address} {X : Key} (hX : ∀ a, keyA a ≠ X) : (auxK 1 m i k a).count X = if (1, m, i, k + 1) = X then 1 else 0 := by
  unfold auxK
  rw [show [((1, m, i, k + 1) : Key), keyA a] = [(1, m, i, k + 1)] ++ [keyA a] from rfl, List.count_append, List.count_singleton, List.count_singleton, if_neg (c := (keyA a == X) = true) (by simpa using hX a)]
  simp
theorem zbz {i : Nat} {r : D.ShardRedex} {X : Key} (hX : ∀ a, keyA a ≠ X) : (redK i r).count X = 0 := by
  unfold redK
  rw [List.count_eq_zero]
  simp only [List.mem_cons, List.not_mem_nil, or_false]
  rintro (h | h) <;> exact hX _ h.symm
theorem z9M {m i : Nat} {v : D.ShardVar} {X : Key} (hX : ∀ a, keyA a ≠ X) (h2 : (2, m, i, 0) ≠ X) : (fullK m i v).count X = 0 := by
  unfold fullK
  split
  · rw [List.count_eq_zero]
    simp only [List.mem_cons, List.not_mem_nil, or_false]
    rintro (h | h)
    · exact h2 h.symm
    · exact hX _ h.symm
  · rfl
theorem zeG {a : D.Address} : (keyA a).1 ≠ 0 := by unfold keyA; split <;> simp
theorem zdr {a : D.Address} : (keyA a).2.2.2 = 0 := by unfold keyA; split <;> rfl
theorem zgo {g : D.Grid} : (gridS g).count (0, 0, 0, 0) = 1 := by
  have hX : ∀ a, keyA a ≠ (0, 0, 0, 0) := fun a h => zeG (a := a) (by rw [h])
  unfold gridS rootS
  rw [List.count_append, z4t (fun m s _ => ?_) _ (Nat.le_refl _)]
  · rw [show [((0, 0, 0, 0) : Key), keyA g.Root] = [(0, 0, 0, 0)] ++ [keyA g.Root] from rfl, List.count_append, List.count_singleton, List.count_singleton, if_neg (c := (keyA g.Root == (0, 0, 0, 0)) = true) (by simpa using hX g.Root)]
    rfl
  · unfold shardS
    rw [List.count_append, List.count_append, z4t (fun i c _ => ?_) _ (Nat.le_refl _), z4t (fun i c _ => zbz hX) _ (Nat.le_refl _), z4t (fun i c _ => z9M hX (by simp)) _ (Nat.le_refl _)]
    unfold cellS
    exact z4t (fun k a _ => by rw [zaF hX, if_neg (by simp)]) _ (Nat.le_refl _)
theorem zgr {g : D.Grid} {m i k : Nat} {s : D.Shard} {c : D.ShardCell} (hm : g.Shards[m]? = some s) (hc : s.Cells[i]? = some c) (hk : k < c.Aux.length) : (gridS g).count (1, m, i, k + 1) = 1 := by
  have hX : ∀ a, keyA a ≠ (1, m, i, k + 1) := fun a h => by
    have := zdr (a := a)
    rw [h] at this
    exact absurd this (Nat.succ_ne_zero k)
  have hml := (List.getElem?_eq_some_iff.1 hm).1
  have hil := (List.getElem?_eq_some_iff.1 hc).1
  obtain ⟨a, ha⟩ := z52 hk
  have h0 : (rootS g).count (1, m, i, k + 1) = 0 := by
    unfold rootS
    rw [List.count_eq_zero]
    simp only [List.mem_cons, List.not_mem_nil, or_false]
    rintro (h | h)
    · simp at h
    · exact hX _ h.symm
  unfold gridS
  rw [List.count_append, h0, Nat.zero_add, zck hm (fun m' s' hne _ => ?_) _ (Nat.le_refl _), if_pos hml]
  · unfold shardS
    rw [List.count_append, List.count_append, z4t (f := redK) (fun i c _ => zbz hX) _ (Nat.le_refl _), z4t (f := fullK m) (fun i c _ => z9M hX (by simp)) _ (Nat.le_refl _), zck hc (fun i' c' hne _ => ?_) _ (Nat.le_refl _), if_pos hil]
    · unfold cellS
      rw [zck ha (fun k' a' hne _ => ?_) _ (Nat.le_refl _), if_pos hk, zaF hX, if_pos rfl]
      rw [zaF hX, if_neg (by simp only [Prod.mk.injEq]; omega)]
    · unfold cellS
      exact z4t (fun k' a' _ => by rw [zaF hX, if_neg (by simp only [Prod.mk.injEq]; omega)]) _ (Nat.le_refl _)
  · unfold shardS
    rw [List.count_append, List.count_append, z4t (f := redK) (fun i c _ => zbz hX) _ (Nat.le_refl _), z4t (f := fullK m') (fun i c _ => z9M hX (by simp)) _ (Nat.le_refl _), z4t (fun i' c' _ => ?_) _ (Nat.le_refl _)]
    unfold cellS
    exact z4t (fun k' a' _ => by rw [zaF hX, if_neg (by simp only [Prod.mk.injEq]; omega)]) _ (Nat.le_refl _)
theorem zcb {ss : List D.Shard} {k : Key} : k ∈ portK ss ↔ k = (0, 0, 0, 0) ∨ ∃ (m : Nat) (s : D.Shard) (i : Nat) (c : D.ShardCell) (j : Nat), ss[m]? = some s ∧ s.Cells[i]? = some c ∧ c.Kind ≠ 0 ∧ j ≤ c.Aux.length ∧ k = (1, m, i, j) := by
  unfold portK
  rw [List.mem_cons, List.mem_flatMap]
  constructor
  · rintro (h | ⟨⟨s, m⟩, h1, h2⟩)
    · exact .inl h
    · rw [List.mem_zipIdx_iff_getElem?] at h1
      unfold rowK at h2
      obtain ⟨⟨c, i⟩, h3, h4⟩ := List.mem_flatMap.1 h2
      rw [List.mem_zipIdx_iff_getElem?] at h3
      dsimp only at h1 h3 h4
      unfold cellK at h4
      split at h4
      · cases h4
      · rename_i k0
        obtain ⟨j, h5, rfl⟩ := List.mem_map.1 h4
        have := List.mem_range.1 h5
        exact .inr ⟨m, s, i, c, j, h1, h3, k0, by omega, rfl⟩
  · rintro (h | ⟨m, s, i, c, j, h1, h2, h3, h4, rfl⟩)
    · exact .inl h
    · refine .inr ⟨(s, m), by rw [List.mem_zipIdx_iff_getElem?]; exact h1, List.mem_flatMap.2 ⟨(c, i), by rw [List.mem_zipIdx_iff_getElem?]; exact h2, ?_⟩⟩
      dsimp only
      unfold cellK
      rw [if_neg h3]
      exact List.mem_map.2 ⟨j, List.mem_range.2 (by omega), rfl⟩
theorem zgJ {g : D.Grid} {N : List D.Address} : (g.Shards.zipIdx.all fun x => shardC N x.2 x.1) = true ↔ ∀ (m : Nat) s, g.Shards[m]? = some s → (∀ (i : Nat) c, s.Cells[i]? = some c → c.Kind = 0 ∨ N.count ⟨(m : Int), 1, (i : Int)⟩ = 1) ∧ ∀ (i : Nat) v, s.Vars[i]? = some v → v.Used = false ∨ N.count ⟨(m : Int), 2, (i : Int)⟩ = 2 := by
  rw [z64 (p := fun m s => shardC N m s)]
  refine forall_congr' fun m => forall_congr' fun s => ?_
  rw [Nat.zero_add]
  refine imp_congr_right fun hm => ?_
  unfold shardC
  rw [Bool.and_eq_true, z64 (p := fun i (c : D.ShardCell) => decide (c.Kind = 0) || decide (N.count ⟨(m : Int), 1, (i : Int)⟩ = 1)), z64 (p := fun i (v : D.ShardVar) => !v.Used || decide (N.count ⟨(m : Int), 2, (i : Int)⟩ = 2))]
  simp only [Nat.zero_add, Bool.or_eq_true, decide_eq_true_eq, Bool.not_eq_true']
end Go.E

