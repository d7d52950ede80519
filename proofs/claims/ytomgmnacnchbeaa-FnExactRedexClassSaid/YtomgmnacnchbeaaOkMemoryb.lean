/- A memory, second part: counts, the free cells, and the whole test. Conditions: the data within the law's bound. -/
import Derived.Test.YtomgmnacnchbeaaOkMemory
namespace Go.E
open Go.RowKit Go.Proofs
set_option linter.unusedSimpArgs false
set_option linter.unusedVariables false

/-! the free cells -/
def freeN (m : D.Memory) : Nat := m.Cells.countP fun c => c.Kind == 0
theorem free_step {m : D.Memory} {i : Nat} {c : D.Cell} (hx : m.Cells[i]? = some c) : (m.Cells.take (i + 1)).countP (fun c => c.Kind == 0) = (m.Cells.take i).countP (fun c => c.Kind == 0) + if c.Kind = 0 then 1 else 0 := by
  rw [List.take_add_one, hx, List.countP_append]
  by_cases h : c.Kind = 0 <;> simp [h]
theorem chainAll_spec {m : D.Memory} {fuel : Nat} (hf : 18446744073709551616 ≤ fuel) (hn : m.Cells.length ≤ 1048576) : m_spec_l21Chain fuel m = some (chainN m (freeN m) m.Free) := by
  have hm : maxLen = 9223372036854775807 := rfl
  obtain ⟨h1, h2⟩ := foldLoop (xs := m.Cells) (body := m_spec_l21Chain_b1 fuel m) (mk := fun i s => (s, i)) (out := id) (g := fun s c => if c.Kind = 0 then w64 (s + 1) else s) (p := fun _ => true) (v := false) (s0 := 0)
    (J := fun i s => s = (((m.Cells.take i).countP fun c => c.Kind == 0 : Nat) : Int)) (by omega) hf rfl
    (fun i s x hx _ hj => by
      have hle := List.countP_le_length (p := fun c : D.Cell => c.Kind == 0) (l := m.Cells.take i)
      rw [List.length_take] at hle
      rw [free_step hx]
      by_cases h : x.Kind = 0
      · rw [if_pos h, if_pos h, hj, i64_small (by omega) (by omega)]; simp
      · rw [if_neg h, if_neg h, hj]; simp)
    (fun i s x hi hx hj => by
      unfold m_spec_l21Chain_b1 m_spec_l21Chain_j4
      dsimp only
      rw [if_pos (decide_eq_true (by omega)), idx_at hx, Option.bind_some, if_pos rfl]
      by_cases h : x.Kind = 0 <;> simp [h])
    (fun s _ => by unfold m_spec_l21Chain_b1; dsimp only; rw [if_neg (by simp)]; rfl)
  unfold m_spec_l21Chain
  rw [if_pos (by simp)] at h1
  have h3 := h2 (by simp)
  rw [List.take_length] at h3
  rw [h1, h3]
  show ((iter (m_spec_l21Chain_b2 fuel m) fuel (((freeN m : Nat) : Int), m.Free)).bind fun o => aft o (m_spec_l21Chain_j2 fuel)) = _
  have := List.countP_le_length (p := fun c : D.Cell => c.Kind == 0) (l := m.Cells)
  exact chain_spec hn (freeN m) m.Free fuel (by unfold freeN; omega) (by unfold freeN; omega)
theorem chainAll_impl {m : D.Memory} {fuel : Nat} (hf : 18446744073709551616 ≤ fuel) (hn : m.Cells.length ≤ 1048576) : m_impl_Memory_freeOk fuel m = some (chainN m (freeN m) m.Free) := by
  have hm : maxLen = 9223372036854775807 := rfl
  obtain ⟨h1, h2⟩ := foldLoop (xs := m.Cells) (body := m_impl_Memory_freeOk_b1 fuel m) (mk := fun i s => (s, i)) (out := id) (g := fun s c => if c.Kind = 0 then w64 (s + 1) else s) (p := fun _ => true) (v := false) (s0 := 0)
    (J := fun i s => s = (((m.Cells.take i).countP fun c => c.Kind == 0 : Nat) : Int)) (by omega) hf rfl
    (fun i s x hx _ hj => by
      have hle := List.countP_le_length (p := fun c : D.Cell => c.Kind == 0) (l := m.Cells.take i)
      rw [List.length_take] at hle
      rw [free_step hx]
      by_cases h : x.Kind = 0
      · rw [if_pos h, if_pos h, hj, i64_small (by omega) (by omega)]; simp
      · rw [if_neg h, if_neg h, hj]; simp)
    (fun i s x hi hx hj => by
      have hle := List.countP_le_length (p := fun c : D.Cell => c.Kind == 0) (l := m.Cells.take i)
      rw [List.length_take] at hle
      unfold m_impl_Memory_freeOk_b1 m_impl_Cell_isFree m_impl_truth
      dsimp only
      rw [if_pos (decide_eq_true (by omega)), idx_at hx, Option.bind_some, if_pos rfl]
      by_cases h : x.Kind = 0
      · simp [h]
      · simp [h]; rw [i64_small (by omega) (by omega)])
    (fun s _ => by unfold m_impl_Memory_freeOk_b1; dsimp only; rw [if_neg (by simp)]; rfl)
  unfold m_impl_Memory_freeOk
  rw [if_pos (by simp)] at h1
  have h3 := h2 (by simp)
  rw [List.take_length] at h3
  rw [h1, h3]
  have h4 := List.countP_le_length (p := fun c : D.Cell => c.Kind == 0) (l := m.Cells)
  exact chain_impl (fl := fuel) (t := freeN m) hn h4 (freeN m) m.Free fuel 0 (by omega) (by unfold freeN; omega)

theorem chain_at {m : D.Memory} : ∀ {k : Nat} {a : Int}, chainN m k a = true → -1 ≤ a ∧ a ≤ (m.Cells.length : Int) - 1
  | 0, a, h => by have : a = -1 := by simpa [chainN] using h
                  omega
  | k + 1, a, h => by
    unfold chainN at h
    by_cases h2 : 0 ≤ a ∧ a < m.Cells.length
    · omega
    · rw [off_at h2] at h; cases h
theorem chain_in {m : D.Memory} {k : Nat} {a : Int} (h : chainN m (k + 1) a = true) : 0 ≤ a ∧ ∃ c, m.Cells[a.toNat]? = some c ∧ c.Kind = 0 ∧ chainN m k c.Value = true := by
  unfold chainN at h
  rw [Bool.and_eq_true, decide_eq_true_eq] at h
  obtain ⟨h0, h1⟩ := h
  cases hc : m.Cells[a.toNat]? with
  | none => rw [hc] at h1; cases h1
  | some c => rw [hc] at h1; exact ⟨h0, c, rfl, by simpa using h1⟩
theorem chain_one {m : D.Memory} : ∀ {k k' : Nat} {a : Int}, chainN m k a = true → chainN m k' a = true → k = k'
  | 0, 0, a, _, _ => rfl
  | 0, k' + 1, a, h, h' => by have : a = -1 := by simpa [chainN] using h
                              have := (chain_in h').1
                              omega
  | k + 1, 0, a, h, h' => by have : a = -1 := by simpa [chainN] using h'
                             have := (chain_in h).1
                             omega
  | k + 1, k' + 1, a, h, h' => by
    obtain ⟨_, c, h1, _, h2⟩ := chain_in h
    obtain ⟨_, c', h1', _, h2'⟩ := chain_in h'
    rw [h1] at h1'
    cases h1'
    rw [chain_one h2 h2']
def pathN (m : D.Memory) : Nat → Int → List Nat
  | 0, _ => []
  | k + 1, a => a.toNat :: match m.Cells[a.toNat]? with
    | some c => pathN m k c.Value
    | none => []
theorem path_facts {m : D.Memory} : ∀ {k : Nat} {a : Int}, chainN m k a = true → (pathN m k a).length = k ∧ (pathN m k a).Nodup ∧
    ∀ i, i ∈ pathN m k a → (∃ c, m.Cells[i]? = some c ∧ c.Kind = 0 ∧ -1 ≤ c.Value ∧ c.Value ≤ (m.Cells.length : Int) - 1) ∧ ∃ k', k' ≤ k ∧ chainN m k' (i : Int) = true
  | 0, a, h => ⟨rfl, List.nodup_nil, fun i hi => by cases hi⟩
  | k + 1, a, h => by
    obtain ⟨h0, c, h1, h2, h3⟩ := chain_in h
    obtain ⟨g1, g2, g3⟩ := path_facts h3
    have hp : pathN m (k + 1) a = a.toNat :: pathN m k c.Value := by simp only [pathN, h1]
    have ha : ((a.toNat : Nat) : Int) = a := by omega
    rw [hp]
    refine ⟨by simp [g1], List.nodup_cons.2 ⟨fun hi => ?_, g2⟩, fun i hi => ?_⟩
    · obtain ⟨_, k', h4, h5⟩ := g3 _ hi
      rw [ha] at h5
      have := chain_one h h5
      omega
    · rcases List.mem_cons.1 hi with rfl | hi
      · have := chain_at h3
        exact ⟨⟨c, h1, h2, this.1, this.2⟩, k + 1, Nat.le_refl _, by rw [ha]; exact h⟩
      · obtain ⟨h4, k', h5, h6⟩ := g3 _ hi
        exact ⟨h4, k', by omega, h6⟩
theorem fits : ∀ (L : List Nat), L.Nodup → ∀ bs : List Bool, (∀ i, i ∈ L → bs[i]? = some true) → L.length ≤ bs.countP id
  | [], _, _, _ => Nat.zero_le _
  | i :: L, hn, bs, h => by
    obtain ⟨h1, h2⟩ := List.nodup_cons.1 hn
    have hi := h i List.mem_cons_self
    obtain ⟨hlt, hb⟩ := List.getElem?_eq_some_iff.1 hi
    have h3 := fits L h2 (bs.set i false) (fun j hj => by
      have hij : i ≠ j := fun e => h1 (by rw [e]; exact hj)
      rw [List.getElem?_set_ne hij]
      exact h j (List.mem_cons_of_mem _ hj))
    rw [List.countP_set hlt, hb] at h3
    have h4 : 0 < bs.countP id := List.countP_pos_iff.2 ⟨true, List.mem_of_getElem? hi, rfl⟩
    rw [if_pos (show id true = true from rfl), if_neg (show ¬ id false = true by simp)] at h3
    rw [List.length_cons]
    omega
theorem free_range {m : D.Memory} (h : chainN m (freeN m) m.Free = true) {i : Nat} {c : D.Cell} (hc : m.Cells[i]? = some c) (h0 : c.Kind = 0) : -1 ≤ c.Value ∧ c.Value ≤ (m.Cells.length : Int) - 1 := by
  obtain ⟨g1, g2, g3⟩ := path_facts h
  by_cases hi : i ∈ pathN m (freeN m) m.Free
  · obtain ⟨⟨d, h1, _, h2⟩, _⟩ := g3 i hi
    rw [hc] at h1
    cases h1
    exact h2
  · have := fits (i :: pathN m (freeN m) m.Free) (List.nodup_cons.2 ⟨hi, g2⟩) (m.Cells.map fun c => c.Kind == 0) (fun j hj => by
      rcases List.mem_cons.1 hj with rfl | hj
      · simp [hc, h0]
      · obtain ⟨⟨d, h1, h2, _⟩, _⟩ := g3 j hj
        simp [h1, h2])
    rw [List.countP_map, List.length_cons, g1] at this
    have e : List.countP (id ∘ fun c : D.Cell => c.Kind == 0) m.Cells = freeN m := rfl
    omega
end Go.E
