/- ValidMemory, CountCells, ResolveWord: the plain laws. Conditions: none but the argument's own size. -/
import Derived.Test.YtlgkoadccodcaaaOkMemoryVd
namespace Go.E
open Go.RowKit Go.Proofs
set_option linter.unusedSimpArgs false
set_option linter.unusedVariables false

theorem count_step {α : Type} {xs : List α} {i : Nat} {x : α} {p : α → Bool} (hx : xs[i]? = some x) : (xs.take (i + 1)).countP p = (xs.take i).countP p + if p x = true then 1 else 0 := by
  rw [List.take_add_one, hx, List.countP_append]
  cases h : p x <;> simp [h]
theorem count_le {α : Type} (p : α → Bool) (xs : List α) (i : Nat) : (xs.take i).countP p ≤ xs.length := by
  have h := List.countP_le_length (p := p) (l := xs.take i)
  rw [List.length_take] at h
  omega
def isAg (c : D.Cell) : Bool := agentKind c.Kind
def isVa (c : D.Cell) : Bool := c.Kind == 13
def isFr (c : D.Cell) : Bool := c.Kind == 0
theorem three_kinds : ∀ {cs : List D.Cell}, cs.all cellN = true → cs.countP isAg + cs.countP isVa + cs.countP isFr = cs.length
  | [], _ => rfl
  | c :: cs, h => by
    rw [List.all_cons, Bool.and_eq_true] at h
    have ih := three_kinds h.2
    have hc := h.1
    unfold cellN at hc
    rw [List.countP_cons, List.countP_cons, List.countP_cons, List.length_cons]
    unfold isAg isVa isFr at ih ⊢
    by_cases h0 : c.Kind = 0
    · have ha : agentKind c.Kind = false := by unfold agentKind; simp [h0]
      rw [ha, h0]
      simp
      omega
    · rw [if_neg h0] at hc
      by_cases h13 : c.Kind = 13
      · have ha : agentKind c.Kind = false := by unfold agentKind; simp [h13]
        rw [ha, h13]
        simp
        omega
      · rw [if_neg h13] at hc
        have ha : agentKind c.Kind = true := by simp at hc; exact hc.1
        rw [ha]
        simp [h0, h13]
        omega
theorem counts_spec {m : D.Memory} {fuel : Nat} (hf : 18446744073709551616 ≤ fuel) (hn : m.Cells.length ≤ 1048576) :
    iter (m_spec_CountCells_b1 fuel m) fuel (0, 0, 0) = some (.inl ((m.Cells.countP isAg : Int), (m.Cells.countP isVa : Int))) := by
  have hm : maxLen = 9223372036854775807 := rfl
  obtain ⟨h1, h2⟩ := foldLoop (xs := m.Cells) (body := m_spec_CountCells_b1 fuel m) (mk := fun i (s : Int × Int) => (s.1, s.2, i)) (out := id)
    (g := fun s c => (if isAg c = true then w64 (s.1 + 1) else s.1, if isVa c = true then w64 (s.2 + 1) else s.2)) (p := fun _ => true) (v := (0, 0, 0, 0)) (s0 := (0, 0))
    (J := fun i s => s = (((m.Cells.take i).countP isAg : Int), ((m.Cells.take i).countP isVa : Int))) (by omega) hf rfl
    (fun i s x hx _ hj => by
      have b1 := count_le isAg m.Cells i
      have b2 := count_le isVa m.Cells i
      subst hj
      rw [count_step hx, count_step hx]
      dsimp only
      rw [i64_small (by omega) (by omega), i64_small (by omega) (by omega)]
      cases isAg x <;> cases isVa x <;> simp)
    (fun i s x hi hx hj => by
      unfold m_spec_CountCells_b1 m_spec_CountCells_j2 m_spec_CountCells_j3 isAg isVa
      dsimp only
      rw [if_pos (decide_eq_true (by omega)), idx_at hx, Option.bind_some, isAgent_spec, Option.bind_some, if_pos rfl, Option.bind_some]
      cases agentKind x.Kind <;> by_cases h : x.Kind = 13 <;> simp [h])
    (fun s _ => by unfold m_spec_CountCells_b1; dsimp only; rw [if_neg (by simp)]; rfl)
  rw [if_pos (by simp)] at h1
  have h3 := h2 (by simp)
  rw [List.take_length] at h3
  rw [h3] at h1
  exact h1
theorem truth_impl {fuel : Nat} {b : Bool} : m_impl_truth fuel b = some (if b = true then 1 else 0) := by
  unfold m_impl_truth; cases b <;> rfl
theorem counts_impl {m : D.Memory} {fuel : Nat} (hf : 18446744073709551616 ≤ fuel) (hn : m.Cells.length ≤ 1048576) :
    m_impl_Memory_counts fuel m = some ((m.Cells.countP isAg : Int), (m.Cells.countP isVa : Int), (m.Cells.countP isFr : Int)) := by
  have hm : maxLen = 9223372036854775807 := rfl
  obtain ⟨h1, h2⟩ := foldLoop (xs := m.Cells) (body := m_impl_Memory_counts_b1 fuel m) (mk := fun i (s : Int × Int × Int) => (s.1, s.2.1, s.2.2, i)) (out := id)
    (g := fun s c => (w64 (s.1 + if isAg c = true then 1 else 0), w64 (s.2.1 + if isVa c = true then 1 else 0), w64 (s.2.2 + if isFr c = true then 1 else 0))) (p := fun _ => true) (v := (0, 0, 0)) (s0 := (0, 0, 0))
    (J := fun i s => s = (((m.Cells.take i).countP isAg : Int), ((m.Cells.take i).countP isVa : Int), ((m.Cells.take i).countP isFr : Int))) (by omega) hf rfl
    (fun i s x hx _ hj => by
      have b1 := count_le isAg m.Cells i
      have b2 := count_le isVa m.Cells i
      have b3 := count_le isFr m.Cells i
      subst hj
      rw [count_step hx, count_step hx, count_step hx]
      dsimp only
      rw [i64_small (by split <;> omega) (by split <;> omega), i64_small (by split <;> omega) (by split <;> omega), i64_small (by split <;> omega) (by split <;> omega)]
      cases isAg x <;> cases isVa x <;> cases isFr x <;> simp)
    (fun i s x hi hx hj => by
      unfold m_impl_Memory_counts_b1 isAg isVa isFr m_impl_Cell_isVariable m_impl_Cell_isFree
      dsimp only
      rw [if_pos (decide_eq_true (by omega)), idx_at hx, Option.bind_some, isAgent_impl, Option.bind_some, truth_impl, Option.bind_some, Option.bind_some, truth_impl, Option.bind_some, Option.bind_some, truth_impl, Option.bind_some, if_pos rfl])
    (fun s _ => by unfold m_impl_Memory_counts_b1; dsimp only; rw [if_neg (by simp)]; rfl)
  rw [if_pos (by simp)] at h1
  have h3 := h2 (by simp)
  rw [List.take_length] at h3
  rw [h3] at h1
  unfold m_impl_Memory_counts
  rw [show ((0 : Int), (0 : Int), (0 : Int), (0 : Int)) = (fun i (s : Int × Int × Int) => (s.1, s.2.1, s.2.2, i)) 0 (0, 0, 0) from rfl, h1]
  rfl
theorem ok_cells {m : D.Memory} {x1 : List D.Word} (h : okN m x1 = true) : m.Cells.all cellN = true ∧ (∀ w, w ∈ wordsN m → wordN m w = true) ∧ (List.range m.Cells.length).all (resS m) = true := by
  unfold okN at h
  rw [Bool.and_eq_true, Bool.and_eq_true, Bool.and_eq_true, Bool.and_eq_true, Bool.and_eq_true, Bool.and_eq_true, Bool.and_eq_true] at h
  obtain ⟨_, _, h1, h2, _, _, _, h3⟩ := h
  exact ⟨h1, fun w hw => List.all_eq_true.1 h2 w (List.mem_append_left _ hw), h3⟩
theorem same_CountCells {fuel : Nat} {x : D.Memory} (hf : 18446744073709551616 ≤ fuel) (hs : x.sz ≤ 1048576) :
    ∃ r, m_spec_CountCells fuel x = some r ∧ m_impl_CountCells fuel x = some r := by
  have hn : x.Cells.length ≤ 1048576 := by unfold D.Memory.sz szL at hs; omega
  unfold m_spec_CountCells m_impl_CountCells
  rw [ok_spec hf hs, ok_impl hf hs, Option.bind_some, Option.bind_some]
  cases ho : okN x [] with
  | false => exact ⟨_, rfl, rfl⟩
  | true =>
    have h3 := three_kinds (ok_cells ho).1
    refine ⟨_, ?_, by rw [if_neg (by simp), counts_impl hf hn, Option.bind_some]⟩
    rw [if_neg (by simp), counts_spec hf hn, Option.bind_some]
    show m_spec_CountCells_j1 fuel x _ = _
    unfold m_spec_CountCells_j1
    dsimp only
    rw [i64_small (n := (x.Cells.length : Int) - _) (by omega) (by omega), i64_small (by omega) (by omega), show (x.Cells.length : Int) - (x.Cells.countP isAg : Int) - (x.Cells.countP isVa : Int) = (x.Cells.countP isFr : Int) by omega]
theorem same_ResolveWord {fuel : Nat} {x : D.Memory} {w : D.Word} (hf : 18446744073709551616 ≤ fuel) (hs : x.sz ≤ 1048576) :
    ∃ r, m_spec_ResolveWord fuel x w = some r ∧ m_impl_ResolveWord fuel x w = some r := by
  have hm : maxLen = 9223372036854775807 := rfl
  have hn : x.Cells.length ≤ 1048576 := by unfold D.Memory.sz szL at hs; omega
  unfold m_spec_ResolveWord m_impl_ResolveWord
  rw [ok_spec hf hs, ok_impl hf hs, Option.bind_some, Option.bind_some]
  cases ho : okN x [] with
  | false => exact ⟨_, rfl, rfl⟩
  | true =>
    obtain ⟨_, hW, hR⟩ := ok_cells ho
    rw [if_neg (by simp), if_neg (by simp), word_spec (by omega), word_impl, Option.bind_some, Option.bind_some]
    cases hw : wordN x w with
    | false => exact ⟨_, rfl, rfl⟩
    | true =>
      obtain ⟨a, a1, _, a2⟩ := resolve_spec hf hn hW hw
      obtain ⟨b, b1, _, b2⟩ := resolve_impl hf hn hW hw
      have hsome : (resN x (x.Cells.length + 1) w).isSome = true := by
        obtain ⟨h0, c, h1, _, h3⟩ := word_facts hw
        rcases h3 with ⟨h3, _⟩ | ⟨h3, h4⟩
        · have : stopN x w = true := by unfold stopN; rw [h3]; rfl
          unfold resN
          rw [if_pos this]; rfl
        · have := List.all_eq_true.1 hR w.At.toNat (List.mem_range.2 (List.getElem?_eq_some_iff.1 h1).1)
          unfold resS at this
          rw [h1] at this
          simp only [Option.any_some, h4, beq_self_eq_true, Bool.not_true, Bool.false_or] at this
          rw [show ((w.At.toNat : Nat) : Int) = w.At by omega] at this
          obtain ⟨tg, at_⟩ := w
          dsimp only at h3 this
          rw [h3]
          exact this
      obtain ⟨r, hr⟩ := Option.isSome_iff_exists.1 hsome
      rw [if_neg (by simp), if_neg (by simp), a1, b1, a2 r hr, b2 r hr]
      exact ⟨_, rfl, rfl⟩

theorem lawValidMemory {x0 : D.Memory} (h0 : D.Memory.wf x0) : ∃ fuel, m_laws_FnExactValidMemory fuel x0 = some true := by
  obtain ⟨fuel, hf⟩ : ∃ n : Nat, 18446744073709551616 ≤ n := ⟨_, Nat.le_refl _⟩
  refine ⟨fuel, ?_⟩
  unfold m_laws_FnExactValidMemory
  obtain ⟨r0, e0, s0⟩ := szMemory_pure (l := (1048576 : Int)) hf h0 (by decide) (by omega)
  rw [e0, Option.bind_some]
  rcases s0 with s0 | ⟨s0, t0⟩
  · rw [if_pos (by simp [s0])]
  rw [if_neg (by simp [s0])]
  have z0 : D.Memory.sz x0 ≤ 1048576 := by omega
  obtain ⟨q, a0, a1⟩ := same_ValidMemory hf z0
  simp only [Option.bind_some, a0, a1, toMemory_pure hf z0, eqMemory_pure hf z0]
  simp
theorem lawCountCells {x0 : D.Memory} (h0 : D.Memory.wf x0) : ∃ fuel, m_laws_FnExactCountCells fuel x0 = some true := by
  obtain ⟨fuel, hf⟩ : ∃ n : Nat, 18446744073709551616 ≤ n := ⟨_, Nat.le_refl _⟩
  refine ⟨fuel, ?_⟩
  unfold m_laws_FnExactCountCells
  obtain ⟨r0, e0, s0⟩ := szMemory_pure (l := (1048576 : Int)) hf h0 (by decide) (by omega)
  rw [e0, Option.bind_some]
  rcases s0 with s0 | ⟨s0, t0⟩
  · rw [if_pos (by simp [s0])]
  rw [if_neg (by simp [s0])]
  have z0 : D.Memory.sz x0 ≤ 1048576 := by omega
  obtain ⟨q, a0, a1⟩ := same_CountCells hf z0
  simp only [Option.bind_some, a0, a1, toMemory_pure hf z0, eqMemory_pure hf z0, m_laws_FnExactCountCells_j1, bne_self_eq_false]
  simp
theorem lawResolveWord {x0 : D.Memory} {x1 : D.Word} (h0 : D.Memory.wf x0) (h1 : D.Word.wf x1) : ∃ fuel, m_laws_FnExactResolveWord fuel x0 x1 = some true := by
  obtain ⟨fuel, hf⟩ : ∃ n : Nat, 18446744073709551616 ≤ n := ⟨_, Nat.le_refl _⟩
  refine ⟨fuel, ?_⟩
  unfold m_laws_FnExactResolveWord
  obtain ⟨r0, e0, s0⟩ := szMemory_pure (l := (1048576 : Int)) hf h0 (by decide) (by omega)
  rw [e0, Option.bind_some]
  rcases s0 with s0 | ⟨s0, t0⟩
  · rw [if_pos (by simp [s0])]
  rw [if_neg (by simp [s0])]
  have z0 : D.Memory.sz x0 ≤ 1048576 := by omega
  obtain ⟨q, a0, a1⟩ := same_ResolveWord (w := x1) hf z0
  simp only [Option.bind_some, a0, a1, toMemory_pure hf z0, eqMemory_pure hf z0, toWord_pure (x := x1) hf (by decide), m_laws_FnExactResolveWord_j1, m_laws_FnExactResolveWord_j2, m_laws_FnExactResolveWord_j3, bne_self_eq_false]
  have := eqWord_pure (x := q.1) hf (by decide)
  simp [this]
end Go.E
