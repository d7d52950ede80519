/- TidyMemory: the plain law. Conditions: none but the argument's own size. -/
import Derived.Test.YtomgmnacnchbeaaOkMemorye
import Derived.Test.YtomgmnacnchbeaaMarksT
namespace Go.E
open Go.RowKit Go.Proofs
set_option linter.unusedSimpArgs false
set_option linter.unusedVariables false

/-- a loop that appends to a list what a function gives of each element -/
theorem mapLoop {α β ρ : Type} {xs : List α} {body : Int × List β → Option (Rd (Int × List β) (List β) ρ)} {g : α → β} {fuel : Nat} (hl : xs.length ≤ 1048576) (hf : 18446744073709551616 ≤ fuel)
    (step : ∀ (i : Nat) x (s : List β), xs[i]? = some x → s.length = i → body ((i : Int), s) = some (.next (w64 (i + 1), s ++ [g x]))) (last : ∀ s, body ((xs.length : Int), s) = some (.brk s)) :
    iter body fuel (0, []) = some (.inl (xs.map g)) := by
  have hm : maxLen = 9223372036854775807 := rfl
  obtain ⟨o, h1, h2⟩ := iter_count (body := body) (fun i s => s.1 = (i : Int) ∧ s.2 = (xs.take i).map g) xs.length (fun o => o = .inl (xs.map g)) (by
    rintro i ⟨a, s⟩ hi ⟨g1, g2⟩
    dsimp only at g1 g2
    subst g1; subst g2
    obtain ⟨x, hx⟩ := at_lt hi
    refine .inl ⟨_, step i x _ hx (by simp; omega), ?_, ?_⟩
    · dsimp only; rw [i64_small (by omega) (by omega)]; simp
    · dsimp only; rw [List.take_add_one, hx]; simp) (by
    rintro ⟨a, s⟩ ⟨g1, g2⟩
    dsimp only at g1 g2
    subst g1; subst g2
    exact .inr ⟨_, last _, by rw [List.take_length]⟩) (fuel := fuel) (i := 0) (s := (0, [])) (Nat.zero_le _) (by omega) ⟨rfl, by simp⟩
  rw [h1, h2]
/-- the first k elements turned -/
def partL {α : Type} (f : α → α) (xs : List α) (k : Nat) : List α := (xs.take k).map f ++ xs.drop k
theorem partL_len {α : Type} {f : α → α} {xs : List α} {k : Nat} (h : k ≤ xs.length) : (partL f xs k).length = xs.length := by
  unfold partL
  simp; omega
theorem partL_at {α : Type} {f : α → α} {xs : List α} {k : Nat} {x : α} (h : xs[k]? = some x) : (partL f xs k)[k]? = some x := by
  have hk := (List.getElem?_eq_some_iff.1 h).1
  unfold partL
  rw [List.getElem?_append_right (by simp; omega)]
  simp [Nat.min_eq_left (Nat.le_of_lt hk), h]
theorem partL_set {α : Type} {f : α → α} {xs : List α} {k : Nat} {x : α} (h : xs[k]? = some x) : (partL f xs k).set k (f x) = partL f xs (k + 1) := by
  have hk := (List.getElem?_eq_some_iff.1 h).1
  unfold partL
  rw [List.set_append_right _ _ (by simp; omega), List.take_add_one, h]
  rw [show k - ((xs.take k).map f).length = 0 by simp; omega]
  have hd : xs.drop k = x :: xs.drop (k + 1) := by
    rw [List.drop_eq_getElem_cons hk]
    congr 1
    exact (List.getElem?_eq_some_iff.1 h).2
  rw [hd]
  simp
theorem partL_zero {α : Type} {f : α → α} {xs : List α} : partL f xs 0 = xs := by simp [partL]
theorem partL_all {α : Type} {f : α → α} {xs : List α} : partL f xs xs.length = xs.map f := by simp [partL]
/-- a loop that writes into a list what a function gives of each element -/
theorem setLoop {α S τ ρ : Type} {xs : List α} {body : S → Option (Rd S τ ρ)} {mk : Int → List α → S} {out : List α → τ} {f : α → α} {fuel : Nat} (hl : xs.length ≤ 1048576) (hf : 18446744073709551616 ≤ fuel)
    (step : ∀ (i : Nat) x, xs[i]? = some x → body (mk i (partL f xs i)) = some (.next (mk (w64 (i + 1)) ((partL f xs i).set i (f x))))) (last : body (mk xs.length (xs.map f)) = some (.brk (out (xs.map f)))) :
    iter body fuel (mk 0 xs) = some (.inl (out (xs.map f))) := by
  have hm : maxLen = 9223372036854775807 := rfl
  obtain ⟨o, h1, h2⟩ := iter_count (body := body) (fun i s => s = mk i (partL f xs i)) xs.length (fun o => o = .inl (out (xs.map f))) (by
    rintro i s hi rfl
    obtain ⟨x, hx⟩ := at_lt hi
    refine .inl ⟨_, step i x hx, ?_⟩
    rw [partL_set hx, i64_small (by omega) (by omega)]
    rfl) (by
    rintro s rfl
    rw [partL_all]
    exact .inr ⟨_, last, rfl⟩) (fuel := fuel) (i := 0) (s := mk 0 xs) (Nat.zero_le _) (by omega) (by rw [partL_zero]; rfl)
  rw [h1, h2]

theorem own_cell {c : D.Cell} {fuel : Nat} (h1 : c.Data.length ≤ 1048576) (h2 : c.Words.length ≤ 1048576) : m_spec_l21OwnCell fuel c = some c := by
  unfold m_spec_l21OwnCell m_spec_l00Own
  rw [if_pos (by simp; omega), Option.bind_some, if_pos (by simp; omega)]
  simp
theorem mem_cell {x : D.Memory} (h : x.sz ≤ 1048576) {c : D.Cell} (hc : c ∈ x.Cells) : c.Data.length ≤ 1048576 ∧ c.Words.length ≤ 1048576 := by
  unfold D.Memory.sz szL at h
  have := sumL_mem (f := D.Cell.sz) hc
  have h9 : c.sz = c.Data.length + (c.Words.length + 0) := rfl
  omega
theorem mem_len {x : D.Memory} (h : x.sz ≤ 1048576) : x.Cells.length ≤ 1048576 ∧ x.Redexes.length ≤ 1048576 := by
  unfold D.Memory.sz szL at h
  omega
theorem own_mem {x : D.Memory} {fuel : Nat} (hf : 18446744073709551616 ≤ fuel) (h : x.sz ≤ 1048576) : m_spec_l21Own fuel x = some x := by
  obtain ⟨hl, hr⟩ := mem_len h
  unfold m_spec_l21Own m_spec_l21Own_j1
  rw [if_pos (by simp; omega)]
  have := mapLoop (xs := x.Cells) (body := m_spec_l21Own_b1 fuel x) (g := fun c => c) hl hf (fun i c s hc hs => by
    have hil := (List.getElem?_eq_some_iff.1 hc).1
    obtain ⟨z1, z2⟩ := mem_cell h (List.mem_of_getElem? hc)
    unfold m_spec_l21Own_b1
    rw [if_pos (by simpa using hil), idx_at hc, Option.bind_some, own_cell z1 z2, Option.bind_some, if_pos (by simp; omega)]) (fun s => by unfold m_spec_l21Own_b1; rw [if_neg (by simp)])
  dsimp only
  rw [this]
  simp [aft, m_spec_l21Own_j2]
theorem copy_mem {x : D.Memory} {fuel : Nat} (hf : 18446744073709551616 ≤ fuel) (h : x.sz ≤ 1048576) : m_impl_copyMemory fuel x = some x := by
  obtain ⟨hl, hr⟩ := mem_len h
  unfold m_impl_copyMemory m_impl_copyMemory_j1 m_slices_Clone_impl_Pair_impl_Pair
  rw [if_pos (by simp; omega), if_pos (by simp; omega), Option.bind_some]
  have := mapLoop (xs := x.Cells) (body := m_impl_copyMemory_b1 fuel x) (g := fun c => c) hl hf (fun i c s hc hs => by
    have hil := (List.getElem?_eq_some_iff.1 hc).1
    obtain ⟨z1, z2⟩ := mem_cell h (List.mem_of_getElem? hc)
    unfold m_impl_copyMemory_b1 m_slices_Clone_int64_int64 m_slices_Clone_impl_Word_impl_Word
    rw [if_pos (by simpa using hil), idx_at hc, Option.bind_some, if_pos (by simp; omega), Option.bind_some, if_pos (by simp; omega), Option.bind_some, if_pos (by simp; omega)]
    simp) (fun s => by unfold m_impl_copyMemory_b1; rw [if_neg (by simp)])
  dsimp only
  rw [this]
  simp [aft, m_impl_copyMemory_j2]

/-! ### First: the words are resolved -/
def resC (m : D.Memory) (c : D.Cell) : D.Cell := ⟨c.Kind, c.Level, c.Value, c.Data, c.Words.map (resW m)⟩
def resA (m : D.Memory) (c : D.Cell) : D.Cell := if agentKind c.Kind = true then resC m c else c
theorem set_same {α : Type} {xs : List α} {i : Nat} {x : α} (h : xs[i]? = some x) : xs.set i x = xs := by
  obtain ⟨h1, h2⟩ := List.getElem?_eq_some_iff.1 h
  subst h2
  exact List.set_getElem_self h1
/-- the words of one cell -/
theorem words_loop {m : D.Memory} {fuel : Nat} {i : Nat} {c : D.Cell} {cs : List D.Cell} {τ ρ : Type} {body : Int × List D.Cell → Option (Rd (Int × List D.Cell) (List D.Cell) ρ)} (hf : 18446744073709551616 ≤ fuel) (hcs : cs[i]? = some c) (hl : c.Words.length ≤ 1048576)
    (step : ∀ (k : Nat) (w : D.Word) (d : D.Cell) (es : List D.Cell), c.Words[k]? = some w → es[i]? = some d → d.Words.length = c.Words.length → body ((k : Int), es) = some (.next (w64 (k + 1), es.set i ⟨d.Kind, d.Level, d.Value, d.Data, d.Words.set k (resW m w)⟩)))
    (last : ∀ es, body ((c.Words.length : Int), es) = some (.brk es)) : iter body fuel (0, cs) = some (.inl (cs.set i (resC m c))) := by
  have hm : maxLen = 9223372036854775807 := rfl
  have hil := (List.getElem?_eq_some_iff.1 hcs).1
  obtain ⟨o, h1, h2⟩ := iter_count (body := body) (fun k s => s = ((k : Int), cs.set i ⟨c.Kind, c.Level, c.Value, c.Data, partL (resW m) c.Words k⟩)) c.Words.length (fun o => o = .inl (cs.set i (resC m c))) (by
    rintro k s hk rfl
    obtain ⟨w, hw⟩ := at_lt hk
    refine .inl ⟨_, step k w _ _ hw (List.getElem?_set_self hil) (partL_len (Nat.le_of_lt hk)), ?_⟩
    rw [List.set_set, i64_small (by omega) (by omega)]
    dsimp only
    rw [partL_set hw]
    rfl) (by
    rintro s rfl
    rw [partL_all]
    exact .inr ⟨_, last _, rfl⟩) (fuel := fuel) (i := 0) (s := (0, cs)) (Nat.zero_le _) (by omega) (by
    rw [partL_zero]
    show _ = (((0 : Nat) : Int), cs.set i c)
    rw [set_same hcs]
    rfl)
  rw [h1, h2]
theorem word_in {m : D.Memory} {x1 : List D.Word} (ho : okN m x1 = true) {i : Nat} {c : D.Cell} {k : Nat} {w : D.Word} (hc : m.Cells[i]? = some c) (hw : c.Words[k]? = some w) : wordN m w = true :=
  (ok_cells ho).2.1 w (word_mem hc (List.mem_of_getElem? hw))
theorem first_spec {m : D.Memory} {fuel : Nat} (hf : 18446744073709551616 ≤ fuel) (hs : m.sz ≤ 1048576) (ho : okN m [] = true) : iter (m_spec_l21Tidy_b1 fuel m) fuel (0, m.Cells) = some (.inl (m.Cells.map (resC m))) := by
  obtain ⟨hl, hr⟩ := mem_len hs
  refine setLoop (mk := fun i s => (i, s)) (out := fun s => s) hl hf (fun i c hc => ?_) (by unfold m_spec_l21Tidy_b1; rw [if_neg (by simp)])
  have hil := (List.getElem?_eq_some_iff.1 hc).1
  unfold m_spec_l21Tidy_b1
  rw [if_pos (by simpa using hil), words_loop (m := m) (τ := Unit) (i := i) (c := c) hf (partL_at hc) (mem_cell hs (List.mem_of_getElem? hc)).2 (fun k w d es hw hd hdl => by
    have hk := (List.getElem?_eq_some_iff.1 hw).1
    unfold m_spec_l21Tidy_b3
    simp only [idx_at hc, idx_at hd, idx_at hw, Option.bind_some, resW_spec hf hl ho (word_in ho hc hw)]
    rw [if_pos (by simpa using hk), if_pos (by simp; omega)]
    simp) (fun es => by unfold m_spec_l21Tidy_b3; simp only [idx_at hc, Option.bind_some]; rw [if_neg (by simp)])]
  rfl
theorem first_impl {m : D.Memory} {fuel : Nat} (hf : 18446744073709551616 ≤ fuel) (hs : m.sz ≤ 1048576) (ho : okN m [] = true) : iter (m_impl_TidyMemory_b1 fuel m) fuel (0, m.Cells) = some (.inl (m.Cells.map (resA m))) := by
  obtain ⟨hl, hr⟩ := mem_len hs
  refine setLoop (mk := fun i s => (i, s)) (out := fun s => s) hl hf (fun i c hc => ?_) (by unfold m_impl_TidyMemory_b1; rw [if_neg (by simp)])
  have hil := (List.getElem?_eq_some_iff.1 hc).1
  unfold m_impl_TidyMemory_b1
  rw [if_pos (by simpa using hil), idx_at hc, Option.bind_some, isAgent_impl, Option.bind_some]
  cases ha : agentKind c.Kind with
  | true =>
    rw [if_pos rfl, words_loop (m := m) (τ := Unit) (i := i) (c := c) hf (partL_at hc) (mem_cell hs (List.mem_of_getElem? hc)).2 (fun k w d es hw hd hdl => by
      have hk := (List.getElem?_eq_some_iff.1 hw).1
      unfold m_impl_TidyMemory_b3
      simp only [idx_at hd, idx_at hw, Option.bind_some, resW_impl hf hl ho (word_in ho hc hw)]
      rw [if_pos (by simpa using hk), if_pos (by simp; omega)]
      simp) (fun es => by unfold m_impl_TidyMemory_b3; rw [if_neg (by simp)])]
    unfold resA
    rw [if_pos ha]
    rfl
  | false =>
    rw [if_neg (by simp)]
    unfold resA
    rw [if_neg (by simp [ha]), set_same (partL_at hc)]
    rfl

/-! ### Then: bound variables are released -/
def relC (m : D.Memory) (c : D.Cell) : Bool := (c.Kind == 13) && decide (c.Words.length ≠ 0)
def relN (m : D.Memory) (b : List D.Cell) : Nat → List D.Cell × Int
  | 0 => (b, m.Free)
  | k + 1 => if ((m.Cells[k]?).any (relC m)) = true then ((relN m b k).1.set k ⟨0, 0, (relN m b k).2, [], []⟩, (k : Int)) else relN m b k
theorem relN_succ {m : D.Memory} {b : List D.Cell} (k : Nat) : relN m b (k + 1) = if ((m.Cells[k]?).any (relC m)) = true then ((relN m b k).1.set k ⟨0, 0, (relN m b k).2, [], []⟩, (k : Int)) else relN m b k := rfl
theorem relN_free {m : D.Memory} {b b' : List D.Cell} : ∀ k, (relN m b k).2 = (relN m b' k).2
  | 0 => rfl
  | k + 1 => by
    rw [relN_succ, relN_succ]
    split
    · rfl
    · exact relN_free k
theorem relN_len {m : D.Memory} {b : List D.Cell} : ∀ k, (relN m b k).1.length = b.length
  | 0 => rfl
  | k + 1 => by
    rw [relN_succ]
    split
    · simp [relN_len k]
    · exact relN_len k
theorem relN_at {m : D.Memory} {b : List D.Cell} {j : Nat} : ∀ k, (relN m b k).1[j]? = if j < k ∧ ((m.Cells[j]?).any (relC m)) = true ∧ j < b.length then some ⟨0, 0, (relN m b j).2, [], []⟩ else b[j]?
  | 0 => by simp [relN]
  | k + 1 => by
    rw [relN_succ]
    split
    · rename_i hc
      dsimp only
      by_cases hj : k = j
      · subst hj
        by_cases hb : k < b.length
        · rw [List.getElem?_set_self (by rw [relN_len]; exact hb), if_pos ⟨Nat.lt_succ_self _, hc, hb⟩]
        · rw [if_neg (fun h => hb h.2.2), List.getElem?_eq_none (by rw [List.length_set, relN_len]; omega), List.getElem?_eq_none (by omega)]
      · rw [List.getElem?_set_ne hj, relN_at k]
        by_cases h9 : j < k
        · simp [h9, Nat.lt_succ_of_lt h9]
        · have h8 : ¬ j < k + 1 := by omega
          simp [h9, h8]
    · rename_i hc
      rw [relN_at k]
      by_cases hj : k = j
      · subst hj
        rw [if_neg (fun h => absurd h.1 (Nat.lt_irrefl _)), if_neg (fun h => hc h.2.1)]
      · by_cases h9 : j < k
        · simp [h9, Nat.lt_succ_of_lt h9]
        · have h8 : ¬ j < k + 1 := by omega
          simp [h9, h8]
theorem relN_same {m : D.Memory} {b b' : List D.Cell} (hl : b.length = m.Cells.length) (hl' : b'.length = m.Cells.length) (h : ∀ (j : Nat) c, m.Cells[j]? = some c → relC m c = false → b[j]? = b'[j]?) : relN m b m.Cells.length = relN m b' m.Cells.length := by
  refine Prod.ext (List.ext_getElem? fun j => ?_) (relN_free _)
  rw [relN_at, relN_at, hl, hl', relN_free (b := b) (b' := b')]
  by_cases hj : j < m.Cells.length
  · obtain ⟨c, hc⟩ := at_lt hj
    rw [hc]
    cases hr : relC m c with
    | true => simp [hj, hr]
    | false =>
      rw [if_neg (by simp [hr]), if_neg (by simp [hr])]
      exact h j c hc hr
  · rw [if_neg (fun h => hj h.1), if_neg (fun h => hj h.1), List.getElem?_eq_none (by omega), List.getElem?_eq_none (by omega)]
theorem rel_loop {m : D.Memory} {b : List D.Cell} {r : D.Word} {ρ : Type} {fuel : Nat} {body : Int × Int × Int × Int × List D.Cell × List D.Pair → Option (Rd (Int × Int × Int × Int × List D.Cell × List D.Pair) (Int × Int × Int × List D.Cell × List D.Pair) ρ)} (hf : 18446744073709551616 ≤ fuel) (hl : m.Cells.length ≤ 1048576) (hb : b.length = m.Cells.length)
    (step : ∀ (i : Nat) (c : D.Cell) (f : Int) (cs : List D.Cell), m.Cells[i]? = some c → cs.length = m.Cells.length → body ((i : Int), f, r.Tag, r.At, cs, m.Redexes) = if relC m c = true then some (.next (w64 (i + 1), (i : Int), r.Tag, r.At, cs.set i ⟨0, 0, f, [], []⟩, m.Redexes)) else some (.next (w64 (i + 1), f, r.Tag, r.At, cs, m.Redexes)))
    (last : ∀ f cs, body ((m.Cells.length : Int), f, r.Tag, r.At, cs, m.Redexes) = some (.brk (f, r.Tag, r.At, cs, m.Redexes))) :
    iter body fuel (0, m.Free, r.Tag, r.At, b, m.Redexes) = some (.inl ((relN m b m.Cells.length).2, r.Tag, r.At, (relN m b m.Cells.length).1, m.Redexes)) := by
  have hm : maxLen = 9223372036854775807 := rfl
  obtain ⟨o, h1, h2⟩ := iter_count (body := body) (fun i s => s = ((i : Int), (relN m b i).2, r.Tag, r.At, (relN m b i).1, m.Redexes)) m.Cells.length (fun o => o = .inl ((relN m b m.Cells.length).2, r.Tag, r.At, (relN m b m.Cells.length).1, m.Redexes)) (by
    rintro i s hi rfl
    obtain ⟨c, hc⟩ := at_lt hi
    have hs := step i c (relN m b i).2 (relN m b i).1 hc (by rw [relN_len, hb])
    have hw : w64 ((i : Int) + 1) = ((i + 1 : Nat) : Int) := by rw [i64_small (by omega) (by omega)]; simp
    cases hr : relC m c with
    | true =>
      rw [hr, if_pos rfl] at hs
      refine .inl ⟨_, hs, ?_⟩
      rw [hw, relN_succ, hc, if_pos (by simp [hr])]
    | false =>
      rw [hr, if_neg (by simp)] at hs
      refine .inl ⟨_, hs, ?_⟩
      rw [hw, relN_succ, hc, if_neg (by simp [hr])]) (by
    rintro s rfl
    exact .inr ⟨_, last _ _, rfl⟩) (fuel := fuel) (i := 0) (s := (0, m.Free, r.Tag, r.At, b, m.Redexes)) (Nat.zero_le _) (by omega) rfl
  rw [h1, h2]
theorem rel_words {c : D.Cell} : (c.Words.length : Int) > 0 ↔ c.Words.length ≠ 0 := by omega
theorem second_spec {m : D.Memory} {b : List D.Cell} {r : D.Word} {fuel : Nat} (hf : 18446744073709551616 ≤ fuel) (hl : m.Cells.length ≤ 1048576) (hb : b.length = m.Cells.length) :
    iter (m_spec_l21Tidy_b2 fuel m) fuel (0, m.Free, r.Tag, r.At, b, m.Redexes) = some (.inl ((relN m b m.Cells.length).2, r.Tag, r.At, (relN m b m.Cells.length).1, m.Redexes)) := by
  refine rel_loop hf hl hb (fun i c f cs hc hcs => ?_) (fun f cs => by unfold m_spec_l21Tidy_b2; rw [if_neg (by simp)])
  have hil := (List.getElem?_eq_some_iff.1 hc).1
  unfold m_spec_l21Tidy_b2 relC
  simp only [idx_at hc, Option.bind_some]
  rw [if_pos (by simpa using hil)]
  by_cases hk : c.Kind = 13
  · by_cases hw : c.Words.length ≠ 0
    · have hw2 := rel_words.2 hw
      simp only [hk, beq_self_eq_true, if_true, decide_eq_true hw2, decide_eq_true hw, Bool.and_self]
      unfold m_spec_l21Tidy_j3 m_spec_l21Release m_spec_l21Tidy_j4
      rw [if_pos rfl, if_pos (by simp; omega)]
      simp
    · have hw2 : ¬ (c.Words.length : Int) > 0 := fun h => hw (rel_words.1 h)
      simp only [hk, beq_self_eq_true, if_true, decide_eq_false hw2, decide_eq_false hw, Bool.and_false]
      unfold m_spec_l21Tidy_j3 m_spec_l21Tidy_j4
      simp
  · rw [if_neg (by simpa using hk), beq_eq_false_iff_ne.2 hk, Bool.false_and]
    unfold m_spec_l21Tidy_j3 m_spec_l21Tidy_j4
    simp
theorem second_impl {m : D.Memory} {b : List D.Cell} {r : D.Word} {fuel : Nat} (hf : 18446744073709551616 ≤ fuel) (hl : m.Cells.length ≤ 1048576) (hb : b.length = m.Cells.length) :
    iter (m_impl_TidyMemory_b2 fuel m) fuel (0, m.Free, r.Tag, r.At, b, m.Redexes) = some (.inl ((relN m b m.Cells.length).2, r.Tag, r.At, (relN m b m.Cells.length).1, m.Redexes)) := by
  refine rel_loop hf hl hb (fun i c f cs hc hcs => ?_) (fun f cs => by unfold m_impl_TidyMemory_b2; rw [if_neg (by simp)])
  have hil := (List.getElem?_eq_some_iff.1 hc).1
  unfold m_impl_TidyMemory_b2 relC
  simp only [idx_at hc, Option.bind_some, m_impl_Cell_isVariable]
  rw [if_pos (by simpa using hil)]
  by_cases hk : c.Kind = 13
  · by_cases hw : c.Words.length ≠ 0
    · have hw2 := rel_words.2 hw
      simp only [hk, beq_self_eq_true, if_true, decide_eq_true hw2, decide_eq_true hw, Bool.and_self]
      unfold m_impl_TidyMemory_j3 m_impl_Memory_release m_impl_TidyMemory_j4
      rw [if_pos rfl, if_pos (by simp; omega)]
      simp
    · have hw2 : ¬ (c.Words.length : Int) > 0 := fun h => hw (rel_words.1 h)
      simp only [hk, beq_self_eq_true, if_true, decide_eq_false hw2, decide_eq_false hw, Bool.and_false]
      unfold m_impl_TidyMemory_j3 m_impl_TidyMemory_j4
      simp
  · rw [if_neg (by simpa using hk), beq_eq_false_iff_ne.2 hk, Bool.false_and]
    unfold m_impl_TidyMemory_j3 m_impl_TidyMemory_j4
    simp
theorem sum_set {α : Type} {f : α → Nat} {y : α} (hy : f y = 0) : ∀ (xs : List α) (k : Nat), sumL f (xs.set k y) ≤ sumL f xs
  | [], k => by simp
  | x :: xs, 0 => by simp only [List.set_cons_zero, sumL]; omega
  | x :: xs, k + 1 => by
    simp only [List.set_cons_succ, sumL]
    have := sum_set hy xs k
    omega
theorem sumL_map9 {α β : Type} {f : β → Nat} {g : α → β} : ∀ {xs : List α}, sumL f (xs.map g) = sumL (fun x => f (g x)) xs
  | [] => rfl
  | x :: xs => by simp only [List.map_cons, sumL, sumL_map9 (xs := xs)]
def tidyN (m : D.Memory) : D.Memory := ⟨(relN m (m.Cells.map (resC m)) m.Cells.length).1, (relN m (m.Cells.map (resC m)) m.Cells.length).2, resW m m.Root, m.Redexes⟩
theorem rel_res {m : D.Memory} (ho : okN m [] = true) : relN m (m.Cells.map (resC m)) m.Cells.length = relN m (m.Cells.map (resA m)) m.Cells.length := by
  refine relN_same (by simp) (by simp) fun j c hc hr => ?_
  rw [List.getElem?_map, List.getElem?_map, hc]
  simp only [Option.map_some]
  congr 1
  unfold resA
  have hcell := List.all_eq_true.1 (ok_cells ho).1 c (List.mem_of_getElem? hc)
  cases ha : agentKind c.Kind with
  | true => rw [if_pos rfl]
  | false =>
    rw [if_neg (by simp)]
    have hw : c.Words = [] := by
      unfold cellN at hcell
      by_cases h0 : c.Kind = 0
      · rw [if_pos h0] at hcell
        simp only [decide_eq_true_eq] at hcell
        exact List.eq_nil_of_length_eq_zero hcell.2.2
      · rw [if_neg h0] at hcell
        by_cases h13 : c.Kind = 13
        · unfold relC at hr
          simp only [h13, beq_self_eq_true, Bool.true_and, decide_eq_false_iff_not, ne_eq, Classical.not_not] at hr
          exact List.eq_nil_of_length_eq_zero hr
        · rw [if_neg h13, ha] at hcell
          cases hcell
    unfold resC
    rw [hw]
    obtain ⟨k, l, v, d, w⟩ := c
    dsimp only at hw
    subst hw
    rfl
theorem tidy_sz {m : D.Memory} (hs : m.sz ≤ 1048576) : (tidyN m).sz ≤ 1048576 := by
  have key : ∀ k (b : List D.Cell), sumL D.Cell.sz (relN m b k).1 ≤ sumL D.Cell.sz b := by
    intro k b
    induction k with
    | zero => exact Nat.le_refl _
    | succ k ih =>
      rw [relN_succ]
      split
      · refine Nat.le_trans ?_ ih
        exact sum_set (f := D.Cell.sz) rfl _ _
      · exact ih
  have h1 : sumL D.Cell.sz (m.Cells.map (resC m)) = sumL D.Cell.sz m.Cells := by
    rw [sumL_map9]
    have : (fun c => D.Cell.sz (resC m c)) = D.Cell.sz := by
      funext c
      unfold D.Cell.sz resC
      simp
    rw [this]
  unfold D.Memory.sz szL at hs ⊢
  unfold tidyN
  dsimp only
  have := key m.Cells.length (m.Cells.map (resC m))
  rw [relN_len, List.length_map]
  omega
theorem same_TidyMemory {fuel : Nat} {x : D.Memory} (hf : 18446744073709551616 ≤ fuel) (hw : D.Memory.wf x) (hs : x.sz ≤ 1048576) :
    ∃ r : D.Memory × Int, m_spec_TidyMemory fuel x = some r ∧ m_impl_TidyMemory fuel x = some r ∧ r.1.sz ≤ 1048576 := by
  obtain ⟨hl, hr⟩ := mem_len hs
  unfold m_spec_TidyMemory m_impl_TidyMemory
  rw [ok_spec hf hs, ok_impl hf hs, Option.bind_some, Option.bind_some]
  cases ho : okN x [] with
  | false => exact ⟨_, rfl, rfl, by unfold D.Memory.sz szL; simp [sumL]⟩
  | true =>
    have hroot : wordN x x.Root = true := (ok_cells ho).2.1 _ (by unfold wordsN; simp)
    rw [if_neg (by simp), if_neg (by simp)]
    unfold m_spec_l21Tidy m_spec_l21Tidy_j1 m_impl_TidyMemory_j1
    simp only [own_mem hf hs, copy_mem hf hs, resW_spec hf hl ho hroot, resW_impl hf hl ho hroot, Option.bind_some, first_spec hf hs ho, first_impl hf hs ho, aft_inl]
    rw [second_spec (r := resW x x.Root) hf hl (by simp), second_impl (r := resW x x.Root) hf hl (by simp), ← rel_res ho]
    refine ⟨(tidyN x, 0), ?_, ?_, tidy_sz hs⟩
    · simp [aft, m_spec_l21Tidy_j2, tidyN]
    · simp [aft, m_impl_TidyMemory_j2, tidyN]

theorem lawTidyMemory {x0 : D.Memory} (h0 : D.Memory.wf x0) : ∃ fuel, m_laws_FnExactTidyMemory fuel x0 = some true := by
  obtain ⟨fuel, hf⟩ : ∃ n : Nat, 18446744073709551616 ≤ n := ⟨_, Nat.le_refl _⟩
  refine ⟨fuel, ?_⟩
  unfold m_laws_FnExactTidyMemory
  obtain ⟨r0, e0, s0⟩ := szMemory_pure (l := (1048576 : Int)) hf h0 (by decide) (by omega)
  rw [e0, Option.bind_some]
  rcases s0 with s0 | ⟨s0, t0⟩
  · rw [if_pos (by simp [s0])]
  rw [if_neg (by simp [s0])]
  have z0 : D.Memory.sz x0 ≤ 1048576 := by omega
  obtain ⟨r, a0, a1, b0⟩ := same_TidyMemory hf h0 z0
  have m0 := fun {β : Type} (g : _ → Option β) => bind_of (g := g) a0
  have m1 := fun {β : Type} (g : _ → Option β) => bind_of (g := g) a1
  have m2 := fun {β : Type} (g : _ → Option β) => bind_of (g := g) (toMemory_pure hf z0)
  have m3 := fun {β : Type} (g : _ → Option β) => bind_of (g := g) (eqMemory_pure hf z0)
  have m4 := fun {β : Type} (g : _ → Option β) (k : Int) (h0 : 0 ≤ k) (h1 : k + (ctMemory x0 : Nat) ≤ 2147483648) => bind_of (g := g) (markMemory_pure hf z0 h0 h1)
  have c0 := ctMemory_le (x := x0)
  have m5 := fun {β : Type} (g : _ → Option β) => bind_of (g := g) (eqMemory_pure hf b0)
  have m6 := fun {β : Type} (g : _ → Option β) (k : Int) (h0 : 0 ≤ k) (h1 : k + (ctMemory r.1 : Nat) ≤ 2147483648) => bind_of (g := g) (markMemory_pure hf b0 h0 h1)
  have m7 := fun {β : Type} (g : _ → Option β) (k : Int) (h0 : 0 ≤ k) (h1 : k + (ctMemory r.1 : Nat) ≤ 2147483648) => bind_of (g := g) (heldMemory_pure hf b0 h0 h1)
  have d0 := ctMemory_le (x := r.1)
  simp (disch := omega) only [↓reduceIte, ↓m0, ↓m1, ↓m2, ↓m3, ↓m4, ↓m5, ↓m6, ↓m7, lt_f, Bool.not_true, Bool.false_eq_true, bne_self_eq_false, mkMemory_eta]
  simp (disch := omega) only [↓reduceIte, ↓m_laws_FnExactTidyMemory_j1, ↓m0, ↓m1, ↓m2, ↓m3, ↓m4, ↓m5, ↓m6, ↓m7, lt_f, Bool.not_true, Bool.false_eq_true, bne_self_eq_false, mkMemory_eta]
  simp (disch := omega) only [↓reduceIte, ↓m_laws_FnExactTidyMemory_j2, ↓m0, ↓m1, ↓m2, ↓m3, ↓m4, ↓m5, ↓m6, ↓m7, lt_f, Bool.not_true, Bool.false_eq_true, bne_self_eq_false, mkMemory_eta]
  simp (disch := omega) only [↓reduceIte, ↓m_laws_FnExactTidyMemory_j3, ↓m0, ↓m1, ↓m2, ↓m3, ↓m4, ↓m5, ↓m6, ↓m7, lt_f, Bool.not_true, Bool.false_eq_true, bne_self_eq_false, mkMemory_eta]
end Go.E
