/- A memory: the reference's and the program's tests agree. Conditions: the data within the law's bound. -/
import Derived.Test.YtomgmnacnchbeaaOkCell
namespace Go.E
open Go.RowKit Go.Proofs
set_option linter.unusedSimpArgs false
set_option linter.unusedVariables false

/-- A loop over a list that turns back with one value at the first element that fails, and else folds. -/
theorem foldLoop {α σ S τ ρ : Type} {xs : List α} {body : S → Option (Rd S τ ρ)} {mk : Int → σ → S} {out : σ → τ} {g : σ → α → σ} {p : α → Bool} {J : Nat → σ → Prop} {v : ρ} {s0 : σ} {fuel : Nat}
    (hl : xs.length ≤ maxLen) (hf : 18446744073709551616 ≤ fuel) (hJ : J 0 s0)
    (keep : ∀ (i : Nat) s x, xs[i]? = some x → p x = true → J i s → J (i + 1) (g s x))
    (step : ∀ (i : Nat) s x, i < xs.length → xs[i]? = some x → J i s → body (mk i s) = if p x = true then some (.next (mk (w64 (i + 1)) (g s x))) else some (.ret v))
    (last : ∀ s, J xs.length s → body (mk xs.length s) = some (.brk (out s))) :
    iter body fuel (mk 0 s0) = some (if xs.all p = true then .inl (out (xs.foldl g s0)) else .inr v) ∧ (xs.all p = true → J xs.length (xs.foldl g s0)) := by
  have hm : maxLen = 9223372036854775807 := rfl
  obtain ⟨o, h2, h3⟩ := iter_count (body := body) (fun i s => s = mk i ((xs.take i).foldl g s0) ∧ (xs.take i).all p = true ∧ J i ((xs.take i).foldl g s0)) xs.length
    (fun o => o = (if xs.all p = true then .inl (out (xs.foldl g s0)) else .inr v) ∧ (xs.all p = true → J xs.length (xs.foldl g s0))) (by
    rintro i s hi ⟨rfl, ha, hj⟩
    obtain ⟨x, hx⟩ := at_lt hi
    have hs := step i _ x hi hx hj
    cases hp : p x with
    | false =>
      rw [hp, if_neg (by simp)] at hs
      have : xs.all p = false := by
        rw [List.all_eq_false]; exact ⟨x, List.mem_of_getElem? hx, by rw [hp]; simp⟩
      exact .inr (.inl ⟨_, hs, by rw [this]; rfl, fun h => by rw [this] at h; cases h⟩)
    | true =>
      rw [hp, if_pos rfl] at hs
      refine .inl ⟨_, hs, ?_, ?_, ?_⟩
      · rw [i64_small (by omega) (by omega), List.take_add_one, hx]; simp
      · rw [List.take_add_one, hx]; simp [ha, hp]
      · rw [List.take_add_one, hx]; simpa using keep i _ x hx hp hj) (by
    rintro s ⟨rfl, ha, hj⟩
    rw [List.take_length] at ha hj
    refine .inr ⟨_, by rw [List.take_length]; exact last _ hj, ?_, fun _ => hj⟩
    rw [if_pos ha]) (fuel := fuel) (i := 0) (s := mk 0 s0) (Nat.zero_le _) (by omega) ⟨rfl, rfl, hJ⟩
  exact ⟨by rw [h2, h3.1], h3.2⟩

def agentAt (m : D.Memory) (i : Int) : Bool := decide (0 ≤ i) && (m.Cells[i.toNat]?).any fun c => agentKind c.Kind
def wordN (m : D.Memory) (w : D.Word) : Bool := decide (0 ≤ w.At) && (m.Cells[w.At.toNat]?).any fun c => (w.Tag == 1 && agentKind c.Kind) || (w.Tag == 2 && c.Kind == 13)
def redexN (m : D.Memory) (p : D.Pair) : Bool := decide (p.A < p.B) && (agentAt m p.A && agentAt m p.B)
def cntAt (t : List Int) (i : Int) : List Int := t.set i.toNat (w64 ((t[i.toNat]?).getD 0 + 1))
def wordsN (m : D.Memory) : List D.Word := m.Root :: m.Cells.flatMap fun c => c.Words

theorem cell_at {m : D.Memory} {i : Int} (h0 : 0 ≤ i) (h1 : i < m.Cells.length) : ∃ c, m.Cells[i.toNat]? = some c ∧ idx m.Cells i = some c := by
  obtain ⟨c, hc⟩ := at_lt (xs := m.Cells) (i := i.toNat) (by omega)
  exact ⟨c, hc, by unfold idx; rw [if_pos h0, hc]⟩
theorem has_impl {fuel : Nat} {m : D.Memory} {i : Int} : m_impl_Memory_hasCell fuel m i = some (decide (0 ≤ i ∧ i < m.Cells.length)) := by
  unfold m_impl_Memory_hasCell
  by_cases h1 : 0 ≤ i
  · rw [if_pos (decide_eq_true (by omega))]; simp [h1]
  · rw [if_neg (by simp; omega)]; simp [h1]
theorem off_at {α : Type} {xs : List α} {i : Int} {p : α → Bool} (h : ¬ (0 ≤ i ∧ i < xs.length)) : (decide (0 ≤ i) && (xs[i.toNat]?).any p) = false := by
  by_cases h0 : 0 ≤ i
  · rw [List.getElem?_eq_none (by omega)]; simp
  · simp [h0]
theorem word_impl {fuel : Nat} {m : D.Memory} {w : D.Word} : m_impl_Memory_validWord fuel m w = some (wordN m w) := by
  unfold m_impl_Memory_validWord wordN
  rw [has_impl, Option.bind_some]
  by_cases h : 0 ≤ w.At ∧ w.At < m.Cells.length
  · obtain ⟨c, h1, h2⟩ := cell_at h.1 h.2
    rw [if_neg (by simpa using h), h1, h2, Option.bind_some, isAgent_impl, Option.bind_some]
    simp only [m_impl_Cell_isVariable, Option.bind_some, h.1, decide_true, Bool.true_and, Option.any_some]
    by_cases t1 : w.Tag = 1
    · cases agentKind c.Kind <;> simp [t1]
    · by_cases t2 : w.Tag = 2 <;> simp [t1, t2]
  · rw [if_pos (by simp; omega), off_at h]
theorem word_spec {fuel : Nat} {m : D.Memory} {w : D.Word} (hn : m.Cells.length ≤ maxLen) : m_spec_l21Word fuel m w = some (wordN m w) := by
  unfold m_spec_l21Word wordN
  rw [in_pure, Option.bind_some, fields_w hn]
  by_cases h : 0 ≤ w.At ∧ w.At < m.Cells.length
  · obtain ⟨c, h1, h2⟩ := cell_at h.1 h.2
    rw [if_neg (by simp; omega), h1, h2, Option.bind_some, isAgent_spec, Option.bind_some]
    simp only [h.1, decide_true, Bool.true_and, Option.any_some]
    by_cases t1 : w.Tag = 1
    · cases agentKind c.Kind <;> simp [t1]
    · by_cases t2 : w.Tag = 2 <;> simp [t1, t2]
  · rw [if_pos (by simp; omega), off_at h]
theorem redex_impl {fuel : Nat} {m : D.Memory} {p : D.Pair} : m_impl_Memory_validRedex fuel m p = some (redexN m p) := by
  unfold m_impl_Memory_validRedex redexN agentAt
  by_cases hl : p.A < p.B
  · rw [if_pos (decide_eq_true hl), has_impl, Option.bind_some, has_impl, Option.bind_some]
    by_cases ha : 0 ≤ p.A ∧ p.A < m.Cells.length
    · rw [if_pos (decide_eq_true ha)]
      by_cases hb : 0 ≤ p.B ∧ p.B < m.Cells.length
      · obtain ⟨c, h1, h2⟩ := cell_at ha.1 ha.2
        obtain ⟨d, h3, h4⟩ := cell_at hb.1 hb.2
        rw [if_pos (decide_eq_true hb), h1, h2, h3, h4, Option.bind_some, isAgent_impl, Option.bind_some, Option.bind_some, isAgent_impl]
        simp only [Option.any_some]
        cases agentKind c.Kind <;> simp [hl, ha.1, hb.1]
      · rw [if_neg (by simpa using hb), off_at hb]; simp
    · rw [if_neg (by simpa using ha), off_at ha]; simp
  · rw [if_neg (by simpa using hl)]; simp [hl]
theorem contains_Cell {fuel : Nat} {p : D.Cell → Bool} {f : D.Cell → Option Bool} {xs : List D.Cell} (hf : 18446744073709551616 ≤ fuel) (hl : xs.length ≤ maxLen) (h : ∀ n, n ∈ xs → f n = some (p n)) :
    m_slices_ContainsFunc_impl_Cell_impl_Cell fuel xs f = some (xs.any p) := by
  unfold m_slices_ContainsFunc_impl_Cell_impl_Cell m_slices_IndexFunc_impl_Cell_impl_Cell
  obtain ⟨r, h1, h2⟩ := askIndex (xs := xs) (p := p) (body := m_slices_IndexFunc_impl_Cell_impl_Cell_b1 fuel xs f) (j := m_slices_IndexFunc_impl_Cell_impl_Cell_j1 fuel) (t := ()) hl hf rfl (fun i x hi hx => by
    simp only [m_slices_IndexFunc_impl_Cell_impl_Cell_b1, idx_at hx, h x (List.mem_of_getElem? hx), lt_t (show (i : Int) < xs.length by omega), if_true, Option.bind_some]) (by simp [m_slices_IndexFunc_impl_Cell_impl_Cell_b1])
  rw [h1, Option.bind_some, h2]
theorem contains_Word {fuel : Nat} {p : D.Word → Bool} {f : D.Word → Option Bool} {xs : List D.Word} (hf : 18446744073709551616 ≤ fuel) (hl : xs.length ≤ maxLen) (h : ∀ n, n ∈ xs → f n = some (p n)) :
    m_slices_ContainsFunc_impl_Word_impl_Word fuel xs f = some (xs.any p) := by
  unfold m_slices_ContainsFunc_impl_Word_impl_Word m_slices_IndexFunc_impl_Word_impl_Word
  obtain ⟨r, h1, h2⟩ := askIndex (xs := xs) (p := p) (body := m_slices_IndexFunc_impl_Word_impl_Word_b1 fuel xs f) (j := m_slices_IndexFunc_impl_Word_impl_Word_j1 fuel) (t := ()) hl hf rfl (fun i x hi hx => by
    simp only [m_slices_IndexFunc_impl_Word_impl_Word_b1, idx_at hx, h x (List.mem_of_getElem? hx), lt_t (show (i : Int) < xs.length by omega), if_true, Option.bind_some]) (by simp [m_slices_IndexFunc_impl_Word_impl_Word_b1])
  rw [h1, Option.bind_some, h2]
theorem contains_Pair {fuel : Nat} {p : D.Pair → Bool} {f : D.Pair → Option Bool} {xs : List D.Pair} (hf : 18446744073709551616 ≤ fuel) (hl : xs.length ≤ maxLen) (h : ∀ n, n ∈ xs → f n = some (p n)) :
    m_slices_ContainsFunc_impl_Pair_impl_Pair fuel xs f = some (xs.any p) := by
  unfold m_slices_ContainsFunc_impl_Pair_impl_Pair m_slices_IndexFunc_impl_Pair_impl_Pair
  obtain ⟨r, h1, h2⟩ := askIndex (xs := xs) (p := p) (body := m_slices_IndexFunc_impl_Pair_impl_Pair_b1 fuel xs f) (j := m_slices_IndexFunc_impl_Pair_impl_Pair_j1 fuel) (t := ()) hl hf rfl (fun i x hi hx => by
    simp only [m_slices_IndexFunc_impl_Pair_impl_Pair_b1, idx_at hx, h x (List.mem_of_getElem? hx), lt_t (show (i : Int) < xs.length by omega), if_true, Option.bind_some]) (by simp [m_slices_IndexFunc_impl_Pair_impl_Pair_b1])
  rw [h1, Option.bind_some, h2]

/-! the list of all words -/
theorem words_len {m : D.Memory} (hs : m.sz ≤ 1048576) (i : Nat) : ((m.Cells.take i).flatMap fun c => c.Words).length ≤ 1048576 := by
  have h : ∀ xs : List D.Cell, (xs.flatMap fun c => c.Words).length ≤ sumL D.Cell.sz xs := by
    intro xs
    induction xs with
    | nil => simp
    | cons x xs ih => rw [List.flatMap_cons, List.length_append]; unfold sumL; have : x.Words.length ≤ x.sz := by unfold D.Cell.sz; omega
                      omega
  have h2 : sumL D.Cell.sz (m.Cells.take i) ≤ sumL D.Cell.sz m.Cells := by
    have := sumL_append (f := D.Cell.sz) (xs := m.Cells.take i) (ys := m.Cells.drop i)
    rw [List.take_append_drop] at this; omega
  have h3 := h (m.Cells.take i)
  unfold D.Memory.sz szL at hs
  omega
theorem words_all {m : D.Memory} (hs : m.sz ≤ 1048576) : (wordsN m).length ≤ 1048577 := by
  have := words_len hs m.Cells.length
  rw [List.take_length] at this
  unfold wordsN
  rw [List.length_cons]; omega
theorem fold_words {cs : List D.Cell} : ∀ {w : List D.Word}, cs.foldl (fun s c => s ++ c.Words) w = w ++ cs.flatMap fun c => c.Words := by
  induction cs with
  | nil => intro w; simp
  | cons c cs ih => intro w; rw [List.foldl_cons, ih, List.flatMap_cons, List.append_assoc]
theorem words_spec {fuel : Nat} {m : D.Memory} (hf : 18446744073709551616 ≤ fuel) (hs : m.sz ≤ 1048576) : m_spec_l21Words fuel m = some (wordsN m) := by
  have hm : maxLen = 9223372036854775807 := rfl
  have hn : m.Cells.length ≤ 1048576 := by unfold D.Memory.sz szL at hs; omega
  have := (foldLoop (xs := m.Cells) (body := m_spec_l21Words_b1 fuel m) (mk := fun i s => (i, s)) (out := id) (g := fun s c => s ++ c.Words) (p := fun _ => true) (v := []) (s0 := [m.Root]) (J := fun i s => s = m.Root :: (m.Cells.take i).flatMap fun c => c.Words) (by omega) hf rfl
    (fun i s x hx _ hj => by subst hj; rw [List.take_add_one, hx]; simp)
    (fun i s x hi hx hj => by
      have h1 := words_len hs i
      have h2 : x.Words.length ≤ 1048576 := by
        have := szL_mem (f := D.Cell.sz) (xs := m.Cells) (n := 1048576) (by unfold D.Memory.sz at hs; omega) (List.mem_of_getElem? hx)
        unfold D.Cell.sz at this; omega
      unfold m_spec_l21Words_b1
      dsimp only
      rw [if_pos (decide_eq_true (by omega)), idx_at hx, Option.bind_some, if_pos (decide_eq_true (by rw [hj, List.length_cons]; omega)), if_pos rfl])
    (fun s _ => by unfold m_spec_l21Words_b1; dsimp only; rw [if_neg (by simp)]; rfl)).1
  unfold m_spec_l21Words
  rw [this, fold_words]
  simp [aft, m_spec_l21Words_j1, wordsN]
theorem words_impl {fuel : Nat} {m : D.Memory} (hf : 18446744073709551616 ≤ fuel) (hs : m.sz ≤ 1048576) : m_impl_Memory_words fuel m = some (wordsN m) := by
  rw [← words_spec hf hs]; rfl

/-! looking through variables -/
theorem word_facts {m : D.Memory} {w : D.Word} (h : wordN m w = true) : 0 ≤ w.At ∧ ∃ c, m.Cells[w.At.toNat]? = some c ∧ idx m.Cells w.At = some c ∧ ((w.Tag = 1 ∧ agentKind c.Kind = true) ∨ (w.Tag = 2 ∧ c.Kind = 13)) := by
  unfold wordN at h
  rw [Bool.and_eq_true, decide_eq_true_eq] at h
  obtain ⟨h0, h1⟩ := h
  cases hc : m.Cells[w.At.toNat]? with
  | none => rw [hc] at h1; cases h1
  | some c =>
    rw [hc] at h1
    refine ⟨h0, c, rfl, by unfold idx; rw [if_pos h0, hc], ?_⟩
    simpa using h1
def stopN (m : D.Memory) (w : D.Word) : Bool := w.Tag == 1 || (m.Cells[w.At.toNat]?).any fun c => c.Words.isEmpty
def nextN (m : D.Memory) (w : D.Word) : D.Word := match m.Cells[w.At.toNat]? with
  | some c => c.Words.headD ⟨0, 0⟩
  | none => ⟨0, 0⟩
def resN (m : D.Memory) : Nat → D.Word → Option D.Word
  | 0, _ => none
  | k + 1, w => if stopN m w = true then some w else resN m k (nextN m w)
theorem word_mem {m : D.Memory} {c : D.Cell} {i : Nat} {w : D.Word} (hc : m.Cells[i]? = some c) (hw : w ∈ c.Words) : w ∈ wordsN m :=
  List.mem_cons_of_mem _ (List.mem_flatMap.2 ⟨c, List.mem_of_getElem? hc, hw⟩)

theorem res_spec {m : D.Memory} {fl : Nat} (hn : m.Cells.length ≤ 1048576) (hW : ∀ w, w ∈ wordsN m → wordN m w = true) : ∀ (k : Nat) (w : D.Word) (fuel : Nat), wordN m w = true → k ≤ m.Cells.length + 1 → k < fuel →
    ∃ o, iter (m_spec_l21Resolve_b1 fl m) fuel ((k : Int) - 1, w.Tag, w.At) = some o ∧ (match resN m k w with | some r => o = .inr (r, true) | none => ∃ t, o = .inl t) := by
  intro k
  induction k with
  | zero =>
    intro w fuel hw hk hfu
    cases fuel with
    | zero => omega
    | succ fuel =>
      exact ⟨.inl (w.Tag, w.At), by simp [iter, m_spec_l21Resolve_b1], _, rfl⟩
  | succ k ih =>
    intro w fuel hw hk hfu
    cases fuel with
    | zero => omega
    | succ fuel =>
      obtain ⟨h0, c, h1, h2, h3⟩ := word_facts hw
      have hb : m_spec_l21Resolve_b1 fl m (((k + 1 : Nat) : Int) - 1, w.Tag, w.At) = if stopN m w = true then some (.ret (w, true)) else some (.next ((k : Int) - 1, (nextN m w).Tag, (nextN m w).At)) := by
        unfold m_spec_l21Resolve_b1
        dsimp only
        rw [if_pos (decide_eq_true (by omega)), h2]
        unfold stopN nextN
        rw [h1]
        rcases h3 with ⟨h3, h4⟩ | ⟨h3, h4⟩
        · rw [if_pos (by rw [h3]; rfl), if_pos (by rw [h3]; rfl)]; rfl
        · rw [if_neg (by rw [h3]; simp), Option.bind_some, h3]
          unfold m_spec_l21Resolve_j2
          dsimp only
          rw [h2]
          cases hws : c.Words with
          | nil => simp [hws, ← h3]
          | cons v vs =>
            rw [if_neg (by simp; omega), if_neg (by simp [hws]), Option.bind_some, hws, show idx (v :: vs) 0 = some v from rfl, Option.bind_some, i64_small (by omega) (by omega)]
            simp
      simp only [iter, hb, resN]
      by_cases hst : stopN m w = true
      · rw [if_pos hst, if_pos hst]; exact ⟨_, rfl, rfl⟩
      · rw [if_neg hst, if_neg hst]
        refine ih (nextN m w) fuel ?_ (by omega) (by omega)
        unfold nextN
        rw [h1]
        cases hws : c.Words with
        | nil => exact absurd (by unfold stopN; rw [h1]; simp [hws]) hst
        | cons v vs =>
          show wordN m (c.Words.headD ⟨0, 0⟩) = true
          rw [hws]
          exact hW v (word_mem h1 (by rw [hws]; exact List.mem_cons_self))
theorem res_impl {m : D.Memory} {fl : Nat} (hn : m.Cells.length ≤ 1048576) (hW : ∀ w, w ∈ wordsN m → wordN m w = true) : ∀ (k : Nat) (w : D.Word) (fuel : Nat) (i : Nat), wordN m w = true → i + k = m.Cells.length + 1 → k < fuel →
    ∃ o, iter (m_impl_Memory_resolve_b1 fl m) fuel ((i : Int), w.Tag, w.At) = some o ∧ (match resN m k w with | some r => o = .inr (r, true) | none => ∃ t, o = .inl t) := by
  have hN : w64 ((m.Cells.length : Int) + 1) = ((m.Cells.length + 1 : Nat) : Int) := by rw [i64_small (by omega) (by omega)]; simp
  intro k
  induction k with
  | zero =>
    intro w fuel i hw hk hfu
    cases fuel with
    | zero => omega
    | succ fuel =>
      have hb : m_impl_Memory_resolve_b1 fl m ((i : Int), w.Tag, w.At) = some (.brk (w.Tag, w.At)) := by
        unfold m_impl_Memory_resolve_b1
        dsimp only
        rw [hN, if_neg (by simp; omega)]
      simp only [iter, hb]
      exact ⟨_, rfl, _, rfl⟩
  | succ k ih =>
    intro w fuel i hw hk hfu
    cases fuel with
    | zero => omega
    | succ fuel =>
      obtain ⟨h0, c, h1, h2, h3⟩ := word_facts hw
      have hb : m_impl_Memory_resolve_b1 fl m ((i : Int), w.Tag, w.At) = if stopN m w = true then some (.ret (w, true)) else some (.next (((i + 1 : Nat) : Int), (nextN m w).Tag, (nextN m w).At)) := by
        unfold m_impl_Memory_resolve_b1
        dsimp only
        rw [hN, if_pos (decide_eq_true (by omega)), h2]
        unfold stopN nextN
        rw [h1]
        rcases h3 with ⟨h3, h4⟩ | ⟨h3, h4⟩
        · rw [if_pos (by rw [h3]; rfl), if_pos (by rw [h3]; rfl)]; rfl
        · rw [if_neg (by rw [h3]; simp), Option.bind_some, h3]
          unfold m_impl_Memory_resolve_j2
          dsimp only
          rw [h2]
          cases hws : c.Words with
          | nil => simp [hws, ← h3]
          | cons v vs =>
            rw [if_neg (by simp; omega), if_neg (by simp [hws]), Option.bind_some, hws, show idx (v :: vs) 0 = some v from rfl, Option.bind_some, i64_small (by omega) (by omega)]
            simp
      simp only [iter, hb, resN]
      by_cases hst : stopN m w = true
      · rw [if_pos hst, if_pos hst]; exact ⟨_, rfl, rfl⟩
      · rw [if_neg hst, if_neg hst]
        refine ih (nextN m w) fuel (i + 1) ?_ (by omega) (by omega)
        unfold nextN
        rw [h1]
        cases hws : c.Words with
        | nil => exact absurd (by unfold stopN; rw [h1]; simp [hws]) hst
        | cons v vs =>
          show wordN m (c.Words.headD ⟨0, 0⟩) = true
          rw [hws]
          exact hW v (word_mem h1 (by rw [hws]; exact List.mem_cons_self))
theorem resolve_spec {m : D.Memory} {fuel : Nat} {w : D.Word} (hf : 18446744073709551616 ≤ fuel) (hn : m.Cells.length ≤ 1048576) (hW : ∀ w, w ∈ wordsN m → wordN m w = true) (hw : wordN m w = true) :
    ∃ x, m_spec_l21Resolve fuel m w = some x ∧ x.2 = (resN m (m.Cells.length + 1) w).isSome ∧ ∀ r, resN m (m.Cells.length + 1) w = some r → x = (r, true) := by
  obtain ⟨o, h1, h2⟩ := res_spec (fl := fuel) hn hW (m.Cells.length + 1) w fuel hw (Nat.le_refl _) (by omega)
  rw [show ((m.Cells.length + 1 : Nat) : Int) - 1 = (m.Cells.length : Int) by omega] at h1
  unfold m_spec_l21Resolve
  rw [h1]
  cases hr : resN m (m.Cells.length + 1) w with
  | some r => rw [hr] at h2; subst h2; exact ⟨_, rfl, rfl, fun r' h => by cases h; rfl⟩
  | none => rw [hr] at h2; obtain ⟨t, rfl⟩ := h2; exact ⟨_, rfl, rfl, fun r' h => by cases h⟩
theorem resolve_impl {m : D.Memory} {fuel : Nat} {w : D.Word} (hf : 18446744073709551616 ≤ fuel) (hn : m.Cells.length ≤ 1048576) (hW : ∀ w, w ∈ wordsN m → wordN m w = true) (hw : wordN m w = true) :
    ∃ x, m_impl_Memory_resolve fuel m w = some x ∧ x.2 = (resN m (m.Cells.length + 1) w).isSome ∧ ∀ r, resN m (m.Cells.length + 1) w = some r → x = (r, true) := by
  obtain ⟨o, h1, h2⟩ := res_impl (fl := fuel) hn hW (m.Cells.length + 1) w fuel 0 hw (by omega) (by omega)
  rw [show ((0 : Nat) : Int) = 0 from rfl] at h1
  unfold m_impl_Memory_resolve
  rw [h1]
  cases hr : resN m (m.Cells.length + 1) w with
  | some r => rw [hr] at h2; subst h2; exact ⟨_, rfl, rfl, fun r' h => by cases h; rfl⟩
  | none => rw [hr] at h2; obtain ⟨t, rfl⟩ := h2; exact ⟨_, rfl, rfl, fun r' h => by cases h⟩

/-! the chain of free cells -/
def chainN (m : D.Memory) : Nat → Int → Bool
  | 0, a => a == -1
  | k + 1, a => decide (0 ≤ a) && (m.Cells[a.toNat]?).any fun c => c.Kind == 0 && chainN m k c.Value
theorem chain_spec {m : D.Memory} {fl : Nat} (hn : m.Cells.length ≤ 1048576) : ∀ (k : Nat) (a : Int) (fuel : Nat), k ≤ m.Cells.length → k < fuel →
    ((iter (m_spec_l21Chain_b2 fl m) fuel ((k : Int), a)).bind fun o => aft o (m_spec_l21Chain_j2 fl)) = some (chainN m k a) := by
  have hm : maxLen = 9223372036854775807 := rfl
  intro k
  induction k with
  | zero =>
    intro a fuel hk hfu
    cases fuel with
    | zero => omega
    | succ fuel => simp [iter, m_spec_l21Chain_b2, aft, m_spec_l21Chain_j2, chainN]
  | succ k ih =>
    intro a fuel hk hfu
    cases fuel with
    | zero => omega
    | succ fuel =>
      by_cases h : 0 ≤ a ∧ a < m.Cells.length
      · obtain ⟨c, h1, h2⟩ := cell_at h.1 h.2
        by_cases h0 : c.Kind = 0
        · have hb : m_spec_l21Chain_b2 fl m (((k + 1 : Nat) : Int), a) = some (.next ((k : Int), c.Value)) := by
            unfold m_spec_l21Chain_b2 m_spec_l21Chain_j3
            dsimp only
            rw [if_pos (decide_eq_true (by omega)), in_pure, fields_w (by omega), Option.bind_some, if_neg (by simp; omega), h2, Option.bind_some, if_neg (by simp [h0]), Option.bind_some, i64_small (by omega) (by omega)]
            simp
          simp only [iter, hb, chainN, h1, h.1, decide_true, Bool.true_and, Option.any_some, h0, beq_self_eq_true]
          exact ih c.Value fuel (by omega) (by omega)
        · have hb : m_spec_l21Chain_b2 fl m (((k + 1 : Nat) : Int), a) = some (.ret false) := by
            unfold m_spec_l21Chain_b2 m_spec_l21Chain_j3
            dsimp only
            rw [if_pos (decide_eq_true (by omega)), in_pure, fields_w (by omega), Option.bind_some, if_neg (by simp; omega), h2, Option.bind_some, if_pos (by simpa using h0)]
          simp only [iter, hb, chainN, h1, h.1, decide_true, Bool.true_and, Option.any_some]
          rw [show (c.Kind == 0) = false by simpa using h0]; rfl
      · have hb : m_spec_l21Chain_b2 fl m (((k + 1 : Nat) : Int), a) = some (.ret false) := by
          unfold m_spec_l21Chain_b2 m_spec_l21Chain_j3
          dsimp only
          rw [if_pos (decide_eq_true (by omega)), in_pure, fields_w (by omega), Option.bind_some, if_pos (by simp; omega)]; rfl
        simp only [iter, hb, chainN, off_at h]
        rfl
theorem chain_impl {m : D.Memory} {fl : Nat} {t : Nat} (hn : m.Cells.length ≤ 1048576) (ht : t ≤ m.Cells.length) : ∀ (k : Nat) (a : Int) (fuel : Nat) (i : Nat), i + k = t → k < fuel →
    ((iter (m_impl_Memory_freeOk_b2 fl m (t : Int)) fuel (a, (i : Int))).bind fun o => aft o (m_impl_Memory_freeOk_j2 fl)) = some (chainN m k a) := by
  have hm : maxLen = 9223372036854775807 := rfl
  intro k
  induction k with
  | zero =>
    intro a fuel i hk hfu
    cases fuel with
    | zero => omega
    | succ fuel =>
      have hb : m_impl_Memory_freeOk_b2 fl m (t : Int) (a, (i : Int)) = some (.brk a) := by
        unfold m_impl_Memory_freeOk_b2
        dsimp only
        rw [if_neg (by simp; omega)]
      simp [iter, hb, aft, m_impl_Memory_freeOk_j2, chainN]
  | succ k ih =>
    intro a fuel i hk hfu
    cases fuel with
    | zero => omega
    | succ fuel =>
      by_cases h : 0 ≤ a ∧ a < m.Cells.length
      · obtain ⟨c, h1, h2⟩ := cell_at h.1 h.2
        by_cases h0 : c.Kind = 0
        · have hb : m_impl_Memory_freeOk_b2 fl m (t : Int) (a, (i : Int)) = some (.next (c.Value, ((i + 1 : Nat) : Int))) := by
            unfold m_impl_Memory_freeOk_b2 m_impl_Memory_freeOk_j3 m_impl_Cell_isFree
            dsimp only
            rw [if_pos (decide_eq_true (by omega)), has_impl, Option.bind_some, if_neg (by simp; omega), h2, Option.bind_some, Option.bind_some, if_neg (by simp [h0]), Option.bind_some, i64_small (by omega) (by omega)]
            simp
          simp only [iter, hb, chainN, h1, h.1, decide_true, Bool.true_and, Option.any_some, h0, beq_self_eq_true]
          exact ih c.Value fuel (i + 1) (by omega) (by omega)
        · have hb : m_impl_Memory_freeOk_b2 fl m (t : Int) (a, (i : Int)) = some (.ret false) := by
            unfold m_impl_Memory_freeOk_b2 m_impl_Memory_freeOk_j3 m_impl_Cell_isFree
            dsimp only
            rw [if_pos (decide_eq_true (by omega)), has_impl, Option.bind_some, if_neg (by simp; omega), h2, Option.bind_some, Option.bind_some, if_pos (by simpa using h0)]
          simp only [iter, hb, chainN, h1, h.1, decide_true, Bool.true_and, Option.any_some]
          rw [show (c.Kind == 0) = false by simpa using h0]; rfl
      · have hb : m_impl_Memory_freeOk_b2 fl m (t : Int) (a, (i : Int)) = some (.ret false) := by
          unfold m_impl_Memory_freeOk_b2 m_impl_Memory_freeOk_j3
          dsimp only
          rw [if_pos (decide_eq_true (by omega)), has_impl, Option.bind_some, if_pos (by simp; omega)]; rfl
        simp only [iter, hb, chainN, off_at h]
        rfl
end Go.E
