/- A memory, third part: counts and the whole test. Conditions: the data within the law's bound. -/
import Derived.Test.YtomgmnacnchbeaaOkMemoryb
namespace Go.E
open Go.RowKit Go.Proofs
set_option linter.unusedSimpArgs false
set_option linter.unusedVariables false

def cntOk (m : D.Memory) (t : List Int) : Prop := t.length = m.Cells.length ∧ ∀ (i : Nat) (c : D.Cell), m.Cells[i]? = some c → c.Kind = 0 → t[i]? = some 0
theorem cnt_keep {m : D.Memory} {t : List Int} {i : Int} {c : D.Cell} (h : cntOk m t) (hc : m.Cells[i.toNat]? = some c) (hk : c.Kind ≠ 0) : cntOk m (cntAt t i) := by
  refine ⟨by unfold cntAt; rw [List.length_set]; exact h.1, fun j d hd h0 => ?_⟩
  unfold cntAt
  have hij : i.toNat ≠ j := fun e => by rw [e, hd] at hc; cases hc; exact hk h0
  rw [List.getElem?_set_ne hij]
  exact h.2 j d hd h0
theorem cnt_idx {t : List Int} {i : Int} (h0 : 0 ≤ i) (h1 : i.toNat < t.length) : idx t i = some ((t[i.toNat]?).getD 0) := by
  unfold idx
  rw [if_pos h0]
  obtain ⟨v, hv⟩ := at_lt h1
  rw [hv]; rfl
theorem agent_facts {m : D.Memory} {i : Int} (h : agentAt m i = true) : 0 ≤ i ∧ i.toNat < m.Cells.length ∧ ∃ c, m.Cells[i.toNat]? = some c ∧ idx m.Cells i = some c ∧ agentKind c.Kind = true ∧ c.Kind ≠ 0 := by
  unfold agentAt at h
  rw [Bool.and_eq_true, decide_eq_true_eq] at h
  obtain ⟨h0, h1⟩ := h
  cases hc : m.Cells[i.toNat]? with
  | none => rw [hc] at h1; cases h1
  | some c =>
    rw [hc] at h1
    have h2 : agentKind c.Kind = true := by simpa using h1
    refine ⟨h0, (List.getElem?_eq_some_iff.1 hc).1, c, rfl, by unfold idx; rw [if_pos h0, hc], h2, ?_⟩
    unfold agentKind at h2
    simp at h2; omega
theorem word_lt {m : D.Memory} {w : D.Word} (h : wordN m w = true) : 0 ≤ w.At ∧ w.At.toNat < m.Cells.length ∧ ∃ c, m.Cells[w.At.toNat]? = some c ∧ c.Kind ≠ 0 := by
  obtain ⟨h0, c, h1, _, h2⟩ := word_facts h
  refine ⟨h0, (List.getElem?_eq_some_iff.1 h1).1, c, h1, ?_⟩
  rcases h2 with ⟨_, h2⟩ | ⟨_, h2⟩
  · unfold agentKind at h2; simp at h2; omega
  · omega

def putW (t : List Int) (w : D.Word) : List Int := cntAt t w.At
def putR (t : List Int) (p : D.Pair) : List Int := cntAt (cntAt t p.A) p.B
theorem putW_ok {m : D.Memory} {t : List Int} {w : D.Word} (hw : wordN m w = true) (h : cntOk m t) : cntOk m (putW t w) := by
  obtain ⟨_, _, c, h1, h2⟩ := word_lt hw
  exact cnt_keep h h1 h2
theorem redex_facts {m : D.Memory} {p : D.Pair} (h : redexN m p = true) : p.A < p.B ∧ agentAt m p.A = true ∧ agentAt m p.B = true := by
  unfold redexN at h; simpa using h
theorem putR_ok {m : D.Memory} {t : List Int} {p : D.Pair} (hp : redexN m p = true) (h : cntOk m t) : cntOk m (putR t p) := by
  obtain ⟨_, ha, hb⟩ := redex_facts hp
  obtain ⟨_, _, c, h1, _, _, h2⟩ := agent_facts ha
  obtain ⟨_, _, d, h3, _, _, h4⟩ := agent_facts hb
  exact cnt_keep (cnt_keep h h1 h2) h3 h4

/-- the zeros -/
def zerosN (m : D.Memory) : List Int := List.replicate m.Cells.length 0
theorem zeros_ok {m : D.Memory} : cntOk m (zerosN m) :=
  ⟨List.length_replicate, fun i c hc _ => by
    have := (List.getElem?_eq_some_iff.1 hc).1
    unfold zerosN
    rw [List.getElem?_replicate, if_pos this]⟩

/-! the reference's loops -/
theorem cells_loop {m : D.Memory} {fuel : Nat} (hf : 18446744073709551616 ≤ fuel) (hs : m.sz ≤ 1048576) :
    iter (m_spec_l21With_b1 fuel m) fuel (0, ([] : List Int)) = some (if (m.Cells.all fun c => cellN c && (if c.Kind = 0 then decide (-1 ≤ c.Value ∧ c.Value ≤ (m.Cells.length : Int) - 1) else true)) = true then .inl (zerosN m) else .inr false) := by
  have hm : maxLen = 9223372036854775807 := rfl
  have hn : m.Cells.length ≤ 1048576 := by unfold D.Memory.sz szL at hs; omega
  obtain ⟨h1, h2⟩ := foldLoop (xs := m.Cells) (body := m_spec_l21With_b1 fuel m) (mk := fun i s => (i, s)) (out := id) (g := fun s _ => s ++ [0]) (p := fun c => cellN c && (if c.Kind = 0 then decide (-1 ≤ c.Value ∧ c.Value ≤ (m.Cells.length : Int) - 1) else true)) (v := false) (s0 := [])
    (J := fun i s => s = List.replicate i 0) (by omega) hf rfl
    (fun i s x hx _ hj => by rw [hj, ← List.replicate_succ'])
    (fun i s x hi hx hj => by
      unfold m_spec_l21With_b1
      dsimp only
      rw [if_pos (decide_eq_true (by omega)), idx_at hx, Option.bind_some, cell_spec hf (szL_mem (f := D.Cell.sz) (xs := m.Cells) (n := 1048576) (by unfold D.Memory.sz at hs; omega) (List.mem_of_getElem? hx)) (by omega), Option.bind_some]
      have hl : s.length = i := by rw [hj, List.length_replicate]
      generalize (cellN x && (if x.Kind = 0 then decide (-1 ≤ x.Value ∧ x.Value ≤ (m.Cells.length : Int) - 1) else true)) = b
      cases b with
      | false => rw [if_pos (show (!false) = true from rfl), if_neg Bool.false_ne_true]
      | true => rw [if_neg (by simp), if_pos (decide_eq_true (by simp; omega)), if_pos (show true = true from rfl)])
    (fun s _ => by unfold m_spec_l21With_b1; dsimp only; rw [if_neg (by simp)]; rfl)
  rw [h1]
  split
  · rename_i h
    rw [h2 h]; rfl
  · rfl
theorem spec_words_loop {m : D.Memory} {xs ys : List D.Word} {t : List Int} {fuel : Nat} (hf : 18446744073709551616 ≤ fuel) (hn : m.Cells.length ≤ 1048576) (hl : (xs ++ ys).length ≤ maxLen) (ht : cntOk m t) :
    iter (m_spec_l21With_b2 fuel m ys xs) fuel (0, t) = some (if (xs ++ ys).all (wordN m) = true then .inl ((xs ++ ys).foldl putW t) else .inr false) ∧ ((xs ++ ys).all (wordN m) = true → cntOk m ((xs ++ ys).foldl putW t)) := by
  have hm : maxLen = 9223372036854775807 := rfl
  exact foldLoop (xs := xs ++ ys) (body := m_spec_l21With_b2 fuel m ys xs) (mk := fun i s => (i, s)) (out := id) (g := putW) (p := wordN m) (v := false) (s0 := t)
    (J := fun i s => cntOk m s) hl hf ht
    (fun i s x hx hp hj => putW_ok hp hj)
    (fun i s x hi hx hj => by
      unfold m_spec_l21With_b2
      dsimp only
      rw [if_pos (decide_eq_true (by omega)), idx_at hx, Option.bind_some, word_spec (by omega), Option.bind_some]
      cases hp : wordN m x with
      | false => rfl
      | true =>
        obtain ⟨h0, h1, _⟩ := word_lt hp
        rw [if_neg (by simp), Option.bind_some, cnt_idx h0 (by rw [hj.1]; exact h1), Option.bind_some, if_pos (decide_eq_true ⟨h0, by rw [hj.1]; exact h1⟩)]
        rfl)
    (fun s _ => by unfold m_spec_l21With_b2; dsimp only; rw [if_neg (by simp)]; rfl)
theorem spec_redex_loop {m : D.Memory} {xs : List D.Pair} {t : List Int} {fuel : Nat} (hf : 18446744073709551616 ≤ fuel) (hn : m.Cells.length ≤ 1048576) (hl : xs.length ≤ maxLen) (ht : cntOk m t) :
    iter (m_spec_l21With_b3 fuel m xs) fuel (0, t) = some (if xs.all (redexN m) = true then .inl (xs.foldl putR t) else .inr false) ∧ (xs.all (redexN m) = true → cntOk m (xs.foldl putR t)) := by
  have hm : maxLen = 9223372036854775807 := rfl
  exact foldLoop (xs := xs) (body := m_spec_l21With_b3 fuel m xs) (mk := fun i s => (i, s)) (out := id) (g := putR) (p := redexN m) (v := false) (s0 := t)
    (J := fun i s => cntOk m s) hl hf ht
    (fun i s x hx hp hj => putR_ok hp hj)
    (fun i s x hi hx hj => by
      unfold m_spec_l21With_b3 m_spec_l21With_j8
      dsimp only
      rw [if_pos (decide_eq_true (by omega)), idx_at hx, Option.bind_some, in_pure, fields_w (by omega), Option.bind_some]
      unfold redexN
      by_cases hB : 1 ≤ x.B ∧ x.B ≤ (m.Cells.length : Int) - 1
      · rw [if_neg (by simp; omega), in_pure, i64_small (by omega) (by omega), Option.bind_some]
        by_cases hA : 0 ≤ x.A ∧ x.A ≤ x.B - 1
        · obtain ⟨c, h1, h2⟩ := cell_at (m := m) hA.1 (by omega)
          obtain ⟨d, h3, h4⟩ := cell_at (m := m) (i := x.B) (by omega) (by omega)
          have eA : agentAt m x.A = agentKind c.Kind := by unfold agentAt; rw [h1]; simp [hA.1]
          have eB : agentAt m x.B = agentKind d.Kind := by unfold agentAt; rw [h3]; simp; omega
          rw [if_neg (by simp; omega), h2, Option.bind_some, isAgent_spec, Option.bind_some, decide_eq_true (show x.A < x.B by omega), eA, eB, h4]
          cases ha : agentKind c.Kind with
          | false => rfl
          | true =>
            rw [if_neg (by simp), Option.bind_some, isAgent_spec, Option.bind_some]
            cases hb : agentKind d.Kind with
            | false => rfl
            | true =>
              have l1 : x.A.toNat < s.length := by rw [hj.1]; omega
              have l2 : x.B.toNat < (s.set x.A.toNat (w64 ((s[x.A.toNat]?).getD 0 + 1))).length := by rw [List.length_set, hj.1]; omega
              rw [if_neg (by simp), cnt_idx hA.1 l1, Option.bind_some, if_pos (decide_eq_true ⟨hA.1, l1⟩), cnt_idx (by omega) l2, Option.bind_some, if_pos (decide_eq_true ⟨by omega, l2⟩)]
              rfl
        · rw [if_pos (by simp; omega)]
          have : (decide (x.A < x.B) && (agentAt m x.A && agentAt m x.B)) = false := by
            cases hA2 : agentAt m x.A with
            | false => simp
            | true => have := (agent_facts hA2).1; simp; intro h; omega
          rw [this]; rfl
      · rw [if_pos (by simp; omega)]
        have : (decide (x.A < x.B) && (agentAt m x.A && agentAt m x.B)) = false := by
          cases hA2 : agentAt m x.A with
          | false => simp
          | true =>
            cases hB2 : agentAt m x.B with
            | false => simp
            | true => have := (agent_facts hA2).1; have := (agent_facts hB2).2.1; have := (agent_facts hB2).1; simp; omega
        rw [this]; rfl)
    (fun s _ => by unfold m_spec_l21With_b3; dsimp only; rw [if_neg (by simp)]; rfl)
end Go.E
