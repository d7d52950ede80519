/- A memory, fourth part: the whole test of both sides. Conditions: the data within the law's bound. -/
import Derived.Test.YtomgmnacnchbeaaOkMemoryc
namespace Go.E
open Go.RowKit Go.Proofs
set_option linter.unusedSimpArgs false
set_option linter.unusedVariables false

theorem all_same {α : Type} {f g : α → Bool} : ∀ {xs : List α}, (∀ x, x ∈ xs → f x = g x) → xs.all f = xs.all g
  | [], _ => rfl
  | x :: xs, h => by rw [List.all_cons, List.all_cons, h x List.mem_cons_self, all_same fun y hy => h y (List.mem_cons_of_mem _ hy)]
theorem all_two {α : Type} {f g : α → Bool} : ∀ {xs : List α}, xs.all (fun x => f x && g x) = (xs.all f && xs.all g)
  | [] => rfl
  | x :: xs => by
    rw [List.all_cons, List.all_cons, List.all_cons, all_two (xs := xs)]
    cases f x <;> cases g x <;> cases xs.all f <;> rfl
theorem range_at {n i x : Nat} (h : (List.range n)[i]? = some x) : x = i ∧ i < n := by
  obtain ⟨h1, h2⟩ := List.getElem?_eq_some_iff.1 h
  rw [List.getElem_range] at h2
  rw [List.length_range] at h1
  exact ⟨h2.symm, h1⟩

def occS (m : D.Memory) (t : List Int) (i : Nat) : Bool := (m.Cells[i]?).any fun c =>
  if agentKind c.Kind = true then (t[i]?).getD 0 == 1 else if c.Kind = 13 then (t[i]?).getD 0 == w64 (2 - (c.Words.length : Int)) else true
def occI (m : D.Memory) (t : List Int) (i : Nat) : Bool := (m.Cells[i]?).any fun c => (t[i]?).getD 0 == if c.Kind = 0 then 0 else if c.Kind = 13 ∧ c.Words.length = 0 then 2 else 1
def resS (m : D.Memory) (i : Nat) : Bool := (m.Cells[i]?).any fun c => !(c.Kind == 13) || (resN m (m.Cells.length + 1) ⟨2, i⟩).isSome

theorem var_word {m : D.Memory} {i : Nat} {c : D.Cell} (hc : m.Cells[i]? = some c) (h : c.Kind = 13) : wordN m ⟨2, i⟩ = true := by
  unfold wordN
  dsimp only
  rw [show (i : Int).toNat = i by omega, hc]
  simp [h]
theorem spec_occ_loop {m : D.Memory} {t : List Int} {fuel : Nat} (hf : 18446744073709551616 ≤ fuel) (hn : m.Cells.length ≤ 1048576) (ht : t.length = m.Cells.length) (hW : ∀ w, w ∈ wordsN m → wordN m w = true) :
    iter (m_spec_l21With_b4 fuel m t) fuel 0 = some (if (List.range m.Cells.length).all (fun i => occS m t i && resS m i) = true then .inl () else .inr false) := by
  have hm : maxLen = 9223372036854775807 := rfl
  exact (foldLoop (xs := List.range m.Cells.length) (body := m_spec_l21With_b4 fuel m t) (mk := fun i (_ : Unit) => i) (out := id) (g := fun s _ => s) (p := fun i => occS m t i && resS m i) (v := false) (s0 := ())
    (J := fun _ _ => True) (by rw [List.length_range]; omega) hf trivial
    (fun i s x hx hp hj => trivial)
    (fun i s x hi hx hj => by
      obtain ⟨rfl, hi⟩ := range_at hx
      obtain ⟨c, hc⟩ := at_lt hi
      obtain ⟨v, hv⟩ := at_lt (ht ▸ hi : x < t.length)
      unfold m_spec_l21With_b4 m_spec_l21With_j6 m_spec_l21With_j7 occS resS
      rw [if_pos (decide_eq_true (by omega)), idx_at hc, Option.bind_some, isAgent_spec, Option.bind_some, hc, hv, idx_at hv]
      simp only [Option.any_some, Option.getD_some, Option.bind_some]
      by_cases ha : agentKind c.Kind = true
      · have h13 : ¬ c.Kind = 13 := by unfold agentKind at ha; simp at ha; omega
        simp only [if_pos ha]
        by_cases h1 : v = 1 <;> simp [h1, h13]
      · simp only [if_neg ha]
        by_cases h13 : c.Kind = 13
        · obtain ⟨r, h1, h2, _⟩ := resolve_spec hf hn hW (var_word hc h13)
          rw [if_pos (by simp [h13]), h1, Option.bind_some, if_pos h13, h2]
          by_cases h3 : v = w64 (2 - (c.Words.length : Int))
          · cases (resN m (m.Cells.length + 1) ⟨2, (x : Int)⟩).isSome <;> simp [h3, h13]
          · simp [h3]
        · simp [h13])
    (fun s _ => by unfold m_spec_l21With_b4; rw [List.length_range, if_neg (by simp)])).1
theorem impl_res_loop {m : D.Memory} {fuel : Nat} (hf : 18446744073709551616 ≤ fuel) (hn : m.Cells.length ≤ 1048576) (hW : ∀ w, w ∈ wordsN m → wordN m w = true) :
    iter (m_impl_Memory_validWith_b1 fuel m) fuel 0 = some (if (List.range m.Cells.length).all (resS m) = true then .inl () else .inr false) := by
  have hm : maxLen = 9223372036854775807 := rfl
  exact (foldLoop (xs := List.range m.Cells.length) (body := m_impl_Memory_validWith_b1 fuel m) (mk := fun i (_ : Unit) => i) (out := id) (g := fun s _ => s) (p := resS m) (v := false) (s0 := ())
    (J := fun _ _ => True) (by rw [List.length_range]; omega) hf trivial
    (fun i s x hx hp hj => trivial)
    (fun i s x hi hx hj => by
      obtain ⟨rfl, hi⟩ := range_at hx
      obtain ⟨c, hc⟩ := at_lt hi
      unfold m_impl_Memory_validWith_b1 m_impl_Memory_validWith_j5 m_impl_Cell_isVariable resS
      rw [if_pos (decide_eq_true (by omega)), idx_at hc, Option.bind_some, Option.bind_some, hc]
      simp only [Option.any_some]
      by_cases h13 : c.Kind = 13
      · obtain ⟨r, h1, h2, _⟩ := resolve_impl hf hn hW (var_word hc h13)
        rw [if_pos (by simp [h13]), h1, Option.bind_some, h2]
        cases (resN m (m.Cells.length + 1) ⟨2, (x : Int)⟩).isSome <;> simp [h13]
      · simp [h13])
    (fun s _ => by unfold m_impl_Memory_validWith_b1; rw [List.length_range, if_neg (by simp)])).1
theorem impl_occ_loop {m : D.Memory} {t : List Int} {fuel : Nat} (hf : 18446744073709551616 ≤ fuel) (hn : m.Cells.length ≤ 1048576) (ht : t.length = m.Cells.length) :
    iter (m_impl_Memory_occurrencesOk_b3 fuel m t) fuel 0 = some (if (List.range m.Cells.length).all (occI m t) = true then .inl () else .inr false) := by
  have hm : maxLen = 9223372036854775807 := rfl
  exact (foldLoop (xs := List.range m.Cells.length) (body := m_impl_Memory_occurrencesOk_b3 fuel m t) (mk := fun i (_ : Unit) => i) (out := id) (g := fun s _ => s) (p := occI m t) (v := false) (s0 := ())
    (J := fun _ _ => True) (by rw [List.length_range]; omega) hf trivial
    (fun i s x hx hp hj => trivial)
    (fun i s x hi hx hj => by
      obtain ⟨rfl, hi⟩ := range_at hx
      obtain ⟨c, hc⟩ := at_lt hi
      obtain ⟨v, hv⟩ := at_lt (ht ▸ hi : x < t.length)
      unfold m_impl_Memory_occurrencesOk_b3 m_impl_Memory_occurrencesOk_j5 m_impl_Memory_occurrencesOk_j6 m_impl_Memory_occurrencesOk_j4 m_impl_Cell_isFree m_impl_Cell_isVariable occI
      rw [if_pos (decide_eq_true (by omega)), idx_at hc, Option.bind_some, Option.bind_some, hc, hv, idx_at hv]
      simp only [Option.any_some, Option.getD_some, Option.bind_some]
      by_cases h0 : c.Kind = 0
      · by_cases h1 : v = 0 <;> simp [h0, h1]
      · by_cases h13 : c.Kind = 13
        · by_cases hw : c.Words.length = 0
          · by_cases h1 : v = 2 <;> simp [h13, hw, h1]
          · by_cases h1 : v = 1 <;> simp [h13, hw, h1]
        · by_cases h1 : v = 1 <;> simp [h0, h13, h1])
    (fun s _ => by unfold m_impl_Memory_occurrencesOk_b3; rw [List.length_range, if_neg (by simp)])).1
theorem occ_same {m : D.Memory} {t : List Int} (hc : m.Cells.all cellN = true) (ht : cntOk m t) : (List.range m.Cells.length).all (occS m t) = (List.range m.Cells.length).all (occI m t) := by
  refine all_same fun i hi => ?_
  obtain ⟨c, hci⟩ := at_lt (List.mem_range.1 hi)
  have hcell := List.all_eq_true.1 hc c (List.mem_of_getElem? hci)
  unfold occS occI
  rw [hci]
  simp only [Option.any_some]
  unfold cellN at hcell
  by_cases h0 : c.Kind = 0
  · rw [if_neg (by unfold agentKind; simp [h0]), if_neg (by omega), if_pos h0, ht.2 i c hci h0]; rfl
  · rw [if_neg h0] at hcell
    rw [if_neg h0]
    by_cases h13 : c.Kind = 13
    · rw [if_pos h13] at hcell
      have hl : c.Words.length < 2 := by simp at hcell; omega
      rw [if_neg (by unfold agentKind; simp [h13]), if_pos h13]
      by_cases hw : c.Words.length = 0
      · rw [if_pos ⟨h13, hw⟩, hw]; rfl
      · rw [if_neg (fun h => hw h.2), show c.Words.length = 1 by omega]; rfl
    · rw [if_neg h13] at hcell
      have ha : agentKind c.Kind = true := by simp at hcell; exact hcell.1
      rw [if_pos ha, if_neg (fun h => h13 h.1)]
theorem impl_words_loop {m : D.Memory} {xs ys : List D.Word} {t : List Int} {fuel : Nat} (hf : 18446744073709551616 ≤ fuel) (hl : (xs ++ ys).length ≤ maxLen) (hW : (xs ++ ys).all (wordN m) = true) (ht : cntOk m t) :
    iter (m_impl_Memory_occurrencesOk_b1 fuel ys xs) fuel (0, t) = some (.inl ((xs ++ ys).foldl putW t)) := by
  have hm : maxLen = 9223372036854775807 := rfl
  have h := (foldLoop (xs := xs ++ ys) (body := m_impl_Memory_occurrencesOk_b1 fuel ys xs) (mk := fun i s => (i, s)) (out := id) (g := putW) (p := fun _ => true) (v := false) (s0 := t)
    (J := fun i s => cntOk m s) hl hf ht
    (fun i s x hx hp hj => putW_ok (List.all_eq_true.1 hW x (List.mem_of_getElem? hx)) hj)
    (fun i s x hi hx hj => by
      obtain ⟨h0, h1, _⟩ := word_lt (List.all_eq_true.1 hW x (List.mem_of_getElem? hx))
      unfold m_impl_Memory_occurrencesOk_b1
      dsimp only
      rw [if_pos (decide_eq_true (by omega)), idx_at hx, Option.bind_some, cnt_idx h0 (by rw [hj.1]; exact h1), Option.bind_some, if_pos (decide_eq_true ⟨h0, by rw [hj.1]; exact h1⟩)]
      rfl)
    (fun s _ => by unfold m_impl_Memory_occurrencesOk_b1; dsimp only; rw [if_neg (by simp)]; rfl)).1
  rw [h, if_pos (by simp)]; rfl
theorem impl_redex_loop {m : D.Memory} {t : List Int} {fuel : Nat} (hf : 18446744073709551616 ≤ fuel) (hl : m.Redexes.length ≤ maxLen) (hR : m.Redexes.all (redexN m) = true) (ht : cntOk m t) :
    iter (m_impl_Memory_occurrencesOk_b2 fuel m) fuel (0, t) = some (.inl (m.Redexes.foldl putR t)) := by
  have hm : maxLen = 9223372036854775807 := rfl
  have h := (foldLoop (xs := m.Redexes) (body := m_impl_Memory_occurrencesOk_b2 fuel m) (mk := fun i s => (i, s)) (out := id) (g := putR) (p := fun _ => true) (v := false) (s0 := t)
    (J := fun i s => cntOk m s) hl hf ht
    (fun i s x hx hp hj => putR_ok (List.all_eq_true.1 hR x (List.mem_of_getElem? hx)) hj)
    (fun i s x hi hx hj => by
      obtain ⟨_, ha, hb⟩ := redex_facts (List.all_eq_true.1 hR x (List.mem_of_getElem? hx))
      obtain ⟨a0, a1, _⟩ := agent_facts ha
      obtain ⟨b0, b1, _⟩ := agent_facts hb
      unfold m_impl_Memory_occurrencesOk_b2
      dsimp only
      have l1 : x.A.toNat < s.length := by rw [hj.1]; omega
      have l2 : x.B.toNat < (s.set x.A.toNat (w64 ((s[x.A.toNat]?).getD 0 + 1))).length := by rw [List.length_set, hj.1]; omega
      rw [if_pos (decide_eq_true (by omega)), idx_at hx, Option.bind_some, cnt_idx a0 l1, Option.bind_some, if_pos (decide_eq_true ⟨a0, l1⟩), cnt_idx b0 l2, Option.bind_some, if_pos (decide_eq_true ⟨b0, l2⟩)]
      rfl)
    (fun s _ => by unfold m_impl_Memory_occurrencesOk_b2; dsimp only; rw [if_neg (by simp)]; rfl)).1
  rw [h, if_pos (by simp)]; rfl

/-! the whole -/
def tallyN (m : D.Memory) (x1 : List D.Word) : List Int := m.Redexes.foldl putR ((wordsN m ++ x1).foldl putW (zerosN m))
def okN (m : D.Memory) (x1 : List D.Word) : Bool :=
  decide (1 ≤ m.Cells.length ∧ m.Cells.length ≤ 1500) && (decide (m.Redexes.length ≤ m.Cells.length) && (m.Cells.all cellN && ((wordsN m ++ x1).all (wordN m) && (m.Redexes.all (redexN m) &&
  ((List.range m.Cells.length).all (occI m (tallyN m x1)) && (chainN m (freeN m) m.Free && (List.range m.Cells.length).all (resS m)))))))

theorem valid_impl {m : D.Memory} {x1 : List D.Word} {fuel : Nat} (hf : 18446744073709551616 ≤ fuel) (hs : m.sz ≤ 1048576) (h1 : x1.length ≤ 1048576) : m_impl_Memory_validWith fuel m x1 = some (okN m x1) := by
  have hm : maxLen = 9223372036854775807 := rfl
  have hn : m.Cells.length ≤ 1048576 := by unfold D.Memory.sz szL at hs; omega
  have hr : m.Redexes.length ≤ 1048576 := by unfold D.Memory.sz szL at hs; omega
  have hw := words_all hs
  have hl : (wordsN m ++ x1).length ≤ maxLen := by rw [List.length_append]; omega
  have hj : ∀ t, m_impl_Memory_validWith_j1 fuel m x1 t = some (!t && (m.Cells.all cellN && ((wordsN m ++ x1).all (wordN m) && (m.Redexes.all (redexN m) &&
      ((List.range m.Cells.length).all (occI m (tallyN m x1)) && (chainN m (freeN m) m.Free && (List.range m.Cells.length).all (resS m))))))) := by
    intro t
    cases t with
    | true => rfl
    | false =>
      unfold m_impl_Memory_validWith_j1
      rw [if_neg Bool.false_ne_true, contains_Cell (p := fun c => !cellN c) hf (by omega) (fun c hc => by
        unfold m_impl_Memory_validWith_c1
        rw [cell_impl hf (szL_mem (f := D.Cell.sz) (xs := m.Cells) (n := 1048576) (by unfold D.Memory.sz at hs; omega) hc)]; rfl), any_all, Option.bind_some]
      cases hC : m.Cells.all cellN with
      | false => rfl
      | true =>
        rw [if_neg (by simp), words_impl hf hs, Option.bind_some, if_pos (decide_eq_true (by omega)), contains_Word (p := fun w => !wordN m w) hf hl (fun w _ => by unfold m_impl_Memory_validWith_c2; rw [word_impl]; rfl), any_all, Option.bind_some]
        cases hW : (wordsN m ++ x1).all (wordN m) with
        | false => rfl
        | true =>
          rw [if_neg (by simp), contains_Pair (p := fun w => !redexN m w) hf (by omega) (fun w _ => by unfold m_impl_Memory_validWith_c3; rw [redex_impl]; rfl), any_all, Option.bind_some]
          cases hR : m.Redexes.all (redexN m) with
          | false => rfl
          | true =>
            have hWs : ∀ w, w ∈ wordsN m → wordN m w = true := fun w hw => List.all_eq_true.1 hW w (List.mem_append_left _ hw)
            have t1 := (spec_words_loop (m := m) (xs := wordsN m) (ys := x1) (t := zerosN m) hf hn hl zeros_ok).2 hW
            have t2 : cntOk m (tallyN m x1) := (spec_redex_loop (m := m) (xs := m.Redexes) hf hn (by omega) t1).2 hR
            have ho : m_impl_Memory_occurrencesOk fuel m x1 = some ((List.range m.Cells.length).all (occI m (tallyN m x1))) := by
              unfold m_impl_Memory_occurrencesOk
              rw [if_pos (decide_eq_true (by omega)), words_impl hf hs, Option.bind_some, if_pos (decide_eq_true (by omega)), show List.replicate (m.Cells.length : Int).toNat (0 : Int) = zerosN m from rfl, impl_words_loop hf hl hW zeros_ok, Option.bind_some]
              show m_impl_Memory_occurrencesOk_j1 fuel m ((wordsN m ++ x1).foldl putW (zerosN m)) = _
              unfold m_impl_Memory_occurrencesOk_j1
              rw [impl_redex_loop hf (by omega) hR t1, Option.bind_some]
              show m_impl_Memory_occurrencesOk_j2 fuel m (tallyN m x1) = _
              unfold m_impl_Memory_occurrencesOk_j2
              rw [impl_occ_loop hf hn t2.1, Option.bind_some]
              cases (List.range m.Cells.length).all (occI m (tallyN m x1)) <;> rfl
            unfold m_impl_Memory_validWith_j2
            rw [if_neg (by simp), ho, Option.bind_some, chainAll_impl hf hn]
            cases (List.range m.Cells.length).all (occI m (tallyN m x1)) with
            | false => rfl
            | true =>
              rw [if_neg (by simp), Option.bind_some]
              unfold m_impl_Memory_validWith_j3
              cases chainN m (freeN m) m.Free with
              | false => rfl
              | true =>
                rw [if_neg (by simp), impl_res_loop hf hn hWs, Option.bind_some]
                cases (List.range m.Cells.length).all (resS m) <;> rfl
  unfold m_impl_Memory_validWith okN
  rw [hj, hj]
  by_cases a1 : m.Cells.length < 1
  · rw [if_pos (decide_eq_true (by omega)), decide_eq_false (show ¬ (1 ≤ m.Cells.length ∧ m.Cells.length ≤ 1500) by omega)]; rfl
  · by_cases a2 : m.Cells.length > 1500
    · rw [if_neg (by simp; omega), if_pos (decide_eq_true (by omega)), decide_eq_false (show ¬ (1 ≤ m.Cells.length ∧ m.Cells.length ≤ 1500) by omega)]; rfl
    · rw [if_neg (by simp; omega), if_neg (by simp; omega), decide_eq_true (show 1 ≤ m.Cells.length ∧ m.Cells.length ≤ 1500 by omega), Bool.true_and]
      by_cases a3 : m.Redexes.length ≤ m.Cells.length
      · rw [decide_eq_true a3, decide_eq_false (by omega)]; rfl
      · rw [decide_eq_false a3, decide_eq_true (by omega)]; rfl

theorem valid_spec {m : D.Memory} {x1 : List D.Word} {fuel : Nat} (hf : 18446744073709551616 ≤ fuel) (hs : m.sz ≤ 1048576) (h1 : x1.length ≤ 1048576) : m_spec_l21With fuel m x1 m.Redexes = some (okN m x1) := by
  have hm : maxLen = 9223372036854775807 := rfl
  have hn : m.Cells.length ≤ 1048576 := by unfold D.Memory.sz szL at hs; omega
  have hr : m.Redexes.length ≤ 1048576 := by unfold D.Memory.sz szL at hs; omega
  have hw := words_all hs
  have hl : (wordsN m ++ x1).length ≤ maxLen := by rw [List.length_append]; omega
  have hj : ∀ t, m_spec_l21With_j1 fuel m x1 m.Redexes t = some (!t && (m.Cells.all cellN && ((wordsN m ++ x1).all (wordN m) && (m.Redexes.all (redexN m) &&
      ((List.range m.Cells.length).all (occI m (tallyN m x1)) && (chainN m (freeN m) m.Free && (List.range m.Cells.length).all (resS m))))))) := by
    intro t
    cases t with
    | true => rfl
    | false =>
      unfold m_spec_l21With_j1
      rw [if_neg Bool.false_ne_true, cells_loop hf hs, Option.bind_some]
      -- the reference looks at a free cell's next here; the chain makes the same of it
      have hA : (m.Cells.all fun c => cellN c && (if c.Kind = 0 then decide (-1 ≤ c.Value ∧ c.Value ≤ (m.Cells.length : Int) - 1) else true)) =
          (m.Cells.all cellN && m.Cells.all fun c => if c.Kind = 0 then decide (-1 ≤ c.Value ∧ c.Value ≤ (m.Cells.length : Int) - 1) else true) := all_two
      rw [hA]
      cases hC : m.Cells.all cellN with
      | false => rfl
      | true =>
        have hV : chainN m (freeN m) m.Free = true → (m.Cells.all fun c => if c.Kind = 0 then decide (-1 ≤ c.Value ∧ c.Value ≤ (m.Cells.length : Int) - 1) else true) = true := fun h =>
          List.all_eq_true.2 fun c hc => by
            obtain ⟨i, hi⟩ := List.getElem?_of_mem hc
            by_cases h0 : c.Kind = 0
            · rw [if_pos h0]; exact decide_eq_true (free_range h hi h0)
            · rw [if_neg h0]
        cases hF : (m.Cells.all fun c => if c.Kind = 0 then decide (-1 ≤ c.Value ∧ c.Value ≤ (m.Cells.length : Int) - 1) else true) with
        | false =>
          have hch : chainN m (freeN m) m.Free = false := by
            cases h : chainN m (freeN m) m.Free with
            | false => rfl
            | true => rw [hV h] at hF; cases hF
          rw [hch]
          simp [aft]
        | true =>
          rw [Bool.true_and, if_pos rfl]
          show m_spec_l21With_j2 fuel m x1 m.Redexes (zerosN m) = _
          unfold m_spec_l21With_j2
          obtain ⟨g1, g2⟩ := spec_words_loop (m := m) (xs := wordsN m) (ys := x1) (t := zerosN m) hf hn hl zeros_ok
          rw [words_spec hf hs, Option.bind_some, if_pos (decide_eq_true (by omega)), g1, Option.bind_some]
          cases hW : (wordsN m ++ x1).all (wordN m) with
          | false => rfl
          | true =>
            have hWs : ∀ w, w ∈ wordsN m → wordN m w = true := fun w hw => List.all_eq_true.1 hW w (List.mem_append_left _ hw)
            have t1 := g2 hW
            obtain ⟨g3, g4⟩ := spec_redex_loop (m := m) (xs := m.Redexes) hf hn (by omega) t1
            rw [if_pos rfl]
            show m_spec_l21With_j3 fuel m m.Redexes ((wordsN m ++ x1).foldl putW (zerosN m)) = _
            unfold m_spec_l21With_j3
            rw [g3, Option.bind_some]
            cases hR : m.Redexes.all (redexN m) with
            | false => rfl
            | true =>
              have t2 : cntOk m (tallyN m x1) := g4 hR
              rw [if_pos rfl]
              show m_spec_l21With_j4 fuel m (tallyN m x1) = _
              unfold m_spec_l21With_j4
              rw [spec_occ_loop hf hn t2.1 hWs, Option.bind_some, all_two, occ_same (t := tallyN m x1) hC t2]
              cases (List.range m.Cells.length).all (occI m (tallyN m x1)) with
              | false => rfl
              | true =>
                cases (List.range m.Cells.length).all (resS m) with
                | false => simp [aft]
                | true =>
                  show m_spec_l21With_j5 fuel m () = _
                  unfold m_spec_l21With_j5
                  rw [chainAll_spec hf hn, Option.bind_some]
                  simp
  unfold m_spec_l21With okN
  rw [in_pure, Option.bind_some, hj, hj]
  by_cases a1 : 1 ≤ m.Cells.length ∧ m.Cells.length ≤ 1500
  · rw [if_neg (by simp; omega), decide_eq_true a1, Bool.true_and]
    by_cases a3 : m.Redexes.length ≤ m.Cells.length
    · rw [decide_eq_true a3, decide_eq_false (by omega)]; rfl
    · rw [decide_eq_false a3, decide_eq_true (by omega)]; rfl
  · rw [if_pos (by simp; omega), decide_eq_false a1]; rfl

theorem ok_spec {m : D.Memory} {fuel : Nat} (hf : 18446744073709551616 ≤ fuel) (hs : m.sz ≤ 1048576) : m_spec_l21Ok fuel m = some (okN m []) := by
  unfold m_spec_l21Ok
  rw [valid_spec hf hs (by simp)]; rfl
theorem ok_impl {m : D.Memory} {fuel : Nat} (hf : 18446744073709551616 ≤ fuel) (hs : m.sz ≤ 1048576) : m_impl_ValidMemory fuel m = some (okN m []) := by
  unfold m_impl_ValidMemory
  rw [valid_impl hf hs (by simp)]; rfl
end Go.E
