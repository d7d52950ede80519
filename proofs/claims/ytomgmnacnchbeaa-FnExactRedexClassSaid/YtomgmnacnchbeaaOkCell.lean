/- Cells of a memory: the reference's and the program's tests of one cell agree. Conditions: the data within the law's bound. -/
import Derived.Test.YtomgmnacnchbeaaOkAgent
import Derived.Test.YtomgmnacnchbeaaFVb
import Derived.Test.YtomgmnacnchbeaaSzDefs
namespace Go.E
open Go.RowKit Go.Proofs
set_option linter.unusedSimpArgs false
set_option linter.unusedVariables false
def agentKind (k : Int) : Bool := decide (2 ≤ k ∧ k ≤ 12)
theorem isAgent_spec {fuel : Nat} {c : D.Cell} : m_spec_l21IsAgent fuel c = some (agentKind c.Kind) := by
  unfold m_spec_l21IsAgent agentKind; rw [in_pure]; rfl
theorem isAgent_impl {fuel : Nat} {c : D.Cell} : m_impl_Cell_isAgentCell fuel c = some (agentKind c.Kind) := by
  unfold m_impl_Cell_isAgentCell agentKind
  by_cases h1 : 2 ≤ c.Kind
  · rw [if_pos (decide_eq_true (by omega))]; simp [h1]
  · rw [if_neg (by simp; omega)]; simp [h1]

/-- a cell's own test, without the look at a free cell's next -/
def cellN (c : D.Cell) : Bool :=
  if c.Kind = 0 then decide (c.Level = 0 ∧ c.Data.length = 0 ∧ c.Words.length = 0) else
  if c.Kind = 13 then decide (c.Level = 0 ∧ c.Value = 0 ∧ c.Data.length = 0 ∧ c.Words.length < 2) else
  agentKind c.Kind && agentN c.Kind c.Level c.Value c.Data (c.Words.length + 1)

theorem l21Agent_pure {fuel : Nat} {c : D.Cell} (hf : 18446744073709551616 ≤ fuel) (hl : c.Words.length ≤ 1048576) :
    ∃ ps : List D.Port, m_spec_l21Agent fuel c = some ⟨c.Kind, c.Level, c.Value, c.Data, ps⟩ ∧ ps.length = c.Words.length + 1 := by
  obtain ⟨o, h2, h3⟩ := iter_count (body := m_spec_l21Agent_b1 fuel c) (fun i s => s.1 = (i : Int) ∧ s.2.length = i + 1) c.Words.length (fun o => ∃ ps : List D.Port, o = .inl ps ∧ ps.length = c.Words.length + 1) (by
    rintro i ⟨a, ps⟩ hi ⟨g1, g2⟩
    dsimp only at g1 g2
    subst g1
    refine .inl ⟨(w64 ((i : Int) + 1), ps ++ [⟨0, 0⟩]), ?_, ?_, ?_⟩
    · unfold m_spec_l21Agent_b1
      rw [if_pos (decide_eq_true (by omega)), if_pos (decide_eq_true (by simp; omega))]
    · dsimp only; rw [i64_small (by omega) (by omega)]; simp
    · simp [g2]) (by
    rintro ⟨a, ps⟩ ⟨g1, g2⟩
    dsimp only at g1 g2
    subst g1
    refine .inr ⟨_, ?_, ps, rfl, g2⟩
    unfold m_spec_l21Agent_b1
    rw [if_neg (by simp)]) (fuel := fuel) (i := 0) (s := (0, [⟨0, 0⟩])) (Nat.zero_le _) (by omega) ⟨rfl, rfl⟩
  obtain ⟨ps, rfl, h4⟩ := h3
  refine ⟨ps, ?_, h4⟩
  unfold m_spec_l21Agent m_spec_l21Agent_j1
  rw [h2]; rfl

theorem cell_impl {fuel : Nat} {c : D.Cell} (hf : 18446744073709551616 ≤ fuel) (hs : c.sz ≤ 1048576) : m_impl_validCell fuel c = some (cellN c) := by
  have hm : maxLen = 9223372036854775807 := rfl
  have hd : c.Data.length ≤ 1048576 := by unfold D.Cell.sz at hs; omega
  have hw : c.Words.length ≤ 1048576 := by unfold D.Cell.sz at hs; omega
  have hW : w64 ((c.Words.length : Int) + 1) = ((c.Words.length + 1 : Nat) : Int) := by rw [i64_small (by omega) (by omega)]; simp
  unfold m_impl_validCell cellN
  rw [isAgent_impl, Option.bind_some]
  by_cases ha : 2 ≤ c.Kind ∧ c.Kind ≤ 12
  · have ha2 : agentKind c.Kind = true := decide_eq_true ha
    rw [ha2, if_pos rfl, hW, if_pos (decide_eq_true (by omega)), agent_impl hf (by dsimp only; omega) (by simp) (by simp; omega), if_neg (by omega), if_neg (by omega)]
    simp
  · have ha2 : agentKind c.Kind = false := decide_eq_false ha
    rw [ha2, if_neg Bool.false_ne_true]
    unfold m_impl_Cell_isVariable m_impl_Cell_isFree
    simp only [Option.bind_some]
    by_cases h13 : c.Kind = 13
    · rw [if_pos (by simpa using h13), if_neg (show ¬ c.Kind = 0 by omega), if_pos h13]
      have e : decide ((c.Words.length : Int) ≤ 1) = decide (c.Words.length < 2) := by rw [decide_eq_decide]; omega
      by_cases h1 : c.Level = 0 <;> by_cases h2 : c.Value = 0 <;> by_cases h3 : c.Data.length = 0 <;> simp [h1, h2, h3, e]
    · rw [if_neg (by simpa using h13)]
      by_cases h0 : c.Kind = 0
      · rw [if_pos (by simpa using h0), if_pos h0]
        by_cases h1 : c.Level = 0 <;> by_cases h3 : c.Data.length = 0 <;> by_cases h4 : c.Words.length = 0 <;> simp [h1, h3, h4]
      · rw [if_neg (by simpa using h0), if_neg h0, if_neg h13]; rfl
theorem cell_spec {fuel : Nat} {c : D.Cell} {n : Nat} (hf : 18446744073709551616 ≤ fuel) (hs : c.sz ≤ 1048576) (hn : n ≤ maxLen) :
    m_spec_l21Cell fuel c n = some (cellN c && (if c.Kind = 0 then decide (-1 ≤ c.Value ∧ c.Value ≤ (n : Int) - 1) else true)) := by
  have hm : maxLen = 9223372036854775807 := rfl
  have hd : c.Data.length ≤ 1048576 := by unfold D.Cell.sz at hs; omega
  have hw : c.Words.length ≤ 1048576 := by unfold D.Cell.sz at hs; omega
  unfold m_spec_l21Cell cellN
  rw [fields_w hn]
  by_cases h0 : c.Kind = 0
  · rw [if_pos (by simpa using h0), if_pos h0, if_pos h0]
    simp only [in_pure, Option.bind_some]
    by_cases h1 : c.Level = 0 <;> by_cases h3 : c.Data.length = 0 <;> by_cases h4 : c.Words.length = 0 <;> simp [h1, h3, h4]
  · rw [if_neg (by simpa using h0), if_neg h0, if_neg h0, Bool.and_true]
    by_cases h13 : c.Kind = 13
    · rw [if_pos (by simpa using h13), if_pos h13]
      by_cases h1 : c.Level = 0 <;> by_cases h2 : c.Value = 0 <;> by_cases h3 : c.Data.length = 0 <;> simp [h1, h2, h3]
      omega
    · rw [if_neg (by simpa using h13), if_neg h13, isAgent_spec, Option.bind_some]
      by_cases ha : agentKind c.Kind = true
      · obtain ⟨ps, h1, h2⟩ := l21Agent_pure (c := c) hf hw
        rw [if_pos ha, ha, h1, Option.bind_some, agent_spec hf (by dsimp only; omega) (by dsimp only; omega) (by dsimp only; omega)]
        dsimp only [Option.bind_some]
        rw [h2]; rfl
      · rw [if_neg ha, Bool.eq_false_iff.2 ha]; rfl
end Go.E
