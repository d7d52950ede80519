/- A memory, fifth part: what holds of a memory that passes the test; words resolve. Conditions: the data within the law's bound. -/
import Derived.Test.YtomgmnacnchbeaaOkMemoryd
namespace Go.E
open Go.RowKit Go.Proofs
set_option linter.unusedSimpArgs false
set_option linter.unusedVariables false

theorem ok_cells {m : D.Memory} {x1 : List D.Word} (h : okN m x1 = true) : m.Cells.all cellN = true ∧ (∀ w, w ∈ wordsN m → wordN m w = true) ∧ (List.range m.Cells.length).all (resS m) = true := by
  unfold okN at h
  rw [Bool.and_eq_true, Bool.and_eq_true, Bool.and_eq_true, Bool.and_eq_true, Bool.and_eq_true, Bool.and_eq_true, Bool.and_eq_true] at h
  obtain ⟨_, _, h1, h2, _, _, _, h3⟩ := h
  exact ⟨h1, fun w hw => List.all_eq_true.1 h2 w (List.mem_append_left _ hw), h3⟩
theorem res_total {m : D.Memory} {x1 : List D.Word} (ho : okN m x1 = true) {w : D.Word} (hw : wordN m w = true) : ∃ r, resN m (m.Cells.length + 1) w = some r := by
  obtain ⟨_, hW, hR⟩ := ok_cells ho
  rw [← Option.isSome_iff_exists]
  obtain ⟨h0, c, h1, _, h3⟩ := word_facts hw
  rcases h3 with ⟨h3, _⟩ | ⟨h3, h4⟩
  · have : stopN m w = true := by unfold stopN; rw [h3]; rfl
    unfold resN
    rw [if_pos this]; rfl
  · have := List.all_eq_true.1 hR w.At.toNat (List.mem_range.2 (List.getElem?_eq_some_iff.1 h1).1)
    unfold resS at this
    rw [h1] at this
    simp only [Option.any_some, h4, beq_self_eq_true, Bool.not_true, Bool.false_or] at this
    rw [show ((w.At.toNat : Nat) : Int) = w.At by omega] at this
    obtain ⟨tg, at_⟩ := w
    dsimp only at h3 this
    rw [h3]
    exact this
/-- what a word comes to -/
def resW (m : D.Memory) (w : D.Word) : D.Word := (resN m (m.Cells.length + 1) w).getD w
theorem resW_spec {m : D.Memory} {x1 : List D.Word} {fuel : Nat} (hf : 18446744073709551616 ≤ fuel) (hn : m.Cells.length ≤ 1048576) (ho : okN m x1 = true) {w : D.Word} (hw : wordN m w = true) : m_spec_l21Resolve fuel m w = some (resW m w, true) := by
  obtain ⟨r, hr⟩ := res_total ho hw
  obtain ⟨a, a1, _, a2⟩ := resolve_spec hf hn (ok_cells ho).2.1 hw
  rw [a1, a2 r hr]
  unfold resW
  rw [hr]; rfl
theorem resW_impl {m : D.Memory} {x1 : List D.Word} {fuel : Nat} (hf : 18446744073709551616 ≤ fuel) (hn : m.Cells.length ≤ 1048576) (ho : okN m x1 = true) {w : D.Word} (hw : wordN m w = true) : m_impl_Memory_resolve fuel m w = some (resW m w, true) := by
  obtain ⟨r, hr⟩ := res_total ho hw
  obtain ⟨a, a1, _, a2⟩ := resolve_impl hf hn (ok_cells ho).2.1 hw
  rw [a1, a2 r hr]
  unfold resW
  rw [hr]; rfl
end Go.E
