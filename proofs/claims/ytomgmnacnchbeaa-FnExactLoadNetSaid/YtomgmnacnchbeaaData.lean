/- How structs of plain data are opened to cells and shut again. Conditions: none (rules). -/
import Derived.Test.YtomgmnacnchbeaaDraw
namespace Go.E
open Go.RowKit
set_option linter.unusedVariables false
set_option linter.unusedSimpArgs false

def Emp : Res where
  A := fun _ G => G = []
  loc := fun h _ => h
  lt := by rintro w G h g hg; rw [h] at hg; cases hg

def All : List Res → Res
  | [] => Emp
  | R :: Rs => Both R (All Rs)

section
variable {W w : World} {B : List Res}

theorem St.ofEmp (h : St W w (Emp :: B)) : St W w B := h.drop
theorem St.toEmp (h : St W w B) : St W w (Emp :: B) := ⟨h.ext, ⟨[], rfl, by simp, by simp, h.sep⟩⟩

theorem St.splitAll : ∀ {Rs : List Res} {B : List Res}, St W w (All Rs :: B) → St W w (Rs ++ B)
  | [], _, h => h.ofEmp
  | R :: Rs, B, h => by
    have h1 : St W w (All Rs :: R :: B) := (St.split h).perm (List.Perm.swap _ _ _)
    have h2 := St.splitAll h1
    exact h2.perm List.perm_middle

theorem St.fuseAll : ∀ {Rs : List Res} {B : List Res}, St W w (Rs ++ B) → St W w (All Rs :: B)
  | [], _, h => h.toEmp
  | R :: Rs, B, h => by
    have h1 : St W w (Rs ++ R :: B) := h.perm List.perm_middle.symm
    have h2 := St.fuseAll h1
    exact (h2.perm (List.Perm.swap _ _ _)).fuse

theorem slForm {α : Type} {T : Ty α} {e : Nat} {cs : List Value} {xs : List α} (h : (tSl e T).ro w cs xs) : ∃ A c, cs = [.slice A xs.length c] := by
  obtain ⟨A, c, els, h1, _⟩ := h
  exact ⟨A, c, h1⟩

theorem slFormO {α : Type} {T : Ty α} {e : Nat} {w : World} {cs : List Value} {xs : List α} {G : List Nat} (h : (tSl e T).own w cs xs G) : ∃ A c, cs = [.slice A xs.length c] := by
  obtain ⟨v, els, rfl, ho, _⟩ := h
  rcases ho.2 with ⟨rfl, hn⟩ | ⟨g, cap, cur, rfl, _⟩
  · exact ⟨none, 0, by rw [hn]⟩
  · exact ⟨_, _, rfl⟩
theorem St.form {α : Type} {T : Ty α} {e : Nat} {W w : World} {B : List Res} {cs : List Value} {xs : List α} (h : St W w (Own (tSl e T) cs xs :: B)) : ∃ A c, cs = [.slice A xs.length c] := by
  obtain ⟨G, hA, _⟩ := h.sep.head
  exact slFormO hA
theorem slNilOwn {α : Type} (T : Ty α) (e : Nat) (w : World) : (tSl e T).own w [.slice none 0 0] [] [] :=
  ⟨_, [], rfl, ⟨by simp, .inl ⟨rfl, rfl⟩⟩, [], ⟨rfl, rfl⟩, by simp [Value.ownBlock]⟩
theorem St.nilSl {α : Type} (T : Ty α) (e : Nat) (h : St W w B) : St W w (Own (tSl e T) [.slice none 0 0] [] :: B) :=
  h.toEmp.conv fun G hG => by rw [show G = [] from hG]; exact slNilOwn T e w
end
end Go.E

