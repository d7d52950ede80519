/- How structs of plain data are opened to cells and shut again. Conditions: none (rules). -/
import Derived.Test.YteommboffflkbaaGreatDraw
namespace Go.E
open Go.RowKit
set_option linter.unusedVariables false
set_option linter.unusedSimpArgs false

def Emp : Res where
  A := fun _ G => G = []
  loc := fun h _ => h
  lt := by rintro w G h g hg; rw [h] at hg; cases hg

def All : List Res → Res
  | [] => Emp
  | R :: Rs => Both R (All Rs)

section
variable {W w : World} {B : List Res}

theorem St.toEmp (h : St W w B) : St W w (Emp :: B) := ⟨h.ext, ⟨[], rfl, by simp, by simp, h.sep⟩⟩

theorem St.fuseAll : ∀ {Rs : List Res} {B : List Res}, St W w (Rs ++ B) → St W w (All Rs :: B)
  | [], _, h => h.toEmp
  | R :: Rs, B, h => by
    have h1 : St W w (Rs ++ R :: B) := h.perm List.perm_middle.symm
    have h2 := St.fuseAll h1
    exact (h2.perm (List.Perm.swap _ _ _)).fuse

theorem slForm {α : Type} {T : Ty α} {e : Nat} {cs : List Value} {xs : List α} (h : (tSl e T).ro w cs xs) : ∃ A c, cs = [.slice A xs.length c] := by
  obtain ⟨A, c, els, h1, _⟩ := h
  exact ⟨A, c, h1⟩

theorem slFormO {α : Type} {T : Ty α} {e : Nat} {w : World} {cs : List Value} {xs : List α} {G : List Nat} (h : (tSl e T).own w cs xs G) : ∃ A c, cs = [.slice A xs.length c] := by
  obtain ⟨v, els, rfl, ho, _⟩ := h
  rcases ho.2 with ⟨rfl, hn⟩ | ⟨g, cap, cur, rfl, _⟩
  · exact ⟨none, 0, by rw [hn]⟩
  · exact ⟨_, _, rfl⟩
theorem St.form {α : Type} {T : Ty α} {e : Nat} {W w : World} {B : List Res} {cs : List Value} {xs : List α} (h : St W w (Own (tSl e T) cs xs :: B)) : ∃ A c, cs = [.slice A xs.length c] := by
  obtain ⟨G, hA, _⟩ := h.sep.head
  exact slFormO hA
theorem zdz {α : Type} {T U : Ty α} (h : T.ro = U.ro) {w : World} : ∀ {xs : List α} {cs : List Value}, Els T w cs xs = Els U w cs xs
  | [], _ => rfl
  | x :: xs, cs => by simp only [Els, h, zdz h (xs := xs)]
theorem zhF {α : Type} {T U : Ty α} {e : Nat} (h : T.ro = U.ro) : (tSl e T).ro = (tSl e U).ro := by
  funext w cs xs
  simp only [tSl, zdz h]
theorem roOf {α : Type} {T U : Ty α} (h : T.ro = U.ro) {w : World} {cs : List Value} {x : α} (k : T.ro w cs x) : U.ro w cs x := h ▸ k

theorem St.ownE {α : Type} {T : Ty α} {W0 W w : World} {B : List Res} {cs : List Value} {x : α} [Reads W0 T] (he : Ext W0 W) (h : St W w (Own T cs x :: B)) : T.ro w cs x := by
  obtain ⟨G, hA, _⟩ := h.sep.head
  exact T.own_ro hA (Reads.req (W := W0) (he.trans h.ext))

theorem St.bor {α : Type} {T : Ty α} {W0 W w : World} {B : List Res} {cs : List Value} {x : α} (h : St W w B) (hr : T.ro W0 cs x) : St W w (Own (tBor W0 T) cs x :: B) :=
  h.toEmp.conv fun G hG => ⟨hr, hG⟩
theorem slNil {α : Type} (T : Ty α) (e : Nat) (w : World) : (tSl e T).ro w [.slice none 0 0] [] := ⟨none, 0, [], rfl, Nat.le_refl _, rfl, fun h => absurd rfl h⟩
theorem slNilOwn {α : Type} (T : Ty α) (e : Nat) (w : World) : (tSl e T).own w [.slice none 0 0] [] [] :=
  ⟨_, [], rfl, ⟨by simp, .inl ⟨rfl, rfl⟩⟩, [], ⟨rfl, rfl⟩, by simp [Value.ownBlock]⟩
theorem St.nilSl {α : Type} (T : Ty α) (e : Nat) (h : St W w B) : St W w (Own (tSl e T) [.slice none 0 0] [] :: B) :=
  h.toEmp.conv fun G hG => by rw [show G = [] from hG]; exact slNilOwn T e w
end
end Go.E

