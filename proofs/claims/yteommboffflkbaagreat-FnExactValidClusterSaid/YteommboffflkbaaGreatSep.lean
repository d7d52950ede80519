/- Memory that a call has made itself, piece by piece, the pieces apart from one another (Sep). Conditions: none (definitions and rules). -/
import Derived.Test.YteommboffflkbaaGreatMem
namespace Go.E
open Go.RowKit
set_option linter.unusedVariables false
set_option linter.unusedSimpArgs false


structure Res where
  A : World → List Nat → Prop
  loc : ∀ {w w' G}, A w G → (∀ g, g ∈ G → w'.heap[g]? = w.heap[g]?) → A w' G
  lt : ∀ {w G}, A w G → ∀ g, g ∈ G → g < w.heap.size

def SepU (w : World) (lo : Nat) : List Res → List Nat → Prop
  | [], _ => True
  | R :: Rs, U => ∃ G, R.A w G ∧ G.Nodup ∧ (∀ g, g ∈ G → lo ≤ g ∧ g ∉ U) ∧ SepU w lo Rs (G ++ U)


def Sep (w : World) (lo : Nat) (Rs : List Res) : Prop := SepU w lo Rs []

section
variable {w w' : World} {lo : Nat}

theorem SepU.congr : ∀ {Rs : List Res} {U V : List Nat}, (∀ g, g ∈ V → g ∈ U) → SepU w lo Rs U → SepU w lo Rs V
  | [], _, _, _, _ => trivial
  | _ :: _, _, _, hs, ⟨G, h1, h2, h3, h4⟩ => ⟨G, h1, h2, fun g hg => ⟨(h3 g hg).1, fun hv => (h3 g hg).2 (hs g hv)⟩,
      SepU.congr (fun g hg => by rcases List.mem_append.1 hg with hg | hg; exact List.mem_append_left _ hg; exact List.mem_append_right _ (hs g hg)) h4⟩

theorem SepU.swap {R S : Res} {Rs : List Res} {U : List Nat} (h : SepU w lo (R :: S :: Rs) U) : SepU w lo (S :: R :: Rs) U := by
  obtain ⟨G, h1, h2, h3, H, k1, k2, k3, h4⟩ := h
  refine ⟨H, k1, k2, fun g hg => ⟨(k3 g hg).1, fun hu => (k3 g hg).2 (List.mem_append_right _ hu)⟩, G, h1, h2, fun g hg => ⟨(h3 g hg).1, fun hu => ?_⟩, SepU.congr (fun g hg => ?_) h4⟩
  · rcases List.mem_append.1 hu with hu | hu
    · exact (k3 g hu).2 (List.mem_append_left _ hg)
    · exact (h3 g hg).2 hu
  · simp only [List.mem_append] at hg ⊢
    rcases hg with hg | hg | hg
    · exact .inr (.inl hg)
    · exact .inl hg
    · exact .inr (.inr hg)

theorem SepU.perm {Rs Rs' : List Res} (hp : Rs.Perm Rs') : ∀ {U : List Nat}, SepU w lo Rs U → SepU w lo Rs' U := by
  induction hp with
  | nil => exact fun h => h
  | cons R _ ih => exact fun ⟨G, h1, h2, h3, h4⟩ => ⟨G, h1, h2, h3, ih h4⟩
  | swap R S Rs => exact fun h => h.swap
  | trans _ _ ih1 ih2 => exact fun h => ih2 (ih1 h)

theorem Sep.perm {Rs Rs' : List Res} (h : Sep w lo Rs) (hp : Rs.Perm Rs') : Sep w lo Rs' := SepU.perm hp h

theorem Sep.pick {A B : List Res} {R : Res} (h : Sep w lo (A ++ R :: B)) : Sep w lo (R :: (A ++ B)) := h.perm List.perm_middle
theorem Sep.back {A B : List Res} {R : Res} (h : Sep w lo (R :: (A ++ B))) : Sep w lo (A ++ R :: B) := h.perm List.perm_middle.symm

theorem SepU.tail {R : Res} {Rs : List Res} {U : List Nat} (h : SepU w lo (R :: Rs) U) : SepU w lo Rs U := by
  obtain ⟨G, _, _, _, h4⟩ := h
  exact h4.congr fun g hg => List.mem_append_right _ hg

theorem Sep.tail {R : Res} {Rs : List Res} (h : Sep w lo (R :: Rs)) : Sep w lo Rs := SepU.tail h
theorem Sep.nil : Sep w lo [] := trivial

theorem SepU.same (hs : ∀ b, b < w.heap.size → w'.heap[b]? = w.heap[b]?) : ∀ {Rs : List Res} {U : List Nat}, SepU w lo Rs U → SepU w' lo Rs U
  | [], _, _ => trivial
  | R :: _, _, ⟨G, h1, h2, h3, h4⟩ => ⟨G, R.loc h1 fun g hg => hs g (R.lt h1 g hg), h2, h3, SepU.same hs h4⟩

theorem Sep.ext {Rs : List Res} (h : Sep w lo Rs) (he : Ext w w') : Sep w' lo Rs := SepU.same (fun b hb => he.block b hb) h

theorem SepU.append {B : Nat} : ∀ {Ns Rs : List Res} {U : List Nat}, SepU w B Ns U → (∀ V, (∀ g, g ∈ V → B ≤ g ∨ g ∈ U) → SepU w lo Rs V) → lo ≤ B → SepU w lo (Ns ++ Rs) U
  | [], _, _, _, hr, _ => hr _ fun _ hg => .inr hg
  | _ :: _, _, U, ⟨G, h1, h2, h3, h4⟩, hr, hl => ⟨G, h1, h2, fun g hg => ⟨Nat.le_trans hl (h3 g hg).1, (h3 g hg).2⟩,
      SepU.append h4 (fun V hV => hr V fun g hg => by
        rcases hV g hg with h | h
        · exact .inl h
        · rcases List.mem_append.1 h with h | h
          · exact .inl (h3 g h).1
          · exact .inr h) hl⟩

theorem SepU.avoid {W : World} (he : Ext W w) : ∀ {Rs : List Res} {U V : List Nat}, SepU W lo Rs U → (∀ g, g ∈ V → W.heap.size ≤ g ∨ g ∈ U) → SepU w lo Rs V
  | [], _, _, _, _ => trivial
  | R :: _, _, _, ⟨G, h1, h2, h3, h4⟩, hV => ⟨G, R.loc h1 (fun g hg => he.block g (R.lt h1 g hg)), h2, fun g hg => ⟨(h3 g hg).1, fun hv => by
        rcases hV g hv with h | h
        · exact absurd (R.lt h1 g hg) (by omega)
        · exact (h3 g hg).2 h⟩,
      SepU.avoid he h4 fun g hg => by
        rcases List.mem_append.1 hg with h | h
        · exact .inr (List.mem_append_left _ h)
        · rcases hV g h with h | h
          · exact .inl h
          · exact .inr (List.mem_append_right _ h)⟩


theorem Sep.join {W : World} {Ns Rs : List Res} (hr : Sep W lo Rs) (he : Ext W w) (hn : Sep w W.heap.size Ns) (hl : lo ≤ W.heap.size) : Sep w lo (Ns ++ Rs) :=
  SepU.append hn (fun _ hV => SepU.avoid he hr fun g hg => (hV g hg).imp id id) hl


theorem Sep.upd {R R' : Res} {Rs : List Res} (h : Sep w lo (R :: Rs)) (hl : lo ≤ w.heap.size)
    (hu : ∀ G, R.A w G → G.Nodup → (∀ g, g ∈ G → lo ≤ g) → ∃ G', R'.A w' G' ∧ G'.Nodup ∧ (∀ g, g ∈ G' → g ∈ G ∨ w.heap.size ≤ g) ∧ (∀ b, b < w.heap.size → b ∉ G → w'.heap[b]? = w.heap[b]?)) :
    Sep w' lo (R' :: Rs) := by
  obtain ⟨G, h1, h2, h3, h4⟩ := h
  obtain ⟨G', k1, k2, k3, k4⟩ := hu G h1 h2 fun g hg => (h3 g hg).1
  refine ⟨G', k1, k2, fun g hg => ⟨?_, by simp⟩, ?_⟩
  · rcases k3 g hg with h | h
    · exact (h3 g h).1
    · exact Nat.le_trans hl h
  ·
    have key : ∀ {Ss : List Res} {U V : List Nat}, SepU w lo Ss U → (∀ g, g ∈ G → g ∈ U) → (∀ g, g ∈ V → w.heap.size ≤ g ∨ g ∈ U) → SepU w' lo Ss V := by
      intro Ss
      induction Ss with
      | nil => exact fun _ _ _ => trivial
      | cons S Ss ih =>
        intro U V ⟨H, a1, a2, a3, a4⟩ hG hV
        refine ⟨H, S.loc a1 fun g hg => k4 g (S.lt a1 g hg) fun hgG => (a3 g hg).2 (hG g hgG), a2, fun g hg => ⟨(a3 g hg).1, fun hv => ?_⟩, ih a4 (fun g hg => List.mem_append_right _ (hG g hg)) fun g hg => ?_⟩
        · rcases hV g hv with h | h
          · exact absurd (S.lt a1 g hg) (by omega)
          · exact (a3 g hg).2 h
        · rcases List.mem_append.1 hg with h | h
          · exact .inr (List.mem_append_left _ h)
          · rcases hV g h with h | h
            · exact .inl h
            · exact .inr (List.mem_append_right _ h)
    refine key h4 (fun g hg => List.mem_append_left _ hg) fun g hg => ?_
    simp only [List.append_nil] at hg
    rcases k3 g hg with h | h
    · exact .inr (List.mem_append_left _ h)
    · exact .inl h

theorem Sep.head {R : Res} {Rs : List Res} (h : Sep w lo (R :: Rs)) : ∃ G, R.A w G ∧ G.Nodup ∧ ∀ g, g ∈ G → lo ≤ g := by
  obtain ⟨G, h1, h2, h3, _⟩ := h
  exact ⟨G, h1, h2, fun g hg => (h3 g hg).1⟩


theorem Sep.conv {R R' : Res} {Rs : List Res} (h : Sep w lo (R :: Rs)) (hc : ∀ G, R.A w G → R'.A w G) : Sep w lo (R' :: Rs) := by
  obtain ⟨G, h1, h2, h3, h4⟩ := h
  exact ⟨G, hc G h1, h2, h3, h4⟩
end


def Box (g : Nat) (cs : List Value) (e : TypeId) : Res where
  A := fun w G => G = [g] ∧ w.heap[g]? = some (.cells ⟨cs⟩ e (0, 0))
  loc := fun ⟨h1, h2⟩ hs => ⟨h1, by rw [hs g (by rw [h1]; simp)]; exact h2⟩
  lt := by
    rintro w G ⟨h1, h2⟩ g' hg
    rw [h1, List.mem_singleton] at hg
    subst hg
    rcases Nat.lt_or_ge g' w.heap.size with h | h
    · exact h
    · rw [Array.getElem?_eq_none h] at h2; cases h2


def Own {α : Type} (T : Ty α) (cs : List Value) (x : α) : Res where
  A := fun w G => T.own w cs x G
  loc := T.loc
  lt := T.lt


def Both (R S : Res) : Res where
  A := fun w G => ∃ H K, G = H ++ K ∧ R.A w H ∧ S.A w K
  loc := by
    rintro w w' G ⟨H, K, rfl, h1, h2⟩ hs
    exact ⟨H, K, rfl, R.loc h1 fun g hg => hs g (List.mem_append_left _ hg), S.loc h2 fun g hg => hs g (List.mem_append_right _ hg)⟩
  lt := by
    rintro w G ⟨H, K, rfl, h1, h2⟩ g hg
    rcases List.mem_append.1 hg with hg | hg
    · exact R.lt h1 g hg
    · exact S.lt h2 g hg

theorem Sep.fuse {w : World} {lo : Nat} {R S : Res} {Rs : List Res} (h : Sep w lo (R :: S :: Rs)) : Sep w lo (Both R S :: Rs) := by
  obtain ⟨G, h1, h2, h3, H, k1, k2, k3, h4⟩ := h
  refine ⟨G ++ H, ⟨G, H, rfl, h1, k1⟩, ?_, fun g hg => ⟨?_, by simp⟩, h4.congr fun g hg => ?_⟩
  · rw [List.nodup_append]
    refine ⟨h2, k2, fun a ha b hb hab => ?_⟩
    subst hab
    exact (k3 a hb).2 (by simp [ha])
  · rcases List.mem_append.1 hg with hg | hg
    · exact (h3 g hg).1
    · exact (k3 g hg).1
  · simp only [List.mem_append, List.append_nil] at hg ⊢
    rcases hg with hg | hg
    · exact .inr hg
    · exact .inl hg

theorem Sep.split {w : World} {lo : Nat} {R S : Res} {Rs : List Res} (h : Sep w lo (Both R S :: Rs)) : Sep w lo (R :: S :: Rs) := by
  obtain ⟨G, ⟨H, K, rfl, h1, k1⟩, h2, h3, h4⟩ := h
  rw [List.nodup_append] at h2
  refine ⟨H, h1, h2.1, fun g hg => ⟨(h3 g (List.mem_append_left _ hg)).1, by simp⟩, K, k1, h2.2.1, fun g hg => ⟨(h3 g (List.mem_append_right _ hg)).1, ?_⟩, h4.congr fun g hg => ?_⟩
  · simp only [List.append_nil]
    exact fun hH => h2.2.2 g hH g hg rfl
  · simp only [List.mem_append, List.append_nil] at hg ⊢
    rcases hg with hg | hg
    · exact .inr hg
    · exact .inl hg
end Go.E

