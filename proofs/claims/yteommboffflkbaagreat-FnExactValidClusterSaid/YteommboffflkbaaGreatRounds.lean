/- Loops over lists and numbers, told by plain functions. Conditions: each lemma names its own. -/
import Derived.Test.YteommboffflkbaaGreatLoops
namespace Go.E
open Go.RowKit Go.Proofs
set_option linter.unusedSimpArgs false
set_option linter.unusedVariables false


inductive Rnd (σ ρ : Type) where
  | go (s : σ)
  | back (r : ρ)
def foldR {α σ ρ : Type} (f : Nat → σ → α → Rnd σ ρ) : Nat → List α → σ → Rnd σ ρ
  | _, [], s => .go s
  | i, x :: xs, s => match f i s x with
    | .go s' => foldR f (i + 1) xs s'
    | .back r => .back r
theorem loopR {α σ S τ ρ : Type} {xs : List α} {body : S → Option (Rd S τ ρ)} {mk : Int → σ → S} {out : σ → τ} {f : Nat → σ → α → Rnd σ ρ} {J : Nat → σ → Prop} {s0 : σ} {fuel : Nat}
    (hl : xs.length ≤ maxLen) (hf : 18446744073709551616 ≤ fuel) (hJ : J 0 s0)
    (step : ∀ (i : Nat) s x, i < xs.length → xs[i]? = some x → J i s → match f i s x with
      | .go s' => body (mk i s) = some (.next (mk (w64 (i + 1)) s')) ∧ J (i + 1) s'
      | .back r => body (mk i s) = some (.ret r))
    (last : ∀ s, J xs.length s → body (mk xs.length s) = some (.brk (out s))) :
    (match foldR f 0 xs s0 with
      | .go s => iter body fuel (mk 0 s0) = some (.inl (out s)) ∧ J xs.length s
      | .back r => iter body fuel (mk 0 s0) = some (.inr r)) := by
  have hm : maxLen = 9223372036854775807 := rfl
  have key : ∀ (ys : List α) (i : Nat) (s : σ) (fu : Nat), i + ys.length = xs.length → (∀ j, ys[j]? = xs[i + j]?) → ys.length < fu → J i s → (match foldR f i ys s with
      | .go s' => iter body fu (mk i s) = some (.inl (out s')) ∧ J xs.length s'
      | .back r => iter body fu (mk i s) = some (.inr r)) := by
    intro ys
    induction ys with
    | nil =>
      intro i s fu hi _ hfu hj
      obtain ⟨fu, rfl⟩ : ∃ f', fu = f' + 1 := ⟨fu - 1, by simp at hfu; omega⟩
      simp only [List.length_nil, Nat.add_zero] at hi
      subst hi
      simp only [foldR, iter, last s hj]
      exact ⟨trivial, hj⟩
    | cons y ys ih =>
      intro i s fu hi hat hfu hj
      obtain ⟨fu, rfl⟩ : ∃ f', fu = f' + 1 := ⟨fu - 1, by simp at hfu; omega⟩
      simp only [List.length_cons] at hi hfu
      have hx : xs[i]? = some y := by have := hat 0; simpa using this.symm
      have hs := step i s y (by omega) hx hj
      unfold foldR
      cases hfs : f i s y with
      | go s' =>
        rw [hfs] at hs
        have h2 := ih (i + 1) s' fu (by omega) (fun j => by have := hat (j + 1); rw [show i + 1 + j = i + (j + 1) by omega]; simpa using this) (by omega) hs.2
        simp only [iter, hs.1]
        rw [zd (by omega) (by omega)]
        exact_mod_cast h2
      | back r =>
        rw [hfs] at hs
        simp only [iter, hs]
  have := key xs 0 s0 fuel (by simp) (by simp) (by omega) hJ
  exact_mod_cast this

theorem z64 {α : Type} {xs : List α} {p : Nat → α → Bool} {k : Nat} : ((xs.zipIdx k).all fun y => p y.2 y.1) = true ↔ ∀ i x, xs[i]? = some x → p (k + i) x = true := by
  rw [List.all_eq_true]
  constructor
  · intro h i x hx
    have : (x, k + i) ∈ xs.zipIdx k := by
      rw [List.mem_zipIdx_iff_le_and_getElem?_sub]
      exact ⟨Nat.le_add_right _ _, by simpa using hx⟩
    exact h _ this
  · rintro h ⟨x, j⟩ hj
    rw [List.mem_zipIdx_iff_le_and_getElem?_sub] at hj
    have := h (j - k) x hj.2
    rwa [show k + (j - k) = j by have := hj.1; simp at this; omega] at this

theorem zcj {α ρ : Type} {p : Nat → α → Bool} {v : ρ} : ∀ {xs : List α} {k : Nat}, foldR (fun i (_ : Unit) x => if p i x = true then Rnd.go () else Rnd.back v) k xs () = if ((xs.zipIdx k).all fun y => p y.2 y.1) = true then Rnd.go () else Rnd.back v
  | [], k => by simp [foldR]
  | x :: xs, k => by
    unfold foldR
    cases h : p k x with
    | true => simp only [if_true, zcj (xs := xs), List.zipIdx_cons, List.all_cons, h, Bool.true_and]
    | false => simp [h]


theorem allLoop {α τ ρ : Type} {xs : List α} {body : Int → Option (Rd Int τ ρ)} {p : Nat → α → Bool} {t : τ} {v : ρ} {fuel : Nat} (hl : xs.length ≤ maxLen) (hf : 18446744073709551616 ≤ fuel)
    (step : ∀ (i : Nat) x, i < xs.length → xs[i]? = some x → body i = if p i x = true then some (.next (w64 (i + 1))) else some (.ret v)) (last : body xs.length = some (.brk t)) :
    iter body fuel 0 = some (if (xs.zipIdx.all fun y => p y.2 y.1) = true then .inl t else .inr v) := by
  have h := loopR (xs := xs) (body := body) (mk := fun i _ => i) (out := fun (_ : Unit) => t) (f := fun i (_ : Unit) x => if p i x = true then Rnd.go () else Rnd.back v) (J := fun _ _ => True) (s0 := ()) hl hf trivial
    (fun i s x hi hx _ => by
      have := step i x hi hx
      cases hp : p i x with
      | true => rw [hp] at this; exact ⟨this, trivial⟩
      | false => rw [hp] at this; simpa using this) (fun s _ => last)
  rw [zcj] at h
  cases hp : (xs.zipIdx.all fun y => p y.2 y.1) with
  | true => rw [hp] at h; exact h.1
  | false => rw [hp] at h; exact h

theorem z8M {α : Type} {xs : List α} {i : Nat} {x : α} (h : xs[i]? = some x) : (xs.take (i + 1)).zipIdx = (xs.take i).zipIdx ++ [(x, i)] := by
  have hl := (List.getElem?_eq_some_iff.1 h).1
  rw [List.take_add_one, h, List.zipIdx_append]
  simp [Nat.min_eq_left (Nat.le_of_lt hl)]

theorem z5v {α : Type} {xs : List α} {p : α → Bool} : (xs.zipIdx.all fun y => p y.1) = xs.all p := by
  rw [Bool.eq_iff_iff, z64 (p := fun _ x => p x), List.all_eq_true]
  constructor
  · intro h x hx
    obtain ⟨i, hi⟩ := List.getElem?_of_mem hx
    exact h i x hi
  · exact fun h i x hi => h x (List.mem_of_getElem? hi)
end Go.E

