/- Loops over lists that ask each element or compare two lists. Conditions: the lengths fit in a machine number, fuel enough for any counter. -/
import Derived.Test.YteommboffflkbaaGreatPure
namespace Go.E
set_option linter.unusedVariables false
set_option linter.unusedSimpArgs false


theorem eqLoop {α τ ρ : Type} [DecidableEq α] {xs ys : List α} {body : Int → Option (Rd Int τ ρ)} {fuel : Nat} {t : τ} {v : ρ} (hl : xs.length ≤ maxLen) (hf : 18446744073709551616 ≤ fuel) (he : xs.length = ys.length)
    (step : ∀ (i : Nat) (a b : α), i < xs.length → xs[i]? = some a → ys[i]? = some b → body i = if a = b then some (.next (w64 (i + 1))) else some (.ret v)) (last : body xs.length = some (.brk t)) :
    iter body fuel 0 = some (if xs = ys then .inl t else .inr v) := by
  have hm : maxLen = 9223372036854775807 := rfl
  obtain ⟨o, h2, h3⟩ := z1E (body := body) (fun i s => s = (i : Int) ∧ xs.take i = ys.take i) xs.length (fun o => o = if xs = ys then .inl t else .inr v) (by
    rintro i s hi ⟨rfl, h⟩
    obtain ⟨a, ha⟩ := z52 hi
    obtain ⟨b, hb⟩ := z52 (he ▸ hi : i < ys.length)
    have hs := step i a b hi ha hb
    by_cases e : a = b
    · rw [if_pos e] at hs
      refine .inl ⟨_, hs, by rw [zd (by omega) (by omega)]; simp, ?_⟩
      rw [List.take_add_one, List.take_add_one, h, ha, hb, e]
    · rw [if_neg e] at hs
      refine .inr (.inl ⟨_, hs, ?_⟩)
      rw [if_neg]
      rintro rfl
      rw [ha] at hb
      exact e (Option.some.inj hb)) (by
    rintro s ⟨rfl, h⟩
    rw [List.take_length, he, List.take_length] at h
    exact .inr ⟨_, last, by rw [if_pos h]⟩) (fuel := fuel) (i := 0) (s := 0) (Nat.zero_le _) (by omega) ⟨rfl, by simp⟩
  rw [h2, h3]


theorem eqWhole {α τ : Type} [DecidableEq α] {xs ys : List α} {body : Int → Option (Rd Int τ Bool)} {j : τ → Option Bool} {fuel : Nat} {t : τ} (hl : xs.length ≤ maxLen) (hf : 18446744073709551616 ≤ fuel) (hj : j t = some true)
    (step : ∀ (i : Nat) (a b : α), i < xs.length → xs[i]? = some a → ys[i]? = some b → body i = if a = b then some (.next (w64 (i + 1))) else some (.ret false)) (last : body xs.length = some (.brk t)) :
    (if ((xs.length : Int) != (ys.length : Int)) = true then some false else ((iter body fuel 0).bind fun o => aft o j)) = some (decide (xs = ys)) := by
  by_cases he : xs.length = ys.length
  · rw [if_neg (by simp [he]), eqLoop hl hf he step last]
    by_cases h : xs = ys
    · rw [if_pos h, decide_eq_true h]; exact hj
    · rw [if_neg h, decide_eq_false h]; rfl
  · rw [if_pos (by simp; omega), decide_eq_false (fun h => he (by rw [h]))]


theorem askLoop {α τ ρ : Type} {xs : List α} {body : Int → Option (Rd Int τ ρ)} {fuel : Nat} {t : τ} {p : α → Bool} {g : Int → ρ} (hl : xs.length ≤ maxLen) (hf : 18446744073709551616 ≤ fuel)
    (step : ∀ (i : Nat) (x : α), i < xs.length → xs[i]? = some x → body i = if p x = true then some (.ret (g i)) else some (.next (w64 (i + 1)))) (last : body xs.length = some (.brk t)) :
    (xs.any p = false ∧ iter body fuel 0 = some (.inl t)) ∨ (xs.any p = true ∧ ∃ i : Nat, i < xs.length ∧ iter body fuel 0 = some (.inr (g i))) := by
  have hm : maxLen = 9223372036854775807 := rfl
  obtain ⟨o, h2, h3⟩ := z1E (body := body) (fun i s => s = (i : Int) ∧ (xs.take i).any p = false) xs.length (fun o => (xs.any p = false ∧ o = .inl t) ∨ (xs.any p = true ∧ ∃ i : Nat, i < xs.length ∧ o = .inr (g i))) (by
    rintro i s hi ⟨rfl, ha⟩
    obtain ⟨x, hx⟩ := z52 hi
    have hs := step i x hi hx
    cases hp : p x with
    | true =>
      rw [hp, if_pos rfl] at hs
      exact .inr (.inl ⟨_, hs, .inr ⟨List.any_eq_true.2 ⟨x, List.mem_of_getElem? hx, hp⟩, i, hi, rfl⟩⟩)
    | false =>
      rw [hp, if_neg (by simp)] at hs
      refine .inl ⟨_, hs, by rw [zd (by omega) (by omega)]; simp, ?_⟩
      rw [List.take_add_one, hx, List.any_append, ha]
      simp [hp]) (by
    rintro s ⟨rfl, ha⟩
    rw [List.take_length] at ha
    exact .inr ⟨_, last, .inl ⟨ha, rfl⟩⟩) (fuel := fuel) (i := 0) (s := 0) (Nat.zero_le _) (by omega) ⟨rfl, by simp⟩
  rcases h3 with ⟨h3, rfl⟩ | ⟨h3, i, hi, rfl⟩
  · exact .inl ⟨h3, h2⟩
  · exact .inr ⟨h3, i, hi, h2⟩


theorem askOne {α τ ρ : Type} {xs : List α} {body : Int → Option (Rd Int τ ρ)} {j : τ → Option ρ} {fuel : Nat} {t : τ} {p : α → Bool} {v : ρ} (hl : xs.length ≤ maxLen) (hf : 18446744073709551616 ≤ fuel)
    (step : ∀ (i : Nat) (x : α), i < xs.length → xs[i]? = some x → body i = if p x = true then some (.ret v) else some (.next (w64 (i + 1)))) (last : body xs.length = some (.brk t)) :
    ((iter body fuel 0).bind fun o => aft o j) = if xs.any p = true then some v else j t := by
  rcases askLoop (g := fun _ => v) hl hf step last with ⟨h1, h2⟩ | ⟨h1, i, _, h2⟩
  · rw [h2, h1]; rfl
  · rw [h2, h1]; rfl


theorem askIndex {α τ : Type} {xs : List α} {body : Int → Option (Rd Int τ Int)} {j : τ → Option Int} {fuel : Nat} {t : τ} {p : α → Bool} (hl : xs.length ≤ maxLen) (hf : 18446744073709551616 ≤ fuel) (hj : j t = some (-1))
    (step : ∀ (i : Nat) (x : α), i < xs.length → xs[i]? = some x → body i = if p x = true then some (.ret i) else some (.next (w64 (i + 1)))) (last : body xs.length = some (.brk t)) :
    ∃ r, ((iter body fuel 0).bind fun o => aft o j) = some r ∧ decide (r ≥ 0) = xs.any p := by
  rcases askLoop (g := fun i => i) hl hf step last with ⟨h1, h2⟩ | ⟨h1, i, _, h2⟩
  · exact ⟨-1, by rw [h2]; exact hj, by rw [h1]; decide⟩
  · exact ⟨i, by rw [h2]; rfl, by rw [h1]; exact decide_eq_true (by omega)⟩
end Go.E
namespace Go.E

end Go.E

