/- Loops over lists that ask each element or compare two lists. Conditions: the lengths fit in a machine number, fuel enough for any counter. -/
import Derived.Test.YtomgmnacnchbeaaPure
namespace Go.E
set_option linter.unusedVariables false
set_option linter.unusedSimpArgs false


theorem askLoop {α τ ρ : Type} {xs : List α} {body : Int → Option (Rd Int τ ρ)} {fuel : Nat} {t : τ} {p : α → Bool} {g : Int → ρ} (hl : xs.length ≤ maxLen) (hf : 18446744073709551616 ≤ fuel)
    (step : ∀ (i : Nat) (x : α), i < xs.length → xs[i]? = some x → body i = if p x = true then some (.ret (g i)) else some (.next (w64 (i + 1)))) (last : body xs.length = some (.brk t)) :
    (xs.any p = false ∧ iter body fuel 0 = some (.inl t)) ∨ (xs.any p = true ∧ ∃ i : Nat, i < xs.length ∧ iter body fuel 0 = some (.inr (g i))) := by
  have hm : maxLen = 9223372036854775807 := rfl
  obtain ⟨o, h2, h3⟩ := zp (body := body) (fun i s => s = (i : Int) ∧ (xs.take i).any p = false) xs.length (fun o => (xs.any p = false ∧ o = .inl t) ∨ (xs.any p = true ∧ ∃ i : Nat, i < xs.length ∧ o = .inr (g i))) (by
    rintro i s hi ⟨rfl, ha⟩
    obtain ⟨x, hx⟩ := z40 hi
    have hs := step i x hi hx
    cases hp : p x with
    | true =>
      rw [hp, if_pos rfl] at hs
      exact .inr (.inl ⟨_, hs, .inr ⟨List.any_eq_true.2 ⟨x, List.mem_of_getElem? hx, hp⟩, i, hi, rfl⟩⟩)
    | false =>
      rw [hp, if_neg (by simp)] at hs
      refine .inl ⟨_, hs, by rw [z7 (by omega) (by omega)]; simp, ?_⟩
      rw [List.take_add_one, hx, List.any_append, ha]
      simp [hp]) (by
    rintro s ⟨rfl, ha⟩
    rw [List.take_length] at ha
    exact .inr ⟨_, last, .inl ⟨ha, rfl⟩⟩) (fuel := fuel) (i := 0) (s := 0) (Nat.zero_le _) (by omega) ⟨rfl, by simp⟩
  rcases h3 with ⟨h3, rfl⟩ | ⟨h3, i, hi, rfl⟩
  · exact .inl ⟨h3, h2⟩
  · exact .inr ⟨h3, i, hi, h2⟩


theorem askOne {α τ ρ : Type} {xs : List α} {body : Int → Option (Rd Int τ ρ)} {j : τ → Option ρ} {fuel : Nat} {t : τ} {p : α → Bool} {v : ρ} (hl : xs.length ≤ maxLen) (hf : 18446744073709551616 ≤ fuel)
    (step : ∀ (i : Nat) (x : α), i < xs.length → xs[i]? = some x → body i = if p x = true then some (.ret v) else some (.next (w64 (i + 1)))) (last : body xs.length = some (.brk t)) :
    ((iter body fuel 0).bind fun o => aft o j) = if xs.any p = true then some v else j t := by
  rcases askLoop (g := fun _ => v) hl hf step last with ⟨h1, h2⟩ | ⟨h1, i, _, h2⟩
  · rw [h2, h1]; rfl
  · rw [h2, h1]; rfl


theorem askIndex {α τ : Type} {xs : List α} {body : Int → Option (Rd Int τ Int)} {j : τ → Option Int} {fuel : Nat} {t : τ} {p : α → Bool} (hl : xs.length ≤ maxLen) (hf : 18446744073709551616 ≤ fuel) (hj : j t = some (-1))
    (step : ∀ (i : Nat) (x : α), i < xs.length → xs[i]? = some x → body i = if p x = true then some (.ret i) else some (.next (w64 (i + 1)))) (last : body xs.length = some (.brk t)) :
    ∃ r, ((iter body fuel 0).bind fun o => aft o j) = some r ∧ decide (r ≥ 0) = xs.any p := by
  rcases askLoop (g := fun i => i) hl hf step last with ⟨h1, h2⟩ | ⟨h1, i, _, h2⟩
  · exact ⟨-1, by rw [h2]; exact hj, by rw [h1]; decide⟩
  · exact ⟨i, by rw [h2]; rfl, by rw [h1]; exact decide_eq_true (by omega)⟩
end Go.E
namespace Go.E

end Go.E

