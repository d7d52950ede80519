/- Plain laws about the models: loops that count, sizes, copies, comparisons. Conditions: each lemma names its own. -/
import Derived.Test.YteommboffflkbaaGreatRow
namespace Go.E
set_option linter.unusedVariables false
set_option linter.unusedSimpArgs false

theorem zd {n : Int} (h0 : -9223372036854775808 ≤ n) (h1 : n ≤ 9223372036854775807) : w64 n = n := zhD ⟨h0, h1⟩


theorem z1E {σ τ ρ : Type} {body : σ → Option (Rd σ τ ρ)} (I : Nat → σ → Prop) (n : Nat) (Q : τ ⊕ ρ → Prop)
    (step : ∀ i s, i < n → I i s → (∃ s', body s = some (.next s') ∧ I (i + 1) s') ∨ (∃ r, body s = some (.ret r) ∧ Q (.inr r)) ∨ ∃ t, body s = some (.brk t) ∧ Q (.inl t))
    (last : ∀ s, I n s → (∃ r, body s = some (.ret r) ∧ Q (.inr r)) ∨ ∃ t, body s = some (.brk t) ∧ Q (.inl t)) :
    ∀ {fuel i s}, i ≤ n → n - i < fuel → I i s → ∃ o, iter body fuel s = some o ∧ Q o
  | 0, i, s, _, hf, _ => by omega
  | fuel + 1, i, s, hi, hf, hI => by
    have done : ((∃ r, body s = some (.ret r) ∧ Q (.inr r)) ∨ ∃ t, body s = some (.brk t) ∧ Q (.inl t)) → ∃ o, iter body (fuel + 1) s = some o ∧ Q o := by
      rintro (⟨r, h1, h2⟩ | ⟨t, h1, h2⟩)
      · exact ⟨_, by simp only [iter, h1], h2⟩
      · exact ⟨_, by simp only [iter, h1], h2⟩
    rcases Nat.lt_or_ge i n with h | h
    · rcases step i s h hI with ⟨s', h1, h2⟩ | h1
      · obtain ⟨o, h3, h4⟩ := z1E I n Q step last (fuel := fuel) (i := i + 1) h (by omega) h2
        exact ⟨o, by simp only [iter, h1]; exact h3, h4⟩
      · exact done h1
    · obtain rfl : i = n := by omega
      exact done (last s hI)

def sumL {α : Type} (f : α → Nat) : List α → Nat
  | [] => 0
  | x :: xs => f x + sumL f xs


def szL {α : Type} (f : α → Nat) (xs : List α) : Nat := xs.length + sumL f xs

theorem zdj {α : Type} {f : α → Nat} {x : α} : ∀ {xs : List α}, x ∈ xs → f x ≤ sumL f xs
  | y :: xs, h => by
    rcases List.mem_cons.1 h with rfl | h
    · exact Nat.le_add_right _ _
    · exact Nat.le_trans (zdj h) (Nat.le_add_left _ _)

theorem za5 {α : Type} {f : α → Nat} : ∀ {xs ys : List α}, sumL f (xs ++ ys) = sumL f xs + sumL f ys
  | [], ys => by simp [sumL]
  | x :: xs, ys => by simp only [List.cons_append, sumL, za5 (xs := xs), Nat.add_assoc]

theorem zen {α : Type} {f : α → Nat} {xs : List α} {i : Nat} {x : α} (h : xs[i]? = some x) : sumL f (xs.take (i + 1)) = sumL f (xs.take i) + f x := by
  rw [List.take_add_one, h, za5]
  simp [sumL]

theorem z5T {α : Type} {f : α → Nat} {xs : List α} {n : Nat} (h : szL f xs ≤ n) : xs.length ≤ n := by unfold szL at h; omega
theorem z5S {α : Type} {f : α → Nat} {xs : List α} {n : Nat} (h : szL f xs ≤ n) {x : α} (hx : x ∈ xs) : f x ≤ n := by
  have := zdj (f := f) hx
  unfold szL at h; omega
theorem za {α : Type} {xs : List α} {i : Nat} {x : α} (h : xs[i]? = some x) : idx xs (i : Int) = some x := by
  unfold idx
  simp [h]

theorem z52 {α : Type} {xs : List α} {i : Nat} (h : i < xs.length) : ∃ x, xs[i]? = some x := ⟨_, List.getElem?_eq_getElem h⟩
theorem lt_t {a b : Int} (h : a < b) : (decide (a < b) = true) = True := by simp [h]
theorem lt_f {a b : Int} (h : ¬ a < b) : (decide (a < b) = true) = False := by simp [h]


def SzOk (n : Nat) (l : Int) (o : Option Int) : Prop := ∃ r, o = some r ∧ (r < 0 ∨ 0 ≤ r ∧ r + (n : Int) = l)

theorem SzOk.fail {n : Nat} {l : Int} : SzOk n l (some (-1)) := ⟨_, rfl, .inl (by decide)⟩
theorem SzOk.same {l : Int} (h : 0 ≤ l) : SzOk 0 l (some l) := ⟨_, rfl, .inr ⟨h, by omega⟩⟩

theorem SzOk.bind {n m k : Nat} {l : Int} {o : Option Int} {f : Int → Option Int} (h : SzOk n l o) (hk : k = n + m) (g : ∀ r, 0 ≤ r → r ≤ l → SzOk m r (f r)) :
    SzOk k l (o.bind fun r => if decide (r < 0) = true then some (-1) else f r) := by
  obtain ⟨r, rfl, h⟩ := h
  subst hk
  show SzOk _ _ (if decide (r < 0) = true then some (-1) else f r)
  rcases h with h | ⟨h1, h2⟩
  · simp only [lt_t h, if_true]; exact SzOk.fail
  · simp only [lt_f (show ¬ r < 0 by omega), if_false]
    obtain ⟨s, h3, h4⟩ := g r h1 (by omega)
    exact ⟨s, h3, h4.imp id fun ⟨h5, h6⟩ => ⟨h5, by omega⟩⟩

theorem SzOk.sub {n m k : Nat} {l : Int} {f : Int → Option Int} (h0 : 0 ≤ l) (h1 : l ≤ 1048576) (hn : n ≤ maxLen) (hk : k = n + m) (g : ∀ r, 0 ≤ r → r ≤ l → SzOk m r (f r)) :
    SzOk k l (if decide (w64 (l - (n : Int)) < 0) = true then some (-1) else f (w64 (l - (n : Int)))) := by
  have hm : maxLen = 9223372036854775807 := rfl
  rw [zd (show -9223372036854775808 ≤ l - (n : Int) by omega) (by omega)]
  subst hk
  by_cases h : l - (n : Int) < 0
  · simp only [lt_t h, if_true]; exact SzOk.fail
  · simp only [lt_f h, if_false]
    obtain ⟨s, h3, h4⟩ := g _ (show 0 ≤ l - (n : Int) by omega) (by omega)
    exact ⟨s, h3, h4.imp id fun ⟨h5, h6⟩ => ⟨h5, by omega⟩⟩

theorem SzOk.sub2 {n m k : Nat} {l z : Int} {e : Option Int} (h0 : 0 ≤ l) (h1 : l ≤ 1048576) (hn : n ≤ maxLen) (hk : k = n + m) (hz : w64 (l - (n : Int)) = z) (g : 0 ≤ z → z ≤ l → SzOk m z e) :
    SzOk k l (if decide (z < 0) = true then some (-1) else e) := by
  have hm : maxLen = 9223372036854775807 := rfl
  rw [zd (show -9223372036854775808 ≤ l - (n : Int) by omega) (by omega)] at hz
  subst hk
  by_cases h : z < 0
  · simp only [lt_t h, if_true]; exact SzOk.fail
  · simp only [lt_f h, if_false]
    obtain ⟨s, h3, h4⟩ := g (by omega) (by omega)
    exact ⟨s, h3, h4.imp id fun ⟨h5, h6⟩ => ⟨h5, by omega⟩⟩


theorem SzOk.loop {α : Type} {f : α → Nat} {xs : List α} {body : Int × Int → Option (Rd (Int × Int) Int Int)} {j : Int → Option Int} {l : Int} {fuel : Nat} (hl : xs.length ≤ maxLen) (hf : 18446744073709551616 ≤ fuel) (h0 : 0 ≤ l) (h1 : l ≤ 1048576) (hj : ∀ t, j t = some t)
    (step : ∀ (i : Nat) (x : α) (l : Int), xs[i]? = some x → 0 ≤ l → l ≤ 1048576 → body (l, i) = some (.ret (-1)) ∨ ∃ r, body (l, i) = some (.next (r, w64 (i + 1))) ∧ 0 ≤ r ∧ r + (f x : Int) = l)
    (last : ∀ l, body (l, xs.length) = some (.brk l)) : SzOk (sumL f xs) l ((iter body fuel (l, 0)).bind fun o => aft o j) := by
  have hm : maxLen = 9223372036854775807 := rfl
  obtain ⟨o, h2, h3⟩ := z1E (body := body) (fun i s => s.2 = (i : Int) ∧ 0 ≤ s.1 ∧ s.1 + (sumL f (xs.take i) : Int) = l) xs.length (fun o => match o with | .inl t => 0 ≤ t ∧ t + (sumL f xs : Int) = l | .inr r => r = -1) (by
    rintro i ⟨s, t⟩ hi ⟨h2, h3, h4⟩
    dsimp only at h2 h3 h4
    subst h2
    obtain ⟨x, hx⟩ := z52 hi
    rcases step i x s hx h3 (by omega) with h | ⟨r, h5, h6, h7⟩
    · exact .inr (.inl ⟨_, h, rfl⟩)
    · refine .inl ⟨_, h5, ?_, h6, ?_⟩
      · show w64 _ = _
        rw [zd (by omega) (by omega)]; simp
      · rw [zen hx]
        show r + _ = l
        omega) (by
    rintro ⟨s, t⟩ ⟨h2, h3, h4⟩
    dsimp only at h2 h3 h4
    subst h2
    refine .inr ⟨_, last s, h3, ?_⟩
    rwa [List.take_length] at h4) (fuel := fuel) (i := 0) (s := (l, 0)) (Nat.zero_le _) (by omega) ⟨rfl, h0, by simp [sumL]⟩
  rw [h2]
  cases o with
  | inl t => exact ⟨t, hj t, .inr h3⟩
  | inr r => exact ⟨r, rfl, .inl (by rw [show r = -1 from h3]; decide)⟩


theorem z6r {α : Type} {xs : List α} {z : α} {body : Int × List α → Option (Rd (Int × List α) (List α) (List α))} {j : List α → Option (List α)} {fuel : Nat} (hl : xs.length ≤ 1048576) (hf : 18446744073709551616 ≤ fuel) (hj : ∀ t, j t = some t)
    (step : ∀ (i : Nat) (x : α) (out : List α), xs[i]? = some x → out.length = xs.length → body (i, out) = some (.next (w64 (i + 1), out.set i x)))
    (last : ∀ out, body (xs.length, out) = some (.brk out)) :
    (if decide (0 ≤ (xs.length : Int) ∧ (xs.length : Int) ≤ 4294967296) = true then ((iter body fuel (0, List.replicate (xs.length : Int).toNat z)).bind fun o => aft o j) else none) = some xs := by
  rw [if_pos (by simp; omega)]
  obtain ⟨o, h2, h3⟩ := z1E (body := body) (fun i s => s.1 = (i : Int) ∧ s.2.length = xs.length ∧ s.2.take i = xs.take i) xs.length (fun o => o = .inl xs) (by
    rintro i ⟨s, t⟩ hi ⟨h2, h3, h4⟩
    dsimp only at h2 h3 h4
    subst h2
    obtain ⟨x, hx⟩ := z52 hi
    refine .inl ⟨_, step i x t hx h3, ?_, by simpa using h3, ?_⟩
    · show w64 _ = _
      rw [zd (by omega) (by omega)]; simp
    · show (t.set i x).take (i + 1) = _
      rw [List.take_add_one, List.take_add_one, hx, List.take_set_of_le (Nat.le_refl _), h4, List.getElem?_set_self (by omega)]) (by
    rintro ⟨s, t⟩ ⟨h2, h3, h4⟩
    dsimp only at h2 h3 h4
    subst h2
    refine .inr ⟨_, last t, ?_⟩
    rw [List.take_length, List.take_of_length_le (by omega)] at h4
    rw [h4]) (fuel := fuel) (i := 0) (s := (0, List.replicate (xs.length : Int).toNat z)) (Nat.zero_le _) (by omega) ⟨rfl, by simp, by simp⟩
  rw [h2, h3]
  exact hj xs


theorem z2a (s : ByteArray) : seqb s s = true := by simp [seqb]


theorem z5z {τ ρ : Type} {n : Nat} {body : Int → Option (Rd Int τ ρ)} {j : τ → Option ρ} {fuel : Nat} {t : τ} {b : ρ} (hl : n ≤ maxLen) (hf : 18446744073709551616 ≤ fuel) (hj : j t = some b)
    (step : ∀ (i : Nat), i < n → body i = some (.next (w64 (i + 1)))) (last : body n = some (.brk t)) : ((iter body fuel 0).bind fun o => aft o j) = some b := by
  have hm : maxLen = 9223372036854775807 := rfl
  obtain ⟨o, h2, h3⟩ := z1E (body := body) (fun i s => s = (i : Int)) n (fun o => o = .inl t) (by
    rintro i s hi rfl
    exact .inl ⟨_, step i hi, by rw [zd (by omega) (by omega)]; simp⟩) (by
    rintro s rfl
    exact .inr ⟨_, last, rfl⟩) (fuel := fuel) (i := 0) (s := 0) (Nat.zero_le _) (by omega) rfl
  rw [h2, h3]
  exact hj


end Go.E

