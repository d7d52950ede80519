/- Marks: what a law writes into memory and looks for again, told in plain lists. Conditions: counts stay small. -/
import Derived.Test.YteommboffflkbaaGreatRounds
namespace Go.E
set_option linter.unusedVariables false
set_option linter.unusedSimpArgs false

theorem za8 {a : Int} (h0 : -4611686018427387904 ≤ a) (h1 : a ≤ 4611686018427387904) : w64 (a + 1) = a + 1 := z9 (by omega) (by omega)
def markL {α : Type} (f : α → Int → α) (c : α → Nat) : List α → Int → List α
  | [], _ => []
  | x :: xs, k => f x k :: markL f c xs (k + c x)

section
variable {α : Type} {f : α → Int → α} {c : α → Nat}

theorem z6Z : ∀ (xs : List α) (k : Int), (markL f c xs k).length = xs.length
  | [], _ => rfl
  | x :: xs, k => by simp only [markL, List.length_cons, z6Z xs]

theorem zbn : ∀ (xs ys : List α) (k : Int), markL f c (xs ++ ys) k = markL f c xs k ++ markL f c ys (k + (sumL c xs : Nat))
  | [], ys, k => by simp [markL, sumL]
  | x :: xs, ys, k => by
    simp only [List.cons_append, markL, zbn xs ys, sumL]
    rw [show k + (c x : Int) + (sumL c xs : Nat) = k + ((c x + sumL c xs : Nat) : Int) by omega]

theorem zmX {xs : List α} {k : Int} {i : Nat} {x : α} (h : xs[i]? = some x) : (markL f c xs k)[i]? = some (f x (k + (sumL c (xs.take i) : Nat))) := by
  have hi := (List.getElem?_eq_some_iff.1 h).1
  have hs : xs = xs.take i ++ (x :: xs.drop (i + 1)) := by
    have h1 := (List.getElem?_eq_some_iff.1 h).2
    rw [← h1, ← List.drop_eq_getElem_cons hi, List.take_append_drop]
  conv => lhs; rw [hs]
  rw [zbn, List.getElem?_append_right (by rw [z6Z, List.length_take]; omega), z6Z, List.length_take, Nat.min_eq_left (by omega), Nat.sub_self]
  simp [markL]

theorem z7A {ρ : Type} {body : Int × Int × List α → Option (Rd (Int × Int × List α) (Int × List α) ρ)} {xs : List α} {k : Int} {fuel : Nat} (hl : xs.length ≤ 4294967296) (hf : 18446744073709551616 ≤ fuel) (h0 : 0 ≤ k) (h1 : k + (sumL c xs : Nat) ≤ 2147483648)
    (step : ∀ (i : Nat) (x : α) (ys : List α) (k : Int), i < xs.length → ys.length = xs.length → ys[i]? = some x → x ∈ xs → 0 ≤ k → k + (c x : Nat) ≤ 2147483648 → body (k, (i : Int), ys) = some (.next (k + (c x : Nat), w64 ((i : Int) + 1), ys.set i (f x k))))
    (last : ∀ k ys, body (k, (xs.length : Int), ys) = some (.brk (k, ys))) : iter body fuel (k, 0, xs) = some (.inl (k + (sumL c xs : Nat), markL f c xs k)) := by
  obtain ⟨o, h2, h3⟩ := z12 (body := body) (fun i s => s.1 = k + (sumL c (xs.take i) : Nat) ∧ s.2.1 = (i : Int) ∧ s.2.2 = markL f c (xs.take i) k ++ xs.drop i) xs.length (fun o => o = .inl (k + (sumL c xs : Nat), markL f c xs k)) (by
    rintro i ⟨s, t, ys⟩ hi ⟨h2, h3, h4⟩
    dsimp only at h2 h3 h4
    subst h2; subst h3; subst h4
    obtain ⟨x, hx⟩ := z4a hi
    have hlen : (markL f c (xs.take i) k).length = i := by rw [z6Z, List.length_take]; omega
    have hdrop : xs.drop i = x :: xs.drop (i + 1) := by
      have h1 := (List.getElem?_eq_some_iff.1 hx).2
      rw [← h1, ← List.drop_eq_getElem_cons hi]
    have hsum : sumL c (xs.take (i + 1)) = sumL c (xs.take i) + c x := zau hx
    have hle : sumL c (xs.take (i + 1)) ≤ sumL c xs := by
      conv => rhs; rw [← List.take_append_drop (i + 1) xs, zaQ]
      omega
    refine .inl ⟨_, step i x _ _ hi (by rw [List.length_append, hlen, List.length_drop]; omega) (by rw [List.getElem?_append_right (by omega), hlen, Nat.sub_self, hdrop]; rfl) (List.mem_of_getElem? hx) (by omega) (by omega), ?_, ?_, ?_⟩
    · show _ + _ = _
      rw [hsum]; omega
    · show w64 _ = _
      rw [za8 (by omega) (by omega)]; simp
    · show List.set _ _ _ = _
      rw [hdrop, List.set_append_right _ _ (by omega), hlen, Nat.sub_self, List.set_cons_zero]
      have ht : xs.take (i + 1) = xs.take i ++ [x] := by rw [List.take_add_one, hx]; rfl
      rw [ht, zbn]
      simp [markL]) (by
    rintro ⟨s, t, ys⟩ ⟨h2, h3, h4⟩
    dsimp only at h2 h3 h4
    subst h2; subst h3; subst h4
    refine .inr ⟨_, last _ _, ?_⟩
    rw [List.take_length, List.drop_length, List.append_nil]) (fuel := fuel) (i := 0) (s := (k, 0, xs)) (Nat.zero_le _) (by omega) ⟨by simp [sumL], rfl, by simp [markL]⟩
  rw [h2, h3]

theorem zgB {body : Int × Int → Option (Rd (Int × Int) Int Int)} {xs : List α} {k : Int} {fuel : Nat} (hl : xs.length ≤ 4294967296) (hf : 18446744073709551616 ≤ fuel) (h0 : 0 ≤ k) (h1 : k + (sumL c xs : Nat) ≤ 2147483648)
    (step : ∀ (i : Nat) (x : α) (k' : Int), i < xs.length → (markL f c xs k)[i]? = some (f x k') → x ∈ xs → 0 ≤ k' → k' + (c x : Nat) ≤ 2147483648 → body (k', (i : Int)) = some (.next (k' + (c x : Nat), w64 ((i : Int) + 1))))
    (last : ∀ k', body (k', ((markL f c xs k).length : Int)) = some (.brk k')) : iter body fuel (k, 0) = some (.inl (k + (sumL c xs : Nat))) := by
  obtain ⟨o, h2, h3⟩ := z12 (body := body) (fun i s => s.1 = k + (sumL c (xs.take i) : Nat) ∧ s.2 = (i : Int)) xs.length (fun o => o = .inl (k + (sumL c xs : Nat))) (by
    rintro i ⟨s, t⟩ hi ⟨h2, h3⟩
    dsimp only at h2 h3
    subst h2; subst h3
    obtain ⟨x, hx⟩ := z4a hi
    have hsum : sumL c (xs.take (i + 1)) = sumL c (xs.take i) + c x := zau hx
    have hle : sumL c (xs.take (i + 1)) ≤ sumL c xs := by
      conv => rhs; rw [← List.take_append_drop (i + 1) xs, zaQ]
      omega
    refine .inl ⟨_, step i x _ hi (zmX hx) (List.mem_of_getElem? hx) (by omega) (by omega), ?_, ?_⟩
    · show _ + _ = _
      rw [hsum]; omega
    · show w64 _ = _
      rw [za8 (by omega) (by omega)]; simp) (by
    rintro ⟨s, t⟩ ⟨h2, h3⟩
    dsimp only at h2 h3
    subst h2; subst h3
    refine .inr ⟨_, by have := last (k + (sumL c (xs.take xs.length) : Nat)); rw [z6Z] at this; exact this, ?_⟩
    rw [List.take_length]) (fuel := fuel) (i := 0) (s := (k, 0)) (Nat.zero_le _) (by omega) ⟨by simp [sumL], rfl⟩
  rw [h2, h3]

theorem z9L {g : α → Nat} {m : Nat} : ∀ {xs : List α}, (∀ x, x ∈ xs → c x ≤ m * (g x + 1)) → sumL c xs ≤ m * szL g xs
  | [], _ => by simp [sumL]
  | x :: xs, h => by
    have h1 := h x (by simp)
    have h2 := z9L (g := g) (m := m) (xs := xs) fun y hy => h y (by simp [hy])
    unfold szL at h2 ⊢
    simp only [sumL, List.length_cons]
    have : m * (xs.length + 1 + (g x + sumL g xs)) = m * (g x + 1) + m * (xs.length + sumL g xs) := by rw [← Nat.mul_add]; congr 1; omega
    omega

end
end Go.E
namespace Go.E
theorem z7x {α β : Type} {e : Option α} {a : α} {g : α → Option β} (h : e = some a) : e.bind g = g a := by rw [h]; rfl
end Go.E

