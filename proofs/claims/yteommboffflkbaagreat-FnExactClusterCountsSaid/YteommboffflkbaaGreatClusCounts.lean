/- Clusters: the sums of the machines' counts, on both sides. Conditions: a valid cluster. -/
import Derived.Test.YteommboffflkbaaGreatHCC
import Derived.Test.YteommboffflkbaaGreatClusActs
namespace Go.E
open Go.RowKit Go.Proofs
set_option linter.unusedSimpArgs false
set_option linter.unusedVariables false

def addI (a b : Int) : Int := w64 (a + b)
def addV (s x : List Int) : List Int := List.zipWith addI s x
def totV (cs : List (List Int)) : List Int := cs.foldl addV (List.replicate 7 0)
theorem ziq {s x : List Int} {n : Nat} (h : s.length = n) (h2 : x.length = n) : (addV s x).length = n := by simp [addV, h, h2]
theorem zo8 {s x : List Int} {i : Nat} {a b : Int} (h : s[i]? = some a) (h2 : x[i]? = some b) : (addV s x)[i]? = some (addI a b) := by simp [addV, List.getElem?_zipWith, h, h2]

theorem setLoop {S τ ρ : Type} {n fuel : Nat} {s0 x : List Int} {body : S → Option (Rd S τ ρ)} {mk : Int → List Int → S} {out : List Int → τ} (hl : n ≤ 1048576) (hf : 18446744073709551616 ≤ fuel) (h0 : s0.length = n) (hx : x.length = n)
    (step : ∀ (i : Nat) s a b, i < n → s.length = n → s[i]? = some a → x[i]? = some b → body (mk i s) = some (.next (mk (w64 (i + 1)) (s.set i (addI a b)))))
    (last : ∀ s, body (mk n s) = some (.brk (out s))) : iter body fuel (mk 0 s0) = some (.inl (out (addV s0 x))) := by
  obtain ⟨o, h1, h2⟩ := z12 (body := body) (fun i st => ∃ s : List Int, st = mk i s ∧ s.length = n ∧ (∀ j, j < i → s[j]? = (addV s0 x)[j]?) ∧ ∀ j, i ≤ j → s[j]? = s0[j]?) n (fun o => o = .inl (out (addV s0 x))) (by
    rintro i st hi ⟨s, rfl, e1, e2, e3⟩
    obtain ⟨a, ha⟩ := z4a (xs := s0) (i := i) (by omega)
    obtain ⟨b, hb⟩ := z4a (xs := x) (i := i) (by omega)
    have hs := e3 i (Nat.le_refl _)
    rw [ha] at hs
    refine .inl ⟨_, step i s a b hi e1 hs hb, s.set i (addI a b), by rw [z9 (by omega) (by omega)]; rfl, by simpa using e1, fun j hj => ?_, fun j hj => ?_⟩
    · by_cases h : i = j
      · subst h
        rw [List.getElem?_set_self (by omega), zo8 ha hb]
      · rw [List.getElem?_set_ne h, e2 j (by omega)]
    · rw [List.getElem?_set_ne (by omega), e3 j (by omega)]) (by
    rintro st ⟨s, rfl, e1, e2, e3⟩
    refine .inr ⟨_, last s, ?_⟩
    have : s = addV s0 x := List.ext_getElem? fun j => by
      by_cases h : j < n
      · exact e2 j h
      · rw [List.getElem?_eq_none (by omega), List.getElem?_eq_none (by rw [ziq h0 hx]; omega)]
    rw [this]) (fuel := fuel) (i := 0) (s := mk 0 s0) (by omega) (by omega) ⟨s0, rfl, h0, fun j hj => by omega, fun j _ => rfl⟩
  rw [h1, h2]

section
variable {fuel : Nat} {c : D.Cluster}
theorem zje {cs : List (List Int)} (h : ∀ x, x ∈ cs → x.length = 7) : (totV cs).length = 7 := by
  unfold totV
  have : ∀ (cs : List (List Int)) (s : List Int), s.length = 7 → (∀ x, x ∈ cs → x.length = 7) → (cs.foldl addV s).length = 7 := by
    intro cs
    induction cs with
    | nil => intro s h1 _; exact h1
    | cons x xs ih => intro s h1 h2; exact ih _ (ziq h1 (h2 x (by simp))) fun y hy => h2 y (by simp [hy])
  exact this cs _ (by simp) h
theorem zmu {cs : List (List Int)} {i : Nat} {x : List Int} (h : cs[i]? = some x) : totV (cs.take (i + 1)) = addV (totV (cs.take i)) x := by
  unfold totV
  rw [zcd h, List.foldl_append]
  rfl
theorem zmc {x : List Int} (hs : c.sz ≤ 1048576) (h : clusN c = true) (hx : x ∈ c.Counts) : x.length = 7 := by
  unfold clusN clusPN at h
  simp only [Bool.and_eq_true, decide_eq_true_eq] at h
  have h1 := List.all_eq_true.1 h.1.2.2.2.2.1 x hx
  unfold numN at h1
  rw [Bool.and_eq_true, decide_eq_true_eq] at h1
  exact h1.1

theorem totLoop {body : Int × List Int → Option (Rd (Int × List Int) (List Int) (List Int × Int))} (hf : 18446744073709551616 ≤ fuel) (hl : c.Counts.length ≤ 1048576) (h7 : ∀ x, x ∈ c.Counts → x.length = 7)
    (step : ∀ (i : Nat) s x, c.Counts[i]? = some x → s.length = 7 → x.length = 7 → body ((i : Int), s) = some (.next (w64 (i + 1), addV s x)))
    (last : ∀ s, body ((c.Counts.length : Int), s) = some (.brk s)) : iter body fuel (0, List.replicate (7 : Int).toNat (0 : Int)) = some (.inl (totV c.Counts)) := by
  obtain ⟨o, h1, h2⟩ := z12 (body := body) (fun i st => st = ((i : Int), totV (c.Counts.take i))) c.Counts.length (fun o => o = .inl (totV c.Counts)) (by
    rintro i st hi rfl
    obtain ⟨x, hx⟩ := z4a hi
    refine .inl ⟨_, step i _ x hx (zje fun y hy => h7 y (List.mem_of_mem_take hy)) (h7 x (List.mem_of_getElem? hx)), ?_⟩
    rw [zmu hx, z9 (by omega) (by omega)]; rfl) (by
    rintro st rfl
    exact .inr ⟨_, last _, by rw [List.take_length]⟩) (fuel := fuel) (i := 0) (s := (0, List.replicate (7 : Int).toNat (0 : Int))) (by omega) (by omega) (by simp [totV])
  rw [h1, h2]
theorem zmv (hf : 18446744073709551616 ≤ fuel) (hl : c.Counts.length ≤ 1048576) (h7 : ∀ x, x ∈ c.Counts → x.length = 7) : iter (z2n fuel c) fuel (0, List.replicate (7 : Int).toNat (0 : Int)) = some (.inl (totV c.Counts)) :=
  totLoop hf hl h7 (fun i s x hx h1 h2 => by
    have hil := (List.getElem?_eq_some_iff.1 hx).1
    unfold z2n
    dsimp only
    rw [if_pos (by simpa using hil)]
    have h := setLoop (body := z2m fuel c ((i : Int), s)) (mk := fun i s => (i, s)) (out := fun s => s) (n := 7) (s0 := s) (x := x) (by omega) hf h1 h2 (fun j t a b hj ht ha hb => by
      unfold z2m
      dsimp only
      rw [if_pos (decide_eq_true (by omega)), za ha, Option.bind_some, za hx, Option.bind_some, za hb, Option.bind_some, if_pos (decide_eq_true (by rw [Int.toNat_natCast]; omega)), Int.toNat_natCast]
      rfl) (fun t => by
      unfold z2m
      rw [if_neg (by simp)])
    try dsimp only at h
    rw [h, Option.bind_some, z8]
    rfl) (fun s => by unfold z2n; rw [if_neg (by simp)])
theorem zmw (hf : 18446744073709551616 ≤ fuel) (hl : c.Counts.length ≤ 1048576) (h7 : ∀ x, x ∈ c.Counts → x.length = 7) : iter (z2x fuel c) fuel (0, List.replicate (7 : Int).toNat (0 : Int)) = some (.inl (totV c.Counts)) :=
  totLoop hf hl h7 (fun i s x hx h1 h2 => by
    have hil := (List.getElem?_eq_some_iff.1 hx).1
    unfold z2x
    dsimp only
    rw [if_pos (by simpa using hil), za hx, Option.bind_some]
    have h := setLoop (body := z2w fuel x) (mk := fun i s => (i, s)) (out := fun s => s) (n := 7) (s0 := s) (x := x) (by omega) hf h1 h2 (fun j t a b hj ht ha hb => by
      unfold z2w
      dsimp only
      rw [if_pos (decide_eq_true (by omega)), za hb, Option.bind_some, za ha, Option.bind_some, if_pos (decide_eq_true (by rw [Int.toNat_natCast]; omega)), Int.toNat_natCast]
      rfl) (fun t => by
      unfold z2w
      rw [if_neg (by simp [h2])])
    try dsimp only at h
    rw [h, Option.bind_some, z8]
    rfl) (fun s => by unfold z2x; rw [if_neg (by simp)])
end
end Go.E

