/- Agents: the reference's and the program's tests of one agent agree. Conditions: the data within the law's bound. -/
import Derived.Test.YteommboffflkbaaGreatLoops
import Derived.Test.YteommboffflkbaaGreatFA
namespace Go.E
open Go.RowKit Go.Proofs
set_option linter.unusedSimpArgs false
set_option linter.unusedVariables false

theorem z5X {fuel : Nat} {a l h : Int} : zF fuel a l h = some (decide (l ≤ a ∧ a ≤ h)) := by
  unfold zF
  by_cases h1 : l ≤ a
  · rw [if_pos (decide_eq_true (by omega))]; simp [h1]
  · rw [if_neg (by simp; omega)]; simp [h1]

def portsN (k f : Int) : Int :=
  if k = 9 then (if 0 ≤ f ∧ f ≤ 3 then 1 + f else 0) else if f ≠ 0 then 0 else if k = 1 ∨ k = 5 ∨ k = 6 ∨ k = 12 then 1 else
  if k = 8 ∨ k = 10 ∨ k = 11 then 2 else if k = 2 ∨ k = 3 ∨ k = 4 ∨ k = 7 then 3 else 0
def levelN (k : Int) : Bool := decide (2 ≤ k ∧ k ≤ 12 ∧ k ≠ 5 ∧ k ≠ 6)
def allowN (k l : Int) : Bool := decide (1 ≤ k ∧ k ≤ 12) && (decide (l = 0) || (levelN k && decide (0 ≤ l ∧ l ≤ 8)))
def defN (n : Int) : Bool := decide (0 ≤ n ∧ n ≤ 23)
def contentN (k v : Int) (d : List Int) : Bool :=
  if k = 6 then decide (d.length = 0 ∧ -2147483648 ≤ v ∧ v ≤ 2147483647) else
  if k = 7 then decide (d.length = 0 ∧ 1 ≤ v ∧ v ≤ 6) else
  if k = 8 then decide (d.length = 1 ∧ 1 ≤ v ∧ v ≤ 6) && d.all (fun n => decide (-2147483648 ≤ n ∧ n ≤ 2147483647)) else
  if k = 9 then decide (d.length = 0 ∧ 0 ≤ v ∧ v ≤ 3) else
  if k = 10 then decide (v = 0 ∧ 1 ≤ d.length ∧ d.length ≤ 4) && d.all defN else
  if k = 11 then decide (v = 0 ∧ d.length = 2) && d.all defN else
  if k = 12 then decide (d.length = 0 ∧ 0 ≤ v ∧ v ≤ 23) else decide (v = 0 ∧ d.length = 0)
def agentN (k l v : Int) (d : List Int) (n : Nat) : Bool := decide (portsN k (if k = 9 then n - 1 else 0) = n) && (allowN k l && contentN k v d)

theorem kinds (k : Int) : (k = 1 ∨ k = 2 ∨ k = 3 ∨ k = 4 ∨ k = 5 ∨ k = 6 ∨ k = 7 ∨ k = 8 ∨ k = 9 ∨ k = 10 ∨ k = 11 ∨ k = 12) ∨ ¬ (1 ≤ k ∧ k ≤ 12) := by omega
theorem zdq {k : Int} (h : ¬ (1 ≤ k ∧ k ≤ 12)) (c : Int) (h1 : 1 ≤ c ∧ c ≤ 12) : (k == c) = false := by
  rw [beq_eq_false_iff_ne]; rintro rfl; exact h h1

theorem zbf {fuel : Nat} {k f : Int} : z3S fuel k f = some (portsN k f) := by
  by_cases h9 : k = 9
  · subst h9
    unfold z3S portsN
    simp only [z5X, Option.bind_some, beq_self_eq_true, if_true, decide_eq_true_eq]
    split
    · rw [zd (by omega) (by omega)]
    · rfl
  · by_cases hf : f = 0
    · subst hf
      rcases kinds k with h | h
      · rcases h with rfl | rfl | rfl | rfl | rfl | rfl | rfl | rfl | rfl | rfl | rfl | rfl <;> first | exact absurd rfl h9 | rfl
      · simp [z3S, z4h, z4g, z4f, z4e, z4d, z4c, z4b, z4a, portsN, zdq h, h9]
        omega
    · unfold z3S portsN
      rw [if_neg (by simpa using h9), if_pos (by simpa using hf), if_neg h9, if_pos hf]
theorem z7M {fuel : Nat} {k : Int} : z4F fuel k = some (decide (1 ≤ k ∧ k ≤ 12)) := by
  unfold z4F
  by_cases h1 : 1 ≤ k
  · rw [if_pos (decide_eq_true (by omega))]; simp [h1]
  · rw [if_neg (by simp; omega)]; simp [h1]
theorem zdW {fuel : Nat} {k f : Int} : z4Y fuel k f = some (portsN k f) := by
  by_cases h9 : k = 9
  · subst h9
    unfold z4Y portsN z27
    simp only [z7M, Option.bind_some, beq_self_eq_true, if_true]
    by_cases h0 : 0 ≤ f
    · by_cases h3 : f ≤ 3
      · rw [if_pos (decide_eq_true (by omega)), if_pos (decide_eq_true h3), if_pos ⟨h0, h3⟩, zd (by omega) (by omega), Int.add_comm]
      · rw [if_pos (decide_eq_true (by omega)), if_neg (by simpa using h3)]; simp [z1c, h3]
    · rw [if_neg (by simp; omega), if_neg Bool.false_ne_true]; simp [z1c, h0]
  · unfold z4Y z27
    rw [if_neg (by simpa using h9), if_neg Bool.false_ne_true, z7M, Option.bind_some]
    rcases kinds k with h | h
    · by_cases hf : f = 0
      · subst hf
        rcases h with rfl | rfl | rfl | rfl | rfl | rfl | rfl | rfl | rfl | rfl | rfl | rfl <;> first | exact absurd rfl h9 | rfl
      · rw [if_neg (by simp; omega), if_neg (by simpa using h9), show (f != 0) = true by simpa using hf]
        simp [z1c, portsN, h9, hf]
    · rw [if_pos (by simp; omega)]
      simp [z1c, portsN, h9]
      omega

theorem zdY {fuel : Nat} {k : Int} : z5f fuel k = some (levelN k) := by
  rcases kinds k with h | h
  · rcases h with rfl | rfl | rfl | rfl | rfl | rfl | rfl | rfl | rfl | rfl | rfl | rfl <;> rfl
  · simp [z5f, z3J, z3H, z3G, z3F, z3E, z3D, z3C, z3B, levelN, zdq h]
    omega
theorem zdZ {fuel : Nat} {k : Int} : z5q fuel k = some (levelN k) := by
  unfold z5q
  rw [z7M, Option.bind_some]
  rcases kinds k with h | h
  · rcases h with rfl | rfl | rfl | rfl | rfl | rfl | rfl | rfl | rfl | rfl | rfl | rfl <;> rfl
  · rw [if_neg (by simpa using h)]
    simp [levelN]; omega
theorem zeb {fuel : Nat} {k l : Int} : z5e fuel k l = some (allowN k l) := by
  unfold z5e z6D allowN
  simp only [zdY, z5X, Option.bind_some]
  cases hl : levelN k with
  | true =>
    have : 1 ≤ k ∧ k ≤ 12 := by unfold levelN at hl; simp at hl; omega
    simp [this]; omega
  | false => by_cases h : 1 ≤ k ∧ k ≤ 12 <;> by_cases h0 : l = 0 <;> simp [h, h0]
theorem zec {fuel : Nat} {k l : Int} : z4V fuel k l = some (allowN k l) := by
  unfold z4V allowN
  have hL : z5L fuel l = some (decide (0 ≤ l ∧ l ≤ 8)) := by
    unfold z5L
    by_cases h1 : 0 ≤ l
    · rw [if_pos (decide_eq_true (by omega))]; simp [h1]
    · rw [if_neg (by simp; omega)]; simp [h1]
  simp only [z7M, zdZ, hL, Option.bind_some]
  by_cases h : 1 ≤ k ∧ k ≤ 12
  · by_cases h0 : l = 0
    · simp [h, h0]
    · cases hl : levelN k <;> simp [h, h0]
  · simp [h]

theorem zdu {fuel : Nat} {n : Int} : z5x fuel n = some (defN n) := by
  unfold z5x defN; rw [z5X]; rfl
theorem zdv {fuel : Nat} {n : Int} : z2Y fuel n = some (defN n) := by
  unfold z2Y defN
  by_cases h1 : 0 ≤ n
  · rw [if_pos (decide_eq_true (by omega))]; simp [h1]; omega
  · rw [if_neg (by simp; omega)]; simp [h1]
theorem zgH {fuel : Nat} {n : Int} : z61 fuel n = some (decide (-2147483648 ≤ n ∧ n ≤ 2147483647)) := by
  unfold z61
  by_cases h1 : -2147483648 ≤ n
  · rw [if_pos (decide_eq_true (by omega))]; simp [h1]
  · rw [if_neg (by simp; omega)]; simp [h1]
theorem zex {fuel : Nat} {n : Int} : z2X fuel n = some (decide (1 ≤ n ∧ n ≤ 6)) := by
  unfold z2X
  by_cases h1 : 1 ≤ n
  · rw [if_pos (decide_eq_true (by omega))]; simp [h1]
  · rw [if_neg (by simp; omega)]; simp [h1]
theorem z7S {α : Type} {p : α → Bool} : ∀ {xs : List α}, xs.any (fun x => !p x) = !xs.all p
  | [] => rfl
  | x :: xs => by simp [z7S (p := p) (xs := xs)]
theorem zg0 {fuel : Nat} {a : D.Agent} (hf : 18446744073709551616 ≤ fuel) (hl : a.Data.length ≤ maxLen) :
    ((iter (z2A fuel a) fuel 0).bind fun o => aft o (z5D fuel)) = some (a.Data.all defN) := by
  rw [askOne (xs := a.Data) (p := fun n => !defN n) (v := false) (t := ()) hl hf (fun i x hi hx => by
    unfold z2A
    simp only [za hx, zdu, lt_t (show (i : Int) < a.Data.length by omega), if_true, Option.bind_some]) (by simp [z2A]), z7S]
  cases a.Data.all defN <;> rfl
theorem z9w {fuel : Nat} {p : Int → Bool} {f : Int → Option Bool} {xs : List Int} (hf : 18446744073709551616 ≤ fuel) (hl : xs.length ≤ maxLen) (h : ∀ n, f n = some (p n)) :
    zw fuel xs f = some (xs.any p) := by
  unfold zw z1h
  obtain ⟨r, h1, h2⟩ := askIndex (xs := xs) (p := p) (body := zO fuel xs f) (j := z1O fuel) (t := ()) hl hf rfl (fun i x hi hx => by
    simp only [zO, za hx, h, lt_t (show (i : Int) < xs.length by omega), if_true, Option.bind_some]) (by simp [zO])
  rw [h1, Option.bind_some, h2]

theorem zcG {fuel : Nat} {a : D.Agent} (hf : 18446744073709551616 ≤ fuel) (hl : a.Data.length ≤ maxLen) : zN fuel a = some (contentN a.Kind a.Value a.Data) := by
  have hd := zg0 (a := a) hf hl
  obtain ⟨k, l, v, d, ps⟩ := a
  dsimp only at hl hd ⊢
  by_cases h6 : k = 6
  · subst h6
    simp only [zN, contentN, z5X, Option.bind_some, beq_self_eq_true, if_true]
    by_cases h : d.length = 0 <;> simp [h] <;> omega
  by_cases h7 : k = 7
  · subst h7
    simp only [zN, contentN, z5X, Option.bind_some, beq_self_eq_true, if_true]
    by_cases h : d.length = 0 <;> simp [h] <;> omega
  by_cases h8 : k = 8
  · subst h8
    simp only [zN, contentN, z5X, Option.bind_some, beq_self_eq_true, if_true]
    match d with
    | [] => simp
    | [n] => by_cases h : 1 ≤ v ∧ v ≤ 6 <;> simp [h, idx]
    | _ :: _ :: _ => simp; omega
  by_cases h9 : k = 9
  · subst h9
    simp only [zN, contentN, z5X, Option.bind_some, beq_self_eq_true, if_true]
    by_cases h : d.length = 0 <;> simp [h] <;> omega
  by_cases h12 : k = 12
  · subst h12
    simp only [zN, contentN, z5X, zdu, Option.bind_some, beq_self_eq_true, if_true]
    by_cases h : d.length = 0 <;> simp [h, defN] <;> omega
  by_cases h10 : k = 10
  · subst h10
    simp only [zN, z1e, zH, contentN, z5X, Option.bind_some, beq_self_eq_true, if_true, hd]
    by_cases h : v = 0
    · by_cases h1 : 1 ≤ d.length ∧ d.length ≤ 4
      · have h2 : (1 : Int) ≤ d.length ∧ (d.length : Int) ≤ 4 := by omega
        simp [h, h1, h2]
      · have h2 : ¬ ((1 : Int) ≤ d.length ∧ (d.length : Int) ≤ 4) := by omega
        simp [h, h1, h2]
    · simp [h]
  by_cases h11 : k = 11
  · subst h11
    simp only [zN, z1e, zH, contentN, z5X, Option.bind_some, beq_self_eq_true, if_true, hd]
    by_cases h : v = 0
    · by_cases h1 : d.length = 2
      · simp [h, h1]
      · have h2 : ¬ ((d.length : Int) = 2) := by omega
        simp [h, h1, h2]
    · simp [h]
  · simp only [zN, z1e, contentN, h6, h7, h8, h9, h10, h11, h12, if_false]
    by_cases h : v = 0 <;> by_cases h1 : d.length = 0 <;> simp [h, h1, h6, h7, h8, h9, h10, h11, h12]

theorem zcH {fuel : Nat} {a : D.Agent} (hf : 18446744073709551616 ≤ fuel) (hl : a.Data.length ≤ maxLen) : z1f fuel a false = some (contentN a.Kind a.Value a.Data) := by
  unfold z1f
  rw [if_neg Bool.false_ne_true, z9w (p := fun n => !defN n) hf hl (fun n => by unfold z44; rw [zdv]; rfl), Option.bind_some, z7S, Bool.not_not]
  obtain ⟨k, l, v, d, ps⟩ := a
  dsimp only at hl ⊢
  simp only [z2L, z2K, z2J, z2H, z2G, z1T, z2F, z2E, z2e, zgH, zex, zdv, Option.bind_some]
  by_cases h6 : k = 6
  · subst h6
    simp only [contentN, beq_self_eq_true, if_true]
    by_cases h : d.length = 0 <;> by_cases h1 : -2147483648 ≤ v ∧ v ≤ 2147483647 <;> simp [h, h1]
  by_cases h7 : k = 7
  · subst h7
    simp only [contentN, beq_self_eq_true, if_true]
    by_cases h : d.length = 0 <;> by_cases h1 : 1 ≤ v ∧ v ≤ 6 <;> simp [h, h1]
  by_cases h8 : k = 8
  · subst h8
    simp only [contentN, beq_self_eq_true, if_true]
    match d with
    | [] => simp
    | [n] => by_cases h : 1 ≤ v ∧ v ≤ 6 <;> simp [h, idx]
    | _ :: _ :: _ => simp; omega
  by_cases h9 : k = 9
  · subst h9
    simp only [contentN, beq_self_eq_true, if_true]
    by_cases h1 : 0 ≤ v
    · by_cases h : d.length = 0 <;> by_cases h2 : v < 4 <;> simp [h, h1, h2] <;> omega
    · simp [h1]
  by_cases h12 : k = 12
  · subst h12
    simp only [contentN, beq_self_eq_true, if_true]
    by_cases h : d.length = 0 <;> by_cases h1 : 0 ≤ v ∧ v ≤ 23 <;> simp [h, h1, defN]
  by_cases h10 : k = 10
  · subst h10
    simp only [contentN, beq_self_eq_true, if_true]
    by_cases h : v = 0
    · by_cases h1 : 1 ≤ d.length
      · by_cases h2 : d.length ≤ 4
        · have h3 : (1 : Int) ≤ d.length := by omega
          have h4 : (d.length : Int) ≤ 4 := by omega
          simp [h, h1, h2, h3, h4]
        · have h3 : (1 : Int) ≤ d.length := by omega
          have h4 : ¬ (d.length : Int) ≤ 4 := by omega
          simp [h, h1, h2, h3, h4]
      · have h3 : ¬ (1 : Int) ≤ d.length := by omega
        simp [h, h1, h3]
    · by_cases h1 : (1 : Int) ≤ d.length <;> by_cases h2 : (d.length : Int) ≤ 4 <;> simp [h, h1, h2]
  by_cases h11 : k = 11
  · subst h11
    simp only [contentN, beq_self_eq_true, if_true]
    by_cases h : v = 0 <;> by_cases h1 : d.length = 2
    · simp [h, h1]
    · have h2 : ¬ ((d.length : Int) = 2) := by omega
      simp [h, h1, h2]
    · simp [h, h1]
    · have h2 : ¬ ((d.length : Int) = 2) := by omega
      simp [h, h1, h2]
  · simp only [contentN, h6, h7, h8, h9, h10, h11, h12, if_false]
    by_cases h : v = 0 <;> by_cases h1 : d.length = 0 <;> simp [h, h1, h6, h7, h8, h9, h10, h11, h12]

theorem z8v {n : Nat} (hn : n ≤ maxLen) : w64 ((n : Int) - 1) = (n : Int) - 1 := by
  have : maxLen = 9223372036854775807 := rfl
  exact zd (by omega) (by omega)
theorem zee {fuel : Nat} {a : D.Agent} (hf : 18446744073709551616 ≤ fuel) (hl : a.Data.length ≤ maxLen) (h1 : 1 ≤ a.Ports.length) (h2 : a.Ports.length ≤ maxLen) :
    z25 fuel a = some (agentN a.Kind a.Level a.Value a.Data a.Ports.length) := by
  unfold z25 agentN
  rw [if_neg (by simp; intro h; rw [h] at h1; exact absurd h1 (by decide))]
  have hF : z5p fuel a.Kind (a.Ports.length : Int) = some (if a.Kind = 9 then (a.Ports.length : Int) - 1 else 0) := by
    unfold z5p
    by_cases h : a.Kind = 9
    · rw [if_pos (by simpa using h), if_pos h, z8v h2]
    · rw [if_neg (by simpa using h), if_neg h]
  rw [hF, Option.bind_some, zdW, Option.bind_some, zec, Option.bind_some]
  by_cases hp : portsN a.Kind (if a.Kind = 9 then (a.Ports.length : Int) - 1 else 0) = (a.Ports.length : Int)
  · rw [if_neg (by simp [hp]), decide_eq_true hp, Bool.true_and]
    cases allowN a.Kind a.Level with
    | false => rfl
    | true => rw [Bool.true_and]; exact zcH hf hl
  · rw [if_pos (by simpa using hp), decide_eq_false hp]; rfl
theorem zed {fuel : Nat} {a : D.Agent} (hf : 18446744073709551616 ≤ fuel) (hl : a.Data.length ≤ maxLen) (h1 : 1 ≤ a.Ports.length) (h2 : a.Ports.length ≤ maxLen) :
    z3b fuel a = some (agentN a.Kind a.Level a.Value a.Data a.Ports.length) := by
  unfold z3b agentN
  have hF : z2x fuel a = some (if a.Kind = 9 then (a.Ports.length : Int) - 1 else 0) := by
    unfold z2x
    by_cases h : a.Kind = 9
    · rw [if_pos (by simpa using h), if_pos h, z8v h2]
    · rw [if_neg (by simpa using h), if_neg h]
  rw [hF, Option.bind_some, zbf, Option.bind_some, zeb, Option.bind_some, zcG hf hl]
  by_cases hp : portsN a.Kind (if a.Kind = 9 then (a.Ports.length : Int) - 1 else 0) = (a.Ports.length : Int)
  · rw [hp, if_pos (decide_eq_true (by omega)), if_pos (by simp), decide_eq_true rfl, Bool.true_and]
    cases allowN a.Kind a.Level <;> rfl
  · rw [decide_eq_false hp]
    generalize portsN a.Kind (if a.Kind = 9 then (a.Ports.length : Int) - 1 else 0) = r at hp ⊢
    by_cases h : r > 0
    · rw [if_pos (decide_eq_true h), if_neg (by simpa using fun h => hp h.symm)]; rfl
    · rw [if_neg (by simpa using h)]; rfl



def agN (a : D.Agent) : Bool := decide (a.Ports.length ≠ 0) && agentN a.Kind a.Level a.Value a.Data a.Ports.length
theorem zhC {fuel : Nat} {a : D.Agent} (hf : 18446744073709551616 ≤ fuel) (hl : a.Data.length ≤ maxLen) (h2 : a.Ports.length ≤ maxLen) : z25 fuel a = some (agN a) := by
  by_cases h : a.Ports.length = 0
  · unfold z25 agN
    rw [if_pos (by simp [h]), show decide (a.Ports.length ≠ 0) = false by simp [h], Bool.false_and]
    rfl
  · rw [zee hf hl (by omega) h2]
    unfold agN
    rw [decide_eq_true (by simpa using h), Bool.true_and]
theorem zhB {fuel : Nat} {a : D.Agent} (hf : 18446744073709551616 ≤ fuel) (hl : a.Data.length ≤ maxLen) (h2 : a.Ports.length ≤ maxLen) : z3b fuel a = some (agN a) := by
  by_cases h : a.Ports.length = 0
  · unfold z3b agN
    have hF : z2x fuel a = some (if a.Kind = 9 then (a.Ports.length : Int) - 1 else 0) := by
      unfold z2x
      by_cases h : a.Kind = 9
      · rw [if_pos (by simpa using h), if_pos h, z8v h2]
      · rw [if_neg (by simpa using h), if_neg h]
    rw [hF, Option.bind_some, zbf, Option.bind_some, show decide (a.Ports.length ≠ 0) = false by simp [h], Bool.false_and]
    generalize portsN a.Kind (if a.Kind = 9 then (a.Ports.length : Int) - 1 else 0) = r
    by_cases hr : r > 0
    · rw [if_pos (decide_eq_true hr), if_neg (by rw [h]; simp; omega)]
    · rw [if_neg (by simpa using hr)]
  · rw [zed hf hl (by omega) h2]
    unfold agN
    rw [decide_eq_true (by simpa using h), Bool.true_and]
end Go.E

