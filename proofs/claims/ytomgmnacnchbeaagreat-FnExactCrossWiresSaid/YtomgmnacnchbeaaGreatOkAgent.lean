/- Agents: the reference's and the program's tests of one agent agree. Conditions: the data within the law's bound. -/
import Derived.Test.YtomgmnacnchbeaaGreatLoops
import Derived.Test.YtomgmnacnchbeaaGreatFA
namespace Go.E
open Go.RowKit Go.Proofs
set_option linter.unusedSimpArgs false
set_option linter.unusedVariables false

theorem in_pure {fuel : Nat} {a l h : Int} : m_spec_l00In fuel a l h = some (decide (l ≤ a ∧ a ≤ h)) := by
  unfold m_spec_l00In
  by_cases h1 : l ≤ a
  · rw [if_pos (decide_eq_true (by omega))]; simp [h1]
  · rw [if_neg (by simp; omega)]; simp [h1]

def portsN (k f : Int) : Int :=
  if k = 9 then (if 0 ≤ f ∧ f ≤ 3 then 1 + f else 0) else if f ≠ 0 then 0 else if k = 1 ∨ k = 5 ∨ k = 6 ∨ k = 12 then 1 else
  if k = 8 ∨ k = 10 ∨ k = 11 then 2 else if k = 2 ∨ k = 3 ∨ k = 4 ∨ k = 7 then 3 else 0
def levelN (k : Int) : Bool := decide (2 ≤ k ∧ k ≤ 12 ∧ k ≠ 5 ∧ k ≠ 6)
def allowN (k l : Int) : Bool := decide (1 ≤ k ∧ k ≤ 12) && (decide (l = 0) || (levelN k && decide (0 ≤ l ∧ l ≤ 8)))
def defN (n : Int) : Bool := decide (0 ≤ n ∧ n ≤ 23)
def contentN (k v : Int) (d : List Int) : Bool :=
  if k = 6 then decide (d.length = 0 ∧ -2147483648 ≤ v ∧ v ≤ 2147483647) else
  if k = 7 then decide (d.length = 0 ∧ 1 ≤ v ∧ v ≤ 6) else
  if k = 8 then decide (d.length = 1 ∧ 1 ≤ v ∧ v ≤ 6) && d.all (fun n => decide (-2147483648 ≤ n ∧ n ≤ 2147483647)) else
  if k = 9 then decide (d.length = 0 ∧ 0 ≤ v ∧ v ≤ 3) else
  if k = 10 then decide (v = 0 ∧ 1 ≤ d.length ∧ d.length ≤ 4) && d.all defN else
  if k = 11 then decide (v = 0 ∧ d.length = 2) && d.all defN else
  if k = 12 then decide (d.length = 0 ∧ 0 ≤ v ∧ v ≤ 23) else decide (v = 0 ∧ d.length = 0)
def agentN (k l v : Int) (d : List Int) (n : Nat) : Bool := decide (portsN k (if k = 9 then n - 1 else 0) = n) && (allowN k l && contentN k v d)

theorem kinds (k : Int) : (k = 1 ∨ k = 2 ∨ k = 3 ∨ k = 4 ∨ k = 5 ∨ k = 6 ∨ k = 7 ∨ k = 8 ∨ k = 9 ∨ k = 10 ∨ k = 11 ∨ k = 12) ∨ ¬ (1 ≤ k ∧ k ≤ 12) := by omega
theorem kind_off {k : Int} (h : ¬ (1 ≤ k ∧ k ≤ 12)) (c : Int) (h1 : 1 ≤ c ∧ c ≤ 12) : (k == c) = false := by
  rw [beq_eq_false_iff_ne]; rintro rfl; exact h h1

theorem ports_spec {fuel : Nat} {k f : Int} : m_spec_PortsOf fuel k f = some (portsN k f) := by
  by_cases h9 : k = 9
  · subst h9
    unfold m_spec_PortsOf portsN
    simp only [in_pure, Option.bind_some, beq_self_eq_true, if_true, decide_eq_true_eq]
    split
    · rw [i64_small (by omega) (by omega)]
    · rfl
  · by_cases hf : f = 0
    · subst hf
      rcases kinds k with h | h
      · rcases h with rfl | rfl | rfl | rfl | rfl | rfl | rfl | rfl | rfl | rfl | rfl | rfl <;> first | exact absurd rfl h9 | rfl
      · simp [m_spec_PortsOf, m_spec_PortsOf_j1, m_spec_PortsOf_j2, m_spec_PortsOf_j3, m_spec_PortsOf_j4, m_spec_PortsOf_j5, m_spec_PortsOf_j6, m_spec_PortsOf_j7, m_spec_PortsOf_j8, portsN, kind_off h, h9]
        omega
    · unfold m_spec_PortsOf portsN
      rw [if_neg (by simpa using h9), if_pos (by simpa using hf), if_neg h9, if_pos hf]
theorem isKind_impl {fuel : Nat} {k : Int} : m_impl_isKind fuel k = some (decide (1 ≤ k ∧ k ≤ 12)) := by
  unfold m_impl_isKind
  by_cases h1 : 1 ≤ k
  · rw [if_pos (decide_eq_true (by omega))]; simp [h1]
  · rw [if_neg (by simp; omega)]; simp [h1]
theorem ports_impl {fuel : Nat} {k f : Int} : m_impl_PortsOf fuel k f = some (portsN k f) := by
  by_cases h9 : k = 9
  · subst h9
    unfold m_impl_PortsOf portsN m_impl_PortsOf_j1
    simp only [isKind_impl, Option.bind_some, beq_self_eq_true, if_true]
    by_cases h0 : 0 ≤ f
    · by_cases h3 : f ≤ 3
      · rw [if_pos (decide_eq_true (by omega)), if_pos (decide_eq_true h3), if_pos ⟨h0, h3⟩, i64_small (by omega) (by omega), Int.add_comm]
      · rw [if_pos (decide_eq_true (by omega)), if_neg (by simpa using h3)]; simp [m_impl_PortsOf_j2, h3]
    · rw [if_neg (by simp; omega), if_neg Bool.false_ne_true]; simp [m_impl_PortsOf_j2, h0]
  · unfold m_impl_PortsOf m_impl_PortsOf_j1
    rw [if_neg (by simpa using h9), if_neg Bool.false_ne_true, isKind_impl, Option.bind_some]
    rcases kinds k with h | h
    · by_cases hf : f = 0
      · subst hf
        rcases h with rfl | rfl | rfl | rfl | rfl | rfl | rfl | rfl | rfl | rfl | rfl | rfl <;> first | exact absurd rfl h9 | rfl
      · rw [if_neg (by simp; omega), if_neg (by simpa using h9), show (f != 0) = true by simpa using hf]
        simp [m_impl_PortsOf_j2, portsN, h9, hf]
    · rw [if_pos (by simp; omega)]
      simp [m_impl_PortsOf_j2, portsN, h9]
      omega

theorem level_spec {fuel : Nat} {k : Int} : m_spec_HasLevel fuel k = some (levelN k) := by
  rcases kinds k with h | h
  · rcases h with rfl | rfl | rfl | rfl | rfl | rfl | rfl | rfl | rfl | rfl | rfl | rfl <;> rfl
  · simp [m_spec_HasLevel, m_spec_HasLevel_j1, m_spec_HasLevel_j2, m_spec_HasLevel_j3, m_spec_HasLevel_j4, m_spec_HasLevel_j5, m_spec_HasLevel_j6, m_spec_HasLevel_j7, m_spec_HasLevel_j8, levelN, kind_off h]
    omega
theorem level_impl {fuel : Nat} {k : Int} : m_impl_HasLevel fuel k = some (levelN k) := by
  unfold m_impl_HasLevel
  rw [isKind_impl, Option.bind_some]
  rcases kinds k with h | h
  · rcases h with rfl | rfl | rfl | rfl | rfl | rfl | rfl | rfl | rfl | rfl | rfl | rfl <;> rfl
  · rw [if_neg (by simpa using h)]
    simp [levelN]; omega
theorem allow_spec {fuel : Nat} {k l : Int} : m_spec_l10Level fuel k l = some (allowN k l) := by
  unfold m_spec_l10Level m_spec_l10Kind allowN
  simp only [level_spec, in_pure, Option.bind_some]
  cases hl : levelN k with
  | true =>
    have : 1 ≤ k ∧ k ≤ 12 := by unfold levelN at hl; simp at hl; omega
    simp [this]; omega
  | false => by_cases h : 1 ≤ k ∧ k ≤ 12 <;> by_cases h0 : l = 0 <;> simp [h, h0]
theorem allow_impl {fuel : Nat} {k l : Int} : m_impl_isAllowed fuel k l = some (allowN k l) := by
  unfold m_impl_isAllowed allowN
  have hL : m_impl_isLevel fuel l = some (decide (0 ≤ l ∧ l ≤ 8)) := by
    unfold m_impl_isLevel
    by_cases h1 : 0 ≤ l
    · rw [if_pos (decide_eq_true (by omega))]; simp [h1]
    · rw [if_neg (by simp; omega)]; simp [h1]
  simp only [isKind_impl, level_impl, hL, Option.bind_some]
  by_cases h : 1 ≤ k ∧ k ≤ 12
  · by_cases h0 : l = 0
    · simp [h, h0]
    · cases hl : levelN k <;> simp [h, h0]
  · simp [h]

theorem def_spec {fuel : Nat} {n : Int} : m_spec_l11Def fuel n = some (defN n) := by
  unfold m_spec_l11Def defN; rw [in_pure]; rfl
theorem def_impl {fuel : Nat} {n : Int} : m_impl_isDefIndex fuel n = some (defN n) := by
  unfold m_impl_isDefIndex defN
  by_cases h1 : 0 ≤ n
  · rw [if_pos (decide_eq_true (by omega))]; simp [h1]; omega
  · rw [if_neg (by simp; omega)]; simp [h1]
theorem int_impl {fuel : Nat} {n : Int} : m_impl_isInt fuel n = some (decide (-2147483648 ≤ n ∧ n ≤ 2147483647)) := by
  unfold m_impl_isInt
  by_cases h1 : -2147483648 ≤ n
  · rw [if_pos (decide_eq_true (by omega))]; simp [h1]
  · rw [if_neg (by simp; omega)]; simp [h1]
theorem oper_impl {fuel : Nat} {n : Int} : m_impl_isOperator fuel n = some (decide (1 ≤ n ∧ n ≤ 6)) := by
  unfold m_impl_isOperator
  by_cases h1 : 1 ≤ n
  · rw [if_pos (decide_eq_true (by omega))]; simp [h1]
  · rw [if_neg (by simp; omega)]; simp [h1]
theorem any_all {α : Type} {p : α → Bool} : ∀ {xs : List α}, xs.any (fun x => !p x) = !xs.all p
  | [] => rfl
  | x :: xs => by simp [any_all (p := p) (xs := xs)]
theorem defs_spec {fuel : Nat} {a : D.Agent} (hf : 18446744073709551616 ≤ fuel) (hl : a.Data.length ≤ maxLen) :
    ((iter (m_spec_l11Content_b1 fuel a) fuel 0).bind fun o => aft o (m_spec_l11Content_j3 fuel)) = some (a.Data.all defN) := by
  rw [askOne (xs := a.Data) (p := fun n => !defN n) (v := false) (t := ()) hl hf (fun i x hi hx => by
    unfold m_spec_l11Content_b1
    simp only [idx_at hx, def_spec, lt_t (show (i : Int) < a.Data.length by omega), if_true, Option.bind_some]) (by simp [m_spec_l11Content_b1]), any_all]
  cases a.Data.all defN <;> rfl
theorem contains_int {fuel : Nat} {p : Int → Bool} {f : Int → Option Bool} {xs : List Int} (hf : 18446744073709551616 ≤ fuel) (hl : xs.length ≤ maxLen) (h : ∀ n, f n = some (p n)) :
    m_slices_ContainsFunc_int64_int64 fuel xs f = some (xs.any p) := by
  unfold m_slices_ContainsFunc_int64_int64 m_slices_IndexFunc_int64_int64
  obtain ⟨r, h1, h2⟩ := askIndex (xs := xs) (p := p) (body := m_slices_IndexFunc_int64_int64_b1 fuel xs f) (j := m_slices_IndexFunc_int64_int64_j1 fuel) (t := ()) hl hf rfl (fun i x hi hx => by
    simp only [m_slices_IndexFunc_int64_int64_b1, idx_at hx, h, lt_t (show (i : Int) < xs.length by omega), if_true, Option.bind_some]) (by simp [m_slices_IndexFunc_int64_int64_b1])
  rw [h1, Option.bind_some, h2]

theorem len_beq {α : Type} (xs : List α) (n : Nat) : ((xs.length : Int) == (n : Int)) = decide (xs.length = n) := by
  by_cases h : xs.length = n
  · simp [h]
  · simp [h]; omega

theorem content_spec {fuel : Nat} {a : D.Agent} (hf : 18446744073709551616 ≤ fuel) (hl : a.Data.length ≤ maxLen) : m_spec_l11Content fuel a = some (contentN a.Kind a.Value a.Data) := by
  have hd := defs_spec (a := a) hf hl
  obtain ⟨k, l, v, d, ps⟩ := a
  dsimp only at hl hd ⊢
  by_cases h6 : k = 6
  · subst h6
    simp only [m_spec_l11Content, contentN, in_pure, Option.bind_some, beq_self_eq_true, if_true]
    by_cases h : d.length = 0 <;> simp [h] <;> omega
  by_cases h7 : k = 7
  · subst h7
    simp only [m_spec_l11Content, contentN, in_pure, Option.bind_some, beq_self_eq_true, if_true]
    by_cases h : d.length = 0 <;> simp [h] <;> omega
  by_cases h8 : k = 8
  · subst h8
    simp only [m_spec_l11Content, contentN, in_pure, Option.bind_some, beq_self_eq_true, if_true]
    match d with
    | [] => simp
    | [n] => by_cases h : 1 ≤ v ∧ v ≤ 6 <;> simp [h, idx]
    | _ :: _ :: _ => simp; omega
  by_cases h9 : k = 9
  · subst h9
    simp only [m_spec_l11Content, contentN, in_pure, Option.bind_some, beq_self_eq_true, if_true]
    by_cases h : d.length = 0 <;> simp [h] <;> omega
  by_cases h12 : k = 12
  · subst h12
    simp only [m_spec_l11Content, contentN, in_pure, def_spec, Option.bind_some, beq_self_eq_true, if_true]
    by_cases h : d.length = 0 <;> simp [h, defN] <;> omega
  by_cases h10 : k = 10
  · subst h10
    simp only [m_spec_l11Content, m_spec_l11Content_j1, m_spec_l11Content_j2, contentN, in_pure, Option.bind_some, beq_self_eq_true, if_true, hd]
    by_cases h : v = 0
    · by_cases h1 : 1 ≤ d.length ∧ d.length ≤ 4
      · have h2 : (1 : Int) ≤ d.length ∧ (d.length : Int) ≤ 4 := by omega
        simp [h, h1, h2]
      · have h2 : ¬ ((1 : Int) ≤ d.length ∧ (d.length : Int) ≤ 4) := by omega
        simp [h, h1, h2]
    · simp [h]
  by_cases h11 : k = 11
  · subst h11
    simp only [m_spec_l11Content, m_spec_l11Content_j1, m_spec_l11Content_j2, contentN, in_pure, Option.bind_some, beq_self_eq_true, if_true, hd]
    by_cases h : v = 0
    · by_cases h1 : d.length = 2
      · simp [h, h1]
      · have h2 : ¬ ((d.length : Int) = 2) := by omega
        simp [h, h1, h2]
    · simp [h]
  · simp only [m_spec_l11Content, m_spec_l11Content_j1, contentN, h6, h7, h8, h9, h10, h11, h12, if_false]
    by_cases h : v = 0 <;> by_cases h1 : d.length = 0 <;> simp [h, h1, h6, h7, h8, h9, h10, h11, h12]

theorem content_impl {fuel : Nat} {a : D.Agent} (hf : 18446744073709551616 ≤ fuel) (hl : a.Data.length ≤ maxLen) : m_impl_wellFormed_j1 fuel a false = some (contentN a.Kind a.Value a.Data) := by
  unfold m_impl_wellFormed_j1
  rw [if_neg Bool.false_ne_true, contains_int (p := fun n => !defN n) hf hl (fun n => by unfold m_impl_wellFormed_c1; rw [def_impl]; rfl), Option.bind_some, any_all, Bool.not_not]
  obtain ⟨k, l, v, d, ps⟩ := a
  dsimp only at hl ⊢
  simp only [m_impl_wellFormed_j2, m_impl_wellFormed_j3, m_impl_wellFormed_j4, m_impl_wellFormed_j5, m_impl_wellFormed_j6, m_impl_wellFormed_j7, m_impl_wellFormed_j8, m_impl_wellFormed_j9, m_impl_wellFormed_j10, int_impl, oper_impl, def_impl, Option.bind_some]
  by_cases h6 : k = 6
  · subst h6
    simp only [contentN, beq_self_eq_true, if_true]
    by_cases h : d.length = 0 <;> by_cases h1 : -2147483648 ≤ v ∧ v ≤ 2147483647 <;> simp [h, h1]
  by_cases h7 : k = 7
  · subst h7
    simp only [contentN, beq_self_eq_true, if_true]
    by_cases h : d.length = 0 <;> by_cases h1 : 1 ≤ v ∧ v ≤ 6 <;> simp [h, h1]
  by_cases h8 : k = 8
  · subst h8
    simp only [contentN, beq_self_eq_true, if_true]
    match d with
    | [] => simp
    | [n] => by_cases h : 1 ≤ v ∧ v ≤ 6 <;> simp [h, idx]
    | _ :: _ :: _ => simp; omega
  by_cases h9 : k = 9
  · subst h9
    simp only [contentN, beq_self_eq_true, if_true]
    by_cases h1 : 0 ≤ v
    · by_cases h : d.length = 0 <;> by_cases h2 : v < 4 <;> simp [h, h1, h2] <;> omega
    · simp [h1]
  by_cases h12 : k = 12
  · subst h12
    simp only [contentN, beq_self_eq_true, if_true]
    by_cases h : d.length = 0 <;> by_cases h1 : 0 ≤ v ∧ v ≤ 23 <;> simp [h, h1, defN]
  by_cases h10 : k = 10
  · subst h10
    simp only [contentN, beq_self_eq_true, if_true]
    by_cases h : v = 0
    · by_cases h1 : 1 ≤ d.length
      · by_cases h2 : d.length ≤ 4
        · have h3 : (1 : Int) ≤ d.length := by omega
          have h4 : (d.length : Int) ≤ 4 := by omega
          simp [h, h1, h2, h3, h4]
        · have h3 : (1 : Int) ≤ d.length := by omega
          have h4 : ¬ (d.length : Int) ≤ 4 := by omega
          simp [h, h1, h2, h3, h4]
      · have h3 : ¬ (1 : Int) ≤ d.length := by omega
        simp [h, h1, h3]
    · by_cases h1 : (1 : Int) ≤ d.length <;> by_cases h2 : (d.length : Int) ≤ 4 <;> simp [h, h1, h2]
  by_cases h11 : k = 11
  · subst h11
    simp only [contentN, beq_self_eq_true, if_true]
    by_cases h : v = 0 <;> by_cases h1 : d.length = 2
    · simp [h, h1]
    · have h2 : ¬ ((d.length : Int) = 2) := by omega
      simp [h, h1, h2]
    · simp [h, h1]
    · have h2 : ¬ ((d.length : Int) = 2) := by omega
      simp [h, h1, h2]
  · simp only [contentN, h6, h7, h8, h9, h10, h11, h12, if_false]
    by_cases h : v = 0 <;> by_cases h1 : d.length = 0 <;> simp [h, h1, h6, h7, h8, h9, h10, h11, h12]

theorem fields_w {n : Nat} (hn : n ≤ maxLen) : w64 ((n : Int) - 1) = (n : Int) - 1 := by
  have : maxLen = 9223372036854775807 := rfl
  exact i64_small (by omega) (by omega)
theorem agent_impl {fuel : Nat} {a : D.Agent} (hf : 18446744073709551616 ≤ fuel) (hl : a.Data.length ≤ maxLen) (h1 : 1 ≤ a.Ports.length) (h2 : a.Ports.length ≤ maxLen) :
    m_impl_wellFormed fuel a = some (agentN a.Kind a.Level a.Value a.Data a.Ports.length) := by
  unfold m_impl_wellFormed agentN
  rw [if_neg (by simp; intro h; rw [h] at h1; exact absurd h1 (by decide))]
  have hF : m_impl_fieldsOf fuel a.Kind (a.Ports.length : Int) = some (if a.Kind = 9 then (a.Ports.length : Int) - 1 else 0) := by
    unfold m_impl_fieldsOf
    by_cases h : a.Kind = 9
    · rw [if_pos (by simpa using h), if_pos h, fields_w h2]
    · rw [if_neg (by simpa using h), if_neg h]
  rw [hF, Option.bind_some, ports_impl, Option.bind_some, allow_impl, Option.bind_some]
  by_cases hp : portsN a.Kind (if a.Kind = 9 then (a.Ports.length : Int) - 1 else 0) = (a.Ports.length : Int)
  · rw [if_neg (by simp [hp]), decide_eq_true hp, Bool.true_and]
    cases allowN a.Kind a.Level with
    | false => rfl
    | true => rw [Bool.true_and]; exact content_impl hf hl
  · rw [if_pos (by simpa using hp), decide_eq_false hp]; rfl
theorem agent_spec {fuel : Nat} {a : D.Agent} (hf : 18446744073709551616 ≤ fuel) (hl : a.Data.length ≤ maxLen) (h1 : 1 ≤ a.Ports.length) (h2 : a.Ports.length ≤ maxLen) :
    m_spec_l11Agent fuel a = some (agentN a.Kind a.Level a.Value a.Data a.Ports.length) := by
  unfold m_spec_l11Agent agentN
  have hF : m_spec_l11Fields fuel a = some (if a.Kind = 9 then (a.Ports.length : Int) - 1 else 0) := by
    unfold m_spec_l11Fields
    by_cases h : a.Kind = 9
    · rw [if_pos (by simpa using h), if_pos h, fields_w h2]
    · rw [if_neg (by simpa using h), if_neg h]
  rw [hF, Option.bind_some, ports_spec, Option.bind_some, allow_spec, Option.bind_some, content_spec hf hl]
  by_cases hp : portsN a.Kind (if a.Kind = 9 then (a.Ports.length : Int) - 1 else 0) = (a.Ports.length : Int)
  · rw [hp, if_pos (decide_eq_true (by omega)), if_pos (by simp), decide_eq_true rfl, Bool.true_and]
    cases allowN a.Kind a.Level <;> rfl
  · rw [decide_eq_false hp]
    generalize portsN a.Kind (if a.Kind = 9 then (a.Ports.length : Int) - 1 else 0) = r at hp ⊢
    by_cases h : r > 0
    · rw [if_pos (decide_eq_true h), if_neg (by simpa using fun h => hp h.symm)]; rfl
    · rw [if_neg (by simpa using h)]; rfl


/-- an agent by itself -/
def agN (a : D.Agent) : Bool := decide (a.Ports.length ≠ 0) && agentN a.Kind a.Level a.Value a.Data a.Ports.length
theorem ag_impl {fuel : Nat} {a : D.Agent} (hf : 18446744073709551616 ≤ fuel) (hl : a.Data.length ≤ maxLen) (h2 : a.Ports.length ≤ maxLen) : m_impl_wellFormed fuel a = some (agN a) := by
  by_cases h : a.Ports.length = 0
  · unfold m_impl_wellFormed agN
    rw [if_pos (by simp [h]), show decide (a.Ports.length ≠ 0) = false by simp [h], Bool.false_and]
    rfl
  · rw [agent_impl hf hl (by omega) h2]
    unfold agN
    rw [decide_eq_true (by simpa using h), Bool.true_and]
theorem ag_spec {fuel : Nat} {a : D.Agent} (hf : 18446744073709551616 ≤ fuel) (hl : a.Data.length ≤ maxLen) (h2 : a.Ports.length ≤ maxLen) : m_spec_l11Agent fuel a = some (agN a) := by
  by_cases h : a.Ports.length = 0
  · unfold m_spec_l11Agent agN
    have hF : m_spec_l11Fields fuel a = some (if a.Kind = 9 then (a.Ports.length : Int) - 1 else 0) := by
      unfold m_spec_l11Fields
      by_cases h : a.Kind = 9
      · rw [if_pos (by simpa using h), if_pos h, fields_w h2]
      · rw [if_neg (by simpa using h), if_neg h]
    rw [hF, Option.bind_some, ports_spec, Option.bind_some, show decide (a.Ports.length ≠ 0) = false by simp [h], Bool.false_and]
    generalize portsN a.Kind (if a.Kind = 9 then (a.Ports.length : Int) - 1 else 0) = r
    by_cases hr : r > 0
    · rw [if_pos (decide_eq_true hr), if_neg (by rw [h]; simp; omega)]
    · rw [if_neg (by simpa using hr)]
  · rw [agent_spec hf hl (by omega) h2]
    unfold agN
    rw [decide_eq_true (by simpa using h), Bool.true_and]
theorem ag_ports {a : D.Agent} (h : agN a = true) : a.Ports.length ≠ 0 := by
  unfold agN at h
  simp only [Bool.and_eq_true, decide_eq_true_eq] at h
  exact h.1
end Go.E
