/- RedexClass: the plain law. Conditions: none but the argument's own size. -/
import Derived.Test.YtomgmnacnchbeaaOkMemorye
import Derived.Test.YtomgmnacnchbeaaSizesR
namespace Go.E
open Go.RowKit Go.Proofs
set_option linter.unusedSimpArgs false
set_option linter.unusedVariables false

def consN (k : Int) : Bool := k == 3 || k == 7 || k == 8 || k == 10 || k == 11
theorem cons_spec {fuel : Nat} {k : Int} : m_spec_IsConsumer fuel k = some (consN k) := by
  unfold m_spec_IsConsumer m_spec_IsConsumer_j4 m_spec_IsConsumer_j3 m_spec_IsConsumer_j2 m_spec_IsConsumer_j1 consN
  by_cases h3 : k = 3
  · simp [h3]
  by_cases h7 : k = 7
  · simp [h7]
  by_cases h8 : k = 8
  · simp [h8]
  by_cases h10 : k = 10
  · simp [h10]
  by_cases h11 : k = 11 <;> simp [h3, h7, h8, h10, h11]
theorem cons_impl {fuel : Nat} {k : Int} : m_impl_IsConsumer fuel k = some (consN k) := by
  unfold m_impl_IsConsumer consN
  by_cases h3 : k = 3
  · simp [h3]
  by_cases h7 : k = 7
  · simp [h7]
  by_cases h8 : k = 8
  · simp [h8]
  by_cases h10 : k = 10
  · simp [h10]
  by_cases h11 : k = 11 <;> simp [h3, h7, h8, h10, h11]
def dupN (f k l : Int) : Bool := decide (0 ≤ f ∧ f ≤ 8) && (allowN k l && (k == 6 || k == 12 || (levelN k && decide (l > f))))
theorem dup_spec {fuel : Nat} {f k l : Int} : m_spec_Duplicates fuel f k l = some (dupN f k l) := by
  unfold m_spec_Duplicates m_spec_Duplicates_j1 m_spec_Duplicates_j2 dupN
  simp only [in_pure, allow_spec, level_spec, Option.bind_some]
  by_cases hf : 0 ≤ f ∧ f ≤ 8
  · simp only [decide_eq_true hf]
    cases allowN k l with
    | false => rfl
    | true =>
      by_cases h6 : k = 6
      · simp [h6]
      by_cases h12 : k = 12
      · simp [h12]
      cases levelN k <;> simp [h6, h12]
  · simp only [decide_eq_false hf]; rfl
theorem dup_impl {fuel : Nat} {f k l : Int} : m_impl_Duplicates fuel f k l = some (dupN f k l) := by
  have hL : m_impl_isLevel fuel f = some (decide (0 ≤ f ∧ f ≤ 8)) := by
    unfold m_impl_isLevel
    by_cases h1 : 0 ≤ f
    · rw [if_pos (decide_eq_true (by omega))]; simp [h1]
    · rw [if_neg (by simp; omega)]; simp [h1]
  unfold m_impl_Duplicates m_impl_Duplicates_j1 dupN
  simp only [hL, allow_impl, level_impl, Option.bind_some]
  by_cases hf : 0 ≤ f ∧ f ≤ 8
  · simp only [decide_eq_true hf]
    cases allowN k l with
    | false => rfl
    | true =>
      by_cases h6 : k = 6
      · simp [h6]
      by_cases h12 : k = 12
      · simp [h12]
      cases levelN k <;> simp [h6, h12]
  · simp only [decide_eq_false hf]; rfl
/-- the class of an ordered pair, 0 for none -/
def ruleN (a la b lb : Int) : Int :=
  if a = 5 then 4 else if a = 4 then (if b = 4 ∧ la = lb then 2 else if dupN la b lb = true then 3 else 0) else
  if a = 2 then (if b = 3 ∧ la = lb then 1 else 0) else if a = 6 then (if b = 7 ∨ b = 8 then 5 else if b = 11 then 6 else 0) else
  if a = 9 then (if b = 10 then 6 else 0) else if a = 12 then (if consN b = true then 7 else 0) else 0
theorem rule_impl {fuel : Nat} {a la b lb : Int} : m_impl_classOf fuel a la b lb = some (ruleN a la b lb) := by
  unfold m_impl_classOf m_impl_classOf_j1 m_impl_classOf_j2 m_impl_classOf_j3 ruleN
  simp only [dup_impl, cons_impl, Option.bind_some]
  by_cases h5 : a = 5
  · simp [h5]
  by_cases h4 : a = 4
  · subst h4
    by_cases hb : b = 4 <;> by_cases hl : la = lb <;> cases dupN la b lb <;> simp [hb, hl]
  by_cases h2 : a = 2
  · subst h2
    by_cases hb : b = 3 <;> by_cases hl : la = lb <;> simp [hb, hl]
  by_cases h6 : a = 6
  · subst h6
    by_cases hb : b = 7
    · simp [hb]
    by_cases hc : b = 8
    · simp [hc]
    by_cases hd : b = 11 <;> simp [hb, hc, hd]
  by_cases h9 : a = 9
  · subst h9
    by_cases hb : b = 10 <;> simp [hb]
  by_cases h12 : a = 12
  · subst h12
    cases consN b <;> simp
  simp [h5, h4, h2, h6, h9, h12]
theorem rule_spec {fuel : Nat} {a la b lb : Int} : m_spec_l10Rule fuel a la b lb = some (ruleN a la b lb) := by
  rw [← rule_impl (fuel := fuel)]
  unfold m_spec_l10Rule m_impl_classOf m_spec_l10Rule_j1 m_spec_l10Rule_j2 m_spec_l10Rule_j3 m_impl_classOf_j1 m_impl_classOf_j2 m_impl_classOf_j3
  simp only [dup_impl, cons_impl, dup_spec, cons_spec, Option.bind_some]
theorem rule_six {a la b lb : Int} (hb : b = 10) : ruleN a la b lb = 6 ↔ a = 9 := by
  subst hb
  constructor
  · intro h
    unfold ruleN at h
    by_cases h9 : a = 9
    · exact h9
    · by_cases h5 : a = 5
      · simp [h5] at h
      by_cases h4 : a = 4
      · subst h4
        simp at h
        split at h <;> simp at h
      by_cases h2 : a = 2
      · simp [h2] at h
      by_cases h6 : a = 6
      · simp [h6] at h
      by_cases h12 : a = 12
      · subst h12
        simp [consN] at h
      simp [h5, h4, h2, h6, h9, h12] at h
  · rintro rfl; unfold ruleN; simp
theorem rule_ten {la b lb : Int} : ruleN 10 la b lb = 0 := by unfold ruleN; simp

/-- the class of two agents that may stand in a net, the root apart -/
def classN (a b : D.Agent) : Int :=
  if (a.Kind = 9 ∧ b.Kind = 10 ∧ a.Value ≥ (b.Data.length : Int)) ∨ (a.Kind = 10 ∧ b.Kind = 9 ∧ b.Value ≥ (a.Data.length : Int)) then 8 else
  if ruleN a.Kind a.Level b.Kind b.Level = 0 then (if ruleN b.Kind b.Level a.Kind a.Level = 0 then 8 else ruleN b.Kind b.Level a.Kind a.Level) else ruleN a.Kind a.Level b.Kind b.Level
theorem class_spec {fuel : Nat} {a b : D.Agent} (ha : allowN a.Kind a.Level = true) (hb : allowN b.Kind b.Level = true) (h1 : a.Kind ≠ 1) (h2 : b.Kind ≠ 1) : m_spec_l13Class fuel a b = some (classN a b) := by
  have hP : m_spec_PairClass fuel a.Kind a.Level b.Kind b.Level = some (if ruleN a.Kind a.Level b.Kind b.Level = 0 then (if ruleN b.Kind b.Level a.Kind a.Level = 0 then 8 else ruleN b.Kind b.Level a.Kind a.Level) else ruleN a.Kind a.Level b.Kind b.Level) := by
    unfold m_spec_PairClass m_spec_l10Pair m_spec_PairClass_j1
    simp only [allow_spec, ha, hb, rule_spec, Option.bind_some]
    by_cases r1 : ruleN a.Kind a.Level b.Kind b.Level = 0
    · by_cases r2 : ruleN b.Kind b.Level a.Kind a.Level = 0 <;> simp [r1, r2, h1, h2]
    · simp [r1, h1, h2]
  unfold m_spec_l13Class m_spec_l13Class_j1 m_spec_l13Class_j2 classN
  rw [hP]
  by_cases a9 : a.Kind = 9
  · by_cases b10 : b.Kind = 10
    · by_cases hv : a.Value ≥ (b.Data.length : Int) <;> simp [a9, b10, hv]
    · simp [a9, b10]
  · by_cases a10 : a.Kind = 10
    · by_cases b9 : b.Kind = 9
      · by_cases hv : b.Value ≥ (a.Data.length : Int) <;> simp [a10, b9, hv]
      · simp [a10, b9]
    · simp [a9, a10]
theorem class_impl {fuel : Nat} {a b : D.Agent} (ha : allowN a.Kind a.Level = true) (hb : allowN b.Kind b.Level = true) (h1 : a.Kind ≠ 1) (h2 : b.Kind ≠ 1) :
    ∃ s : Bool, m_impl_Net_classOf fuel ⟨[a, b]⟩ ⟨0, 1⟩ = some (classN a b, s) := by
  have hP : m_impl_pairOf fuel a.Kind a.Level b.Kind b.Level = some (if ruleN a.Kind a.Level b.Kind b.Level ≠ 0 then (ruleN a.Kind a.Level b.Kind b.Level, 1) else if ruleN b.Kind b.Level a.Kind a.Level ≠ 0 then (ruleN b.Kind b.Level a.Kind a.Level, 2) else (8, 0)) := by
    unfold m_impl_pairOf m_impl_pairOf_j1
    simp only [allow_impl, ha, hb, rule_impl, Option.bind_some]
    by_cases r1 : ruleN a.Kind a.Level b.Kind b.Level = 0
    · by_cases r2 : ruleN b.Kind b.Level a.Kind a.Level = 0 <;> simp [r1, r2, h1, h2]
    · simp [r1, h1, h2]
  unfold m_impl_Net_classOf
  rw [show idx [a, b] 0 = some a from rfl, Option.bind_some, show idx [a, b] 1 = some b from rfl, Option.bind_some]
  unfold m_impl_Net_classOf_j1
  dsimp only
  have h6a := @rule_six a.Kind a.Level b.Kind b.Level
  have h6b := @rule_six b.Kind b.Level a.Kind a.Level
  by_cases r1 : ruleN a.Kind a.Level b.Kind b.Level = 0
  · have n12 : ¬ (a.Kind = 9 ∧ b.Kind = 10 ∧ a.Value ≥ (b.Data.length : Int)) := fun h => by
      have := (h6a h.2.1).2 h.1
      omega
    by_cases r2 : ruleN b.Kind b.Level a.Kind a.Level = 0
    · have hQ : m_impl_pairOf fuel a.Kind a.Level b.Kind b.Level = some (8, 0) := by rw [hP]; simp [r1, r2]
      have n21 : ¬ (a.Kind = 10 ∧ b.Kind = 9 ∧ b.Value ≥ (a.Data.length : Int)) := fun h => by
        have := (h6b h.1).2 h.2.1
        omega
      have hc : classN a b = 8 := by
        unfold classN
        rw [if_neg (fun h => h.elim n12 n21), if_pos r1, if_pos r2]
      rw [hQ, Option.bind_some, hc]
      exact ⟨_, rfl⟩
    · have hQ : m_impl_pairOf fuel a.Kind a.Level b.Kind b.Level = some (ruleN b.Kind b.Level a.Kind a.Level, 2) := by rw [hP]; simp [r1, r2]
      rw [hQ, Option.bind_some]
      generalize hg : ruleN b.Kind b.Level a.Kind a.Level = g at *
      have hc : classN a b = if a.Kind = 10 ∧ b.Kind = 9 ∧ b.Value ≥ (a.Data.length : Int) then 8 else g := by
        unfold classN
        by_cases n21 : a.Kind = 10 ∧ b.Kind = 9 ∧ b.Value ≥ (a.Data.length : Int)
        · rw [if_pos (.inr n21), if_pos n21]
        · rw [if_neg (fun h => h.elim n12 n21), if_pos r1, hg, if_neg r2, if_neg n21]
      rw [hc]
      unfold m_impl_Net_classOf_j2 m_impl_Net_classOf_j3
      dsimp only
      by_cases a10 : a.Kind = 10
      · by_cases b9 : b.Kind = 9
        · have h7 := (h6b a10).2 b9
          by_cases hv : b.Value ≥ (a.Data.length : Int) <;> simp [h7, a10, b9, hv]
        · have h7 : ¬ g = 6 := fun h => b9 ((h6b a10).1 h)
          simp [h7, b9]
      · by_cases h7 : g = 6 <;> simp [h7, a10]
  · have n21 : ¬ (a.Kind = 10 ∧ b.Kind = 9 ∧ b.Value ≥ (a.Data.length : Int)) := fun h => r1 (by rw [h.1]; exact rule_ten)
    have hQ : m_impl_pairOf fuel a.Kind a.Level b.Kind b.Level = some (ruleN a.Kind a.Level b.Kind b.Level, 1) := by rw [hP]; simp [r1]
    rw [hQ, Option.bind_some]
    generalize hg : ruleN a.Kind a.Level b.Kind b.Level = g at *
    have hc : classN a b = if a.Kind = 9 ∧ b.Kind = 10 ∧ a.Value ≥ (b.Data.length : Int) then 8 else g := by
      unfold classN
      by_cases n12 : a.Kind = 9 ∧ b.Kind = 10 ∧ a.Value ≥ (b.Data.length : Int)
      · rw [if_pos (.inl n12), if_pos n12]
      · rw [if_neg (fun h => h.elim n12 n21), hg, if_neg r1, if_neg n12]
    rw [hc]
    unfold m_impl_Net_classOf_j2 m_impl_Net_classOf_j3
    dsimp only
    by_cases b10 : b.Kind = 10
    · by_cases a9 : a.Kind = 9
      · have h7 := (h6a b10).2 a9
        by_cases hv : a.Value ≥ (b.Data.length : Int) <;> simp [h7, b10, a9, hv]
      · have h7 : ¬ g = 6 := fun h => a9 ((h6a b10).1 h)
        simp [h7, a9]
    · by_cases h7 : g = 6 <;> simp [h7, b10]
theorem class_same {a b a' b' : D.Agent} (h1 : a.Kind = a'.Kind ∧ a.Level = a'.Level ∧ a.Value = a'.Value ∧ a.Data = a'.Data) (h2 : b.Kind = b'.Kind ∧ b.Level = b'.Level ∧ b.Value = b'.Value ∧ b.Data = b'.Data) : classN a b = classN a' b' := by
  unfold classN
  rw [h1.1, h1.2.1, h1.2.2.1, h1.2.2.2, h2.1, h2.2.1, h2.2.2.1, h2.2.2.2]
theorem agent_ok {m : D.Memory} {i : Int} (hc : m.Cells.all cellN = true) (h : agentAt m i = true) : ∃ c, idx m.Cells i = some c ∧ c ∈ m.Cells ∧ allowN c.Kind c.Level = true ∧ c.Kind ≠ 1 := by
  obtain ⟨_, _, c, h1, h2, h3, h4⟩ := agent_facts h
  have hm := List.mem_of_getElem? h1
  have := List.all_eq_true.1 hc c hm
  have hk : 2 ≤ c.Kind ∧ c.Kind ≤ 12 := by unfold agentKind at h3; simpa using h3
  unfold cellN at this
  rw [if_neg h4, if_neg (by omega), h3, Bool.true_and] at this
  unfold agentN at this
  rw [Bool.and_eq_true, Bool.and_eq_true] at this
  exact ⟨c, h2, hm, this.2.1, by omega⟩
theorem same_RedexClass {fuel : Nat} {x : D.Memory} {k : Int} (hf : 18446744073709551616 ≤ fuel) (hs : x.sz ≤ 1048576) :
    ∃ r, m_spec_RedexClass fuel x k = some r ∧ m_impl_RedexClass fuel x k = some r := by
  have hm : maxLen = 9223372036854775807 := rfl
  have hr : x.Redexes.length ≤ 1048576 := by unfold D.Memory.sz szL at hs; omega
  unfold m_spec_RedexClass m_impl_RedexClass m_spec_l22Asked m_impl_Memory_hasRedex
  rw [ok_spec hf hs, ok_impl hf hs, Option.bind_some, Option.bind_some]
  cases ho : okN x [] with
  | false => exact ⟨_, rfl, rfl⟩
  | true =>
    rw [if_neg (by simp), if_neg (by simp), in_pure, fields_w (by omega), Option.bind_some]
    by_cases hk : 0 ≤ k ∧ k < x.Redexes.length
    · have hR : x.Redexes.all (redexN x) = true := by
        unfold okN at ho
        rw [Bool.and_eq_true, Bool.and_eq_true, Bool.and_eq_true, Bool.and_eq_true, Bool.and_eq_true] at ho
        exact ho.2.2.2.2.1
      obtain ⟨p, hp⟩ := at_lt (xs := x.Redexes) (i := k.toNat) (by omega)
      have hpi : idx x.Redexes k = some p := by unfold idx; rw [if_pos hk.1, hp]
      obtain ⟨_, ha, hb⟩ := redex_facts (List.all_eq_true.1 hR p (List.mem_of_getElem? hp))
      obtain ⟨c, c1, c2, c3, c4⟩ := agent_ok (ok_cells ho).1 ha
      obtain ⟨d, d1, d2, d3, d4⟩ := agent_ok (ok_cells ho).1 hb
      have wc : c.Words.length ≤ 1048576 := by
        have := szL_mem (f := D.Cell.sz) (xs := x.Cells) (n := 1048576) (by unfold D.Memory.sz at hs; omega) c2
        unfold D.Cell.sz at this; omega
      have wd : d.Words.length ≤ 1048576 := by
        have := szL_mem (f := D.Cell.sz) (xs := x.Cells) (n := 1048576) (by unfold D.Memory.sz at hs; omega) d2
        unfold D.Cell.sz at this; omega
      obtain ⟨pc, e1, _⟩ := l21Agent_pure (c := c) hf wc
      obtain ⟨pd, e2, _⟩ := l21Agent_pure (c := d) hf wd
      have hS : m_spec_l22Class fuel x p = some (classN ⟨c.Kind, c.Level, c.Value, c.Data, pc⟩ ⟨d.Kind, d.Level, d.Value, d.Data, pd⟩) := by
        unfold m_spec_l22Class
        rw [c1, Option.bind_some, e1, Option.bind_some]
        unfold m_spec_l22Class_j1
        rw [d1, Option.bind_some, e2, Option.bind_some]
        unfold m_spec_l22Class_j2
        dsimp only
        rw [class_spec c3 d3 c4 d4]; rfl
      have hA : ∀ {i : Int} {e : D.Cell}, idx x.Cells i = some e → e.Words.length ≤ 1048576 → ∃ ps, m_impl_Memory_agentOf fuel x i = some ⟨e.Kind, e.Level, e.Value, e.Data, ps⟩ := fun {i e} hi hw => by
        unfold m_impl_Memory_agentOf
        rw [hi, Option.bind_some, i64_small (by omega) (by omega), if_pos (decide_eq_true (by omega))]
        exact ⟨_, rfl⟩
      obtain ⟨qc, f1⟩ := hA c1 wc
      obtain ⟨qd, f2⟩ := hA d1 wd
      obtain ⟨s, hI⟩ := class_impl (fuel := fuel) (a := ⟨c.Kind, c.Level, c.Value, c.Data, qc⟩) (b := ⟨d.Kind, d.Level, d.Value, d.Data, qd⟩) c3 d3 c4 d4
      have hC : ∃ y z, m_impl_Memory_classAt fuel x p = some (classN ⟨c.Kind, c.Level, c.Value, c.Data, qc⟩ ⟨d.Kind, d.Level, d.Value, d.Data, qd⟩, y, z) := by
        unfold m_impl_Memory_classAt m_impl_Memory_redexNet
        rw [f1, Option.bind_some, f2, Option.bind_some, Option.bind_some, hI, Option.bind_some]
        cases s <;> exact ⟨_, _, rfl⟩
      obtain ⟨y, z, hC⟩ := hC
      refine ⟨(classN ⟨c.Kind, c.Level, c.Value, c.Data, pc⟩ ⟨d.Kind, d.Level, d.Value, d.Data, pd⟩, 0), ?_, ?_⟩
      · rw [if_neg (by simp; omega), Option.bind_some, if_neg (by simp), hpi, Option.bind_some, hS]; rfl
      · rw [if_pos (decide_eq_true hk.1), Option.bind_some, if_neg (by simp; omega), hpi, Option.bind_some, hC, Option.bind_some]
        dsimp only
        rw [class_same (a := ⟨c.Kind, c.Level, c.Value, c.Data, qc⟩) (a' := ⟨c.Kind, c.Level, c.Value, c.Data, pc⟩) (b := ⟨d.Kind, d.Level, d.Value, d.Data, qd⟩) (b' := ⟨d.Kind, d.Level, d.Value, d.Data, pd⟩) ⟨rfl, rfl, rfl, rfl⟩ ⟨rfl, rfl, rfl, rfl⟩]
    · refine ⟨(0, 2), ?_, ?_⟩
      · rw [if_pos (by simp; omega), Option.bind_some, if_pos (by simp)]
      · by_cases h0 : 0 ≤ k
        · rw [if_pos (decide_eq_true h0), Option.bind_some, if_pos (by simp; omega)]
        · rw [if_neg (by simpa using h0), Option.bind_some, if_pos (by simp)]

theorem lawRedexClass {x0 : D.Memory} {x1 : Int} (h0 : D.Memory.wf x0) (h1 : I64 x1) : ∃ fuel, m_laws_FnExactRedexClass fuel x0 x1 = some true := by
  obtain ⟨fuel, hf⟩ : ∃ n : Nat, 18446744073709551616 ≤ n := ⟨_, Nat.le_refl _⟩
  refine ⟨fuel, ?_⟩
  unfold m_laws_FnExactRedexClass
  obtain ⟨r0, e0, s0⟩ := szMemory_pure (l := (1048576 : Int)) hf h0 (by decide) (by omega)
  rw [e0, Option.bind_some]
  rcases s0 with s0 | ⟨s0, t0⟩
  · rw [if_pos (by simp [s0])]
  rw [if_neg (by simp [s0])]
  have z0 : D.Memory.sz x0 ≤ 1048576 := by omega
  obtain ⟨q, a0, a1⟩ := same_RedexClass (k := x1) hf z0
  simp only [Option.bind_some, a0, a1, toMemory_pure hf z0, eqMemory_pure hf z0, m_laws_FnExactRedexClass_j1, bne_self_eq_false]
  simp
end Go.E
