/- Regions whose order is drawn: an invariant of the world that holds as long as no writing operation has come up (the kit's law of the same shape has one invariant for the whole region). Conditions: none (rules). -/
import Derived.OrdersHeld
namespace Go.E
set_option linter.unusedVariables false
set_option linter.unusedSimpArgs false

section
variable {P : Program} {ops : Array Oper} {Q : Exit → Act → World → Prop} {md : Region.Mode} {T V : World → Prop} {wr : Nat → Bool}


def NoWr (wr : Nat → Bool) (listed : Array Bool) : Prop := ∀ k, wr k = true → listed.getD k false = false

def wpAnyL (P : Program) (md : Region.Mode) (ops : Array Oper) (Q : Exit → Act → World → Prop) (wr : Nat → Bool) (T V : World → Prop) : Nat → Array Bool → Act → World → Prop
  | 0, listed, a, w => Region.ready md ops listed = [] ∧ Q .normal a w
  | fuel + 1, listed, a, w =>
    (Region.ready md ops listed = [] → Q .normal a w) ∧
    ∀ i ∈ Region.ready md ops listed, wpOp P ops Q i (fun a' w' => ((NoWr wr (listed.setIfInBounds i true) → T w') ∧ V w') ∧ wpAnyL P md ops Q wr T V fuel (listed.setIfInBounds i true) a' w') a w

theorem zaY : ∀ (fuel : Nat) (listed : Array Bool) (a : Act) (w : World), wpAnyL P md ops Q wr T V fuel listed a w → wpAny P md ops Q fuel listed a w
  | 0, _, _, _, h => h
  | fuel + 1, _, _, _, h => ⟨h.1, fun i hi => wpOp_mono (fun a' w' h' => zaY fuel _ a' w' h'.2) (h.2 i hi)⟩

theorem z5t {listed : Array Bool} {i k : Nat} (h : i ≠ k) : (listed.setIfInBounds i true).getD k false = listed.getD k false := by
  simp [Array.getD_eq_getD_getElem?, Array.getElem?_setIfInBounds_ne h]

theorem zbU {i : Nat} {oi : Oper} {v : Value} (hi : ops[i]? = some oi) (hsel : ∀ (j : Nat) (o : Oper) cs b, ops[j]? = some o → o.op ≠ .select cs b)
    (hQ : ∀ c a w, Q (.panic c) (a.put oi.dst v) w → Q (.panic c) a w) (hwi : wr i = false)
    (hdep : ∀ (j : Nat) (oj : Oper), wr j = true → ops[j]? = some oj → ∃ e, e ∈ oj.after ∧ Region.binds md e = true ∧ e.on = i) :
    ∀ (fuel : Nat) (listed : Array Bool) (a : Act) (w : World),
      (∀ j oj, ops[j]? = some oj → j ≠ i → listed.getD j true = false → (∀ e ∈ oj.after, Region.binds md e = true → e.on ≠ i) → oi.apart ops oj = true) →
      i ∈ Region.ready md ops listed → YieldsIf P ops T oi v a → NoWr wr listed → T w → V w →
      wpAnyL P md ops Q wr T V fuel (listed.setIfInBounds i true) (a.put oi.dst v) w → wpAnyL P md ops Q wr T V (fuel + 1) listed a w := by
  intro fuel
  induction fuel with
  | zero =>
    intro listed a w _ hr hy _ hT hV H
    refine ⟨fun h => (by rw [h] at hr; cases hr), fun j hj => ?_⟩
    by_cases hji : j = i
    · subst hji; exact hy.wpOp hi hT ⟨⟨fun _ => hT, hV⟩, H⟩
    · have := ready_mono hj hji
      rw [H.1] at this
      cases this
  | succ fuel ih =>
    intro listed a w hfree hr hy hnw hT hV H
    refine ⟨fun h => (by rw [h] at hr; cases hr), fun j hj => ?_⟩
    by_cases hji : j = i
    · subst hji; exact hy.wpOp hi hT ⟨⟨fun _ => hT, hV⟩, H⟩
    · have h1 := H.2 j (ready_mono hj hji)
      obtain ⟨hjun, oj, hoj, hall⟩ := mem_ready.1 hj
      have hnot : ∀ e ∈ oj.after, Region.binds md e = true → e.on ≠ i := fun e he hb heq => by
        have h1 := hall e he hb
        have h0 := (mem_ready.1 hr).1
        rw [heq] at h1
        rcases Nat.lt_or_ge i listed.size with h' | h'
        · simp [h'] at h0 h1; rw [h0] at h1; cases h1
        · simp [Array.getElem?_eq_none h'] at h1
      have hwj : wr j = false := by
        cases hw : wr j with
        | false => rfl
        | true =>
          obtain ⟨e, he, hb, ho⟩ := hdep j oj hw hoj
          exact absurd ho (hnot e he hb)
      have h2 := wpOp_putIf hoj (hfree j oj hoj hji hjun hnot) (fun cs b => hsel i oi cs b hi) (fun cs b => hsel j oj cs b hoj) hQ hy h1
      have hfree' : ∀ k ok, ops[k]? = some ok → k ≠ i → (listed.setIfInBounds j true).getD k true = false →
          (∀ e ∈ ok.after, Region.binds md e = true → e.on ≠ i) → oi.apart ops ok = true := fun k ok hk hki hun hno => by
        refine hfree k ok hk hki ?_ hno
        by_cases hjk : j = k
        · subst hjk; exact hjun
        · rw [getD_set_ne true hjk] at hun; exact hun
      have hnw' : NoWr wr (listed.setIfInBounds j true) := fun k hk => by
        rw [z5t (by rintro rfl; rw [hwj] at hk; cases hk)]
        exact hnw k hk
      have hnw2 : NoWr wr ((listed.setIfInBounds i true).setIfInBounds j true) := fun k hk => by
        rw [z5t (by rintro rfl; rw [hwj] at hk; cases hk), z5t (by rintro rfl; rw [hwi] at hk; cases hk)]
        exact hnw k hk
      refine wpOp_mono (fun a' w' h3 => ⟨⟨fun _ => h3.2.1.1 hnw2, h3.2.1.2⟩, ih (listed.setIfInBounds j true) a' w' hfree' (ready_mono hr (Ne.symm hji)) h3.1 hnw' (h3.2.1.1 hnw2) h3.2.1.2 ?_⟩) h2
      rw [Array.setIfInBounds_comm _ _ hji]
      exact h3.2.2

theorem zbp {i : Nat} {oi : Oper} {v : Value} (hi : ops[i]? = some oi) (hsel : ∀ (j : Nat) (o : Oper) cs b, ops[j]? = some o → o.op ≠ .select cs b)
    (hQ : ∀ c a w, Q (.panic c) (a.put oi.dst v) w → Q (.panic c) a w) (hwi : wr i = false) :
    ∀ (fuel : Nat) (listed : Array Bool) (a : Act) (w : World),
      (∀ j oj, ops[j]? = some oj → j ≠ i → listed.getD j true = false → (∀ e ∈ oj.after, Region.binds md e = true → e.on ≠ i) → oi.apart ops oj = true) →
      i ∈ Region.ready md ops listed → YieldsIf P ops V oi v a → (NoWr wr listed → T w) → V w →
      wpAnyL P md ops Q wr T V fuel (listed.setIfInBounds i true) (a.put oi.dst v) w → wpAnyL P md ops Q wr T V (fuel + 1) listed a w := by
  intro fuel
  induction fuel with
  | zero =>
    intro listed a w _ hr hy hT hV H
    refine ⟨fun h => (by rw [h] at hr; cases hr), fun j hj => ?_⟩
    by_cases hji : j = i
    · subst hji; exact hy.wpOp hi hV ⟨⟨fun hn => hT fun k hk => by have := hn k hk; rwa [z5t (by rintro rfl; rw [hwi] at hk; cases hk)] at this, hV⟩, H⟩
    · have := ready_mono hj hji
      rw [H.1] at this
      cases this
  | succ fuel ih =>
    intro listed a w hfree hr hy hT hV H
    refine ⟨fun h => (by rw [h] at hr; cases hr), fun j hj => ?_⟩
    by_cases hji : j = i
    · subst hji; exact hy.wpOp hi hV ⟨⟨fun hn => hT fun k hk => by have := hn k hk; rwa [z5t (by rintro rfl; rw [hwi] at hk; cases hk)] at this, hV⟩, H⟩
    · have h1 := H.2 j (ready_mono hj hji)
      obtain ⟨hjun, oj, hoj, hall⟩ := mem_ready.1 hj
      have hnot : ∀ e ∈ oj.after, Region.binds md e = true → e.on ≠ i := fun e he hb heq => by
        have h1 := hall e he hb
        have h0 := (mem_ready.1 hr).1
        rw [heq] at h1
        rcases Nat.lt_or_ge i listed.size with h' | h'
        · simp [h'] at h0 h1; rw [h0] at h1; cases h1
        · simp [Array.getElem?_eq_none h'] at h1
      have h2 := wpOp_putIf hoj (hfree j oj hoj hji hjun hnot) (fun cs b => hsel i oi cs b hi) (fun cs b => hsel j oj cs b hoj) hQ hy h1
      have hfree' : ∀ k ok, ops[k]? = some ok → k ≠ i → (listed.setIfInBounds j true).getD k true = false →
          (∀ e ∈ ok.after, Region.binds md e = true → e.on ≠ i) → oi.apart ops ok = true := fun k ok hk hki hun hno => by
        refine hfree k ok hk hki ?_ hno
        by_cases hjk : j = k
        · subst hjk; exact hjun
        · rw [getD_set_ne true hjk] at hun; exact hun
      have hnw2 : NoWr wr (listed.setIfInBounds j true) → NoWr wr ((listed.setIfInBounds i true).setIfInBounds j true) := fun hn k hk => by
        rw [Array.setIfInBounds_comm _ _ (Ne.symm hji), z5t (by rintro rfl; rw [hwi] at hk; cases hk)]
        exact hn k hk
      refine wpOp_mono (fun a' w' h3 => ⟨⟨fun hn => h3.2.1.1 (hnw2 hn), h3.2.1.2⟩, ih (listed.setIfInBounds j true) a' w' hfree' (ready_mono hr (Ne.symm hji)) h3.1 (fun hn => h3.2.1.1 (hnw2 hn)) h3.2.1.2 ?_⟩) h2
      rw [Array.setIfInBounds_comm _ _ hji]
      exact h3.2.2

theorem z60 {i : Nat} {oi : Oper} {v : Value} {fuel : Nat} {listed : Array Bool} {a : Act} {w : World} (hi : ops[i]? = some oi)
    (hs : Region.noSelect ops = true) (hf : Region.free md ops listed i = true) (hr : (Region.ready md ops listed).contains i = true)
    (hQ : ∀ c a w, Q (.panic c) (a.put oi.dst v) w → Q (.panic c) a w) (hwi : wr i = false) (hy : YieldsIf P ops V oi v a) (hT : NoWr wr listed → T w) (hV : V w)
    (h : wpAnyL P md ops Q wr T V fuel (listed.setIfInBounds i true) (a.put oi.dst v) w) : wpAnyL P md ops Q wr T V (fuel + 1) listed a w :=
  zbp hi (Region.noSelect_spec hs) hQ hwi fuel listed a w (Region.free_spec hi hf) (by simpa using hr) hy hT hV h

theorem zcO {i : Nat} {oi : Oper} {v : Value} {fuel : Nat} {listed : Array Bool} {a : Act} {w : World} (hi : ops[i]? = some oi)
    (hs : Region.noSelect ops = true) (hf : Region.free md ops listed i = true) (hr : (Region.ready md ops listed).contains i = true)
    (hQ : ∀ c a w, Q (.panic c) (a.put oi.dst v) w → Q (.panic c) a w) (hwi : wr i = false)
    (hdep : ∀ (j : Nat) (oj : Oper), wr j = true → ops[j]? = some oj → ∃ e, e ∈ oj.after ∧ Region.binds md e = true ∧ e.on = i)
    (hy : YieldsIf P ops T oi v a) (hn : NoWr wr listed) (hT : T w) (hV : V w)
    (h : wpAnyL P md ops Q wr T V fuel (listed.setIfInBounds i true) (a.put oi.dst v) w) : wpAnyL P md ops Q wr T V (fuel + 1) listed a w :=
  zbU hi (Region.noSelect_spec hs) hQ hwi hdep fuel listed a w (Region.free_spec hi hf) (by simpa using hr) hy hn hT hV h

theorem zdA {rs : List Nat} {fuel : Nat} {listed : Array Bool} {a : Act} {w : World} (hr : Region.ready md ops listed = rs) (hne : rs ≠ [])
    (h : ∀ i ∈ rs, wpOp P ops Q i (fun a' w' => ((NoWr wr (listed.setIfInBounds i true) → T w') ∧ V w') ∧ wpAnyL P md ops Q wr T V fuel (listed.setIfInBounds i true) a' w') a w) : wpAnyL P md ops Q wr T V (fuel + 1) listed a w :=
  ⟨fun h0 => absurd (hr ▸ h0) hne, hr ▸ h⟩

theorem zcP {listed : Array Bool} {a : Act} {w : World} (hr : Region.ready md ops listed = []) (h : Q .normal a w) :
    ∀ fuel, wpAnyL P md ops Q wr T V fuel listed a w
  | 0 => ⟨hr, h⟩
  | _ + 1 => ⟨fun _ => h, by rw [hr]; simp⟩

theorem zcN {id : Nat} {a : Act} {w : World} (hm : P.follows .mixedOrders = true)
    (h : wpAnyL P .any ops Q wr T V ops.size (Array.replicate ops.size false) a { w with drawn := w.drawn + 1 }) : (Code.region id ops true).wp P Q a w :=
  wp_region_any hm (zaY _ _ _ _ h)
end
end Go.E

