/- ValidDeque and IsDequeDone: the plain laws. Conditions: none but the argument's own size. -/
import Derived.Test.YtghfkejdmcpmhaaSizesD
import Derived.Test.YtghfkejdmcpmhaaLoops
namespace Go.E
open Go.RowKit Go.Proofs
set_option linter.unusedSimpArgs false
set_option linter.unusedVariables false

section
variable {fuel : Nat}

theorem l00In_eq (a b c : Int) : m_spec_l00In fuel a b c = some (decide (b ≤ a ∧ a ≤ c)) := by
  unfold m_spec_l00In
  by_cases h : b ≤ a <;> simp [h]
theorem l23Task_eq (n : Int) : m_spec_l23Task fuel n = some (decide (1 ≤ n ∧ n ≤ 1000)) := by
  simp only [m_spec_l23Task, l00In_eq, Option.bind_some]
theorem isTask_eq (n : Int) : m_impl_isTask fuel n = some (decide (1 ≤ n ∧ n ≤ 1000)) := by
  unfold m_impl_isTask
  by_cases h : 1 ≤ n <;> simp [h]
theorem isEnd_eq (n : Int) : m_impl_isEnd fuel n = some (decide (0 ≤ n ∧ n ≤ 1000)) := by
  unfold m_impl_isEnd
  by_cases h : 0 ≤ n <;> simp [h]

/-- what an actor may not have to do -/
def badOp (o : Bool) (n : Int) : Bool := n != 0 && (!o || !(decide (1 ≤ n ∧ n ≤ 1000)))

theorem contains_int {p : Int → Bool} {f : Int → Option Bool} {xs : List Int} (hf : 18446744073709551616 ≤ fuel) (hl : xs.length ≤ maxLen) (h : ∀ n, f n = some (p n)) : m_slices_ContainsFunc_int64_int64 fuel xs f = some (xs.any p) := by
  unfold m_slices_ContainsFunc_int64_int64 m_slices_IndexFunc_int64_int64
  obtain ⟨r, h1, h2⟩ := askIndex (xs := xs) (p := p) (body := m_slices_IndexFunc_int64_int64_b1 fuel xs f) (j := m_slices_IndexFunc_int64_int64_j1 fuel) (t := ()) hl hf rfl (fun i x hi hx => by
    simp only [m_slices_IndexFunc_int64_int64_b1, idx_at hx, h, lt_t (show (i : Int) < xs.length by omega), if_true, Option.bind_some]) (by simp [m_slices_IndexFunc_int64_int64_b1])
  rw [h1, Option.bind_some, h2]

theorem contains_handed {p : D.Handed → Bool} {f : D.Handed → Option Bool} {xs : List D.Handed} (hf : 18446744073709551616 ≤ fuel) (hl : xs.length ≤ maxLen) (h : ∀ n, f n = some (p n)) : m_slices_ContainsFunc_impl_Handed_impl_Handed fuel xs f = some (xs.any p) := by
  unfold m_slices_ContainsFunc_impl_Handed_impl_Handed m_slices_IndexFunc_impl_Handed_impl_Handed
  obtain ⟨r, h1, h2⟩ := askIndex (xs := xs) (p := p) (body := m_slices_IndexFunc_impl_Handed_impl_Handed_b1 fuel xs f) (j := m_slices_IndexFunc_impl_Handed_impl_Handed_j1 fuel) (t := ()) hl hf rfl (fun i x hi hx => by
    simp only [m_slices_IndexFunc_impl_Handed_impl_Handed_b1, idx_at hx, h, lt_t (show (i : Int) < xs.length by omega), if_true, Option.bind_some]) (by simp [m_slices_IndexFunc_impl_Handed_impl_Handed_b1])
  rw [h1, Option.bind_some, h2]

theorem contains_actor {p : D.DequeActor → Bool} {f : D.DequeActor → Option Bool} {xs : List D.DequeActor} (hf : 18446744073709551616 ≤ fuel) (hl : xs.length ≤ maxLen) (h : ∀ n, f n = some (p n)) : m_slices_ContainsFunc_impl_DequeActor_impl_DequeActor fuel xs f = some (xs.any p) := by
  unfold m_slices_ContainsFunc_impl_DequeActor_impl_DequeActor m_slices_IndexFunc_impl_DequeActor_impl_DequeActor
  obtain ⟨r, h1, h2⟩ := askIndex (xs := xs) (p := p) (body := m_slices_IndexFunc_impl_DequeActor_impl_DequeActor_b1 fuel xs f) (j := m_slices_IndexFunc_impl_DequeActor_impl_DequeActor_j1 fuel) (t := ()) hl hf rfl (fun i x hi hx => by
    simp only [m_slices_IndexFunc_impl_DequeActor_impl_DequeActor_b1, idx_at hx, h, lt_t (show (i : Int) < xs.length by omega), if_true, Option.bind_some]) (by simp [m_slices_IndexFunc_impl_DequeActor_impl_DequeActor_b1])
  rw [h1, Option.bind_some, h2]

theorem idx0 {α : Type} {v : α} {r : List α} : idx (v :: r) 0 = some v := by simp [idx]

/-- what both say of an actor -/
def actorB (a : D.DequeActor) (o : Bool) : Bool :=
  decide (a.Todo.length ≤ 10) && (!a.Todo.any (badOp o) && match a.Todo with
    | [] => decide (a.Pc = 0 ∧ a.T = 0 ∧ a.B = 0 ∧ a.X = 0)
    | v :: _ => if a.Pc = 0 then decide (a.T = 0 ∧ a.B = 0 ∧ a.X = 0) else decide (0 ≤ a.Pc ∧ a.Pc ≤ (if v = 0 then 3 else 2) ∧ 0 ≤ a.T ∧ a.T ≤ 1000 ∧ (if v = 0 ∧ o = true then -1 else 0) ≤ a.B ∧ a.B ≤ 1000 ∧ 0 ≤ a.X ∧ a.X ≤ 1000))

theorem impl_actor {a : D.DequeActor} {o : Bool} (hf : 18446744073709551616 ≤ fuel) (hl : a.Todo.length ≤ maxLen) : m_impl_validActor fuel a o = some (actorB a o) := by
  have hc := contains_int (fuel := fuel) (p := badOp o) (f := fun y0 => m_impl_validActor_c1 fuel y0 o) hf hl (fun n => by
    unfold m_impl_validActor_c1 badOp
    simp only [isTask_eq, Option.bind_some]
    by_cases h : n = 0 <;> cases o <;> simp [h])
  have et : m_impl_validActor_j1 fuel a o true = some false := rfl
  unfold m_impl_validActor actorB
  rw [hc, Option.bind_some]
  by_cases h10 : a.Todo.length ≤ 10
  · rw [if_neg (by simp; omega)]
    cases hb : a.Todo.any (badOp o) with
    | true => simp [et]
    | false =>
      unfold m_impl_validActor_j1
      obtain ⟨Todo, Pc, T, B, X⟩ := a
      dsimp only at *
      cases Todo with
      | nil =>
        simp only [m_impl_validActor_j2]
        by_cases h1 : Pc = 0 <;> by_cases h2 : T = 0 <;> by_cases h3 : B = 0 <;> by_cases h4 : X = 0 <;> simp [h1, h2, h3, h4]
      | cons v r =>
        have hn : ¬ ((v :: r).length : Int) = 0 := by rw [List.length_cons]; omega
        have hd : decide ((v :: r).length ≤ 10) = true := decide_eq_true h10
        by_cases h1 : Pc = 0
        · simp only [hd, h1, m_impl_validActor_j2]
          by_cases h2 : T = 0 <;> by_cases h3 : B = 0 <;> by_cases h4 : X = 0 <;> simp [h2, h3, h4, hn, hb]
        · have hp : (0 : Int) < ((v :: r).length : Int) := by rw [List.length_cons]; omega
          have tk : m_impl_DequeActor_taking fuel ⟨v :: r, Pc, T, B, X⟩ = some (decide (v = 0 ∧ 1 ≤ Pc)) := by
            unfold m_impl_DequeActor_taking
            simp only [idx0, Option.bind_some]
            rw [if_pos (decide_eq_true hp)]
            by_cases hv : v = 0 <;> simp [hv]
          simp only [hd, h1, m_impl_validActor_j2, m_impl_validActor_j3, m_impl_validActor_j4, isEnd_eq, idx0, Option.bind_some, tk, Bool.false_eq_true, if_false, Bool.true_and, Bool.not_false]
          rw [if_neg (by simpa using hn), if_neg (by simpa using h1)]
          have h0 : (0 ≤ Pc) = (1 ≤ Pc) := by rw [eq_iff_iff]; omega
          by_cases hP : 1 ≤ Pc
          · by_cases hv : v = 0 <;> by_cases hQ : Pc ≤ 3 <;> by_cases hQ2 : Pc ≤ 2 <;> by_cases hB : 0 ≤ B ∧ B ≤ 1000 <;> by_cases hB1 : B = -1 <;> cases o <;> by_cases hT : 0 ≤ T ∧ T ≤ 1000 <;> by_cases hX : 0 ≤ X ∧ X ≤ 1000 <;> simp [h0, hv, hB, hB1, hP, hT, hX, hQ, hQ2] <;> omega
          · by_cases hv : v = 0 <;> by_cases hB : 0 ≤ B ∧ B ≤ 1000 <;> by_cases hB1 : B = -1 <;> cases o <;> simp [h0, hv, hB, hB1, hP]
  · rw [if_pos (by simp; omega), et]
    simp [show ¬ a.Todo.length ≤ 10 from h10]

theorem spec_actor {a : D.DequeActor} {o : Bool} (hf : 18446744073709551616 ≤ fuel) (hl : a.Todo.length ≤ maxLen) : m_spec_l23Actor fuel a o = some (actorB a o) := by
  have et : m_spec_l23Actor_j1 fuel a o true = some false := rfl
  have e1 : m_spec_l23Actor_j1 fuel a o false = if a.Todo.any (badOp o) = true then some false else m_spec_l23Actor_j2 fuel a o () := by
    unfold m_spec_l23Actor_j1
    rw [if_neg Bool.false_ne_true]
    refine askOne hl hf (fun i x hi hx => ?_) (by simp [m_spec_l23Actor_b1])
    simp only [m_spec_l23Actor_b1, idx_at hx, l23Task_eq, lt_t (show (i : Int) < a.Todo.length by omega), if_true, Option.bind_some, m_spec_l23Actor_j5, badOp]
    by_cases h : x = 0 <;> cases o <;> simp [h]
  unfold m_spec_l23Actor actorB
  simp only [l00In_eq, Option.bind_some]
  by_cases h10 : a.Todo.length ≤ 10
  · rw [if_neg (by simp; omega)]
    cases hb : a.Todo.any (badOp o) with
    | true =>
      rw [hb, if_pos rfl] at e1
      have e2 : ∀ b, m_spec_l23Actor_j1 fuel a o b = some false := fun b => by cases b; exact e1; exact et
      simp [e2]
    | false =>
      rw [hb, if_neg Bool.false_ne_true] at e1
      have e2 : ∀ b, m_spec_l23Actor_j1 fuel a o b = if b = true then some false else m_spec_l23Actor_j2 fuel a o () := fun b => by cases b; rw [e1]; rfl; exact et
      simp only [e2]
      obtain ⟨Todo, Pc, T, B, X⟩ := a
      dsimp only at *
      cases Todo with
      | nil =>
        simp only [m_spec_l23Actor_j2, m_spec_l23Actor_j3, m_spec_l23Actor_j4]
        by_cases h1 : Pc = 0 <;> by_cases h2 : T = 0 <;> by_cases h3 : B = 0 <;> by_cases h4 : X = 0 <;> simp [h1, h2, h3, h4]
      | cons v r =>
        have hn : ¬ ((v :: r).length : Int) = 0 := by rw [List.length_cons]; omega
        have hd : decide ((v :: r).length ≤ 10) = true := decide_eq_true h10
        by_cases h1 : Pc = 0
        · simp only [hd, h1, m_spec_l23Actor_j2, m_spec_l23Actor_j3, m_spec_l23Actor_j4]
          by_cases h2 : T = 0 <;> by_cases h3 : B = 0 <;> by_cases h4 : X = 0 <;> simp [h2, h3, h4, hn, hb]
        · have key : m_spec_l23Actor_j2 fuel ⟨v :: r, Pc, T, B, X⟩ o () = some (if v = 0 then (o || decide (B ≥ 0)) else decide (Pc < 3 ∧ B ≥ 0)) := by
            simp only [m_spec_l23Actor_j2]
            rw [if_neg (by simpa using h1)]
            simp only [m_spec_l23Actor_j3, m_spec_l23Actor_j4, idx0, Option.bind_some]
            rw [if_neg (by simpa using h1), if_neg (by simp; omega)]
            by_cases hv : v = 0 <;> cases o <;> by_cases hP : Pc < 3 <;> simp [hv, hP]
          simp only [hd, h1, key, if_false, Bool.true_and, Bool.not_false]
          have h0 : (0 ≤ Pc) = (1 ≤ Pc) := by rw [eq_iff_iff]; omega
          by_cases hP : 1 ≤ Pc
          · by_cases hv : v = 0 <;> by_cases hQ : Pc ≤ 3 <;> by_cases hQ2 : Pc < 3 <;> by_cases hB : 0 ≤ B <;> by_cases hB1 : -1 ≤ B <;> by_cases hB2 : B ≤ 1000 <;> cases o <;> by_cases hT : 0 ≤ T ∧ T ≤ 1000 <;> by_cases hX : 0 ≤ X ∧ X ≤ 1000 <;> simp [h0, hv, hB, hB1, hB2, hP, hT, hX, hQ, hQ2] <;> omega
          · simp [h0, hP]
  · rw [if_pos (by simp; omega), et]
    simp [show ¬ a.Todo.length ≤ 10 from h10]

def takes (a : D.DequeActor) : Bool := match a.Todo with
  | [] => false
  | v :: _ => decide (v = 0 ∧ 1 ≤ a.Pc)

theorem taking_eq (a : D.DequeActor) : m_impl_DequeActor_taking fuel a = some (takes a) := by
  unfold m_impl_DequeActor_taking takes
  obtain ⟨Todo, Pc, T, B, X⟩ := a
  cases Todo with
  | nil => simp
  | cons v r =>
    have hp : (0 : Int) < ((v :: r).length : Int) := by rw [List.length_cons]; omega
    simp only [idx0, Option.bind_some]
    rw [if_pos (decide_eq_true hp)]
    by_cases hv : v = 0 <;> simp [hv]

theorem room_eq {x : D.Deque} {a : D.DequeActor} {r : List D.DequeActor} (hx : x.Actors = a :: r) (ha : actorB a true = true) :
    m_spec_l23Room fuel x = some (decide ((if takes a = true then -1 else 0) ≤ w64 (x.Bottom - x.Top) ∧ w64 (x.Bottom - x.Top) ≤ x.Buffer.length)) := by
  unfold m_spec_l23Room
  rw [hx, idx0, Option.bind_some]
  simp only [m_spec_l23Room_j1, m_spec_l23Room_j2, l00In_eq, Option.bind_some]
  by_cases hp : a.Pc > 0
  · rw [if_pos (by simpa using hp)]
    unfold takes
    cases hT : a.Todo with
    | nil =>
      unfold actorB at ha
      rw [hT] at ha
      simp at ha
      omega
    | cons v s =>
      rw [idx0, Option.bind_some]
      by_cases hv : v = 0
      · simp [hv, show 1 ≤ a.Pc by omega]
      · simp [hv]
  · rw [if_neg (by simpa using hp), if_neg Bool.false_ne_true]
    have : takes a = false := by
      unfold takes
      cases a.Todo with
      | nil => rfl
      | cons v s => simp; omega
    simp [this]

def badHand (x : D.Deque) (h : D.Handed) : Bool := !(decide (0 ≤ h.Actor ∧ h.Actor < (x.Actors.length : Int)) && decide (0 ≤ h.Value ∧ h.Value ≤ 1000))
def badTask (n : Int) : Bool := !(decide (1 ≤ n ∧ n ≤ 1000))

theorem same_l23Ok {x : D.Deque} (hf : 18446744073709551616 ≤ fuel) (hw : x.wf) (hs : x.sz ≤ 1048576) : ∃ r, m_spec_l23Ok fuel x = some r ∧ m_impl_ValidDeque fuel x = some r := by
  obtain ⟨_, _, hB, hA, hT, hR, _⟩ := hw
  have hm : maxLen = 9223372036854775807 := rfl
  have hAl := hA.1
  have hsA : x.Actors.length ≤ 1048576 := by
    unfold D.Deque.sz at hs
    have : szL D.DequeActor.sz x.Actors ≤ 1048576 := by omega
    exact szL_len this
  -- the loop over the actors
  obtain ⟨ok, a1, a2, a3⟩ := twinLoop (n := x.Actors.length) (b := m_spec_l23Ok_b2 fuel x) (b' := m_impl_ValidDeque_b1 fuel x) (fuel := fuel) (t := ()) (v := false) hAl hf (fun i hi => by
    obtain ⟨a, ha⟩ := at_lt hi
    have hwa := hA.2 a (List.mem_of_getElem? ha)
    refine ⟨actorB a ((i : Int) == 0), ?_, ?_⟩
    · simp only [m_spec_l23Ok_b2, idx_at ha, Option.bind_some, lt_t (show (i : Int) < x.Actors.length by omega), if_true, spec_actor hf hwa.1.1]
      cases actorB a ((i : Int) == 0) <;> simp
    · simp only [m_impl_ValidDeque_b1, idx_at ha, Option.bind_some, lt_t (show (i : Int) < x.Actors.length by omega), if_true, impl_actor hf hwa.1.1]
      cases actorB a ((i : Int) == 0) <;> simp) (by simp [m_spec_l23Ok_b2]) (by simp [m_impl_ValidDeque_b1])
  -- the reference
  have s4 : m_spec_l23Ok_j4 fuel x () = if x.Refused.any badTask = true then some false else m_spec_l23Ok_j5 fuel x () := by
    unfold m_spec_l23Ok_j4
    refine askOne hR.1 hf (fun i n hi hx => ?_) (by simp [m_spec_l23Ok_b4])
    simp only [m_spec_l23Ok_b4, idx_at hx, l23Task_eq, lt_t (show (i : Int) < x.Refused.length by omega), if_true, Option.bind_some, badTask]
    rfl
  have s3 : m_spec_l23Ok_j3 fuel x () = if x.Taken.any (badHand x) = true then some false else m_spec_l23Ok_j4 fuel x () := by
    unfold m_spec_l23Ok_j3
    refine askOne hT.1 hf (fun i h hi hx => ?_) (by simp [m_spec_l23Ok_b3])
    simp only [m_spec_l23Ok_b3, idx_at hx, l00In_eq, lt_t (show (i : Int) < x.Taken.length by omega), if_true, Option.bind_some, m_spec_l23Ok_j6, badHand]
    rw [i64_small (show -9223372036854775808 ≤ (x.Actors.length : Int) - 1 by omega) (by omega)]
    have e : (h.Actor ≤ (x.Actors.length : Int) - 1) = (h.Actor < x.Actors.length) := by rw [eq_iff_iff]; omega
    simp only [e]
    by_cases c : 0 ≤ h.Actor ∧ h.Actor < (x.Actors.length : Int) <;> simp [c]
  have s2 : m_spec_l23Ok_j2 fuel x () = if ok = true then m_spec_l23Ok_j3 fuel x () else some false := by
    unfold m_spec_l23Ok_j2
    rw [a1]
    cases ok <;> rfl
  have s1 : m_spec_l23Ok_j1 fuel x false = if x.Buffer.any (badOp true) = true then some false else m_spec_l23Ok_j2 fuel x () := by
    unfold m_spec_l23Ok_j1
    rw [if_neg Bool.false_ne_true]
    refine askOne hB.1 hf (fun i n hi hx => ?_) (by simp [m_spec_l23Ok_b1])
    simp only [m_spec_l23Ok_b1, idx_at hx, l23Task_eq, lt_t (show (i : Int) < x.Buffer.length by omega), if_true, Option.bind_some, m_spec_l23Ok_j7, badOp]
    by_cases h : n = 0 <;> simp [h]
  have s0 : ∀ b, m_spec_l23Ok_j1 fuel x b = if b = true then some false else m_spec_l23Ok_j1 fuel x false := fun b => by cases b <;> rfl
  -- the program
  have c1 := contains_int (fuel := fuel) (p := badOp true) (f := fun y0 => m_impl_ValidDeque_c1 fuel y0) hf hB.1 (fun n => by
    simp only [m_impl_ValidDeque_c1, isTask_eq, Option.bind_some, badOp]
    by_cases h : n = 0 <;> simp [h])
  have c2 := contains_handed (fuel := fuel) (p := badHand x) (f := fun y0 => m_impl_ValidDeque_c2 fuel y0 x) hf hT.1 (fun h => by
    simp only [m_impl_ValidDeque_c2, isEnd_eq, Option.bind_some, badHand]
    by_cases c : h.Actor < 0
    · simp [c, show ¬ 0 ≤ h.Actor by omega]
    · by_cases d : h.Actor < x.Actors.length
      · simp [c, d, show 0 ≤ h.Actor by omega, show ¬ (x.Actors.length : Int) ≤ h.Actor by omega]
      · simp [c, d, show (x.Actors.length : Int) ≤ h.Actor by omega])
  have c3 := contains_int (fuel := fuel) (p := badTask) (f := fun y0 => m_impl_ValidDeque_c3 fuel y0) hf hR.1 (fun n => by
    simp only [m_impl_ValidDeque_c3, isTask_eq, Option.bind_some, badTask])
  have p5 : ∀ b, m_impl_ValidDeque_j5 fuel x b = if b = true then some false else some (!(x.Taken.any (badHand x)) && !(x.Refused.any badTask)) := fun b => by
    unfold m_impl_ValidDeque_j5
    cases b with
    | true => rfl
    | false =>
      simp only [c2, c3, Option.bind_some]
      cases x.Taken.any (badHand x) <;> simp
  have p2 : m_impl_ValidDeque_j2 fuel x false = if ok = true then m_impl_ValidDeque_j3 fuel x () else some false := by
    unfold m_impl_ValidDeque_j2
    rw [if_neg Bool.false_ne_true, a2]
    cases ok <;> rfl
  have p2' : ∀ b, m_impl_ValidDeque_j2 fuel x b = if b = true then some false else m_impl_ValidDeque_j2 fuel x false := fun b => by cases b <;> rfl
  have p4 : ∀ b, m_impl_ValidDeque_j4 fuel x b = if b = true then some false else if x.Taken.length ≤ 1000 ∧ x.Refused.length ≤ 1000 then some (!(x.Taken.any (badHand x)) && !(x.Refused.any badTask)) else some false := fun b => by
    unfold m_impl_ValidDeque_j4
    cases b with
    | true => rfl
    | false =>
      simp only [p5, Bool.false_eq_true, if_false]
      by_cases h1 : x.Taken.length ≤ 1000 <;> by_cases h2 : x.Refused.length ≤ 1000
      · simp [h1, h2, show ¬ (1000 : Int) < x.Taken.length by omega, show ¬ (1000 : Int) < x.Refused.length by omega]
      · simp [h1, h2, show ¬ (1000 : Int) < x.Taken.length by omega, show (1000 : Int) < x.Refused.length by omega]
      · simp [h1, h2, show (1000 : Int) < x.Taken.length by omega]
      · simp [h1, h2, show (1000 : Int) < x.Taken.length by omega]
  unfold m_spec_l23Ok m_impl_ValidDeque
  simp only [l00In_eq, c1, Option.bind_some, s0 true, if_true]
  unfold m_impl_ValidDeque_j1
  simp only [isEnd_eq, Option.bind_some]
  by_cases hb : 1 ≤ x.Buffer.length ∧ x.Buffer.length ≤ 8
  · have hb1 : ¬ ((x.Buffer.length : Int) < 1) := by omega
    have hb2 : ¬ ((x.Buffer.length : Int) > 8) := by omega
    have hb3 : (1 : Int) ≤ x.Buffer.length ∧ (x.Buffer.length : Int) ≤ 8 := by omega
    have db := decide_eq_true hb3
    simp only [hb1, hb2, db, decide_false, Bool.not_true, Bool.false_eq_true, if_false]
    by_cases hT0 : 0 ≤ x.Top ∧ x.Top ≤ 1000
    · have dT := decide_eq_true hT0
      by_cases hBo : -1 ≤ x.Bottom ∧ x.Bottom ≤ 1000
      · have dB := decide_eq_true hBo
        by_cases hA4 : 1 ≤ x.Actors.length ∧ x.Actors.length ≤ 4
        · have ha1 : ¬ ((x.Actors.length : Int) < 1) := by omega
          have ha2 : ¬ ((x.Actors.length : Int) > 4) := by omega
          have ha3 : (1 : Int) ≤ x.Actors.length ∧ (x.Actors.length : Int) ≤ 4 := by omega
          have hbb : m_impl_ValidDeque_j2 fuel x (!decide (0 ≤ x.Bottom ∧ x.Bottom ≤ 1000)) = m_impl_ValidDeque_j2 fuel x false ∨ x.Bottom = -1 := by
            by_cases h : x.Bottom = -1
            · exact .inr h
            · left; rw [decide_eq_true (by omega)]; rfl
          have himpl : (if (x.Bottom != -1) = true then m_impl_ValidDeque_j2 fuel x (!decide (0 ≤ x.Bottom ∧ x.Bottom ≤ 1000)) else m_impl_ValidDeque_j2 fuel x false) = m_impl_ValidDeque_j2 fuel x false := by
            by_cases h : x.Bottom = -1
            · rw [if_neg (by simp [h])]
            · rw [if_pos (by simpa using h), decide_eq_true (by omega)]; rfl
          have dA := decide_eq_true ha3
          simp only [dT, dB, ha1, ha2, dA, decide_false, Bool.not_true, Bool.false_eq_true, if_false, himpl]
          simp only [p2]
          by_cases hL : x.Taken.length ≤ 1000 ∧ x.Refused.length ≤ 1000
          · have hl1 : ¬ ((x.Taken.length : Int) > 1000) := by omega
            have hl2 : ¬ ((x.Refused.length : Int) > 1000) := by omega
            simp only [hl1, hl2, decide_false, Bool.false_eq_true, if_false, s1]
            cases hbuf : x.Buffer.any (badOp true) with
            | true => exact ⟨false, rfl, rfl⟩
            | false =>
              simp only [Bool.false_eq_true, if_false, s2]
              cases hok : ok with
              | false => exact ⟨false, rfl, rfl⟩
              | true =>
                simp only [if_true, s3, s4]
                obtain ⟨a, r, hx⟩ : ∃ a r, x.Actors = a :: r := by
                  cases h : x.Actors with
                  | nil => rw [h] at hA4; simp at hA4
                  | cons a r => exact ⟨a, r, rfl⟩
                have hact : actorB a true = true := by
                  have h0 := a3 hok 0 (by omega)
                  have hwa := hA.2 a (by rw [hx]; simp)
                  simp only [m_spec_l23Ok_b2, Int.ofNat_zero, Int.natCast_zero] at h0
                  rw [if_pos (decide_eq_true (by omega)), hx, idx0, Option.bind_some, spec_actor hf hwa.1.1, Option.bind_some] at h0
                  cases hh : actorB a true with
                  | true => rfl
                  | false => simp [hh] at h0
                have hroom : m_spec_l23Ok_j5 fuel x () = some (decide ((if takes a = true then -1 else 0) ≤ w64 (x.Bottom - x.Top) ∧ w64 (x.Bottom - x.Top) ≤ x.Buffer.length)) := by
                  unfold m_spec_l23Ok_j5
                  rw [room_eq hx hact]; rfl
                have hj3 : m_impl_ValidDeque_j3 fuel x () = m_impl_ValidDeque_j4 fuel x (!decide ((if takes a = true then -1 else 0) ≤ w64 (x.Bottom - x.Top) ∧ w64 (x.Bottom - x.Top) ≤ x.Buffer.length)) := by
                  unfold m_impl_ValidDeque_j3
                  rw [hx, idx0, Option.bind_some, taking_eq, Option.bind_some]
                  generalize w64 (x.Bottom - x.Top) = z
                  by_cases z1 : z > x.Buffer.length
                  · rw [if_pos (decide_eq_true z1), decide_eq_false (by omega)]; rfl
                  · rw [if_neg (by simpa using z1)]
                    by_cases z2 : z < -1
                    · rw [if_pos (decide_eq_true z2), decide_eq_false (by split <;> omega)]; rfl
                    · rw [if_neg (by simpa using z2)]
                      by_cases z3 : z = -1
                      · rw [if_pos (by simp [z3])]
                        cases takes a with
                        | true => rw [decide_eq_true (by rw [if_pos rfl]; omega)]
                        | false => rw [decide_eq_false (by rw [if_neg Bool.false_ne_true]; omega)]
                      · rw [if_neg (by simpa using z3), decide_eq_true (by split <;> omega)]; rfl
                rw [hroom, hj3, p4, if_pos hL]
                cases x.Taken.any (badHand x) <;> cases x.Refused.any badTask <;> cases (decide ((if takes a = true then (-1 : Int) else 0) ≤ w64 (x.Bottom - x.Top) ∧ w64 (x.Bottom - x.Top) ≤ x.Buffer.length)) <;> exact ⟨_, rfl, rfl⟩
          · have hn : (if decide ((x.Taken.length : Int) > 1000) = true then some false else m_spec_l23Ok_j1 fuel x (decide ((x.Refused.length : Int) > 1000))) = some false := by
              by_cases h : (x.Taken.length : Int) > 1000
              · rw [if_pos (decide_eq_true h)]
              · rw [if_neg (by simpa using h), decide_eq_true (by omega)]; rfl
            rw [hn]
            refine ⟨false, rfl, ?_⟩
            cases hbuf : x.Buffer.any (badOp true) with
            | true => rfl
            | false =>
              simp only [Bool.false_eq_true, if_false]
              cases hok : ok with
              | false => rfl
              | true =>
                simp only [if_true]
                have h4 : ∀ b, m_impl_ValidDeque_j4 fuel x b = some false := fun b => by rw [p4, if_neg hL]; cases b <;> rfl
                obtain ⟨a, r, hx⟩ : ∃ a r, x.Actors = a :: r := by
                  cases h : x.Actors with
                  | nil => rw [h] at hA4; simp at hA4
                  | cons a r => exact ⟨a, r, rfl⟩
                unfold m_impl_ValidDeque_j3
                rw [hx, idx0, Option.bind_some, taking_eq, Option.bind_some]
                simp only [h4, ite_self]
        · refine ⟨false, ?_, ?_⟩
          · have ha3 : ¬ ((1 : Int) ≤ x.Actors.length ∧ (x.Actors.length : Int) ≤ 4) := by omega
            have dA := decide_eq_false ha3
            simp only [dT, dB, dA, Bool.not_true, Bool.not_false, Bool.false_eq_true, if_false, if_true]
          · cases x.Buffer.any (badOp true) with
            | true => rfl
            | false =>
              simp only [Bool.false_eq_true, if_false]
              by_cases h : (x.Actors.length : Int) < 1
              · rw [if_pos (decide_eq_true h)]; rfl
              · rw [if_neg (by simpa using h), if_pos (decide_eq_true (by omega))]; rfl
      · refine ⟨false, ?_, ?_⟩
        · have dB := decide_eq_false hBo
          simp only [dT, dB, Bool.not_true, Bool.not_false, Bool.false_eq_true, if_false, if_true]
        · have hbo : m_impl_ValidDeque_j2 fuel x (!decide (0 ≤ x.Bottom ∧ x.Bottom ≤ 1000)) = some false := by rw [decide_eq_false (by omega)]; rfl
          have hne : (x.Bottom != -1) = true := by simp; omega
          simp only [hbo, hne, if_true, p2' true, ite_self]
    · refine ⟨false, ?_, ?_⟩
      · simp only [decide_eq_false hT0, Bool.not_false, if_true]
      · simp only [decide_eq_false hT0, Bool.not_false, if_true, p2' true, ite_self]
  · refine ⟨false, ?_, ?_⟩
    · rw [decide_eq_false (by omega)]; rfl
    · by_cases h : (x.Buffer.length : Int) < 1
      · rw [if_pos (decide_eq_true h)]; rfl
      · rw [if_neg (by simpa using h), if_pos (decide_eq_true (by omega))]; rfl

theorem same_ValidDeque {x : D.Deque} (hf : 18446744073709551616 ≤ fuel) (hw : x.wf) (hs : x.sz ≤ 1048576) : ∃ r, m_spec_ValidDeque fuel x = some r ∧ m_impl_ValidDeque fuel x = some r := by
  obtain ⟨r, h1, h2⟩ := same_l23Ok hf hw hs
  exact ⟨r, by simp only [m_spec_ValidDeque, h1, Option.bind_some], h2⟩

def busy (a : D.DequeActor) : Bool := decide (0 < a.Todo.length)

theorem busy_eq {x : D.Deque} (hf : 18446744073709551616 ≤ fuel) (hA : x.Actors.length ≤ 1048576) : ∃ l, m_spec_l23Busy fuel x = some l ∧ (((l.length : Int) == 0) = !x.Actors.any busy) := by
  have hm : maxLen = 9223372036854775807 := rfl
  unfold m_spec_l23Busy
  obtain ⟨o, h2, h3⟩ := iter_count (body := m_spec_l23Busy_b1 fuel x) (fun i s => s.1 = (i : Int) ∧ s.2.length ≤ i ∧ (((s.2.length : Int) == 0) = !(x.Actors.take i).any busy)) x.Actors.length (fun o => ∃ l, o = .inl l ∧ (((l.length : Int) == 0) = !x.Actors.any busy)) (by
    rintro i ⟨s, t⟩ hi ⟨h2, h3, h4⟩
    dsimp only at h2 h3 h4
    subst h2
    obtain ⟨a, ha⟩ := at_lt hi
    have e : m_spec_l23Busy_b1 fuel x ((i : Int), t) = if decide ((a.Todo.length : Int) > 0) = true then (if decide ((t.length : Int) + (([(i : Int)] : List Int).length : Int) ≤ 4294967296) = true then some (.next (w64 ((i : Int) + 1), t ++ [(i : Int)])) else none) else some (.next (w64 ((i : Int) + 1), t)) := by
      unfold m_spec_l23Busy_b1
      rw [if_pos (decide_eq_true (show (i : Int) < x.Actors.length by omega)), idx_at ha]
      rfl
    left
    rw [e]
    have hw : w64 ((i : Int) + 1) = ((i + 1 : Nat) : Int) := by rw [i64_small (by omega) (by omega)]; simp
    by_cases hb : 0 < a.Todo.length
    · rw [if_pos (by simpa using hb), if_pos (by simp; omega)]
      refine ⟨_, rfl, hw, by simp; omega, ?_⟩
      rw [List.take_add_one, ha, List.any_append]
      simp [busy, hb]
      omega
    · rw [if_neg (by simpa using hb)]
      refine ⟨_, rfl, hw, by dsimp only; omega, ?_⟩
      rw [List.take_add_one, ha, List.any_append]
      simp only [h4]
      simp [busy, hb]) (by
    rintro ⟨s, t⟩ ⟨h2, h3, h4⟩
    dsimp only at h2 h3 h4
    subst h2
    refine .inr ⟨t, by simp [m_spec_l23Busy_b1], t, rfl, ?_⟩
    rwa [List.take_length] at h4) (fuel := fuel) (i := 0) (s := (0, [])) (Nat.zero_le _) (by omega) ⟨rfl, by simp, by simp⟩
  obtain ⟨l, rfl, h4⟩ := h3
  exact ⟨l, by rw [h2]; rfl, h4⟩

theorem same_IsDequeDone {x : D.Deque} (hf : 18446744073709551616 ≤ fuel) (hw : x.wf) (hs : x.sz ≤ 1048576) : ∃ r, m_spec_IsDequeDone fuel x = some r ∧ m_impl_IsDequeDone fuel x = some r := by
  obtain ⟨r, h1, h2⟩ := same_l23Ok hf hw hs
  have hA : x.Actors.length ≤ 1048576 := by
    unfold D.Deque.sz at hs
    have : szL D.DequeActor.sz x.Actors ≤ 1048576 := by omega
    exact szL_len this
  obtain ⟨l, h3, h4⟩ := busy_eq hf hA
  have h5 := contains_actor (fuel := fuel) (p := busy) (f := fun y0 => m_impl_Deque_isDone_c1 fuel y0) hf (show x.Actors.length ≤ maxLen by simp only [maxLen]; omega) (fun a => by simp [m_impl_Deque_isDone_c1, busy])
  simp only [m_spec_IsDequeDone, m_impl_IsDequeDone, h1, h2, h3, h4, h5, Option.bind_some, m_impl_Deque_isDone]
  cases r <;> exact ⟨_, rfl, rfl⟩
end
theorem lawValidDeque {x0 : D.Deque} (h0 : D.Deque.wf x0) : ∃ fuel, m_laws_FnExactValidDeque fuel x0 = some true := by
  obtain ⟨fuel, hf⟩ : ∃ n : Nat, 18446744073709551616 ≤ n := ⟨_, Nat.le_refl _⟩
  refine ⟨fuel, ?_⟩
  unfold m_laws_FnExactValidDeque
  obtain ⟨r0, e0, s0⟩ := szDeque_pure (l := (1048576 : Int)) hf h0 (by decide) (by omega)
  rw [e0, Option.bind_some]
  rcases s0 with s0 | ⟨s0, t0⟩
  · rw [if_pos (by simp [s0])]
  rw [if_neg (by simp [s0])]
  have z0 : D.Deque.sz x0 ≤ 1048576 := by omega
  obtain ⟨q, a0, a1⟩ := same_ValidDeque hf h0 z0
  simp only [Option.bind_some, a0, a1, toDeque_pure hf z0, eqDeque_pure hf z0]
  simp

theorem lawIsDequeDone {x0 : D.Deque} (h0 : D.Deque.wf x0) : ∃ fuel, m_laws_FnExactIsDequeDone fuel x0 = some true := by
  obtain ⟨fuel, hf⟩ : ∃ n : Nat, 18446744073709551616 ≤ n := ⟨_, Nat.le_refl _⟩
  refine ⟨fuel, ?_⟩
  unfold m_laws_FnExactIsDequeDone
  obtain ⟨r0, e0, s0⟩ := szDeque_pure (l := (1048576 : Int)) hf h0 (by decide) (by omega)
  rw [e0, Option.bind_some]
  rcases s0 with s0 | ⟨s0, t0⟩
  · rw [if_pos (by simp [s0])]
  rw [if_neg (by simp [s0])]
  have z0 : D.Deque.sz x0 ≤ 1048576 := by omega
  obtain ⟨q, a0, a1⟩ := same_IsDequeDone hf h0 z0
  simp only [Option.bind_some, a0, a1, toDeque_pure hf z0, eqDeque_pure hf z0]
  simp

end Go.E
