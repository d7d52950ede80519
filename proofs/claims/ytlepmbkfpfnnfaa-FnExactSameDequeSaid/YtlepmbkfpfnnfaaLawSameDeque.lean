/- SameDeque: the plain law. Conditions: none but the arguments' own size. -/
import Derived.Test.YtlepmbkfpfnnfaaLawValidChannel
namespace Go.E
open Go.RowKit Go.Proofs
set_option linter.unusedSimpArgs false
set_option linter.unusedVariables false

section
variable {fuel : Nat}

theorem ints_total {x y : List Int} (hf : 18446744073709551616 ≤ fuel) (hl : x.length ≤ 1048576) : ∃ r, m_spec_l00Same fuel x y = some r := by
  unfold m_spec_l00Same
  by_cases he : x.length = y.length
  · rw [if_neg (by simp [he])]
    refine count_total (n := x.length) (by unfold maxLen; omega) hf (fun t => ⟨_, rfl⟩) ?_ ⟨_, by simp [m_spec_l00Same_b1]; rfl⟩
    intro i hi
    obtain ⟨a, ha⟩ := at_lt hi
    obtain ⟨b, hb⟩ := at_lt (he ▸ hi : i < y.length)
    simp only [m_spec_l00Same_b1, idx_at ha, idx_at hb, Option.bind_some, lt_t (show (i : Int) < x.length by omega), if_true]
    split
    · exact .inr (.inl ⟨_, rfl⟩)
    · exact .inl rfl
  · rw [if_pos (by simp; omega)]; exact ⟨_, rfl⟩

theorem actors_two {x y : D.Deque} (hf : 18446744073709551616 ≤ fuel) (h : szL D.DequeActor.sz x.Actors ≤ 1048576) (he : x.Actors.length = y.Actors.length) :
    ∃ r, (iter (m_spec_l23Same_b1 fuel x y) fuel 0 = some (.inl ()) ∧ r = true ∨ iter (m_spec_l23Same_b1 fuel x y) fuel 0 = some (.inr false) ∧ r = false) ∧
      m_slices_EqualFunc_impl_DequeActor_impl_DequeActor_impl_DequeActor_impl_DequeActor fuel x.Actors y.Actors (fun y0 y1 => m_impl_SameDeque_c1 fuel y0 y1) = some r := by
  have hl := szL_len h
  have e1 : ∀ a b, m_slices_Equal_int64_int64 fuel a b = m_spec_l00Same fuel a b := fun _ _ => rfl
  have key : ∀ (i : Nat), i < x.Actors.length → ∃ r : Bool, m_spec_l23Same_b1 fuel x y i = (if r = true then some (.next (w64 (i + 1))) else some (.ret false)) ∧
      m_slices_EqualFunc_impl_DequeActor_impl_DequeActor_impl_DequeActor_impl_DequeActor_b1 fuel x.Actors y.Actors (fun y0 y1 => m_impl_SameDeque_c1 fuel y0 y1) i = (if r = true then some (.next (w64 (i + 1))) else some (.ret false)) := by
    intro i hi
    obtain ⟨a, ha⟩ := at_lt hi
    obtain ⟨b, hb⟩ := at_lt (he ▸ hi : i < y.Actors.length)
    have hsa := szL_mem h (List.mem_of_getElem? ha)
    unfold D.DequeActor.sz at hsa
    obtain ⟨q, hq⟩ := ints_total (y := b.Todo) hf (show a.Todo.length ≤ 1048576 by omega)
    simp only [m_spec_l23Same_b1, m_slices_EqualFunc_impl_DequeActor_impl_DequeActor_impl_DequeActor_impl_DequeActor_b1, m_impl_SameDeque_c1, m_spec_l23Same_j4, idx_at ha, idx_at hb, Option.bind_some, lt_t (show (i : Int) < x.Actors.length by omega), if_true, e1, hq]
    refine ⟨q && (a.Pc == b.Pc && (a.T == b.T && (a.B == b.B && a.X == b.X))), ?_⟩
    by_cases c1 : a.Pc = b.Pc <;> by_cases c2 : a.T = b.T <;> by_cases c3 : a.B = b.B <;> by_cases c4 : a.X = b.X <;> cases q <;> simp [c1, c2, c3, c4]
  have hm : maxLen = 9223372036854775807 := rfl
  have hc : iter (m_slices_EqualFunc_impl_DequeActor_impl_DequeActor_impl_DequeActor_impl_DequeActor_b1 fuel x.Actors y.Actors (fun y0 y1 => m_impl_SameDeque_c1 fuel y0 y1)) fuel 0 = iter (m_spec_l23Same_b1 fuel x y) fuel 0 := by
    have last : ∀ s : Int, ¬ s < x.Actors.length → m_slices_EqualFunc_impl_DequeActor_impl_DequeActor_impl_DequeActor_impl_DequeActor_b1 fuel x.Actors y.Actors (fun y0 y1 => m_impl_SameDeque_c1 fuel y0 y1) s = some (.brk ()) ∧ m_spec_l23Same_b1 fuel x y s = some (.brk ()) := fun s hs => by
      simp only [m_spec_l23Same_b1, m_slices_EqualFunc_impl_DequeActor_impl_DequeActor_impl_DequeActor_impl_DequeActor_b1, lt_f hs, if_false, and_self]
    refine iter_congr (fun s => 0 ≤ s) (fun s hs => ?_) (fun s s' hs hb => ?_) fuel 0 (Int.le_refl _)
    · by_cases h : s < x.Actors.length
      · obtain ⟨r, h1, h2⟩ := key s.toNat (by omega)
        rw [Int.toNat_of_nonneg hs] at h1 h2
        rw [h1, h2]
      · rw [(last s h).1, (last s h).2]
    · by_cases h : s < x.Actors.length
      · obtain ⟨r, h1, h2⟩ := key s.toNat (by omega)
        rw [Int.toNat_of_nonneg hs] at h1 h2
        rw [h2] at hb
        split at hb
        · cases hb; rw [i64_small (by omega) (by omega)]; omega
        · cases hb
      · rw [(last s h).1] at hb; cases hb
  unfold m_slices_EqualFunc_impl_DequeActor_impl_DequeActor_impl_DequeActor_impl_DequeActor
  rw [if_neg (by simp [he]), hc]
  rcases count_two (n := x.Actors.length) (body := m_spec_l23Same_b1 fuel x y) (t := ()) (v := false) (by omega) hf (by
    intro i hi
    obtain ⟨r, h1, _⟩ := key i hi
    rw [h1]
    cases r
    · exact .inr rfl
    · exact .inl rfl) (by simp [m_spec_l23Same_b1]) with h | h
  · exact ⟨true, .inl ⟨h, rfl⟩, by rw [h]; rfl⟩
  · exact ⟨false, .inr ⟨h, rfl⟩, by rw [h]; rfl⟩

theorem taken_total {x y : D.Deque} (hf : 18446744073709551616 ≤ fuel) (hl : x.Taken.length ≤ 1048576) (he : x.Taken.length = y.Taken.length) : ∃ r, m_spec_l23Same_j2 fuel x y () = some r := by
  unfold m_spec_l23Same_j2
  refine count_total (n := x.Taken.length) (by unfold maxLen; omega) hf (fun t => ⟨_, rfl⟩) ?_ ⟨_, by simp [m_spec_l23Same_b2]; rfl⟩
  intro i hi
  obtain ⟨a, ha⟩ := at_lt hi
  obtain ⟨b, hb⟩ := at_lt (he ▸ hi : i < y.Taken.length)
  simp only [m_spec_l23Same_b2, idx_at ha, idx_at hb, Option.bind_some, lt_t (show (i : Int) < x.Taken.length by omega), if_true]
  split
  · exact .inr (.inl ⟨_, rfl⟩)
  · exact .inl rfl

theorem same_SameDeque {x y : D.Deque} (hf : 18446744073709551616 ≤ fuel) (hw : x.wf) (hv : y.wf) (hs : x.sz ≤ 1048576) (hz : y.sz ≤ 1048576) : ∃ r, m_spec_SameDeque fuel x y = some r ∧ m_impl_SameDeque fuel x y = some r := by
  unfold D.Deque.sz at hs
  have e1 : ∀ a b, m_slices_Equal_int64_int64 fuel a b = m_spec_l00Same fuel a b := fun _ _ => rfl
  have e2 : m_slices_Equal_impl_Handed_impl_Handed fuel x.Taken y.Taken = if ((x.Taken.length : Int) != (y.Taken.length : Int)) = true then some false else m_spec_l23Same_j2 fuel x y () := rfl
  obtain ⟨r1, h1⟩ := ints_total (y := y.Buffer) hf (show x.Buffer.length ≤ 1048576 by omega)
  obtain ⟨r2, h2⟩ := ints_total (y := y.Refused) hf (show x.Refused.length ≤ 1048576 by omega)
  have q : ∀ o : Option Bool, (o.bind fun r => some r) = o := fun o => by cases o <;> rfl
  have t : ∀ b, m_spec_l23Same_j1 fuel x y b = if b = true then some false else m_spec_l23Same_j1 fuel x y false := fun b => by cases b <;> rfl
  have ea : x.Actors.length ≠ y.Actors.length → m_slices_EqualFunc_impl_DequeActor_impl_DequeActor_impl_DequeActor_impl_DequeActor fuel x.Actors y.Actors (fun y0 y1 => m_impl_SameDeque_c1 fuel y0 y1) = some false := fun h => by
    unfold m_slices_EqualFunc_impl_DequeActor_impl_DequeActor_impl_DequeActor_impl_DequeActor
    rw [if_pos (by simp; omega)]
  have et : m_spec_l23Same_j1 fuel x y true = some false := rfl
  have em : ∃ r, m_slices_Equal_impl_Handed_impl_Handed fuel x.Taken y.Taken = some r := by
    rw [e2]
    by_cases h : x.Taken.length = y.Taken.length
    · rw [if_neg (by simp [h])]
      exact taken_total hf (by omega) h
    · rw [if_pos (by simp; omega)]; exact ⟨_, rfl⟩
  have ef : ∃ r, m_slices_EqualFunc_impl_DequeActor_impl_DequeActor_impl_DequeActor_impl_DequeActor fuel x.Actors y.Actors (fun y0 y1 => m_impl_SameDeque_c1 fuel y0 y1) = some r := by
    by_cases h : x.Actors.length = y.Actors.length
    · obtain ⟨r, _, h2⟩ := actors_two (x := x) (y := y) hf (by omega) h
      exact ⟨r, h2⟩
    · exact ⟨_, ea h⟩
  simp only [m_spec_SameDeque, m_spec_l23Same, m_impl_SameDeque, e1, h1, h2, Option.bind_some, q, bne, et]
  cases hA : (x.Top == y.Top) with
  | false => exact ⟨false, by simp, by simp⟩
  | true =>
    cases hB : (x.Bottom == y.Bottom) with
    | false => exact ⟨false, by simp, by simp⟩
    | true =>
      cases r1 with
      | false => exact ⟨false, by simp, by simp⟩
      | true =>
        obtain ⟨rm, hm⟩ := em
        obtain ⟨rf, hf'⟩ := ef
        cases r2 with
        | false =>
          refine ⟨false, by simp, ?_⟩
          rw [hm]
          cases rm <;> simp
        | true =>
          by_cases hC : x.Actors.length = y.Actors.length
          · by_cases hD : x.Taken.length = y.Taken.length
            · obtain ⟨r, h3, h4⟩ := actors_two (x := x) (y := y) hf (by omega) hC
              rw [e2, if_neg (by simp [hD])] at hm
              rw [e2, if_neg (by simp [hD]), h4]
              simp only [hC, hD, beq_self_eq_true, Bool.not_true, Bool.false_eq_true, if_false, if_true]
              unfold m_spec_l23Same_j1
              rw [if_neg Bool.false_ne_true, hm]
              rcases h3 with ⟨h3, rfl⟩ | ⟨h3, rfl⟩
              · rw [h3]
                refine ⟨rm, hm, ?_⟩
                cases rm <;> simp
              · rw [h3]
                refine ⟨false, rfl, ?_⟩
                cases rm <;> simp
            · have : m_slices_Equal_impl_Handed_impl_Handed fuel x.Taken y.Taken = some false := by rw [e2, if_pos (by simp; omega)]
              refine ⟨false, ?_, by rw [this]; simp⟩
              rw [t]
              simp [hC, show ¬ (x.Taken.length : Int) = y.Taken.length by omega, hD]
          · refine ⟨false, ?_, ?_⟩
            · simp [show ¬ (x.Actors.length : Int) = y.Actors.length by omega, et]
              try exact fun h => absurd h hC
            · rw [hm, ea hC]
              cases rm <;> simp
end

theorem lawSameDeque {x0 : D.Deque} {x1 : D.Deque} (h0 : D.Deque.wf x0) (h1 : D.Deque.wf x1) : ∃ fuel, m_laws_FnExactSameDeque fuel x0 x1 = some true := by
  obtain ⟨fuel, hf⟩ : ∃ n : Nat, 18446744073709551616 ≤ n := ⟨_, Nat.le_refl _⟩
  refine ⟨fuel, ?_⟩
  unfold m_laws_FnExactSameDeque
  obtain ⟨r0, e0, s0⟩ := szDeque_pure (l := (1048576 : Int)) hf h0 (by decide) (by omega)
  rw [e0, Option.bind_some]
  rcases s0 with s0 | ⟨s0, t0⟩
  · rw [if_pos (by simp [s0])]
  rw [if_neg (by simp [s0])]
  obtain ⟨r1, e1, s1⟩ := szDeque_pure (l := r0) hf h1 s0 (by omega)
  rw [e1, Option.bind_some]
  rcases s1 with s1 | ⟨s1, t1⟩
  · rw [if_pos (by simp [s1])]
  rw [if_neg (by simp [s1])]
  have z0 : D.Deque.sz x0 ≤ 1048576 := by omega
  have z1 : D.Deque.sz x1 ≤ 1048576 := by omega
  obtain ⟨q, a0, a1⟩ := same_SameDeque hf h0 h1 z0 z1
  simp only [Option.bind_some, a0, a1, toDeque_pure hf z0, eqDeque_pure hf z0, toDeque_pure hf z1, eqDeque_pure hf z1]
  simp
end Go.E
