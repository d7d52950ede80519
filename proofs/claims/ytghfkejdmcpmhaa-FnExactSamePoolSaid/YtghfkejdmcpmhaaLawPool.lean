/- SamePool: the functions that compare memories, workers and pools, each, of the program and of the reference, say whether the two are equal; the plain law. Conditions: the arguments are well formed. -/
import Derived.Test.YtghfkejdmcpmhaaSizesP
import Derived.Test.YtghfkejdmcpmhaaLoops
namespace Go.E
open Go.RowKit Go.Proofs
set_option linter.unusedSimpArgs false
set_option linter.unusedVariables false

theorem D.Word.eqb (a b : D.Word) : ((a.Tag == b.Tag) && ((a.At == b.At) && true)) = decide (a = b) := by
  cases a; cases b; rw [Bool.eq_iff_iff]; simp
theorem D.Pair.eqb (a b : D.Pair) : ((a.A == b.A) && ((a.B == b.B) && true)) = decide (a = b) := by
  cases a; cases b; rw [Bool.eq_iff_iff]; simp
theorem D.Link.eqb (a b : D.Link) : (decide (a.A = b.A) && (decide (a.B = b.B) && true)) = decide (a = b) := by
  cases a; cases b; rw [Bool.eq_iff_iff]; simp

section
variable {fuel : Nat} (hf : 18446744073709551616 ≤ fuel)
include hf

theorem l00Same_eq {x y : List Int} (hl : x.length ≤ maxLen) : m_spec_l00Same fuel x y = some (decide (x = y)) := by
  unfold m_spec_l00Same
  refine eqWhole (t := ()) hl hf rfl (fun i a b hi ha hb => ?_) (by simp [m_spec_l00Same_b1])
  simp only [m_spec_l00Same_b1, idx_at ha, idx_at hb, Option.bind_some, lt_t (show (i : Int) < x.length by omega), if_true]
  by_cases h : a = b <;> simp [h]
theorem Equal_int64_eq {x y : List Int} (hl : x.length ≤ maxLen) : m_slices_Equal_int64_int64 fuel x y = some (decide (x = y)) := l00Same_eq hf hl

theorem Equal_Word_eq {x y : List D.Word} (hl : x.length ≤ maxLen) : m_slices_Equal_impl_Word_impl_Word fuel x y = some (decide (x = y)) := by
  unfold m_slices_Equal_impl_Word_impl_Word
  refine eqWhole (t := ()) hl hf rfl (fun i a b hi ha hb => ?_) (by simp [m_slices_Equal_impl_Word_impl_Word_b1])
  simp only [m_slices_Equal_impl_Word_impl_Word_b1, idx_at ha, idx_at hb, Option.bind_some, lt_t (show (i : Int) < x.length by omega), if_true, D.Word.eqb]
  by_cases h : a = b <;> simp [h]
theorem Equal_Pair_eq {x y : List D.Pair} (hl : x.length ≤ maxLen) : m_slices_Equal_impl_Pair_impl_Pair fuel x y = some (decide (x = y)) := by
  unfold m_slices_Equal_impl_Pair_impl_Pair
  refine eqWhole (t := ()) hl hf rfl (fun i a b hi ha hb => ?_) (by simp [m_slices_Equal_impl_Pair_impl_Pair_b1])
  simp only [m_slices_Equal_impl_Pair_impl_Pair_b1, idx_at ha, idx_at hb, Option.bind_some, lt_t (show (i : Int) < x.length by omega), if_true, D.Pair.eqb]
  by_cases h : a = b <;> simp [h]
theorem Equal_Link_eq {x y : List D.Link} (hl : x.length ≤ maxLen) : m_slices_Equal_impl_Link_impl_Link fuel x y = some (decide (x = y)) := by
  unfold m_slices_Equal_impl_Link_impl_Link
  refine eqWhole (t := ()) hl hf rfl (fun i a b hi ha hb => ?_) (by simp [m_slices_Equal_impl_Link_impl_Link_b1])
  simp only [m_slices_Equal_impl_Link_impl_Link_b1, idx_at ha, idx_at hb, Option.bind_some, lt_t (show (i : Int) < x.length by omega), if_true, D.Word.eqb, D.Link.eqb]
  by_cases h : a = b <;> simp [h]

omit hf in
/-- a test of lengths under the machine's integers -/
theorem ne_len {α : Type} {x y : List α} (h : ¬ x.length = y.length) : ((x.length : Int) != (y.length : Int)) = true := by simp; omega

theorem l21SameCell_eq {x y : D.Cell} (hw : x.wf) : m_spec_l21SameCell fuel x y = some (decide (x = y)) := by
  have hd : x.Data.length ≤ maxLen := by obtain ⟨h1, h2, h3, h4, h5, _⟩ := hw; first | exact h4.1 | exact h5.1 | exact h3.1
  have hwd : x.Words.length ≤ maxLen := by obtain ⟨h1, h2, h3, h4, h5, _⟩ := hw; first | exact h5.1 | exact h4.1 | exact h3.1
  have e1 : x.Words.length = y.Words.length → m_spec_l21SameCell_j1 fuel x y false = if x.Words = y.Words then some true else some false := fun he => by
    unfold m_spec_l21SameCell_j1
    rw [if_neg Bool.false_ne_true]
    exact eqThen (t := ()) (j := m_spec_l21SameCell_j2 fuel) hwd hf he (fun i a b hi ha hb => by
      simp only [m_spec_l21SameCell_b1, idx_at ha, idx_at hb, Option.bind_some, lt_t (show (i : Int) < x.Words.length by omega), if_true, D.Word.eqb]
      by_cases h : a = b <;> simp [h]) (by simp [m_spec_l21SameCell_b1])
  have et : m_spec_l21SameCell_j1 fuel x y true = some false := rfl
  have key : (x = y) ↔ (x.Kind = y.Kind ∧ x.Level = y.Level ∧ x.Value = y.Value ∧ x.Data = y.Data ∧ x.Words = y.Words) := by cases x; cases y; simp
  simp only [m_spec_l21SameCell, l00Same_eq hf hd, Option.bind_some, et]
  by_cases c1 : x.Kind = y.Kind <;> by_cases c2 : x.Level = y.Level <;> by_cases c3 : x.Value = y.Value <;> by_cases c4 : x.Data = y.Data <;> (try (simp [key, c1, c2, c3, c4]; done))
  by_cases c5 : x.Words.length = y.Words.length
  · simp only [c5, bne_self_eq_false, e1 c5, key, c1, c2, c3, c4, decide_true, Bool.not_true, Bool.false_eq_true, if_false, true_and]
    by_cases d : x.Words = y.Words <;> simp [d]
  · rw [ne_len c5, et, decide_eq_false (show ¬ x = y from fun h => c5 (by rw [h]))]
    simp [c1, c2, c3, c4]

theorem sameCell_eq {x y : D.Cell} (hw : x.wf) : m_impl_sameCell fuel x y = some (decide (x = y)) := by
  have hd : x.Data.length ≤ maxLen := by obtain ⟨h1, h2, h3, h4, h5, _⟩ := hw; first | exact h4.1 | exact h5.1 | exact h3.1
  have hwd : x.Words.length ≤ maxLen := by obtain ⟨h1, h2, h3, h4, h5, _⟩ := hw; first | exact h5.1 | exact h4.1 | exact h3.1
  simp only [m_impl_sameCell, Equal_int64_eq hf hd, Equal_Word_eq hf hwd, Option.bind_some]
  cases x; cases y
  simp only [D.Cell.mk.injEq]
  repeat' split
  all_goals simp_all

theorem EqualFunc_Cell_eq {x y : List D.Cell} (hw : WfL D.Cell.wf x) : m_slices_EqualFunc_impl_Cell_impl_Cell_impl_Cell_impl_Cell fuel x y (fun y0 y1 => m_impl_sameCell fuel y0 y1) = some (decide (x = y)) := by
  unfold m_slices_EqualFunc_impl_Cell_impl_Cell_impl_Cell_impl_Cell
  refine eqWhole (t := ()) hw.1 hf rfl (fun i a b hi ha hb => ?_) (by simp [m_slices_EqualFunc_impl_Cell_impl_Cell_impl_Cell_impl_Cell_b1])
  simp only [m_slices_EqualFunc_impl_Cell_impl_Cell_impl_Cell_impl_Cell_b1, idx_at ha, idx_at hb, Option.bind_some, lt_t (show (i : Int) < x.length by omega), if_true, sameCell_eq hf (hw.2 a (List.mem_of_getElem? ha))]
  by_cases h : a = b <;> simp [h]

theorem SameMemory_eq {x y : D.Memory} (hw : x.wf) : m_impl_SameMemory fuel x y = some (decide (x = y)) := by
  obtain ⟨h1, h2, h3, h4, _⟩ := hw
  simp only [m_impl_SameMemory, EqualFunc_Cell_eq hf h1, Equal_Pair_eq hf h4.1, D.Word.eqb, Option.bind_some]
  cases x; cases y
  simp only [D.Memory.mk.injEq]
  repeat' split
  all_goals simp_all

theorem l21Same_eq {x y : D.Memory} (hw : x.wf) : m_spec_l21Same fuel x y = some (decide (x = y)) := by
  have hw' := hw
  obtain ⟨h1, h2, h3, h4, _⟩ := hw'
  have e2 : x.Redexes.length = y.Redexes.length → m_spec_l21Same_j2 fuel x y () = if x.Redexes = y.Redexes then some true else some false := fun he => by
    unfold m_spec_l21Same_j2
    exact eqThen (t := ()) (j := m_spec_l21Same_j3 fuel) h4.1 hf he (fun i a b hi ha hb => by
      simp only [m_spec_l21Same_b2, idx_at ha, idx_at hb, Option.bind_some, lt_t (show (i : Int) < x.Redexes.length by omega), if_true, D.Pair.eqb]
      by_cases h : a = b <;> simp [h]) (by simp [m_spec_l21Same_b2])
  have e1 : x.Cells.length = y.Cells.length → m_spec_l21Same_j1 fuel x y false = if x.Cells = y.Cells then m_spec_l21Same_j2 fuel x y () else some false := fun he => by
    unfold m_spec_l21Same_j1
    rw [if_neg Bool.false_ne_true]
    exact eqThen (t := ()) h1.1 hf he (fun i a b hi ha hb => by
      simp only [m_spec_l21Same_b1, idx_at ha, idx_at hb, Option.bind_some, lt_t (show (i : Int) < x.Cells.length by omega), if_true, l21SameCell_eq hf (h1.2 a (List.mem_of_getElem? ha))]
      by_cases h : a = b <;> simp [h]) (by simp [m_spec_l21Same_b1])
  have et : m_spec_l21Same_j1 fuel x y true = some false := rfl
  have key : (x = y) ↔ (x.Free = y.Free ∧ x.Root = y.Root ∧ x.Cells = y.Cells ∧ x.Redexes = y.Redexes) := by
    cases x; cases y; simp; constructor
    · rintro ⟨a, b, c, d⟩; exact ⟨b, c, a, d⟩
    · rintro ⟨b, c, a, d⟩; exact ⟨a, b, c, d⟩
  simp only [m_spec_l21Same, D.Word.eqb, et]
  by_cases c0 : x.Cells.length = y.Cells.length
  · by_cases c1 : x.Free = y.Free <;> by_cases c2 : x.Root = y.Root <;> (try (simp [key, c0, c1, c2]; done))
    by_cases c5 : x.Redexes.length = y.Redexes.length
    · simp only [c0, c5, bne_self_eq_false, e1 c0, e2 c5, key, c1, c2, decide_true, Bool.not_true, Bool.false_eq_true, if_false, true_and]
      by_cases d : x.Cells = y.Cells <;> by_cases d2 : x.Redexes = y.Redexes <;> simp [d, d2]
    · rw [ne_len c5, et, decide_eq_false (show ¬ x = y from fun h => c5 (by rw [h]))]
      simp [c0, c1, c2]
  · rw [ne_len c0, decide_eq_false (show ¬ x = y from fun h => c0 (by rw [h])), if_pos rfl]

theorem l24SameWorker_eq {x y : D.Worker} (hw : x.wf) : m_spec_l24SameWorker fuel x y = some (decide (x = y)) := by
  have hr : x.Redexes.length ≤ maxLen := by obtain ⟨h1, h2, h3, h4, h5, _⟩ := hw; first | exact h1.1 | exact h2.1 | exact h3.1 | exact h4.1 | exact h5.1
  have hk : x.Links.length ≤ maxLen := by obtain ⟨h1, h2, h3, h4, h5, _⟩ := hw; first | exact h1.1 | exact h2.1 | exact h3.1 | exact h4.1 | exact h5.1
  have hc : x.Counts.length ≤ maxLen := by obtain ⟨h1, h2, h3, h4, h5, _⟩ := hw; first | exact h1.1 | exact h2.1 | exact h3.1 | exact h4.1 | exact h5.1
  have e2 : x.Links.length = y.Links.length → m_spec_l24SameWorker_j2 fuel x y () = if x.Links = y.Links then some true else some false := fun he => by
    unfold m_spec_l24SameWorker_j2
    exact eqThen (t := ()) (j := m_spec_l24SameWorker_j3 fuel) hk hf he (fun i a b hi ha hb => by
      simp only [m_spec_l24SameWorker_b2, idx_at ha, idx_at hb, Option.bind_some, lt_t (show (i : Int) < x.Links.length by omega), if_true, D.Word.eqb, D.Link.eqb]
      by_cases h : a = b <;> simp [h]) (by simp [m_spec_l24SameWorker_b2])
  have e1 : x.Redexes.length = y.Redexes.length → m_spec_l24SameWorker_j1 fuel x y false = if x.Redexes = y.Redexes then m_spec_l24SameWorker_j2 fuel x y () else some false := fun he => by
    unfold m_spec_l24SameWorker_j1
    rw [if_neg Bool.false_ne_true]
    exact eqThen (t := ()) hr hf he (fun i a b hi ha hb => by
      simp only [m_spec_l24SameWorker_b1, idx_at ha, idx_at hb, Option.bind_some, lt_t (show (i : Int) < x.Redexes.length by omega), if_true, D.Pair.eqb]
      by_cases h : a = b <;> simp [h]) (by simp [m_spec_l24SameWorker_b1])
  have et : m_spec_l24SameWorker_j1 fuel x y true = some false := rfl
  have key : (x = y) ↔ (x.Phase = y.Phase ∧ x.Victim = y.Victim ∧ x.Counts = y.Counts ∧ x.Redexes = y.Redexes ∧ x.Links = y.Links) := by
    cases x; cases y; simp only [D.Worker.mk.injEq]; constructor <;> (intro h; simp_all)
  simp only [m_spec_l24SameWorker, l00Same_eq hf hc, Option.bind_some, et]
  by_cases c1 : x.Phase = y.Phase <;> by_cases c2 : x.Victim = y.Victim <;> by_cases c3 : x.Counts = y.Counts <;> (try (simp [key, c1, c2, c3]; done))
  by_cases c0 : x.Redexes.length = y.Redexes.length
  · by_cases c5 : x.Links.length = y.Links.length
    · simp only [c0, c5, bne_self_eq_false, e1 c0, e2 c5, key, c1, c2, c3, decide_true, Bool.not_true, Bool.false_eq_true, if_false, true_and]
      by_cases d : x.Redexes = y.Redexes <;> by_cases d2 : x.Links = y.Links <;> simp [d, d2]
    · rw [ne_len c5, et, decide_eq_false (show ¬ x = y from fun h => c5 (by rw [h]))]
      simp [c0, c1, c2, c3]
  · rw [ne_len c0, decide_eq_false (show ¬ x = y from fun h => c0 (by rw [h]))]
    simp [c1, c2, c3]

theorem SamePool_c1_eq {x y : D.Worker} (hw : x.wf) : m_impl_SamePool_c1 fuel x y = some (decide (x = y)) := by
  have hr : x.Redexes.length ≤ maxLen := by obtain ⟨h1, h2, h3, h4, h5, _⟩ := hw; first | exact h1.1 | exact h2.1 | exact h3.1 | exact h4.1 | exact h5.1
  have hk : x.Links.length ≤ maxLen := by obtain ⟨h1, h2, h3, h4, h5, _⟩ := hw; first | exact h1.1 | exact h2.1 | exact h3.1 | exact h4.1 | exact h5.1
  have hc : x.Counts.length ≤ maxLen := by obtain ⟨h1, h2, h3, h4, h5, _⟩ := hw; first | exact h1.1 | exact h2.1 | exact h3.1 | exact h4.1 | exact h5.1
  simp only [m_impl_SamePool_c1, Equal_Pair_eq hf hr, Equal_Link_eq hf hk, Equal_int64_eq hf hc, Option.bind_some]
  cases x; cases y
  simp only [D.Worker.mk.injEq]
  repeat' split
  all_goals simp_all

theorem EqualFunc_Worker_eq {x y : List D.Worker} (hw : WfL D.Worker.wf x) : m_slices_EqualFunc_impl_Worker_impl_Worker_impl_Worker_impl_Worker fuel x y (fun y0 y1 => m_impl_SamePool_c1 fuel y0 y1) = some (decide (x = y)) := by
  unfold m_slices_EqualFunc_impl_Worker_impl_Worker_impl_Worker_impl_Worker
  refine eqWhole (t := ()) hw.1 hf rfl (fun i a b hi ha hb => ?_) (by simp [m_slices_EqualFunc_impl_Worker_impl_Worker_impl_Worker_impl_Worker_b1])
  simp only [m_slices_EqualFunc_impl_Worker_impl_Worker_impl_Worker_impl_Worker_b1, idx_at ha, idx_at hb, Option.bind_some, lt_t (show (i : Int) < x.length by omega), if_true, SamePool_c1_eq hf (hw.2 a (List.mem_of_getElem? ha))]
  by_cases h : a = b <;> simp [h]

theorem impl_SamePool_eq {x y : D.Pool} (hw : x.wf) : m_impl_SamePool fuel x y = some (decide (x = y)) := by
  have hm : x.Memory.wf := by obtain ⟨h1, h2, h3, _⟩ := hw; first | exact h1 | exact h2 | exact h3
  have hk : WfL D.Worker.wf x.Workers := by obtain ⟨h1, h2, h3, _⟩ := hw; first | exact h1 | exact h2 | exact h3
  simp only [m_impl_SamePool, SameMemory_eq hf hm, EqualFunc_Worker_eq hf hk, Option.bind_some]
  cases x; cases y
  simp only [D.Pool.mk.injEq]
  repeat' split
  all_goals simp_all

theorem SamePool_eq {x y : D.Pool} (hw : x.wf) : m_spec_SamePool fuel x y = some (decide (x = y)) := by
  have hm : x.Memory.wf := by obtain ⟨h1, h2, h3, _⟩ := hw; first | exact h1 | exact h2 | exact h3
  have hk : WfL D.Worker.wf x.Workers := by obtain ⟨h1, h2, h3, _⟩ := hw; first | exact h1 | exact h2 | exact h3
  have e := l21Same_eq hf (y := y.Memory) hm
  have e' : m_spec_l21Same fuel ⟨x.Memory.Cells, x.Memory.Free, ⟨x.Memory.Root.Tag, x.Memory.Root.At⟩, x.Memory.Redexes⟩ ⟨y.Memory.Cells, y.Memory.Free, ⟨y.Memory.Root.Tag, y.Memory.Root.At⟩, y.Memory.Redexes⟩ = some (decide (x.Memory = y.Memory)) := e
  have e1 : x.Workers.length = y.Workers.length → m_spec_l24Same_j1 fuel x y false = if x.Workers = y.Workers then some true else some false := fun he => by
    unfold m_spec_l24Same_j1
    rw [if_neg Bool.false_ne_true]
    exact eqThen (t := ()) (j := m_spec_l24Same_j2 fuel) hk.1 hf he (fun i a b hi ha hb => by
      simp only [m_spec_l24Same_b1, idx_at ha, idx_at hb, Option.bind_some, lt_t (show (i : Int) < x.Workers.length by omega), if_true, l24SameWorker_eq hf (hk.2 a (List.mem_of_getElem? ha))]
      by_cases h : a = b <;> simp [h]) (by simp [m_spec_l24Same_b1])
  have et : m_spec_l24Same_j1 fuel x y true = some false := rfl
  have key : (x = y) ↔ (x.Active = y.Active ∧ x.Memory = y.Memory ∧ x.Workers = y.Workers) := by
    cases x; cases y; simp only [D.Pool.mk.injEq]; constructor <;> (intro h; simp_all)
  simp only [m_spec_SamePool, m_spec_l24Same, e', Option.bind_some, et]
  by_cases c1 : x.Active = y.Active <;> (try (simp [key, c1]; done))
  by_cases c0 : x.Workers.length = y.Workers.length
  · by_cases c2 : x.Memory = y.Memory
    · simp only [c0, c1, c2, bne_self_eq_false, decide_true, Bool.not_true, Bool.false_eq_true, if_false, e1 c0, key, true_and]
      by_cases d : x.Workers = y.Workers <;> simp [d]
    · simp [c0, c1, c2, key, et]
  · rw [ne_len c0, decide_eq_false (show ¬ x = y from fun h => c0 (by rw [h]))]
    simp [c1]

theorem same_SamePool {x y : D.Pool} (hw : x.wf) (hv : y.wf) (hs : x.sz ≤ 1048576) (hz : y.sz ≤ 1048576) : ∃ r, m_spec_SamePool fuel x y = some r ∧ m_impl_SamePool fuel x y = some r := ⟨_, SamePool_eq hf hw, impl_SamePool_eq hf hw⟩
end

theorem lawSamePool {x0 : D.Pool} {x1 : D.Pool} (h0 : D.Pool.wf x0) (h1 : D.Pool.wf x1) : ∃ fuel, m_laws_FnExactSamePool fuel x0 x1 = some true := by
  obtain ⟨fuel, hf⟩ : ∃ n : Nat, 18446744073709551616 ≤ n := ⟨_, Nat.le_refl _⟩
  refine ⟨fuel, ?_⟩
  unfold m_laws_FnExactSamePool
  obtain ⟨r0, e0, s0⟩ := szPool_pure (l := (1048576 : Int)) hf h0 (by decide) (by omega)
  rw [e0, Option.bind_some]
  rcases s0 with s0 | ⟨s0, t0⟩
  · rw [if_pos (by simp [s0])]
  rw [if_neg (by simp [s0])]
  obtain ⟨r1, e1, s1⟩ := szPool_pure (l := r0) hf h1 s0 (by omega)
  rw [e1, Option.bind_some]
  rcases s1 with s1 | ⟨s1, t1⟩
  · rw [if_pos (by simp [s1])]
  rw [if_neg (by simp [s1])]
  have z0 : D.Pool.sz x0 ≤ 1048576 := by omega
  have z1 : D.Pool.sz x1 ≤ 1048576 := by omega
  obtain ⟨q, a0, a1⟩ := same_SamePool hf h0 h1 z0 z1
  simp only [Option.bind_some, a0, a1, toPool_pure hf z0, eqPool_pure hf z0, toPool_pure hf z1, eqPool_pure hf z1]
  simp
end Go.E
