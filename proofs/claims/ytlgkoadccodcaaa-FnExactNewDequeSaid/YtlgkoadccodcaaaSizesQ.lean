/- What the functions that size, copy and compare give on well formed data (written by program). Conditions: sizes within the law s own bound. -/
import Derived.Test.YtlgkoadccodcaaaPure
import Derived.Test.YtlgkoadccodcaaaFQ
namespace Go.E
open Go.RowKit Go.Proofs
set_option linter.unusedSimpArgs false
set_option linter.unusedVariables false

theorem toInt64S_pure {fuel : Nat} {x : (List Int)} (hf : 18446744073709551616 ≤ fuel) (hs : x.length ≤ 1048576) : m_laws_toInt64S fuel x = some x := by
  have hl := hs
  unfold m_laws_toInt64S
  refine copy_loop hl hf (fun _ => rfl) ?_ ?_
  · intro i y out hy hl2
    have hi := (List.getElem?_eq_some_iff.1 hy).1
    have hsy : 0 ≤ 1048576 := Nat.zero_le _
    simp only [m_laws_toInt64S_b1, idx_at hy, Option.bind_some, lt_t (show (i : Int) < x.length by omega), if_true]
    rw [if_pos (by simp; omega)]
    simp
  · intro out
    simp [m_laws_toInt64S_b1]

theorem eqInt64S_pure {fuel : Nat} {x : (List Int)} (hf : 18446744073709551616 ≤ fuel) (hs : x.length ≤ 1048576) : m_laws_eqInt64S fuel x x = some true := by
  have hl := hs
  unfold m_laws_eqInt64S
  rw [if_neg (by simp)]
  refine count_loop (n := x.length) (t := ()) (by unfold maxLen; omega) hf rfl ?_ ?_
  · intro i hi
    obtain ⟨y, hy⟩ := at_lt hi
    have hsy : 0 ≤ 1048576 := Nat.zero_le _
    simp [m_laws_eqInt64S_b1, idx_at hy, hi, seqb_refl]
  · simp [m_laws_eqInt64S_b1]

def D.Handed.wf (x : D.Handed) : Prop := I64 x.Actor ∧ I64 x.Value ∧ True
def D.Handed.sz (x : D.Handed) : Nat := 0
theorem eqHanded_pure {fuel : Nat} {x : D.Handed} (hf : 18446744073709551616 ≤ fuel) (hs : 0 ≤ 1048576) : m_laws_eqHanded fuel x x = some true := by
  skip
  simp [m_laws_eqHanded, seqb_refl]

theorem eqHandedS_pure {fuel : Nat} {x : (List D.Handed)} (hf : 18446744073709551616 ≤ fuel) (hs : x.length ≤ 1048576) : m_laws_eqHandedS fuel x x = some true := by
  have hl := hs
  unfold m_laws_eqHandedS
  rw [if_neg (by simp)]
  refine count_loop (n := x.length) (t := ()) (by unfold maxLen; omega) hf rfl ?_ ?_
  · intro i hi
    obtain ⟨y, hy⟩ := at_lt hi
    have hsy : 0 ≤ 1048576 := Nat.zero_le _
    simp [m_laws_eqHandedS_b1, idx_at hy, hi, seqb_refl, eqHanded_pure hf hsy]
  · simp [m_laws_eqHandedS_b1]

def D.DequeActor.wf (x : D.DequeActor) : Prop := WfL I64 x.Todo ∧ I64 x.Pc ∧ I64 x.T ∧ I64 x.B ∧ I64 x.X ∧ True
def D.DequeActor.sz (x : D.DequeActor) : Nat := x.Todo.length + (0)
theorem eqDequeActor_pure {fuel : Nat} {x : D.DequeActor} (hf : 18446744073709551616 ≤ fuel) (hs : D.DequeActor.sz x ≤ 1048576) : m_laws_eqDequeActor fuel x x = some true := by
  unfold D.DequeActor.sz at hs
  simp [m_laws_eqDequeActor, seqb_refl, eqInt64S_pure hf (show x.Todo.length ≤ 1048576 by omega)]

theorem eqDequeActorS_pure {fuel : Nat} {x : (List D.DequeActor)} (hf : 18446744073709551616 ≤ fuel) (hs : szL D.DequeActor.sz x ≤ 1048576) : m_laws_eqDequeActorS fuel x x = some true := by
  have hl := szL_len hs
  unfold m_laws_eqDequeActorS
  rw [if_neg (by simp)]
  refine count_loop (n := x.length) (t := ()) (by unfold maxLen; omega) hf rfl ?_ ?_
  · intro i hi
    obtain ⟨y, hy⟩ := at_lt hi
    have hsy : D.DequeActor.sz y ≤ 1048576 := szL_mem hs (List.mem_of_getElem? hy)
    simp [m_laws_eqDequeActorS_b1, idx_at hy, hi, seqb_refl, eqDequeActor_pure hf hsy]
  · simp [m_laws_eqDequeActorS_b1]

def D.Deque.wf (x : D.Deque) : Prop := I64 x.Top ∧ I64 x.Bottom ∧ WfL I64 x.Buffer ∧ WfL D.DequeActor.wf x.Actors ∧ WfL D.Handed.wf x.Taken ∧ WfL I64 x.Refused ∧ True
def D.Deque.sz (x : D.Deque) : Nat := x.Buffer.length + (szL D.DequeActor.sz x.Actors + (x.Taken.length + (x.Refused.length + (0))))
theorem eqDeque_pure {fuel : Nat} {x : D.Deque} (hf : 18446744073709551616 ≤ fuel) (hs : D.Deque.sz x ≤ 1048576) : m_laws_eqDeque fuel x x = some true := by
  unfold D.Deque.sz at hs
  simp [m_laws_eqDeque, seqb_refl, eqInt64S_pure hf (show x.Buffer.length ≤ 1048576 by omega), eqDequeActorS_pure hf (show szL D.DequeActor.sz x.Actors ≤ 1048576 by omega), eqHandedS_pure hf (show x.Taken.length ≤ 1048576 by omega), eqInt64S_pure hf (show x.Refused.length ≤ 1048576 by omega)]

theorem opens2 : Opens Try.prog 2 tInt I64 := Opens.int Try.underlying2 (by kernel_rfl)
theorem opens22 : Opens Try.prog 22 ty22 (WfL I64) := Opens.sl Try.underlying22 (by kernel_rfl) opens2
end Go.E
