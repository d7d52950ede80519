/- What the functions that size, copy and compare give on well formed data (written by program). Conditions: sizes within the law s own bound. -/
import Derived.Test.YtghfkejdmcpmhaaPure
import Derived.Test.YtghfkejdmcpmhaaFD
import Derived.Test.YtghfkejdmcpmhaaFDb
namespace Go.E
open Go.RowKit Go.Proofs
set_option linter.unusedSimpArgs false
set_option linter.unusedVariables false

theorem szInt64S_pure {fuel : Nat} {x : (List Int)} {l : Int} (hf : 18446744073709551616 ≤ fuel) (hw : WfL I64 x) (h0 : 0 ≤ l) (h1 : l ≤ 1048576) : SzOk (x.length) l (m_laws_szInt64S fuel x l) := by
  unfold m_laws_szInt64S
  generalize hz : w64 (l - (x.length : Int)) = z
  exact SzOk.sub2 h0 h1 hw.1 (m := 0) rfl hz fun g0 g1 => SzOk.same g0

theorem toInt64S_pure {fuel : Nat} {x : (List Int)} (hf : 18446744073709551616 ≤ fuel) (hs : x.length ≤ 1048576) : m_laws_toInt64S fuel x = some x := by
  have hl := hs
  unfold m_laws_toInt64S
  refine copy_loop hl hf (fun _ => rfl) ?_ ?_
  · intro i y out hy hl2
    have hi := (List.getElem?_eq_some_iff.1 hy).1
    have hsy : 0 ≤ 1048576 := Nat.zero_le _
    simp only [m_laws_toInt64S_b1, idx_at hy, Option.bind_some, lt_t (show (i : Int) < x.length by omega), if_true]
    rw [if_pos (by simp; omega)]
    simp
  · intro out
    simp [m_laws_toInt64S_b1]

theorem eqInt64S_pure {fuel : Nat} {x : (List Int)} (hf : 18446744073709551616 ≤ fuel) (hs : x.length ≤ 1048576) : m_laws_eqInt64S fuel x x = some true := by
  have hl := hs
  unfold m_laws_eqInt64S
  rw [if_neg (by simp)]
  refine count_loop (n := x.length) (t := ()) (by unfold maxLen; omega) hf rfl ?_ ?_
  · intro i hi
    obtain ⟨y, hy⟩ := at_lt hi
    have hsy : 0 ≤ 1048576 := Nat.zero_le _
    simp [m_laws_eqInt64S_b1, idx_at hy, hi, seqb_refl]
  · simp [m_laws_eqInt64S_b1]

def D.Handed.wf (x : D.Handed) : Prop := I64 x.Actor ∧ I64 x.Value ∧ True
def D.Handed.sz (x : D.Handed) : Nat := 0
theorem toHanded_pure {fuel : Nat} {x : D.Handed} (hf : 18446744073709551616 ≤ fuel) (hs : 0 ≤ 1048576) : m_laws_toHanded fuel x = some x := by
  skip
  unfold m_laws_toHanded
  rfl

theorem eqHanded_pure {fuel : Nat} {x : D.Handed} (hf : 18446744073709551616 ≤ fuel) (hs : 0 ≤ 1048576) : m_laws_eqHanded fuel x x = some true := by
  skip
  simp [m_laws_eqHanded, seqb_refl]

theorem szHandedS_pure {fuel : Nat} {x : (List D.Handed)} {l : Int} (hf : 18446744073709551616 ≤ fuel) (hw : WfL D.Handed.wf x) (h0 : 0 ≤ l) (h1 : l ≤ 1048576) : SzOk (x.length) l (m_laws_szHandedS fuel x l) := by
  unfold m_laws_szHandedS
  generalize hz : w64 (l - (x.length : Int)) = z
  exact SzOk.sub2 h0 h1 hw.1 (m := 0) rfl hz fun g0 g1 => SzOk.same g0

theorem toHandedS_pure {fuel : Nat} {x : (List D.Handed)} (hf : 18446744073709551616 ≤ fuel) (hs : x.length ≤ 1048576) : m_laws_toHandedS fuel x = some x := by
  have hl := hs
  unfold m_laws_toHandedS
  refine copy_loop hl hf (fun _ => rfl) ?_ ?_
  · intro i y out hy hl2
    have hi := (List.getElem?_eq_some_iff.1 hy).1
    have hsy : 0 ≤ 1048576 := Nat.zero_le _
    simp only [m_laws_toHandedS_b1, idx_at hy, Option.bind_some, lt_t (show (i : Int) < x.length by omega), if_true, toHanded_pure hf hsy]
    rw [if_pos (by simp; omega)]
    simp
  · intro out
    simp [m_laws_toHandedS_b1]

theorem eqHandedS_pure {fuel : Nat} {x : (List D.Handed)} (hf : 18446744073709551616 ≤ fuel) (hs : x.length ≤ 1048576) : m_laws_eqHandedS fuel x x = some true := by
  have hl := hs
  unfold m_laws_eqHandedS
  rw [if_neg (by simp)]
  refine count_loop (n := x.length) (t := ()) (by unfold maxLen; omega) hf rfl ?_ ?_
  · intro i hi
    obtain ⟨y, hy⟩ := at_lt hi
    have hsy : 0 ≤ 1048576 := Nat.zero_le _
    simp [m_laws_eqHandedS_b1, idx_at hy, hi, seqb_refl, eqHanded_pure hf hsy]
  · simp [m_laws_eqHandedS_b1]

def D.DequeActor.wf (x : D.DequeActor) : Prop := WfL I64 x.Todo ∧ I64 x.Pc ∧ I64 x.T ∧ I64 x.B ∧ I64 x.X ∧ True
def D.DequeActor.sz (x : D.DequeActor) : Nat := x.Todo.length + (0)
theorem szDequeActor_pure {fuel : Nat} {x : D.DequeActor} {l : Int} (hf : 18446744073709551616 ≤ fuel) (hw : D.DequeActor.wf x) (h0 : 0 ≤ l) (h1 : l ≤ 1048576) : SzOk (D.DequeActor.sz x) l (m_laws_szDequeActor fuel x l) := by
  obtain ⟨w0, w1, w2, w3, w4, _⟩ := hw
  unfold m_laws_szDequeActor D.DequeActor.sz
  refine SzOk.bind (szInt64S_pure hf w0 h0 (by omega)) rfl fun r1 g1a g1b => ?_
  exact SzOk.same g1a

theorem toDequeActor_pure {fuel : Nat} {x : D.DequeActor} (hf : 18446744073709551616 ≤ fuel) (hs : D.DequeActor.sz x ≤ 1048576) : m_laws_toDequeActor fuel x = some x := by
  unfold D.DequeActor.sz at hs
  unfold m_laws_toDequeActor
  simp only [toInt64S_pure hf (show x.Todo.length ≤ 1048576 by omega), Option.bind_some]

theorem eqDequeActor_pure {fuel : Nat} {x : D.DequeActor} (hf : 18446744073709551616 ≤ fuel) (hs : D.DequeActor.sz x ≤ 1048576) : m_laws_eqDequeActor fuel x x = some true := by
  unfold D.DequeActor.sz at hs
  simp [m_laws_eqDequeActor, seqb_refl, eqInt64S_pure hf (show x.Todo.length ≤ 1048576 by omega)]

theorem szDequeActorS_pure {fuel : Nat} {x : (List D.DequeActor)} {l : Int} (hf : 18446744073709551616 ≤ fuel) (hw : WfL D.DequeActor.wf x) (h0 : 0 ≤ l) (h1 : l ≤ 1048576) : SzOk (szL D.DequeActor.sz x) l (m_laws_szDequeActorS fuel x l) := by
  unfold m_laws_szDequeActorS
  generalize hz : w64 (l - (x.length : Int)) = z
  refine SzOk.sub2 h0 h1 hw.1 (m := sumL D.DequeActor.sz x) rfl hz fun g0 g1 => ?_
  refine SzOk.loop hw.1 hf g0 (by omega) (fun _ => rfl) ?_ ?_
  · intro i y l hy h0 h1
    have hi := (List.getElem?_eq_some_iff.1 hy).1
    have hwy := hw.2 y (List.mem_of_getElem? hy)
    obtain ⟨r, h2, h3⟩ := szDequeActor_pure hf hwy h0 h1
    simp only [m_laws_szDequeActorS_b1, idx_at hy, Option.bind_some, lt_t (show (i : Int) < x.length by omega), if_true, h2]
    by_cases hlt : r < 0
    · exact .inl (by simp only [lt_t hlt, if_true])
    · exact .inr ⟨r, by simp only [lt_f hlt, if_false], h3.resolve_left hlt⟩
  · intro l
    simp [m_laws_szDequeActorS_b1]

theorem toDequeActorS_pure {fuel : Nat} {x : (List D.DequeActor)} (hf : 18446744073709551616 ≤ fuel) (hs : szL D.DequeActor.sz x ≤ 1048576) : m_laws_toDequeActorS fuel x = some x := by
  have hl := szL_len hs
  unfold m_laws_toDequeActorS
  refine copy_loop hl hf (fun _ => rfl) ?_ ?_
  · intro i y out hy hl2
    have hi := (List.getElem?_eq_some_iff.1 hy).1
    have hsy : D.DequeActor.sz y ≤ 1048576 := szL_mem hs (List.mem_of_getElem? hy)
    simp only [m_laws_toDequeActorS_b1, idx_at hy, Option.bind_some, lt_t (show (i : Int) < x.length by omega), if_true, toDequeActor_pure hf hsy]
    rw [if_pos (by simp; omega)]
    simp
  · intro out
    simp [m_laws_toDequeActorS_b1]

theorem eqDequeActorS_pure {fuel : Nat} {x : (List D.DequeActor)} (hf : 18446744073709551616 ≤ fuel) (hs : szL D.DequeActor.sz x ≤ 1048576) : m_laws_eqDequeActorS fuel x x = some true := by
  have hl := szL_len hs
  unfold m_laws_eqDequeActorS
  rw [if_neg (by simp)]
  refine count_loop (n := x.length) (t := ()) (by unfold maxLen; omega) hf rfl ?_ ?_
  · intro i hi
    obtain ⟨y, hy⟩ := at_lt hi
    have hsy : D.DequeActor.sz y ≤ 1048576 := szL_mem hs (List.mem_of_getElem? hy)
    simp [m_laws_eqDequeActorS_b1, idx_at hy, hi, seqb_refl, eqDequeActor_pure hf hsy]
  · simp [m_laws_eqDequeActorS_b1]

def D.Deque.wf (x : D.Deque) : Prop := I64 x.Top ∧ I64 x.Bottom ∧ WfL I64 x.Buffer ∧ WfL D.DequeActor.wf x.Actors ∧ WfL D.Handed.wf x.Taken ∧ WfL I64 x.Refused ∧ True
def D.Deque.sz (x : D.Deque) : Nat := x.Buffer.length + (szL D.DequeActor.sz x.Actors + (x.Taken.length + (x.Refused.length + (0))))
theorem szDeque_pure {fuel : Nat} {x : D.Deque} {l : Int} (hf : 18446744073709551616 ≤ fuel) (hw : D.Deque.wf x) (h0 : 0 ≤ l) (h1 : l ≤ 1048576) : SzOk (D.Deque.sz x) l (m_laws_szDeque fuel x l) := by
  obtain ⟨w0, w1, w2, w3, w4, w5, _⟩ := hw
  unfold m_laws_szDeque D.Deque.sz
  refine SzOk.bind (szInt64S_pure hf w2 h0 (by omega)) rfl fun r1 g1a g1b => ?_
  refine SzOk.bind (szDequeActorS_pure hf w3 g1a (by omega)) rfl fun r2 g2a g2b => ?_
  refine SzOk.bind (szHandedS_pure hf w4 g2a (by omega)) rfl fun r3 g3a g3b => ?_
  refine SzOk.bind (szInt64S_pure hf w5 g3a (by omega)) rfl fun r4 g4a g4b => ?_
  exact SzOk.same g4a

theorem toDeque_pure {fuel : Nat} {x : D.Deque} (hf : 18446744073709551616 ≤ fuel) (hs : D.Deque.sz x ≤ 1048576) : m_laws_toDeque fuel x = some x := by
  unfold D.Deque.sz at hs
  unfold m_laws_toDeque
  simp only [toInt64S_pure hf (show x.Buffer.length ≤ 1048576 by omega), toDequeActorS_pure hf (show szL D.DequeActor.sz x.Actors ≤ 1048576 by omega), toHandedS_pure hf (show x.Taken.length ≤ 1048576 by omega), toInt64S_pure hf (show x.Refused.length ≤ 1048576 by omega), Option.bind_some]

theorem eqDeque_pure {fuel : Nat} {x : D.Deque} (hf : 18446744073709551616 ≤ fuel) (hs : D.Deque.sz x ≤ 1048576) : m_laws_eqDeque fuel x x = some true := by
  unfold D.Deque.sz at hs
  simp [m_laws_eqDeque, seqb_refl, eqInt64S_pure hf (show x.Buffer.length ≤ 1048576 by omega), eqDequeActorS_pure hf (show szL D.DequeActor.sz x.Actors ≤ 1048576 by omega), eqHandedS_pure hf (show x.Taken.length ≤ 1048576 by omega), eqInt64S_pure hf (show x.Refused.length ≤ 1048576 by omega)]

theorem opens2 : Opens Try.prog 2 tInt I64 := Opens.int Try.underlying2 (by kernel_rfl)
theorem opens72 : Opens Try.prog 72 ty72 (WfL I64) := Opens.sl Try.underlying72 (by kernel_rfl) opens2
set_option maxRecDepth 100000 in
theorem opens246 : Opens Try.prog 246 ty246 D.DequeActor.wf := Opens.struct (f := fun c : D.DequeActor => (c.Todo, c.Pc, c.T, c.B, c.X, ())) Try.underlying246 (by kernel_rfl) (OpensF.cons opens72 rfl rfl (OpensF.cons opens2 rfl rfl (OpensF.cons opens2 rfl rfl (OpensF.cons opens2 rfl rfl (OpensF.cons opens2 rfl rfl OpensF.nil))))) (fun ⟨a0, a1, a2, a3, a4, _⟩ => ⟨⟨a0, a1, a2, a3, a4⟩, rfl⟩)
theorem opens103 : Opens Try.prog 103 ty103 (WfL D.DequeActor.wf) := Opens.sl Try.underlying103 (by kernel_rfl) opens246
set_option maxRecDepth 100000 in
theorem opens252 : Opens Try.prog 252 ty252 D.Handed.wf := Opens.struct (f := fun c : D.Handed => (c.Actor, c.Value, ())) Try.underlying252 (by kernel_rfl) (OpensF.cons opens2 rfl rfl (OpensF.cons opens2 rfl rfl OpensF.nil)) (fun ⟨a0, a1, _⟩ => ⟨⟨a0, a1⟩, rfl⟩)
theorem opens104 : Opens Try.prog 104 ty104 (WfL D.Handed.wf) := Opens.sl Try.underlying104 (by kernel_rfl) opens252
set_option maxRecDepth 100000 in
theorem opens106 : Opens Try.prog 106 ty106 D.Deque.wf := Opens.struct (f := fun c : D.Deque => (c.Top, c.Bottom, c.Buffer, c.Actors, c.Taken, c.Refused, ())) Try.underlying106 (by kernel_rfl) (OpensF.cons opens2 rfl rfl (OpensF.cons opens2 rfl rfl (OpensF.cons opens72 rfl rfl (OpensF.cons opens103 rfl rfl (OpensF.cons opens104 rfl rfl (OpensF.cons opens72 rfl rfl OpensF.nil)))))) (fun ⟨a0, a1, a2, a3, a4, a5, _⟩ => ⟨⟨a0, a1, a2, a3, a4, a5⟩, rfl⟩)
end Go.E
