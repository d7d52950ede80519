/- What the functions that mark data and look for the marks give (written by program). Conditions: counts stay small. -/
import Derived.Test.YtlgkoadccodcaaaMark
import Derived.Test.YtlgkoadccodcaaaSizesQ
import Derived.Test.YtlgkoadccodcaaaFQ
namespace Go.E
open Go.RowKit Go.Proofs
set_option linter.unusedSimpArgs false
set_option linter.unusedVariables false

def elInt64S (fuel : Nat) (x : Int) (k : Int) : Int := k
def ecInt64S (x : Int) : Nat := 1
def mkInt64S (fuel : Nat) (xs : List Int) (k : Int) : List Int := markL (elInt64S fuel) ecInt64S xs k
def ctInt64S (xs : List Int) : Nat := sumL ecInt64S xs
theorem markInt64S_pure {fuel : Nat} {xs : List Int} {k : Int} (hf : 18446744073709551616 ≤ fuel) (hl : xs.length ≤ 1048576) (h0 : 0 ≤ k) (h1 : k + (ctInt64S xs : Nat) ≤ 2147483648) : m_laws_markInt64S fuel xs k = some (k + (ctInt64S xs : Nat), mkInt64S fuel xs k) := by
  unfold m_laws_markInt64S
  rw [mark_loop (f := elInt64S fuel) (c := ecInt64S) (xs := xs) (k := k) (by have := hl; omega) hf h0 h1 ?_ ?_]
  · rfl
  · intro i x ys k hi hl2 hx hm h0 h1
    unfold ecInt64S at h1
    unfold m_laws_markInt64S_b1 elInt64S ecInt64S
    rw [if_pos (decide_eq_true (show (i : Int) < xs.length by omega))]
    rw [if_pos (decide_eq_true (show 0 ≤ (i : Int) ∧ (i : Int).toNat < ys.length from ⟨by omega, by rw [hl2]; simpa using hi⟩))]
    simp (disch := omega) only [w64_up, Int.toNat_natCast, Int.ofNat_one, Int.natCast_one]
  · intro k ys; unfold m_laws_markInt64S_b1; rw [if_neg (by simp)]

theorem heldInt64S_pure {fuel : Nat} {xs : List Int} {k : Int} (hf : 18446744073709551616 ≤ fuel) (hl : xs.length ≤ 1048576) (h0 : 0 ≤ k) (h1 : k + (ctInt64S xs : Nat) ≤ 2147483648) : m_laws_heldInt64S fuel (mkInt64S fuel xs k) k = some (k + (ctInt64S xs : Nat)) := by
  unfold m_laws_heldInt64S
  have hlen : (mkInt64S fuel xs k).length = xs.length := markL_length _ _
  rw [held_loop (f := elInt64S fuel) (c := ecInt64S) (xs := xs) (k := k) (by have := hl; omega) hf h0 h1 ?_ ?_]
  · rfl
  · intro i x k' hi hx hm h0 h1
    unfold ecInt64S at h1
    have hx2 : (mkInt64S fuel xs k)[i]? = some (elInt64S fuel x k') := hx
    unfold m_laws_heldInt64S_b1
    rw [if_pos (decide_eq_true (show (i : Int) < (mkInt64S fuel xs k).length by rw [hlen]; omega))]
    simp only [idx_at hx2, Option.bind_some]
    unfold elInt64S ecInt64S
    simp (disch := omega) only [w64_up, Option.bind_some, lt_f, if_false, bne_self_eq_false, Bool.false_eq_true, beq_self_eq_true, Bool.not_true, Int.ofNat_one, Int.natCast_one]
  · intro k'; show m_laws_heldInt64S_b1 fuel (mkInt64S fuel xs k) (k', ((mkInt64S fuel xs k).length : Int)) = _; unfold m_laws_heldInt64S_b1; rw [if_neg (by simp)]

theorem ctInt64S_le {xs : List Int} : ctInt64S xs ≤ 64 * (xs.length) := by
  have h := sumL_le (c := ecInt64S) (g := (fun _ => 0)) (m := 64) (xs := xs) fun x _ => by
    unfold ecInt64S
    omega
  rw [szL_zero (fun _ => rfl)] at h
  exact h

def elDequeActorS (fuel : Nat) (x : D.DequeActor) (k : Int) : D.DequeActor := (⟨(mkInt64S fuel x.Todo (k)), k + ((ctInt64S x.Todo : Nat) : Int), k + ((ctInt64S x.Todo : Nat) : Int) + 1, k + ((ctInt64S x.Todo : Nat) : Int) + 1 + 1, k + ((ctInt64S x.Todo : Nat) : Int) + 1 + 1 + 1⟩ : D.DequeActor)
def ecDequeActorS (x : D.DequeActor) : Nat := ctInt64S x.Todo + 1 + 1 + 1 + 1
def mkDequeActorS (fuel : Nat) (xs : List D.DequeActor) (k : Int) : List D.DequeActor := markL (elDequeActorS fuel) ecDequeActorS xs k
def ctDequeActorS (xs : List D.DequeActor) : Nat := sumL ecDequeActorS xs
theorem markDequeActorS_pure {fuel : Nat} {xs : List D.DequeActor} {k : Int} (hf : 18446744073709551616 ≤ fuel) (hl : szL D.DequeActor.sz xs ≤ 1048576) (h0 : 0 ≤ k) (h1 : k + (ctDequeActorS xs : Nat) ≤ 2147483648) : m_laws_markDequeActorS fuel xs k = some (k + (ctDequeActorS xs : Nat), mkDequeActorS fuel xs k) := by
  unfold m_laws_markDequeActorS
  rw [mark_loop (f := elDequeActorS fuel) (c := ecDequeActorS) (xs := xs) (k := k) (by have := (szL_len hl); omega) hf h0 h1 ?_ ?_]
  · rfl
  · intro i x ys k hi hl2 hx hm h0 h1
    unfold ecDequeActorS at h1
    have hsx := szL_mem hl hm
    unfold D.DequeActor.sz at hsx
    unfold m_laws_markDequeActorS_b1 elDequeActorS ecDequeActorS
    rw [if_pos (decide_eq_true (show (i : Int) < xs.length by omega))]
    simp only [idx_at hx, Option.bind_some]
    simp (disch := omega) only [markInt64S_pure hf (show x.Todo.length ≤ 1048576 by omega), w64_up, Option.bind_some, Int.toNat_natCast]
    refine congrArg some (congrArg Rd.next (Prod.ext ?_ rfl))
    dsimp only; simp only [Int.natCast_add, Int.natCast_one, Int.ofNat_one]; try omega
  · intro k ys; unfold m_laws_markDequeActorS_b1; rw [if_neg (by simp)]

theorem heldDequeActorS_pure {fuel : Nat} {xs : List D.DequeActor} {k : Int} (hf : 18446744073709551616 ≤ fuel) (hl : szL D.DequeActor.sz xs ≤ 1048576) (h0 : 0 ≤ k) (h1 : k + (ctDequeActorS xs : Nat) ≤ 2147483648) : m_laws_heldDequeActorS fuel (mkDequeActorS fuel xs k) k = some (k + (ctDequeActorS xs : Nat)) := by
  unfold m_laws_heldDequeActorS
  have hlen : (mkDequeActorS fuel xs k).length = xs.length := markL_length _ _
  rw [held_loop (f := elDequeActorS fuel) (c := ecDequeActorS) (xs := xs) (k := k) (by have := (szL_len hl); omega) hf h0 h1 ?_ ?_]
  · rfl
  · intro i x k' hi hx hm h0 h1
    unfold ecDequeActorS at h1
    have hsx := szL_mem hl hm
    unfold D.DequeActor.sz at hsx
    have hx2 : (mkDequeActorS fuel xs k)[i]? = some (elDequeActorS fuel x k') := hx
    unfold m_laws_heldDequeActorS_b1
    rw [if_pos (decide_eq_true (show (i : Int) < (mkDequeActorS fuel xs k).length by rw [hlen]; omega))]
    simp only [idx_at hx2, Option.bind_some]
    unfold elDequeActorS ecDequeActorS
    simp (disch := omega) only [heldInt64S_pure hf (show x.Todo.length ≤ 1048576 by omega), w64_up, Option.bind_some, lt_f, if_false, bne_self_eq_false, Bool.false_eq_true, beq_self_eq_true, Bool.not_true, Int.ofNat_one, Int.natCast_one]
    try (refine congrArg some (congrArg Rd.next (Prod.ext ?_ rfl)); dsimp only; simp only [Int.natCast_add, Int.natCast_one, Int.ofNat_one]; try omega)
  · intro k'; show m_laws_heldDequeActorS_b1 fuel (mkDequeActorS fuel xs k) (k', ((mkDequeActorS fuel xs k).length : Int)) = _; unfold m_laws_heldDequeActorS_b1; rw [if_neg (by simp)]

theorem ctDequeActorS_le {xs : List D.DequeActor} : ctDequeActorS xs ≤ 64 * (szL D.DequeActor.sz xs) := by
  have h := sumL_le (c := ecDequeActorS) (g := D.DequeActor.sz) (m := 64) (xs := xs) fun x _ => by
    unfold ecDequeActorS
    unfold D.DequeActor.sz
    have := ctInt64S_le (xs := x.Todo)
    omega
  exact h

def elHandedS (fuel : Nat) (x : D.Handed) (k : Int) : D.Handed := (⟨k, k + 1⟩ : D.Handed)
def ecHandedS (x : D.Handed) : Nat := 1 + 1
def mkHandedS (fuel : Nat) (xs : List D.Handed) (k : Int) : List D.Handed := markL (elHandedS fuel) ecHandedS xs k
def ctHandedS (xs : List D.Handed) : Nat := sumL ecHandedS xs
theorem markHandedS_pure {fuel : Nat} {xs : List D.Handed} {k : Int} (hf : 18446744073709551616 ≤ fuel) (hl : xs.length ≤ 1048576) (h0 : 0 ≤ k) (h1 : k + (ctHandedS xs : Nat) ≤ 2147483648) : m_laws_markHandedS fuel xs k = some (k + (ctHandedS xs : Nat), mkHandedS fuel xs k) := by
  unfold m_laws_markHandedS
  rw [mark_loop (f := elHandedS fuel) (c := ecHandedS) (xs := xs) (k := k) (by have := hl; omega) hf h0 h1 ?_ ?_]
  · rfl
  · intro i x ys k hi hl2 hx hm h0 h1
    unfold ecHandedS at h1
    unfold m_laws_markHandedS_b1 elHandedS ecHandedS
    rw [if_pos (decide_eq_true (show (i : Int) < xs.length by omega))]
    simp only [idx_at hx, Option.bind_some]
    simp (disch := omega) only [w64_up, Option.bind_some, Int.toNat_natCast]
    refine congrArg some (congrArg Rd.next (Prod.ext ?_ rfl))
    dsimp only; simp only [Int.natCast_add, Int.natCast_one, Int.ofNat_one]; try omega
  · intro k ys; unfold m_laws_markHandedS_b1; rw [if_neg (by simp)]

theorem heldHandedS_pure {fuel : Nat} {xs : List D.Handed} {k : Int} (hf : 18446744073709551616 ≤ fuel) (hl : xs.length ≤ 1048576) (h0 : 0 ≤ k) (h1 : k + (ctHandedS xs : Nat) ≤ 2147483648) : m_laws_heldHandedS fuel (mkHandedS fuel xs k) k = some (k + (ctHandedS xs : Nat)) := by
  unfold m_laws_heldHandedS
  have hlen : (mkHandedS fuel xs k).length = xs.length := markL_length _ _
  rw [held_loop (f := elHandedS fuel) (c := ecHandedS) (xs := xs) (k := k) (by have := hl; omega) hf h0 h1 ?_ ?_]
  · rfl
  · intro i x k' hi hx hm h0 h1
    unfold ecHandedS at h1
    have hx2 : (mkHandedS fuel xs k)[i]? = some (elHandedS fuel x k') := hx
    unfold m_laws_heldHandedS_b1
    rw [if_pos (decide_eq_true (show (i : Int) < (mkHandedS fuel xs k).length by rw [hlen]; omega))]
    simp only [idx_at hx2, Option.bind_some]
    unfold elHandedS ecHandedS
    simp (disch := omega) only [w64_up, Option.bind_some, lt_f, if_false, bne_self_eq_false, Bool.false_eq_true, beq_self_eq_true, Bool.not_true, Int.ofNat_one, Int.natCast_one]
    try (refine congrArg some (congrArg Rd.next (Prod.ext ?_ rfl)); dsimp only; simp only [Int.natCast_add, Int.natCast_one, Int.ofNat_one]; try omega)
  · intro k'; show m_laws_heldHandedS_b1 fuel (mkHandedS fuel xs k) (k', ((mkHandedS fuel xs k).length : Int)) = _; unfold m_laws_heldHandedS_b1; rw [if_neg (by simp)]

theorem ctHandedS_le {xs : List D.Handed} : ctHandedS xs ≤ 64 * (xs.length) := by
  have h := sumL_le (c := ecHandedS) (g := (fun _ => 0)) (m := 64) (xs := xs) fun x _ => by
    unfold ecHandedS
    omega
  rw [szL_zero (fun _ => rfl)] at h
  exact h

def mkDeque (fuel : Nat) (x : D.Deque) (k : Int) : D.Deque := (⟨x.Top, x.Bottom, mkInt64S fuel x.Buffer (k), mkDequeActorS fuel x.Actors (k + ((ctInt64S x.Buffer : Nat) : Int)), mkHandedS fuel x.Taken (k + ((ctInt64S x.Buffer : Nat) : Int) + ((ctDequeActorS x.Actors : Nat) : Int)), mkInt64S fuel x.Refused (k + ((ctInt64S x.Buffer : Nat) : Int) + ((ctDequeActorS x.Actors : Nat) : Int) + ((ctHandedS x.Taken : Nat) : Int))⟩ : D.Deque)
def ctDeque (x : D.Deque) : Nat := ctInt64S x.Buffer + ctDequeActorS x.Actors + ctHandedS x.Taken + ctInt64S x.Refused
theorem mkDeque_eta {fuel : Nat} {x : D.Deque} {k : Int} : (⟨x.Top, x.Bottom, (mkDeque fuel x k).Buffer, (mkDeque fuel x k).Actors, (mkDeque fuel x k).Taken, (mkDeque fuel x k).Refused⟩ : D.Deque) = mkDeque fuel x k := rfl
theorem markDeque_pure {fuel : Nat} {x : D.Deque} {k : Int} (hf : 18446744073709551616 ≤ fuel) (hs : x.sz ≤ 1048576) (h0 : 0 ≤ k) (h1 : k + (ctDeque x : Nat) ≤ 2147483648) : m_laws_markDeque fuel x k = some (k + (ctDeque x : Nat), (mkDeque fuel x k).Buffer, (mkDeque fuel x k).Actors, (mkDeque fuel x k).Taken, (mkDeque fuel x k).Refused) := by
  unfold ctDeque at h1 ⊢
  simp only [D.Deque.sz] at hs
  unfold m_laws_markDeque mkDeque
  simp (disch := omega) only [markInt64S_pure hf (show x.Buffer.length ≤ 1048576 by omega), markDequeActorS_pure hf (show szL D.DequeActor.sz x.Actors ≤ 1048576 by omega), markHandedS_pure hf (show x.Taken.length ≤ 1048576 by omega), markInt64S_pure hf (show x.Refused.length ≤ 1048576 by omega), Option.bind_some]
  simp only [Int.natCast_add, Int.add_assoc]

theorem heldDeque_pure {fuel : Nat} {x : D.Deque} {k : Int} (hf : 18446744073709551616 ≤ fuel) (hs : x.sz ≤ 1048576) (h0 : 0 ≤ k) (h1 : k + (ctDeque x : Nat) ≤ 2147483648) : m_laws_heldDeque fuel (mkDeque fuel x k) k = some (k + (ctDeque x : Nat)) := by
  unfold ctDeque at h1 ⊢
  simp only [D.Deque.sz] at hs
  unfold m_laws_heldDeque mkDeque
  simp (disch := omega) only [heldInt64S_pure hf (show x.Buffer.length ≤ 1048576 by omega), heldDequeActorS_pure hf (show szL D.DequeActor.sz x.Actors ≤ 1048576 by omega), heldHandedS_pure hf (show x.Taken.length ≤ 1048576 by omega), heldInt64S_pure hf (show x.Refused.length ≤ 1048576 by omega), Option.bind_some, lt_f, if_false]
  simp only [Int.natCast_add, Int.add_assoc]

theorem ctDeque_le {x : D.Deque} : ctDeque x ≤ 64 * x.sz := by
  unfold ctDeque
  simp only [D.Deque.sz]
  have := ctInt64S_le (xs := x.Buffer)
  have := ctDequeActorS_le (xs := x.Actors)
  have := ctHandedS_le (xs := x.Taken)
  have := ctInt64S_le (xs := x.Refused)
  omega

end Go.E
