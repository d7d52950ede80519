/- What the functions that mark data and look for the marks give (written by program). Conditions: counts stay small. -/
import Derived.Test.YtomgmnacnchbeaaMark
import Derived.Test.YtomgmnacnchbeaaSizesT
import Derived.Test.YtomgmnacnchbeaaFT
import Derived.Test.YtomgmnacnchbeaaFTb
namespace Go.E
open Go.RowKit Go.Proofs
set_option linter.unusedSimpArgs false
set_option linter.unusedVariables false

def elInt64S (fuel : Nat) (x : Int) (k : Int) : Int := k
def ecInt64S (x : Int) : Nat := 1
def mkInt64S (fuel : Nat) (xs : List Int) (k : Int) : List Int := markL (elInt64S fuel) ecInt64S xs k
def ctInt64S (xs : List Int) : Nat := sumL ecInt64S xs
theorem markInt64S_pure {fuel : Nat} {xs : List Int} {k : Int} (hf : 18446744073709551616 ≤ fuel) (hl : xs.length ≤ 1048576) (h0 : 0 ≤ k) (h1 : k + (ctInt64S xs : Nat) ≤ 2147483648) : m_laws_markInt64S fuel xs k = some (k + (ctInt64S xs : Nat), mkInt64S fuel xs k) := by
  unfold m_laws_markInt64S
  rw [mark_loop (f := elInt64S fuel) (c := ecInt64S) (xs := xs) (k := k) (by have := hl; omega) hf h0 h1 ?_ ?_]
  · rfl
  · intro i x ys k hi hl2 hx hm h0 h1
    unfold ecInt64S at h1
    unfold m_laws_markInt64S_b1 elInt64S ecInt64S
    rw [if_pos (decide_eq_true (show (i : Int) < xs.length by omega))]
    rw [if_pos (decide_eq_true (show 0 ≤ (i : Int) ∧ (i : Int).toNat < ys.length from ⟨by omega, by rw [hl2]; simpa using hi⟩))]
    simp (disch := omega) only [w64_up, Int.toNat_natCast, Int.ofNat_one, Int.natCast_one]
  · intro k ys; unfold m_laws_markInt64S_b1; rw [if_neg (by simp)]

theorem heldInt64S_pure {fuel : Nat} {xs : List Int} {k : Int} (hf : 18446744073709551616 ≤ fuel) (hl : xs.length ≤ 1048576) (h0 : 0 ≤ k) (h1 : k + (ctInt64S xs : Nat) ≤ 2147483648) : m_laws_heldInt64S fuel (mkInt64S fuel xs k) k = some (k + (ctInt64S xs : Nat)) := by
  unfold m_laws_heldInt64S
  have hlen : (mkInt64S fuel xs k).length = xs.length := markL_length _ _
  rw [held_loop (f := elInt64S fuel) (c := ecInt64S) (xs := xs) (k := k) (by have := hl; omega) hf h0 h1 ?_ ?_]
  · rfl
  · intro i x k' hi hx hm h0 h1
    unfold ecInt64S at h1
    have hx2 : (mkInt64S fuel xs k)[i]? = some (elInt64S fuel x k') := hx
    unfold m_laws_heldInt64S_b1
    rw [if_pos (decide_eq_true (show (i : Int) < (mkInt64S fuel xs k).length by rw [hlen]; omega))]
    simp only [idx_at hx2, Option.bind_some]
    unfold elInt64S ecInt64S
    simp (disch := omega) only [w64_up, Option.bind_some, lt_f, if_false, bne_self_eq_false, Bool.false_eq_true, beq_self_eq_true, Bool.not_true, Int.ofNat_one, Int.natCast_one]
  · intro k'; show m_laws_heldInt64S_b1 fuel (mkInt64S fuel xs k) (k', ((mkInt64S fuel xs k).length : Int)) = _; unfold m_laws_heldInt64S_b1; rw [if_neg (by simp)]

theorem ctInt64S_le {xs : List Int} : ctInt64S xs ≤ 64 * (xs.length) := by
  have h := sumL_le (c := ecInt64S) (g := (fun _ => 0)) (m := 64) (xs := xs) fun x _ => by
    unfold ecInt64S
    omega
  rw [szL_zero (fun _ => rfl)] at h
  exact h

def elWordS (fuel : Nat) (x : D.Word) (k : Int) : D.Word := (⟨k, k + 1⟩ : D.Word)
def ecWordS (x : D.Word) : Nat := 1 + 1
def mkWordS (fuel : Nat) (xs : List D.Word) (k : Int) : List D.Word := markL (elWordS fuel) ecWordS xs k
def ctWordS (xs : List D.Word) : Nat := sumL ecWordS xs
theorem markWordS_pure {fuel : Nat} {xs : List D.Word} {k : Int} (hf : 18446744073709551616 ≤ fuel) (hl : xs.length ≤ 1048576) (h0 : 0 ≤ k) (h1 : k + (ctWordS xs : Nat) ≤ 2147483648) : m_laws_markWordS fuel xs k = some (k + (ctWordS xs : Nat), mkWordS fuel xs k) := by
  unfold m_laws_markWordS
  rw [mark_loop (f := elWordS fuel) (c := ecWordS) (xs := xs) (k := k) (by have := hl; omega) hf h0 h1 ?_ ?_]
  · rfl
  · intro i x ys k hi hl2 hx hm h0 h1
    unfold ecWordS at h1
    unfold m_laws_markWordS_b1 elWordS ecWordS
    rw [if_pos (decide_eq_true (show (i : Int) < xs.length by omega))]
    simp only [idx_at hx, Option.bind_some]
    simp (disch := omega) only [w64_up, Option.bind_some, Int.toNat_natCast]
    refine congrArg some (congrArg Rd.next (Prod.ext ?_ rfl))
    dsimp only; simp only [Int.natCast_add, Int.natCast_one, Int.ofNat_one]; try omega
  · intro k ys; unfold m_laws_markWordS_b1; rw [if_neg (by simp)]

theorem heldWordS_pure {fuel : Nat} {xs : List D.Word} {k : Int} (hf : 18446744073709551616 ≤ fuel) (hl : xs.length ≤ 1048576) (h0 : 0 ≤ k) (h1 : k + (ctWordS xs : Nat) ≤ 2147483648) : m_laws_heldWordS fuel (mkWordS fuel xs k) k = some (k + (ctWordS xs : Nat)) := by
  unfold m_laws_heldWordS
  have hlen : (mkWordS fuel xs k).length = xs.length := markL_length _ _
  rw [held_loop (f := elWordS fuel) (c := ecWordS) (xs := xs) (k := k) (by have := hl; omega) hf h0 h1 ?_ ?_]
  · rfl
  · intro i x k' hi hx hm h0 h1
    unfold ecWordS at h1
    have hx2 : (mkWordS fuel xs k)[i]? = some (elWordS fuel x k') := hx
    unfold m_laws_heldWordS_b1
    rw [if_pos (decide_eq_true (show (i : Int) < (mkWordS fuel xs k).length by rw [hlen]; omega))]
    simp only [idx_at hx2, Option.bind_some]
    unfold elWordS ecWordS
    simp (disch := omega) only [w64_up, Option.bind_some, lt_f, if_false, bne_self_eq_false, Bool.false_eq_true, beq_self_eq_true, Bool.not_true, Int.ofNat_one, Int.natCast_one]
    try (refine congrArg some (congrArg Rd.next (Prod.ext ?_ rfl)); dsimp only; simp only [Int.natCast_add, Int.natCast_one, Int.ofNat_one]; try omega)
  · intro k'; show m_laws_heldWordS_b1 fuel (mkWordS fuel xs k) (k', ((mkWordS fuel xs k).length : Int)) = _; unfold m_laws_heldWordS_b1; rw [if_neg (by simp)]

theorem ctWordS_le {xs : List D.Word} : ctWordS xs ≤ 64 * (xs.length) := by
  have h := sumL_le (c := ecWordS) (g := (fun _ => 0)) (m := 64) (xs := xs) fun x _ => by
    unfold ecWordS
    omega
  rw [szL_zero (fun _ => rfl)] at h
  exact h

def elCellS (fuel : Nat) (x : D.Cell) (k : Int) : D.Cell := (⟨k, k + 1, k + 1 + 1, (mkInt64S fuel x.Data (k + 1 + 1 + 1)), (mkWordS fuel x.Words (k + 1 + 1 + 1 + ((ctInt64S x.Data : Nat) : Int)))⟩ : D.Cell)
def ecCellS (x : D.Cell) : Nat := 1 + 1 + 1 + ctInt64S x.Data + ctWordS x.Words
def mkCellS (fuel : Nat) (xs : List D.Cell) (k : Int) : List D.Cell := markL (elCellS fuel) ecCellS xs k
def ctCellS (xs : List D.Cell) : Nat := sumL ecCellS xs
theorem markCellS_pure {fuel : Nat} {xs : List D.Cell} {k : Int} (hf : 18446744073709551616 ≤ fuel) (hl : szL D.Cell.sz xs ≤ 1048576) (h0 : 0 ≤ k) (h1 : k + (ctCellS xs : Nat) ≤ 2147483648) : m_laws_markCellS fuel xs k = some (k + (ctCellS xs : Nat), mkCellS fuel xs k) := by
  unfold m_laws_markCellS
  rw [mark_loop (f := elCellS fuel) (c := ecCellS) (xs := xs) (k := k) (by have := (szL_len hl); omega) hf h0 h1 ?_ ?_]
  · rfl
  · intro i x ys k hi hl2 hx hm h0 h1
    unfold ecCellS at h1
    have hsx := szL_mem hl hm
    unfold D.Cell.sz at hsx
    unfold m_laws_markCellS_b1 elCellS ecCellS
    rw [if_pos (decide_eq_true (show (i : Int) < xs.length by omega))]
    simp only [idx_at hx, Option.bind_some]
    simp (disch := omega) only [markInt64S_pure hf (show x.Data.length ≤ 1048576 by omega), markWordS_pure hf (show x.Words.length ≤ 1048576 by omega), w64_up, Option.bind_some, Int.toNat_natCast]
    refine congrArg some (congrArg Rd.next (Prod.ext ?_ rfl))
    dsimp only; simp only [Int.natCast_add, Int.natCast_one, Int.ofNat_one]; try omega
  · intro k ys; unfold m_laws_markCellS_b1; rw [if_neg (by simp)]

theorem heldCellS_pure {fuel : Nat} {xs : List D.Cell} {k : Int} (hf : 18446744073709551616 ≤ fuel) (hl : szL D.Cell.sz xs ≤ 1048576) (h0 : 0 ≤ k) (h1 : k + (ctCellS xs : Nat) ≤ 2147483648) : m_laws_heldCellS fuel (mkCellS fuel xs k) k = some (k + (ctCellS xs : Nat)) := by
  unfold m_laws_heldCellS
  have hlen : (mkCellS fuel xs k).length = xs.length := markL_length _ _
  rw [held_loop (f := elCellS fuel) (c := ecCellS) (xs := xs) (k := k) (by have := (szL_len hl); omega) hf h0 h1 ?_ ?_]
  · rfl
  · intro i x k' hi hx hm h0 h1
    unfold ecCellS at h1
    have hsx := szL_mem hl hm
    unfold D.Cell.sz at hsx
    have hx2 : (mkCellS fuel xs k)[i]? = some (elCellS fuel x k') := hx
    unfold m_laws_heldCellS_b1
    rw [if_pos (decide_eq_true (show (i : Int) < (mkCellS fuel xs k).length by rw [hlen]; omega))]
    simp only [idx_at hx2, Option.bind_some]
    unfold elCellS ecCellS
    simp (disch := omega) only [heldInt64S_pure hf (show x.Data.length ≤ 1048576 by omega), heldWordS_pure hf (show x.Words.length ≤ 1048576 by omega), w64_up, Option.bind_some, lt_f, if_false, bne_self_eq_false, Bool.false_eq_true, beq_self_eq_true, Bool.not_true, Int.ofNat_one, Int.natCast_one]
    try (refine congrArg some (congrArg Rd.next (Prod.ext ?_ rfl)); dsimp only; simp only [Int.natCast_add, Int.natCast_one, Int.ofNat_one]; try omega)
  · intro k'; show m_laws_heldCellS_b1 fuel (mkCellS fuel xs k) (k', ((mkCellS fuel xs k).length : Int)) = _; unfold m_laws_heldCellS_b1; rw [if_neg (by simp)]

theorem ctCellS_le {xs : List D.Cell} : ctCellS xs ≤ 64 * (szL D.Cell.sz xs) := by
  have h := sumL_le (c := ecCellS) (g := D.Cell.sz) (m := 64) (xs := xs) fun x _ => by
    unfold ecCellS
    unfold D.Cell.sz
    have := ctInt64S_le (xs := x.Data)
    have := ctWordS_le (xs := x.Words)
    omega
  exact h

def elPairS (fuel : Nat) (x : D.Pair) (k : Int) : D.Pair := (⟨k, k + 1⟩ : D.Pair)
def ecPairS (x : D.Pair) : Nat := 1 + 1
def mkPairS (fuel : Nat) (xs : List D.Pair) (k : Int) : List D.Pair := markL (elPairS fuel) ecPairS xs k
def ctPairS (xs : List D.Pair) : Nat := sumL ecPairS xs
theorem markPairS_pure {fuel : Nat} {xs : List D.Pair} {k : Int} (hf : 18446744073709551616 ≤ fuel) (hl : xs.length ≤ 1048576) (h0 : 0 ≤ k) (h1 : k + (ctPairS xs : Nat) ≤ 2147483648) : m_laws_markPairS fuel xs k = some (k + (ctPairS xs : Nat), mkPairS fuel xs k) := by
  unfold m_laws_markPairS
  rw [mark_loop (f := elPairS fuel) (c := ecPairS) (xs := xs) (k := k) (by have := hl; omega) hf h0 h1 ?_ ?_]
  · rfl
  · intro i x ys k hi hl2 hx hm h0 h1
    unfold ecPairS at h1
    unfold m_laws_markPairS_b1 elPairS ecPairS
    rw [if_pos (decide_eq_true (show (i : Int) < xs.length by omega))]
    simp only [idx_at hx, Option.bind_some]
    simp (disch := omega) only [w64_up, Option.bind_some, Int.toNat_natCast]
    refine congrArg some (congrArg Rd.next (Prod.ext ?_ rfl))
    dsimp only; simp only [Int.natCast_add, Int.natCast_one, Int.ofNat_one]; try omega
  · intro k ys; unfold m_laws_markPairS_b1; rw [if_neg (by simp)]

theorem heldPairS_pure {fuel : Nat} {xs : List D.Pair} {k : Int} (hf : 18446744073709551616 ≤ fuel) (hl : xs.length ≤ 1048576) (h0 : 0 ≤ k) (h1 : k + (ctPairS xs : Nat) ≤ 2147483648) : m_laws_heldPairS fuel (mkPairS fuel xs k) k = some (k + (ctPairS xs : Nat)) := by
  unfold m_laws_heldPairS
  have hlen : (mkPairS fuel xs k).length = xs.length := markL_length _ _
  rw [held_loop (f := elPairS fuel) (c := ecPairS) (xs := xs) (k := k) (by have := hl; omega) hf h0 h1 ?_ ?_]
  · rfl
  · intro i x k' hi hx hm h0 h1
    unfold ecPairS at h1
    have hx2 : (mkPairS fuel xs k)[i]? = some (elPairS fuel x k') := hx
    unfold m_laws_heldPairS_b1
    rw [if_pos (decide_eq_true (show (i : Int) < (mkPairS fuel xs k).length by rw [hlen]; omega))]
    simp only [idx_at hx2, Option.bind_some]
    unfold elPairS ecPairS
    simp (disch := omega) only [w64_up, Option.bind_some, lt_f, if_false, bne_self_eq_false, Bool.false_eq_true, beq_self_eq_true, Bool.not_true, Int.ofNat_one, Int.natCast_one]
    try (refine congrArg some (congrArg Rd.next (Prod.ext ?_ rfl)); dsimp only; simp only [Int.natCast_add, Int.natCast_one, Int.ofNat_one]; try omega)
  · intro k'; show m_laws_heldPairS_b1 fuel (mkPairS fuel xs k) (k', ((mkPairS fuel xs k).length : Int)) = _; unfold m_laws_heldPairS_b1; rw [if_neg (by simp)]

theorem ctPairS_le {xs : List D.Pair} : ctPairS xs ≤ 64 * (xs.length) := by
  have h := sumL_le (c := ecPairS) (g := (fun _ => 0)) (m := 64) (xs := xs) fun x _ => by
    unfold ecPairS
    omega
  rw [szL_zero (fun _ => rfl)] at h
  exact h

def mkMemory (fuel : Nat) (x : D.Memory) (k : Int) : D.Memory := (⟨mkCellS fuel x.Cells (k), x.Free, (⟨x.Root.Tag, x.Root.At⟩ : D.Word), mkPairS fuel x.Redexes (k + ((ctCellS x.Cells : Nat) : Int))⟩ : D.Memory)
def ctMemory (x : D.Memory) : Nat := ctCellS x.Cells + ctPairS x.Redexes
theorem mkMemory_eta {fuel : Nat} {x : D.Memory} {k : Int} : (⟨(mkMemory fuel x k).Cells, x.Free, (⟨x.Root.Tag, x.Root.At⟩ : D.Word), (mkMemory fuel x k).Redexes⟩ : D.Memory) = mkMemory fuel x k := rfl
theorem markMemory_pure {fuel : Nat} {x : D.Memory} {k : Int} (hf : 18446744073709551616 ≤ fuel) (hs : x.sz ≤ 1048576) (h0 : 0 ≤ k) (h1 : k + (ctMemory x : Nat) ≤ 2147483648) : m_laws_markMemory fuel x k = some (k + (ctMemory x : Nat), (mkMemory fuel x k).Cells, (mkMemory fuel x k).Redexes) := by
  unfold ctMemory at h1 ⊢
  simp only [D.Memory.sz] at hs
  unfold m_laws_markMemory mkMemory
  simp (disch := omega) only [markCellS_pure hf (show szL D.Cell.sz x.Cells ≤ 1048576 by omega), markPairS_pure hf (show x.Redexes.length ≤ 1048576 by omega), Option.bind_some]
  all_goals try simp only [Int.natCast_add, Int.add_assoc]

theorem heldMemory_pure {fuel : Nat} {x : D.Memory} {k : Int} (hf : 18446744073709551616 ≤ fuel) (hs : x.sz ≤ 1048576) (h0 : 0 ≤ k) (h1 : k + (ctMemory x : Nat) ≤ 2147483648) : m_laws_heldMemory fuel (mkMemory fuel x k) k = some (k + (ctMemory x : Nat)) := by
  unfold ctMemory at h1 ⊢
  simp only [D.Memory.sz] at hs
  unfold m_laws_heldMemory mkMemory
  simp (disch := omega) only [heldCellS_pure hf (show szL D.Cell.sz x.Cells ≤ 1048576 by omega), heldPairS_pure hf (show x.Redexes.length ≤ 1048576 by omega), Option.bind_some, lt_f, if_false]
  all_goals try simp only [Int.natCast_add, Int.add_assoc]

theorem ctMemory_le {x : D.Memory} : ctMemory x ≤ 64 * x.sz := by
  unfold ctMemory
  simp only [D.Memory.sz]
  have := ctCellS_le (xs := x.Cells)
  have := ctPairS_le (xs := x.Redexes)
  omega

end Go.E
