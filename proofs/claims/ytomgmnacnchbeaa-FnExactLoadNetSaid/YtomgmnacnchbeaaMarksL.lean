/- What the functions that mark data and look for the marks give (written by program). Conditions: counts stay small. -/
import Derived.Test.YtomgmnacnchbeaaMark
import Derived.Test.YtomgmnacnchbeaaSizesL
import Derived.Test.YtomgmnacnchbeaaFA
import Derived.Test.YtomgmnacnchbeaaFN
import Derived.Test.YtomgmnacnchbeaaFL
import Derived.Test.YtomgmnacnchbeaaFLb
import Derived.Test.YtomgmnacnchbeaaFLc
import Derived.Test.YtomgmnacnchbeaaFLd
namespace Go.E
open Go.RowKit Go.Proofs
set_option linter.unusedSimpArgs false
set_option linter.unusedVariables false

def z5R (fuel : Nat) (x : Int) (k : Int) : Int := k
def z4s (x : Int) : Nat := 1
def z4B (fuel : Nat) (xs : List Int) (k : Int) : List Int := markL (z5R fuel) z4s xs k
def z4F (xs : List Int) : Nat := sumL z4s xs
theorem z5D {fuel : Nat} {xs : List Int} {k : Int} (hf : 18446744073709551616 ≤ fuel) (hl : xs.length ≤ 1048576) (h0 : 0 ≤ k) (h1 : k + (z4F xs : Nat) ≤ 2147483648) : z1r fuel xs k = some (k + (z4F xs : Nat), z4B fuel xs k) := by
  unfold z1r
  rw [z5f (f := z5R fuel) (c := z4s) (xs := xs) (k := k) (by have := hl; omega) hf h0 h1 ?_ ?_]
  · rfl
  · intro i x ys k hi hl2 hx hm h0 h1
    unfold z4s at h1
    unfold z2d z5R z4s
    rw [if_pos (decide_eq_true (show (i : Int) < xs.length by omega))]
    rw [if_pos (decide_eq_true (show 0 ≤ (i : Int) ∧ (i : Int).toNat < ys.length from ⟨by omega, by rw [hl2]; simpa using hi⟩))]
    simp (disch := omega) only [z5p, Int.toNat_natCast, Int.ofNat_one, Int.natCast_one]
  · intro k ys; unfold z2d; rw [if_neg (by simp)]

theorem z7i {fuel : Nat} {xs : List Int} {k : Int} (hf : 18446744073709551616 ≤ fuel) (hl : xs.length ≤ 1048576) (h0 : 0 ≤ k) (h1 : k + (z4F xs : Nat) ≤ 2147483648) : z2y fuel (z4B fuel xs k) k = some (k + (z4F xs : Nat)) := by
  unfold z2y
  have hlen : (z4B fuel xs k).length = xs.length := z1P _ _
  rw [z6g (f := z5R fuel) (c := z4s) (xs := xs) (k := k) (by have := hl; omega) hf h0 h1 ?_ ?_]
  · rfl
  · intro i x k' hi hx hm h0 h1
    unfold z4s at h1
    have hx2 : (z4B fuel xs k)[i]? = some (z5R fuel x k') := hx
    unfold z1g
    rw [if_pos (decide_eq_true (show (i : Int) < (z4B fuel xs k).length by rw [hlen]; omega))]
    simp only [zg hx2, Option.bind_some]
    unfold z5R z4s
    simp (disch := omega) only [z5p, Option.bind_some, lt_f, if_false, bne_self_eq_false, Bool.false_eq_true, beq_self_eq_true, Bool.not_true, Int.ofNat_one, Int.natCast_one]
  · intro k'; show z1g fuel (z4B fuel xs k) (k', ((z4B fuel xs k).length : Int)) = _; unfold z1g; rw [if_neg (by simp)]

theorem z7o {xs : List Int} : z4F xs ≤ 64 * (xs.length) := by
  have h := z5V (c := z4s) (g := (fun _ => 0)) (m := 64) (xs := xs) fun x _ => by
    unfold z4s
    omega
  rw [z63 (fun _ => rfl)] at h
  exact h

def elPortS (fuel : Nat) (x : D.Port) (k : Int) : D.Port := (⟨k, k + 1⟩ : D.Port)
def ecPortS (x : D.Port) : Nat := 1 + 1
def mkPortS (fuel : Nat) (xs : List D.Port) (k : Int) : List D.Port := markL (elPortS fuel) ecPortS xs k
def ctPortS (xs : List D.Port) : Nat := sumL ecPortS xs
theorem z7w {fuel : Nat} {xs : List D.Port} {k : Int} (hf : 18446744073709551616 ≤ fuel) (hl : xs.length ≤ 1048576) (h0 : 0 ≤ k) (h1 : k + (ctPortS xs : Nat) ≤ 2147483648) : z2R fuel xs k = some (k + (ctPortS xs : Nat), mkPortS fuel xs k) := by
  unfold z2R
  rw [z5f (f := elPortS fuel) (c := ecPortS) (xs := xs) (k := k) (by have := hl; omega) hf h0 h1 ?_ ?_]
  · rfl
  · intro i x ys k hi hl2 hx hm h0 h1
    unfold ecPortS at h1
    unfold z2H elPortS ecPortS
    rw [if_pos (decide_eq_true (show (i : Int) < xs.length by omega))]
    simp only [zg hx, Option.bind_some]
    simp (disch := omega) only [z5p, Option.bind_some, Int.toNat_natCast]
    refine congrArg some (congrArg Rd.next (Prod.ext ?_ ?_)); rotate_left; first | rfl | (dsimp only; simp only [Int.natCast_add, Int.natCast_one, Int.ofNat_one, ← Int.add_assoc])
    dsimp only; simp only [Int.natCast_add, Int.natCast_one, Int.ofNat_one]; try omega
  · intro k ys; unfold z2H; rw [if_neg (by simp)]

theorem zai {xs : List D.Port} : ctPortS xs ≤ 64 * (xs.length) := by
  have h := z5V (c := ecPortS) (g := (fun _ => 0)) (m := 64) (xs := xs) fun x _ => by
    unfold ecPortS
    omega
  rw [z63 (fun _ => rfl)] at h
  exact h

def elAgentS (fuel : Nat) (x : D.Agent) (k : Int) : D.Agent := (⟨k, k + 1, k + 1 + 1, (z4B fuel x.Data (k + 1 + 1 + 1)), (mkPortS fuel x.Ports (k + 1 + 1 + 1 + ((z4F x.Data : Nat) : Int)))⟩ : D.Agent)
def ecAgentS (x : D.Agent) : Nat := 1 + 1 + 1 + z4F x.Data + ctPortS x.Ports
def mkAgentS (fuel : Nat) (xs : List D.Agent) (k : Int) : List D.Agent := markL (elAgentS fuel) ecAgentS xs k
def ctAgentS (xs : List D.Agent) : Nat := sumL ecAgentS xs
theorem z7d {fuel : Nat} {xs : List D.Agent} {k : Int} (hf : 18446744073709551616 ≤ fuel) (hl : szL D.Agent.sz xs ≤ 1048576) (h0 : 0 ≤ k) (h1 : k + (ctAgentS xs : Nat) ≤ 2147483648) : z2x fuel xs k = some (k + (ctAgentS xs : Nat), mkAgentS fuel xs k) := by
  unfold z2x
  rw [z5f (f := elAgentS fuel) (c := ecAgentS) (xs := xs) (k := k) (by have := (z6n hl); omega) hf h0 h1 ?_ ?_]
  · rfl
  · intro i x ys k hi hl2 hx hm h0 h1
    unfold ecAgentS at h1
    have hsx := z6m hl hm
    unfold D.Agent.sz at hsx
    unfold z2e elAgentS ecAgentS
    rw [if_pos (decide_eq_true (show (i : Int) < xs.length by omega))]
    simp only [zg hx, Option.bind_some]
    simp (disch := omega) only [z5D hf (show x.Data.length ≤ 1048576 by omega), z7w hf (show x.Ports.length ≤ 1048576 by omega), z5p, Option.bind_some, Int.toNat_natCast]
    refine congrArg some (congrArg Rd.next (Prod.ext ?_ ?_)); rotate_left; first | rfl | (dsimp only; simp only [Int.natCast_add, Int.natCast_one, Int.ofNat_one, ← Int.add_assoc])
    dsimp only; simp only [Int.natCast_add, Int.natCast_one, Int.ofNat_one]; try omega
  · intro k ys; unfold z2e; rw [if_neg (by simp)]

theorem z9t {xs : List D.Agent} : ctAgentS xs ≤ 64 * (szL D.Agent.sz xs) := by
  have h := z5V (c := ecAgentS) (g := D.Agent.sz) (m := 64) (xs := xs) fun x _ => by
    unfold ecAgentS
    unfold D.Agent.sz
    have := z7o (xs := x.Data)
    have := zai (xs := x.Ports)
    omega
  exact h

def elWordS (fuel : Nat) (x : D.Word) (k : Int) : D.Word := (⟨k, k + 1⟩ : D.Word)
def ecWordS (x : D.Word) : Nat := 1 + 1
def mkWordS (fuel : Nat) (xs : List D.Word) (k : Int) : List D.Word := markL (elWordS fuel) ecWordS xs k
def ctWordS (xs : List D.Word) : Nat := sumL ecWordS xs
theorem z7v {fuel : Nat} {xs : List D.Word} {k : Int} (hf : 18446744073709551616 ≤ fuel) (hl : xs.length ≤ 1048576) (h0 : 0 ≤ k) (h1 : k + (ctWordS xs : Nat) ≤ 2147483648) : z2Q fuel xs k = some (k + (ctWordS xs : Nat), mkWordS fuel xs k) := by
  unfold z2Q
  rw [z5f (f := elWordS fuel) (c := ecWordS) (xs := xs) (k := k) (by have := hl; omega) hf h0 h1 ?_ ?_]
  · rfl
  · intro i x ys k hi hl2 hx hm h0 h1
    unfold ecWordS at h1
    unfold z2G elWordS ecWordS
    rw [if_pos (decide_eq_true (show (i : Int) < xs.length by omega))]
    simp only [zg hx, Option.bind_some]
    simp (disch := omega) only [z5p, Option.bind_some, Int.toNat_natCast]
    refine congrArg some (congrArg Rd.next (Prod.ext ?_ ?_)); rotate_left; first | rfl | (dsimp only; simp only [Int.natCast_add, Int.natCast_one, Int.ofNat_one, ← Int.add_assoc])
    dsimp only; simp only [Int.natCast_add, Int.natCast_one, Int.ofNat_one]; try omega
  · intro k ys; unfold z2G; rw [if_neg (by simp)]

theorem z7z {fuel : Nat} {xs : List D.Word} {k : Int} (hf : 18446744073709551616 ≤ fuel) (hl : xs.length ≤ 1048576) (h0 : 0 ≤ k) (h1 : k + (ctWordS xs : Nat) ≤ 2147483648) : z2U fuel (mkWordS fuel xs k) k = some (k + (ctWordS xs : Nat)) := by
  unfold z2U
  have hlen : (mkWordS fuel xs k).length = xs.length := z1P _ _
  rw [z6g (f := elWordS fuel) (c := ecWordS) (xs := xs) (k := k) (by have := hl; omega) hf h0 h1 ?_ ?_]
  · rfl
  · intro i x k' hi hx hm h0 h1
    unfold ecWordS at h1
    have hx2 : (mkWordS fuel xs k)[i]? = some (elWordS fuel x k') := hx
    unfold z1D
    rw [if_pos (decide_eq_true (show (i : Int) < (mkWordS fuel xs k).length by rw [hlen]; omega))]
    simp only [zg hx2, Option.bind_some]
    unfold elWordS ecWordS
    simp (disch := omega) only [z5p, Option.bind_some, lt_f, if_false, bne_self_eq_false, Bool.false_eq_true, beq_self_eq_true, Bool.not_true, Int.ofNat_one, Int.natCast_one]
    try (refine congrArg some (congrArg Rd.next (Prod.ext ?_ rfl)); dsimp only; simp only [Int.natCast_add, Int.natCast_one, Int.ofNat_one]; try omega)
  · intro k'; show z1D fuel (mkWordS fuel xs k) (k', ((mkWordS fuel xs k).length : Int)) = _; unfold z1D; rw [if_neg (by simp)]

theorem zah {xs : List D.Word} : ctWordS xs ≤ 64 * (xs.length) := by
  have h := z5V (c := ecWordS) (g := (fun _ => 0)) (m := 64) (xs := xs) fun x _ => by
    unfold ecWordS
    omega
  rw [z63 (fun _ => rfl)] at h
  exact h

def elCellS (fuel : Nat) (x : D.Cell) (k : Int) : D.Cell := (⟨k, k + 1, k + 1 + 1, (z4B fuel x.Data (k + 1 + 1 + 1)), (mkWordS fuel x.Words (k + 1 + 1 + 1 + ((z4F x.Data : Nat) : Int)))⟩ : D.Cell)
def ecCellS (x : D.Cell) : Nat := 1 + 1 + 1 + z4F x.Data + ctWordS x.Words
def mkCellS (fuel : Nat) (xs : List D.Cell) (k : Int) : List D.Cell := markL (elCellS fuel) ecCellS xs k
def ctCellS (xs : List D.Cell) : Nat := sumL ecCellS xs
theorem z7y {fuel : Nat} {xs : List D.Cell} {k : Int} (hf : 18446744073709551616 ≤ fuel) (hl : szL D.Cell.sz xs ≤ 1048576) (h0 : 0 ≤ k) (h1 : k + (ctCellS xs : Nat) ≤ 2147483648) : z2T fuel xs k = some (k + (ctCellS xs : Nat), mkCellS fuel xs k) := by
  unfold z2T
  rw [z5f (f := elCellS fuel) (c := ecCellS) (xs := xs) (k := k) (by have := (z6n hl); omega) hf h0 h1 ?_ ?_]
  · rfl
  · intro i x ys k hi hl2 hx hm h0 h1
    unfold ecCellS at h1
    have hsx := z6m hl hm
    unfold D.Cell.sz at hsx
    unfold z2K elCellS ecCellS
    rw [if_pos (decide_eq_true (show (i : Int) < xs.length by omega))]
    simp only [zg hx, Option.bind_some]
    simp (disch := omega) only [z5D hf (show x.Data.length ≤ 1048576 by omega), z7v hf (show x.Words.length ≤ 1048576 by omega), z5p, Option.bind_some, Int.toNat_natCast]
    refine congrArg some (congrArg Rd.next (Prod.ext ?_ ?_)); rotate_left; first | rfl | (dsimp only; simp only [Int.natCast_add, Int.natCast_one, Int.ofNat_one, ← Int.add_assoc])
    dsimp only; simp only [Int.natCast_add, Int.natCast_one, Int.ofNat_one]; try omega
  · intro k ys; unfold z2K; rw [if_neg (by simp)]

theorem z7B {fuel : Nat} {xs : List D.Cell} {k : Int} (hf : 18446744073709551616 ≤ fuel) (hl : szL D.Cell.sz xs ≤ 1048576) (h0 : 0 ≤ k) (h1 : k + (ctCellS xs : Nat) ≤ 2147483648) : z2W fuel (mkCellS fuel xs k) k = some (k + (ctCellS xs : Nat)) := by
  unfold z2W
  have hlen : (mkCellS fuel xs k).length = xs.length := z1P _ _
  rw [z6g (f := elCellS fuel) (c := ecCellS) (xs := xs) (k := k) (by have := (z6n hl); omega) hf h0 h1 ?_ ?_]
  · rfl
  · intro i x k' hi hx hm h0 h1
    unfold ecCellS at h1
    have hsx := z6m hl hm
    unfold D.Cell.sz at hsx
    have hx2 : (mkCellS fuel xs k)[i]? = some (elCellS fuel x k') := hx
    unfold z1F
    rw [if_pos (decide_eq_true (show (i : Int) < (mkCellS fuel xs k).length by rw [hlen]; omega))]
    simp only [zg hx2, Option.bind_some]
    unfold elCellS ecCellS
    simp (disch := omega) only [z7i hf (show x.Data.length ≤ 1048576 by omega), z7z hf (show x.Words.length ≤ 1048576 by omega), z5p, Option.bind_some, lt_f, if_false, bne_self_eq_false, Bool.false_eq_true, beq_self_eq_true, Bool.not_true, Int.ofNat_one, Int.natCast_one]
    try (refine congrArg some (congrArg Rd.next (Prod.ext ?_ rfl)); dsimp only; simp only [Int.natCast_add, Int.natCast_one, Int.ofNat_one]; try omega)
  · intro k'; show z1F fuel (mkCellS fuel xs k) (k', ((mkCellS fuel xs k).length : Int)) = _; unfold z1F; rw [if_neg (by simp)]

theorem zak {xs : List D.Cell} : ctCellS xs ≤ 64 * (szL D.Cell.sz xs) := by
  have h := z5V (c := ecCellS) (g := D.Cell.sz) (m := 64) (xs := xs) fun x _ => by
    unfold ecCellS
    unfold D.Cell.sz
    have := z7o (xs := x.Data)
    have := zah (xs := x.Words)
    omega
  exact h

def elPairS (fuel : Nat) (x : D.Pair) (k : Int) : D.Pair := (⟨k, k + 1⟩ : D.Pair)
def ecPairS (x : D.Pair) : Nat := 1 + 1
def mkPairS (fuel : Nat) (xs : List D.Pair) (k : Int) : List D.Pair := markL (elPairS fuel) ecPairS xs k
def ctPairS (xs : List D.Pair) : Nat := sumL ecPairS xs
theorem z7x {fuel : Nat} {xs : List D.Pair} {k : Int} (hf : 18446744073709551616 ≤ fuel) (hl : xs.length ≤ 1048576) (h0 : 0 ≤ k) (h1 : k + (ctPairS xs : Nat) ≤ 2147483648) : z2S fuel xs k = some (k + (ctPairS xs : Nat), mkPairS fuel xs k) := by
  unfold z2S
  rw [z5f (f := elPairS fuel) (c := ecPairS) (xs := xs) (k := k) (by have := hl; omega) hf h0 h1 ?_ ?_]
  · rfl
  · intro i x ys k hi hl2 hx hm h0 h1
    unfold ecPairS at h1
    unfold z2J elPairS ecPairS
    rw [if_pos (decide_eq_true (show (i : Int) < xs.length by omega))]
    simp only [zg hx, Option.bind_some]
    simp (disch := omega) only [z5p, Option.bind_some, Int.toNat_natCast]
    refine congrArg some (congrArg Rd.next (Prod.ext ?_ ?_)); rotate_left; first | rfl | (dsimp only; simp only [Int.natCast_add, Int.natCast_one, Int.ofNat_one, ← Int.add_assoc])
    dsimp only; simp only [Int.natCast_add, Int.natCast_one, Int.ofNat_one]; try omega
  · intro k ys; unfold z2J; rw [if_neg (by simp)]

theorem z7A {fuel : Nat} {xs : List D.Pair} {k : Int} (hf : 18446744073709551616 ≤ fuel) (hl : xs.length ≤ 1048576) (h0 : 0 ≤ k) (h1 : k + (ctPairS xs : Nat) ≤ 2147483648) : z2V fuel (mkPairS fuel xs k) k = some (k + (ctPairS xs : Nat)) := by
  unfold z2V
  have hlen : (mkPairS fuel xs k).length = xs.length := z1P _ _
  rw [z6g (f := elPairS fuel) (c := ecPairS) (xs := xs) (k := k) (by have := hl; omega) hf h0 h1 ?_ ?_]
  · rfl
  · intro i x k' hi hx hm h0 h1
    unfold ecPairS at h1
    have hx2 : (mkPairS fuel xs k)[i]? = some (elPairS fuel x k') := hx
    unfold z1E
    rw [if_pos (decide_eq_true (show (i : Int) < (mkPairS fuel xs k).length by rw [hlen]; omega))]
    simp only [zg hx2, Option.bind_some]
    unfold elPairS ecPairS
    simp (disch := omega) only [z5p, Option.bind_some, lt_f, if_false, bne_self_eq_false, Bool.false_eq_true, beq_self_eq_true, Bool.not_true, Int.ofNat_one, Int.natCast_one]
    try (refine congrArg some (congrArg Rd.next (Prod.ext ?_ rfl)); dsimp only; simp only [Int.natCast_add, Int.natCast_one, Int.ofNat_one]; try omega)
  · intro k'; show z1E fuel (mkPairS fuel xs k) (k', ((mkPairS fuel xs k).length : Int)) = _; unfold z1E; rw [if_neg (by simp)]

theorem zaj {xs : List D.Pair} : ctPairS xs ≤ 64 * (xs.length) := by
  have h := z5V (c := ecPairS) (g := (fun _ => 0)) (m := 64) (xs := xs) fun x _ => by
    unfold ecPairS
    omega
  rw [z63 (fun _ => rfl)] at h
  exact h

def mkNet (fuel : Nat) (x : D.Net) (k : Int) : D.Net := (⟨mkAgentS fuel x.Agents (k)⟩ : D.Net)
def ctNet (x : D.Net) : Nat := ctAgentS x.Agents
theorem z8H {fuel : Nat} {x : D.Net} {k : Int} (hf : 18446744073709551616 ≤ fuel) (hs : x.sz ≤ 1048576) (h0 : 0 ≤ k) (h1 : k + (ctNet x : Nat) ≤ 2147483648) : z3K fuel x k = some (k + (ctNet x : Nat), (mkNet fuel x k).Agents) := by
  unfold ctNet at h1 ⊢
  simp only [D.Net.sz] at hs
  unfold z3K mkNet
  simp (disch := omega) only [z7d hf (show szL D.Agent.sz x.Agents ≤ 1048576 by omega), Option.bind_some]
  all_goals try simp only [Int.natCast_add, Int.add_assoc]

theorem zci {x : D.Net} : ctNet x ≤ 64 * x.sz := by
  unfold ctNet
  simp only [D.Net.sz]
  have := z9t (xs := x.Agents)
  omega

def mkMemory (fuel : Nat) (x : D.Memory) (k : Int) : D.Memory := (⟨mkCellS fuel x.Cells (k), x.Free, (⟨x.Root.Tag, x.Root.At⟩ : D.Word), mkPairS fuel x.Redexes (k + ((ctCellS x.Cells : Nat) : Int))⟩ : D.Memory)
def ctMemory (x : D.Memory) : Nat := ctCellS x.Cells + ctPairS x.Redexes
theorem z4Y {fuel : Nat} {x : D.Memory} {k : Int} : (⟨(mkMemory fuel x k).Cells, x.Free, (⟨x.Root.Tag, x.Root.At⟩ : D.Word), (mkMemory fuel x k).Redexes⟩ : D.Memory) = mkMemory fuel x k := rfl
theorem z7c {fuel : Nat} {x : D.Memory} {k : Int} (hf : 18446744073709551616 ≤ fuel) (hs : x.sz ≤ 1048576) (h0 : 0 ≤ k) (h1 : k + (ctMemory x : Nat) ≤ 2147483648) : z2w fuel x k = some (k + (ctMemory x : Nat), (mkMemory fuel x k).Cells, (mkMemory fuel x k).Redexes) := by
  unfold ctMemory at h1 ⊢
  simp only [D.Memory.sz] at hs
  unfold z2w mkMemory
  simp (disch := omega) only [z7y hf (show szL D.Cell.sz x.Cells ≤ 1048576 by omega), z7x hf (show x.Redexes.length ≤ 1048576 by omega), Option.bind_some]
  all_goals try simp only [Int.natCast_add, Int.add_assoc]

theorem z7h {fuel : Nat} {x : D.Memory} {k : Int} (hf : 18446744073709551616 ≤ fuel) (hs : x.sz ≤ 1048576) (h0 : 0 ≤ k) (h1 : k + (ctMemory x : Nat) ≤ 2147483648) : z1s fuel (mkMemory fuel x k) k = some (k + (ctMemory x : Nat)) := by
  unfold ctMemory at h1 ⊢
  simp only [D.Memory.sz] at hs
  unfold z1s mkMemory
  simp (disch := omega) only [z7B hf (show szL D.Cell.sz x.Cells ≤ 1048576 by omega), z7A hf (show x.Redexes.length ≤ 1048576 by omega), Option.bind_some, lt_f, if_false]
  all_goals try simp only [Int.natCast_add, Int.add_assoc]

theorem z9s {x : D.Memory} : ctMemory x ≤ 64 * x.sz := by
  unfold ctMemory
  simp only [D.Memory.sz]
  have := zak (xs := x.Cells)
  have := zaj (xs := x.Redexes)
  omega

end Go.E

