/- What the functions that mark data and look for the marks give (written by program). Conditions: counts stay small. -/
import Derived.Test.YtomgmnacnchbeaaGreatMark
import Derived.Test.YtomgmnacnchbeaaGreatSizesS
import Derived.Test.YtomgmnacnchbeaaGreatFG
import Derived.Test.YtomgmnacnchbeaaGreatFGb
import Derived.Test.YtomgmnacnchbeaaGreatFGc
import Derived.Test.YtomgmnacnchbeaaGreatFS
namespace Go.E
open Go.RowKit Go.Proofs
set_option linter.unusedSimpArgs false
set_option linter.unusedVariables false

def z6N (fuel : Nat) (x : Int) (k : Int) : Int := k
def z5c (x : Int) : Nat := 1
def z5L (fuel : Nat) (xs : List Int) (k : Int) : List Int := markL (z6N fuel) z5c xs k
def z5w (xs : List Int) : Nat := sumL z5c xs
theorem z6s {fuel : Nat} {xs : List Int} {k : Int} (hf : 18446744073709551616 ≤ fuel) (hl : xs.length ≤ 1048576) (h0 : 0 ≤ k) (h1 : k + (z5w xs : Nat) ≤ 2147483648) : z2j fuel xs k = some (k + (z5w xs : Nat), z5L fuel xs k) := by
  unfold z2j
  rw [z63 (f := z6N fuel) (c := z5c) (xs := xs) (k := k) (by have := hl; omega) hf h0 h1 ?_ ?_]
  · rfl
  · intro i x ys k hi hl2 hx hm h0 h1
    unfold z5c at h1
    unfold z3d z6N z5c
    rw [if_pos (decide_eq_true (show (i : Int) < xs.length by omega))]
    rw [if_pos (decide_eq_true (show 0 ≤ (i : Int) ∧ (i : Int).toNat < ys.length from ⟨by omega, by rw [hl2]; simpa using hi⟩))]
    simp (disch := omega) only [z71, Int.toNat_natCast, Int.ofNat_one, Int.natCast_one]
  · intro k ys; unfold z3d; rw [if_neg (by simp)]

theorem z8F {fuel : Nat} {xs : List Int} {k : Int} (hf : 18446744073709551616 ≤ fuel) (hl : xs.length ≤ 1048576) (h0 : 0 ≤ k) (h1 : k + (z5w xs : Nat) ≤ 2147483648) : z2k fuel (z5L fuel xs k) k = some (k + (z5w xs : Nat)) := by
  unfold z2k
  have hlen : (z5L fuel xs k).length = xs.length := z4D _ _
  rw [zck (f := z6N fuel) (c := z5c) (xs := xs) (k := k) (by have := hl; omega) hf h0 h1 ?_ ?_]
  · rfl
  · intro i x k' hi hx hm h0 h1
    unfold z5c at h1
    have hx2 : (z5L fuel xs k)[i]? = some (z6N fuel x k') := hx
    unfold z20
    rw [if_pos (decide_eq_true (show (i : Int) < (z5L fuel xs k).length by rw [hlen]; omega))]
    simp only [zf hx2, Option.bind_some]
    unfold z6N z5c
    simp (disch := omega) only [z71, Option.bind_some, lt_f, if_false, bne_self_eq_false, Bool.false_eq_true, beq_self_eq_true, Bool.not_true, Int.ofNat_one, Int.natCast_one]
  · intro k'; show z20 fuel (z5L fuel xs k) (k', ((z5L fuel xs k).length : Int)) = _; unfold z20; rw [if_neg (by simp)]

theorem z8P {xs : List Int} : z5w xs ≤ 64 * (xs.length) := by
  have h := z6Y (c := z5c) (g := (fun _ => 0)) (m := 64) (xs := xs) fun x _ => by
    unfold z5c
    omega
  rw [z76 (fun _ => rfl)] at h
  exact h

def elAddressS (fuel : Nat) (x : D.Address) (k : Int) : D.Address := (⟨k, k + 1, k + 1 + 1⟩ : D.Address)
def ecAddressS (x : D.Address) : Nat := 1 + 1 + 1
def mkAddressS (fuel : Nat) (xs : List D.Address) (k : Int) : List D.Address := markL (elAddressS fuel) ecAddressS xs k
def ctAddressS (xs : List D.Address) : Nat := sumL ecAddressS xs
theorem z7F {fuel : Nat} {xs : List D.Address} {k : Int} (hf : 18446744073709551616 ≤ fuel) (hl : xs.length ≤ 1048576) (h0 : 0 ≤ k) (h1 : k + (ctAddressS xs : Nat) ≤ 2147483648) : z2B fuel xs k = some (k + (ctAddressS xs : Nat), mkAddressS fuel xs k) := by
  unfold z2B
  rw [z63 (f := elAddressS fuel) (c := ecAddressS) (xs := xs) (k := k) (by have := hl; omega) hf h0 h1 ?_ ?_]
  · rfl
  · intro i x ys k hi hl2 hx hm h0 h1
    unfold ecAddressS at h1
    unfold z2G elAddressS ecAddressS
    rw [if_pos (decide_eq_true (show (i : Int) < xs.length by omega))]
    simp only [zf hx, Option.bind_some]
    simp (disch := omega) only [z71, Option.bind_some, Int.toNat_natCast]
    refine congrArg some (congrArg Rd.next (Prod.ext ?_ ?_)); rotate_left; first | rfl | (dsimp only; simp only [Int.natCast_add, Int.natCast_one, Int.ofNat_one, ← Int.add_assoc])
    dsimp only; simp only [Int.natCast_add, Int.natCast_one, Int.ofNat_one]; try omega
  · intro k ys; unfold z2G; rw [if_neg (by simp)]

theorem z9L {xs : List D.Address} : ctAddressS xs ≤ 64 * (xs.length) := by
  have h := z6Y (c := ecAddressS) (g := (fun _ => 0)) (m := 64) (xs := xs) fun x _ => by
    unfold ecAddressS
    omega
  rw [z76 (fun _ => rfl)] at h
  exact h

def elShardCellS (fuel : Nat) (x : D.ShardCell) (k : Int) : D.ShardCell := (⟨k, k + 1, k + 1 + 1, (z5L fuel x.Data (k + 1 + 1 + 1)), (mkAddressS fuel x.Aux (k + 1 + 1 + 1 + ((z5w x.Data : Nat) : Int)))⟩ : D.ShardCell)
def ecShardCellS (x : D.ShardCell) : Nat := 1 + 1 + 1 + z5w x.Data + ctAddressS x.Aux
def mkShardCellS (fuel : Nat) (xs : List D.ShardCell) (k : Int) : List D.ShardCell := markL (elShardCellS fuel) ecShardCellS xs k
def ctShardCellS (xs : List D.ShardCell) : Nat := sumL ecShardCellS xs
theorem z6Z {fuel : Nat} {xs : List D.ShardCell} {k : Int} (hf : 18446744073709551616 ≤ fuel) (hl : szL D.ShardCell.sz xs ≤ 1048576) (h0 : 0 ≤ k) (h1 : k + (ctShardCellS xs : Nat) ≤ 2147483648) : z1B fuel xs k = some (k + (ctShardCellS xs : Nat), mkShardCellS fuel xs k) := by
  unfold z1B
  rw [z63 (f := elShardCellS fuel) (c := ecShardCellS) (xs := xs) (k := k) (by have := (z6j hl); omega) hf h0 h1 ?_ ?_]
  · rfl
  · intro i x ys k hi hl2 hx hm h0 h1
    unfold ecShardCellS at h1
    have hsx := z6i hl hm
    unfold D.ShardCell.sz at hsx
    unfold z1O elShardCellS ecShardCellS
    rw [if_pos (decide_eq_true (show (i : Int) < xs.length by omega))]
    simp only [zf hx, Option.bind_some]
    simp (disch := omega) only [z6s hf (show x.Data.length ≤ 1048576 by omega), z7F hf (show x.Aux.length ≤ 1048576 by omega), z71, Option.bind_some, Int.toNat_natCast]
    refine congrArg some (congrArg Rd.next (Prod.ext ?_ ?_)); rotate_left; first | rfl | (dsimp only; simp only [Int.natCast_add, Int.natCast_one, Int.ofNat_one, ← Int.add_assoc])
    dsimp only; simp only [Int.natCast_add, Int.natCast_one, Int.ofNat_one]; try omega
  · intro k ys; unfold z1O; rw [if_neg (by simp)]

theorem z8O {xs : List D.ShardCell} : ctShardCellS xs ≤ 64 * (szL D.ShardCell.sz xs) := by
  have h := z6Y (c := ecShardCellS) (g := D.ShardCell.sz) (m := 64) (xs := xs) fun x _ => by
    unfold ecShardCellS
    unfold D.ShardCell.sz
    have := z8P (xs := x.Data)
    have := z9L (xs := x.Aux)
    omega
  exact h

def elShardVarS (fuel : Nat) (x : D.ShardVar) (k : Int) : D.ShardVar := (⟨((k).tmod 3 == 0), ((k + 1).tmod 3 == 0), (⟨k + 1 + 1, k + 1 + 1 + 1, k + 1 + 1 + 1 + 1⟩ : D.Address)⟩ : D.ShardVar)
def ecShardVarS (x : D.ShardVar) : Nat := 1 + 1 + 1 + 1 + 1
def mkShardVarS (fuel : Nat) (xs : List D.ShardVar) (k : Int) : List D.ShardVar := markL (elShardVarS fuel) ecShardVarS xs k
def ctShardVarS (xs : List D.ShardVar) : Nat := sumL ecShardVarS xs
theorem z7h {fuel : Nat} {xs : List D.ShardVar} {k : Int} (hf : 18446744073709551616 ≤ fuel) (hl : xs.length ≤ 1048576) (h0 : 0 ≤ k) (h1 : k + (ctShardVarS xs : Nat) ≤ 2147483648) : z1Z fuel xs k = some (k + (ctShardVarS xs : Nat), mkShardVarS fuel xs k) := by
  unfold z1Z
  rw [z63 (f := elShardVarS fuel) (c := ecShardVarS) (xs := xs) (k := k) (by have := hl; omega) hf h0 h1 ?_ ?_]
  · rfl
  · intro i x ys k hi hl2 hx hm h0 h1
    unfold ecShardVarS at h1
    unfold z2e elShardVarS ecShardVarS
    rw [if_pos (decide_eq_true (show (i : Int) < xs.length by omega))]
    simp only [zf hx, Option.bind_some]
    simp (disch := omega) only [z71, Option.bind_some, Int.toNat_natCast]
    refine congrArg some (congrArg Rd.next (Prod.ext ?_ ?_)); rotate_left; first | rfl | (dsimp only; simp only [Int.natCast_add, Int.natCast_one, Int.ofNat_one, ← Int.add_assoc])
    dsimp only; simp only [Int.natCast_add, Int.natCast_one, Int.ofNat_one]; try omega
  · intro k ys; unfold z2e; rw [if_neg (by simp)]

theorem z8Z {xs : List D.ShardVar} : ctShardVarS xs ≤ 64 * (xs.length) := by
  have h := z6Y (c := ecShardVarS) (g := (fun _ => 0)) (m := 64) (xs := xs) fun x _ => by
    unfold ecShardVarS
    omega
  rw [z76 (fun _ => rfl)] at h
  exact h

def elShardRedexS (fuel : Nat) (x : D.ShardRedex) (k : Int) : D.ShardRedex := (⟨(⟨k, k + 1, k + 1 + 1⟩ : D.Address), (⟨k + ((1 + 1 + 1 : Nat) : Int), k + ((1 + 1 + 1 : Nat) : Int) + 1, k + ((1 + 1 + 1 : Nat) : Int) + 1 + 1⟩ : D.Address)⟩ : D.ShardRedex)
def ecShardRedexS (x : D.ShardRedex) : Nat := 1 + 1 + 1 + 1 + 1 + 1
def mkShardRedexS (fuel : Nat) (xs : List D.ShardRedex) (k : Int) : List D.ShardRedex := markL (elShardRedexS fuel) ecShardRedexS xs k
def ctShardRedexS (xs : List D.ShardRedex) : Nat := sumL ecShardRedexS xs
theorem z6S {fuel : Nat} {xs : List D.ShardRedex} {k : Int} (hf : 18446744073709551616 ≤ fuel) (hl : xs.length ≤ 1048576) (h0 : 0 ≤ k) (h1 : k + (ctShardRedexS xs : Nat) ≤ 2147483648) : z1p fuel xs k = some (k + (ctShardRedexS xs : Nat), mkShardRedexS fuel xs k) := by
  unfold z1p
  rw [z63 (f := elShardRedexS fuel) (c := ecShardRedexS) (xs := xs) (k := k) (by have := hl; omega) hf h0 h1 ?_ ?_]
  · rfl
  · intro i x ys k hi hl2 hx hm h0 h1
    unfold ecShardRedexS at h1
    unfold z1w elShardRedexS ecShardRedexS
    rw [if_pos (decide_eq_true (show (i : Int) < xs.length by omega))]
    simp only [zf hx, Option.bind_some]
    simp (disch := omega) only [z71, Option.bind_some, Int.toNat_natCast]
    refine congrArg some (congrArg Rd.next (Prod.ext ?_ ?_)); rotate_left; first | rfl | (dsimp only; simp only [Int.natCast_add, Int.natCast_one, Int.ofNat_one, ← Int.add_assoc])
    dsimp only; simp only [Int.natCast_add, Int.natCast_one, Int.ofNat_one]; try omega
  · intro k ys; unfold z1w; rw [if_neg (by simp)]

theorem z84 {xs : List D.ShardRedex} : ctShardRedexS xs ≤ 64 * (xs.length) := by
  have h := z6Y (c := ecShardRedexS) (g := (fun _ => 0)) (m := 64) (xs := xs) fun x _ => by
    unfold ecShardRedexS
    omega
  rw [z76 (fun _ => rfl)] at h
  exact h

def elShardS (fuel : Nat) (x : D.Shard) (k : Int) : D.Shard := (⟨(mkShardCellS fuel x.Cells (k)), (mkShardVarS fuel x.Vars (k + ((ctShardCellS x.Cells : Nat) : Int))), (mkShardRedexS fuel x.Redexes (k + ((ctShardCellS x.Cells : Nat) : Int) + ((ctShardVarS x.Vars : Nat) : Int)))⟩ : D.Shard)
def ecShardS (x : D.Shard) : Nat := ctShardCellS x.Cells + ctShardVarS x.Vars + ctShardRedexS x.Redexes
def mkShardS (fuel : Nat) (xs : List D.Shard) (k : Int) : List D.Shard := markL (elShardS fuel) ecShardS xs k
def ctShardS (xs : List D.Shard) : Nat := sumL ecShardS xs
theorem z8B {fuel : Nat} {xs : List D.Shard} {k : Int} (hf : 18446744073709551616 ≤ fuel) (hl : szL D.Shard.sz xs ≤ 1048576) (h0 : 0 ≤ k) (h1 : k + (ctShardS xs : Nat) ≤ 2147483648) : z3z fuel xs k = some (k + (ctShardS xs : Nat), mkShardS fuel xs k) := by
  unfold z3z
  rw [z63 (f := elShardS fuel) (c := ecShardS) (xs := xs) (k := k) (by have := (z6j hl); omega) hf h0 h1 ?_ ?_]
  · rfl
  · intro i x ys k hi hl2 hx hm h0 h1
    unfold ecShardS at h1
    have hsx := z6i hl hm
    unfold D.Shard.sz at hsx
    unfold z3c elShardS ecShardS
    rw [if_pos (decide_eq_true (show (i : Int) < xs.length by omega))]
    simp only [zf hx, Option.bind_some]
    simp (disch := omega) only [z6Z hf (show szL D.ShardCell.sz x.Cells ≤ 1048576 by omega), z7h hf (show x.Vars.length ≤ 1048576 by omega), z6S hf (show x.Redexes.length ≤ 1048576 by omega), z71, Option.bind_some, Int.toNat_natCast]
    refine congrArg some (congrArg Rd.next (Prod.ext ?_ ?_)); rotate_left; first | rfl | (dsimp only; simp only [Int.natCast_add, Int.natCast_one, Int.ofNat_one, ← Int.add_assoc])
    dsimp only; simp only [Int.natCast_add, Int.natCast_one, Int.ofNat_one]; try omega
  · intro k ys; unfold z3c; rw [if_neg (by simp)]

theorem zaO {xs : List D.Shard} : ctShardS xs ≤ 64 * (szL D.Shard.sz xs) := by
  have h := z6Y (c := ecShardS) (g := D.Shard.sz) (m := 64) (xs := xs) fun x _ => by
    unfold ecShardS
    unfold D.Shard.sz
    have := z8O (xs := x.Cells)
    have := z8Z (xs := x.Vars)
    have := z84 (xs := x.Redexes)
    omega
  exact h

def mkGrid (fuel : Nat) (x : D.Grid) (k : Int) : D.Grid := (⟨mkShardS fuel x.Shards (k), (⟨x.Root.Machine, x.Root.Kind, x.Root.Index⟩ : D.Address)⟩ : D.Grid)
def ctGrid (x : D.Grid) : Nat := ctShardS x.Shards
theorem z9B {fuel : Nat} {x : D.Grid} {k : Int} (hf : 18446744073709551616 ≤ fuel) (hs : x.sz ≤ 1048576) (h0 : 0 ≤ k) (h1 : k + (ctGrid x : Nat) ≤ 2147483648) : z47 fuel x k = some (k + (ctGrid x : Nat), (mkGrid fuel x k).Shards) := by
  unfold ctGrid at h1 ⊢
  simp only [D.Grid.sz] at hs
  unfold z47 mkGrid
  simp (disch := omega) only [z8B hf (show szL D.Shard.sz x.Shards ≤ 1048576 by omega), Option.bind_some]
  all_goals try simp only [Int.natCast_add, Int.add_assoc]

theorem zdp {x : D.Grid} : ctGrid x ≤ 64 * x.sz := by
  unfold ctGrid
  simp only [D.Grid.sz]
  have := zaO (xs := x.Shards)
  omega

end Go.E

