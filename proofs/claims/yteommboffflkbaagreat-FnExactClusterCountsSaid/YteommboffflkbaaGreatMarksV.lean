/- What the functions that mark data and look for the marks give (written by program). Conditions: counts stay small. -/
import Derived.Test.YteommboffflkbaaGreatMark
import Derived.Test.YteommboffflkbaaGreatRounds
import Derived.Test.YteommboffflkbaaGreatFM
namespace Go.E
open Go.RowKit Go.Proofs
set_option linter.unusedSimpArgs false
set_option linter.unusedVariables false

def zbS (fuel : Nat) (x : Int) (k : Int) : Int := k
def z90 (x : Int) : Nat := 1
def z7V (fuel : Nat) (xs : List Int) (k : Int) : List Int := markL (zbS fuel) z90 xs k
def z30 (xs : List Int) : Nat := sumL z90 xs
theorem z5J {fuel : Nat} {xs : List Int} {k : Int} (hf : 18446744073709551616 ≤ fuel) (hl : xs.length ≤ 1048576) (h0 : 0 ≤ k) (h1 : k + (z30 xs : Nat) ≤ 2147483648) : z1r fuel xs k = some (k + (z30 xs : Nat), z7V fuel xs k) := by
  unfold z1r
  rw [z7A (f := zbS fuel) (c := z90) (xs := xs) (k := k) (by have := hl; omega) hf h0 h1 ?_ ?_]
  · rfl
  · intro i x ys k hi hl2 hx hm h0 h1
    unfold z90 at h1
    unfold z5y zbS z90
    rw [if_pos (decide_eq_true (show (i : Int) < xs.length by omega))]
    rw [if_pos (decide_eq_true (show 0 ≤ (i : Int) ∧ (i : Int).toNat < ys.length from ⟨by omega, by rw [hl2]; simpa using hi⟩))]
    simp (disch := omega) only [za8, Int.toNat_natCast, Int.ofNat_one, Int.natCast_one]
  · intro k ys; unfold z5y; rw [if_neg (by simp)]

theorem z8X {xs : List Int} : z30 xs ≤ 64 * (xs.length) := by
  have h := z9L (c := z90) (g := (fun _ => 0)) (m := 64) (xs := xs) fun x _ => by
    unfold z90
    omega
  rw [zbJ (fun _ => rfl)] at h
  exact h

def elAddressS (fuel : Nat) (x : D.Address) (k : Int) : D.Address := (⟨k, k + 1, k + 1 + 1⟩ : D.Address)
def ecAddressS (x : D.Address) : Nat := 1 + 1 + 1
def mkAddressS (fuel : Nat) (xs : List D.Address) (k : Int) : List D.Address := markL (elAddressS fuel) ecAddressS xs k
def ctAddressS (xs : List D.Address) : Nat := sumL ecAddressS xs
theorem zaA {fuel : Nat} {xs : List D.Address} {k : Int} (hf : 18446744073709551616 ≤ fuel) (hl : xs.length ≤ 1048576) (h0 : 0 ≤ k) (h1 : k + (ctAddressS xs : Nat) ≤ 2147483648) : z2R fuel xs k = some (k + (ctAddressS xs : Nat), mkAddressS fuel xs k) := by
  unfold z2R
  rw [z7A (f := elAddressS fuel) (c := ecAddressS) (xs := xs) (k := k) (by have := hl; omega) hf h0 h1 ?_ ?_]
  · rfl
  · intro i x ys k hi hl2 hx hm h0 h1
    unfold ecAddressS at h1
    unfold z4C elAddressS ecAddressS
    rw [if_pos (decide_eq_true (show (i : Int) < xs.length by omega))]
    simp only [za hx, Option.bind_some]
    simp (disch := omega) only [za8, Option.bind_some, Int.toNat_natCast]
    all_goals (refine congrArg some (congrArg Rd.next (Prod.ext ?_ ?_)); rotate_left; first | rfl | (dsimp only; simp only [Int.natCast_add, Int.natCast_one, Int.ofNat_one, ← Int.add_assoc]))
    all_goals (dsimp only; simp only [Int.natCast_add, Int.natCast_one, Int.ofNat_one]; try omega)
  · intro k ys; unfold z4C; rw [if_neg (by simp)]

theorem zcF {xs : List D.Address} : ctAddressS xs ≤ 64 * (xs.length) := by
  have h := z9L (c := ecAddressS) (g := (fun _ => 0)) (m := 64) (xs := xs) fun x _ => by
    unfold ecAddressS
    omega
  rw [zbJ (fun _ => rfl)] at h
  exact h

def elParcelS (fuel : Nat) (x : D.Parcel) (k : Int) : D.Parcel := (⟨k, (⟨k + 1, k + 1 + 1, k + 1 + 1 + 1, (z7V fuel x.Cell.Data (k + 1 + 1 + 1 + 1)), (mkAddressS fuel x.Cell.Aux (k + 1 + 1 + 1 + 1 + ((z30 x.Cell.Data : Nat) : Int)))⟩ : D.ShardCell), (⟨k + 1 + ((1 + 1 + 1 + z30 x.Cell.Data + ctAddressS x.Cell.Aux : Nat) : Int), k + 1 + ((1 + 1 + 1 + z30 x.Cell.Data + ctAddressS x.Cell.Aux : Nat) : Int) + 1, k + 1 + ((1 + 1 + 1 + z30 x.Cell.Data + ctAddressS x.Cell.Aux : Nat) : Int) + 1 + 1⟩ : D.Address), (⟨k + 1 + ((1 + 1 + 1 + z30 x.Cell.Data + ctAddressS x.Cell.Aux : Nat) : Int) + ((1 + 1 + 1 : Nat) : Int), k + 1 + ((1 + 1 + 1 + z30 x.Cell.Data + ctAddressS x.Cell.Aux : Nat) : Int) + ((1 + 1 + 1 : Nat) : Int) + 1, k + 1 + ((1 + 1 + 1 + z30 x.Cell.Data + ctAddressS x.Cell.Aux : Nat) : Int) + ((1 + 1 + 1 : Nat) : Int) + 1 + 1⟩ : D.Address)⟩ : D.Parcel)
def ecParcelS (x : D.Parcel) : Nat := 1 + 1 + 1 + 1 + z30 x.Cell.Data + ctAddressS x.Cell.Aux + 1 + 1 + 1 + 1 + 1 + 1
def mkParcelS (fuel : Nat) (xs : List D.Parcel) (k : Int) : List D.Parcel := markL (elParcelS fuel) ecParcelS xs k
def ctParcelS (xs : List D.Parcel) : Nat := sumL ecParcelS xs
theorem zdm {fuel : Nat} {xs : List D.Parcel} {k : Int} (hf : 18446744073709551616 ≤ fuel) (hl : szL D.Parcel.sz xs ≤ 1048576) (h0 : 0 ≤ k) (h1 : k + (ctParcelS xs : Nat) ≤ 2147483648) : z59 fuel xs k = some (k + (ctParcelS xs : Nat), mkParcelS fuel xs k) := by
  unfold z59
  rw [z7A (f := elParcelS fuel) (c := ecParcelS) (xs := xs) (k := k) (by have := (z5H hl); omega) hf h0 h1 ?_ ?_]
  · rfl
  · intro i x ys k hi hl2 hx hm h0 h1
    unfold ecParcelS at h1
    have hsx := z5G hl hm
    simp only [D.Parcel.sz, D.ShardCell.sz] at hsx
    unfold z58 elParcelS ecParcelS
    rw [if_pos (decide_eq_true (show (i : Int) < xs.length by omega))]
    simp only [za hx, Option.bind_some]
    simp (disch := omega) only [z5J hf (show x.Cell.Data.length ≤ 1048576 by omega), zaA hf (show x.Cell.Aux.length ≤ 1048576 by omega), za8, Option.bind_some, Int.toNat_natCast]
    all_goals (refine congrArg some (congrArg Rd.next (Prod.ext ?_ ?_)); rotate_left; first | rfl | (dsimp only; simp only [Int.natCast_add, Int.natCast_one, Int.ofNat_one, ← Int.add_assoc]))
    all_goals (dsimp only; simp only [Int.natCast_add, Int.natCast_one, Int.ofNat_one]; try omega)
  · intro k ys; unfold z58; rw [if_neg (by simp)]

theorem zh4 {xs : List D.Parcel} : ctParcelS xs ≤ 64 * (szL D.Parcel.sz xs) := by
  have h := z9L (c := ecParcelS) (g := D.Parcel.sz) (m := 64) (xs := xs) fun x _ => by
    unfold ecParcelS
    simp only [D.Parcel.sz, D.ShardCell.sz]
    have := z8X (xs := x.Cell.Data)
    have := zcF (xs := x.Cell.Aux)
    omega
  exact h

def elParcelSS (fuel : Nat) (x : (List D.Parcel)) (k : Int) : (List D.Parcel) := (mkParcelS fuel x (k))
def ecParcelSS (x : (List D.Parcel)) : Nat := ctParcelS x
def mkParcelSS (fuel : Nat) (xs : List (List D.Parcel)) (k : Int) : List (List D.Parcel) := markL (elParcelSS fuel) ecParcelSS xs k
def ctParcelSS (xs : List (List D.Parcel)) : Nat := sumL ecParcelSS xs
theorem zcY {fuel : Nat} {xs : List (List D.Parcel)} {k : Int} (hf : 18446744073709551616 ≤ fuel) (hl : szL (fun x => szL D.Parcel.sz x) xs ≤ 1048576) (h0 : 0 ≤ k) (h1 : k + (ctParcelSS xs : Nat) ≤ 2147483648) : z4v fuel xs k = some (k + (ctParcelSS xs : Nat), mkParcelSS fuel xs k) := by
  unfold z4v
  rw [z7A (f := elParcelSS fuel) (c := ecParcelSS) (xs := xs) (k := k) (by have := (z5H hl); omega) hf h0 h1 ?_ ?_]
  · rfl
  · intro i x ys k hi hl2 hx hm h0 h1
    unfold ecParcelSS at h1
    have hsx := z5G hl hm
    unfold z4B elParcelSS ecParcelSS
    rw [if_pos (decide_eq_true (show (i : Int) < xs.length by omega))]
    simp only [za hx, Option.bind_some]
    simp (disch := omega) only [zdm hf (show szL D.Parcel.sz x ≤ 1048576 by omega), za8, Option.bind_some, Int.toNat_natCast]
    all_goals (refine congrArg some (congrArg Rd.next (Prod.ext ?_ ?_)); rotate_left; first | rfl | (dsimp only; simp only [Int.natCast_add, Int.natCast_one, Int.ofNat_one, ← Int.add_assoc]))
    all_goals (dsimp only; simp only [Int.natCast_add, Int.natCast_one, Int.ofNat_one]; try omega)
  · intro k ys; unfold z4B; rw [if_neg (by simp)]

theorem zfU {xs : List (List D.Parcel)} : ctParcelSS xs ≤ 64 * (szL (fun x => szL D.Parcel.sz x) xs) := by
  have h := z9L (c := ecParcelSS) (g := (fun x => szL D.Parcel.sz x)) (m := 64) (xs := xs) fun x _ => by
    unfold ecParcelSS
    have := zh4 (xs := x)
    omega
  exact h

def zev (fuel : Nat) (x : (List Int)) (k : Int) : (List Int) := (z7V fuel x (k))
def za4 (x : (List Int)) : Nat := z30 x
def zgx (fuel : Nat) (xs : List (List Int)) (k : Int) : List (List Int) := markL (zev fuel) za4 xs k
def zaH (xs : List (List Int)) : Nat := sumL za4 xs
theorem zdn {fuel : Nat} {xs : List (List Int)} {k : Int} (hf : 18446744073709551616 ≤ fuel) (hl : szL (fun x => x.length) xs ≤ 1048576) (h0 : 0 ≤ k) (h1 : k + (zaH xs : Nat) ≤ 2147483648) : z5b fuel xs k = some (k + (zaH xs : Nat), zgx fuel xs k) := by
  unfold z5b
  rw [z7A (f := zev fuel) (c := za4) (xs := xs) (k := k) (by have := (z5H hl); omega) hf h0 h1 ?_ ?_]
  · rfl
  · intro i x ys k hi hl2 hx hm h0 h1
    unfold za4 at h1
    have hsx := z5G hl hm
    unfold z5a zev za4
    rw [if_pos (decide_eq_true (show (i : Int) < xs.length by omega))]
    simp only [za hx, Option.bind_some]
    simp (disch := omega) only [z5J hf (show x.length ≤ 1048576 by omega), za8, Option.bind_some, Int.toNat_natCast]
    all_goals (refine congrArg some (congrArg Rd.next (Prod.ext ?_ ?_)); rotate_left; first | rfl | (dsimp only; simp only [Int.natCast_add, Int.natCast_one, Int.ofNat_one, ← Int.add_assoc]))
    all_goals (dsimp only; simp only [Int.natCast_add, Int.natCast_one, Int.ofNat_one]; try omega)
  · intro k ys; unfold z5a; rw [if_neg (by simp)]

theorem zh5 {xs : List (List Int)} : zaH xs ≤ 64 * (szL (fun x => x.length) xs) := by
  have h := z9L (c := za4) (g := (fun x => x.length)) (m := 64) (xs := xs) fun x _ => by
    unfold za4
    have := z8X (xs := x)
    omega
  exact h

def elShardCellS (fuel : Nat) (x : D.ShardCell) (k : Int) : D.ShardCell := (⟨k, k + 1, k + 1 + 1, (z7V fuel x.Data (k + 1 + 1 + 1)), (mkAddressS fuel x.Aux (k + 1 + 1 + 1 + ((z30 x.Data : Nat) : Int)))⟩ : D.ShardCell)
def ecShardCellS (x : D.ShardCell) : Nat := 1 + 1 + 1 + z30 x.Data + ctAddressS x.Aux
def mkShardCellS (fuel : Nat) (xs : List D.ShardCell) (k : Int) : List D.ShardCell := markL (elShardCellS fuel) ecShardCellS xs k
def ctShardCellS (xs : List D.ShardCell) : Nat := sumL ecShardCellS xs
theorem zc7 {fuel : Nat} {xs : List D.ShardCell} {k : Int} (hf : 18446744073709551616 ≤ fuel) (hl : szL D.ShardCell.sz xs ≤ 1048576) (h0 : 0 ≤ k) (h1 : k + (ctShardCellS xs : Nat) ≤ 2147483648) : z34 fuel xs k = some (k + (ctShardCellS xs : Nat), mkShardCellS fuel xs k) := by
  unfold z34
  rw [z7A (f := elShardCellS fuel) (c := ecShardCellS) (xs := xs) (k := k) (by have := (z5H hl); omega) hf h0 h1 ?_ ?_]
  · rfl
  · intro i x ys k hi hl2 hx hm h0 h1
    unfold ecShardCellS at h1
    have hsx := z5G hl hm
    unfold D.ShardCell.sz at hsx
    unfold z3k elShardCellS ecShardCellS
    rw [if_pos (decide_eq_true (show (i : Int) < xs.length by omega))]
    simp only [za hx, Option.bind_some]
    simp (disch := omega) only [z5J hf (show x.Data.length ≤ 1048576 by omega), zaA hf (show x.Aux.length ≤ 1048576 by omega), za8, Option.bind_some, Int.toNat_natCast]
    all_goals (refine congrArg some (congrArg Rd.next (Prod.ext ?_ ?_)); rotate_left; first | rfl | (dsimp only; simp only [Int.natCast_add, Int.natCast_one, Int.ofNat_one, ← Int.add_assoc]))
    all_goals (dsimp only; simp only [Int.natCast_add, Int.natCast_one, Int.ofNat_one]; try omega)
  · intro k ys; unfold z3k; rw [if_neg (by simp)]

theorem zew {xs : List D.ShardCell} : ctShardCellS xs ≤ 64 * (szL D.ShardCell.sz xs) := by
  have h := z9L (c := ecShardCellS) (g := D.ShardCell.sz) (m := 64) (xs := xs) fun x _ => by
    unfold ecShardCellS
    unfold D.ShardCell.sz
    have := z8X (xs := x.Data)
    have := zcF (xs := x.Aux)
    omega
  exact h

def elShardVarS (fuel : Nat) (x : D.ShardVar) (k : Int) : D.ShardVar := (⟨((k).tmod 3 == 0), ((k + 1).tmod 3 == 0), (⟨k + 1 + 1, k + 1 + 1 + 1, k + 1 + 1 + 1 + 1⟩ : D.Address)⟩ : D.ShardVar)
def ecShardVarS (x : D.ShardVar) : Nat := 1 + 1 + 1 + 1 + 1
def mkShardVarS (fuel : Nat) (xs : List D.ShardVar) (k : Int) : List D.ShardVar := markL (elShardVarS fuel) ecShardVarS xs k
def ctShardVarS (xs : List D.ShardVar) : Nat := sumL ecShardVarS xs
theorem zcs {fuel : Nat} {xs : List D.ShardVar} {k : Int} (hf : 18446744073709551616 ≤ fuel) (hl : xs.length ≤ 1048576) (h0 : 0 ≤ k) (h1 : k + (ctShardVarS xs : Nat) ≤ 2147483648) : z3F fuel xs k = some (k + (ctShardVarS xs : Nat), mkShardVarS fuel xs k) := by
  unfold z3F
  rw [z7A (f := elShardVarS fuel) (c := ecShardVarS) (xs := xs) (k := k) (by have := hl; omega) hf h0 h1 ?_ ?_]
  · rfl
  · intro i x ys k hi hl2 hx hm h0 h1
    unfold ecShardVarS at h1
    unfold z3V elShardVarS ecShardVarS
    rw [if_pos (decide_eq_true (show (i : Int) < xs.length by omega))]
    simp only [za hx, Option.bind_some]
    simp (disch := omega) only [za8, Option.bind_some, Int.toNat_natCast]
    all_goals (refine congrArg some (congrArg Rd.next (Prod.ext ?_ ?_)); rotate_left; first | rfl | (dsimp only; simp only [Int.natCast_add, Int.natCast_one, Int.ofNat_one, ← Int.add_assoc]))
    all_goals (dsimp only; simp only [Int.natCast_add, Int.natCast_one, Int.ofNat_one]; try omega)
  · intro k ys; unfold z3V; rw [if_neg (by simp)]

theorem zeT {xs : List D.ShardVar} : ctShardVarS xs ≤ 64 * (xs.length) := by
  have h := z9L (c := ecShardVarS) (g := (fun _ => 0)) (m := 64) (xs := xs) fun x _ => by
    unfold ecShardVarS
    omega
  rw [zbJ (fun _ => rfl)] at h
  exact h

def elShardRedexS (fuel : Nat) (x : D.ShardRedex) (k : Int) : D.ShardRedex := (⟨(⟨k, k + 1, k + 1 + 1⟩ : D.Address), (⟨k + ((1 + 1 + 1 : Nat) : Int), k + ((1 + 1 + 1 : Nat) : Int) + 1, k + ((1 + 1 + 1 : Nat) : Int) + 1 + 1⟩ : D.Address)⟩ : D.ShardRedex)
def ecShardRedexS (x : D.ShardRedex) : Nat := 1 + 1 + 1 + 1 + 1 + 1
def mkShardRedexS (fuel : Nat) (xs : List D.ShardRedex) (k : Int) : List D.ShardRedex := markL (elShardRedexS fuel) ecShardRedexS xs k
def ctShardRedexS (xs : List D.ShardRedex) : Nat := sumL ecShardRedexS xs
theorem zbW {fuel : Nat} {xs : List D.ShardRedex} {k : Int} (hf : 18446744073709551616 ≤ fuel) (hl : xs.length ≤ 1048576) (h0 : 0 ≤ k) (h1 : k + (ctShardRedexS xs : Nat) ≤ 2147483648) : z2J fuel xs k = some (k + (ctShardRedexS xs : Nat), mkShardRedexS fuel xs k) := by
  unfold z2J
  rw [z7A (f := elShardRedexS fuel) (c := ecShardRedexS) (xs := xs) (k := k) (by have := hl; omega) hf h0 h1 ?_ ?_]
  · rfl
  · intro i x ys k hi hl2 hx hm h0 h1
    unfold ecShardRedexS at h1
    unfold z2V elShardRedexS ecShardRedexS
    rw [if_pos (decide_eq_true (show (i : Int) < xs.length by omega))]
    simp only [za hx, Option.bind_some]
    simp (disch := omega) only [za8, Option.bind_some, Int.toNat_natCast]
    all_goals (refine congrArg some (congrArg Rd.next (Prod.ext ?_ ?_)); rotate_left; first | rfl | (dsimp only; simp only [Int.natCast_add, Int.natCast_one, Int.ofNat_one, ← Int.add_assoc]))
    all_goals (dsimp only; simp only [Int.natCast_add, Int.natCast_one, Int.ofNat_one]; try omega)
  · intro k ys; unfold z2V; rw [if_neg (by simp)]

theorem zdt {xs : List D.ShardRedex} : ctShardRedexS xs ≤ 64 * (xs.length) := by
  have h := z9L (c := ecShardRedexS) (g := (fun _ => 0)) (m := 64) (xs := xs) fun x _ => by
    unfold ecShardRedexS
    omega
  rw [zbJ (fun _ => rfl)] at h
  exact h

def elShardS (fuel : Nat) (x : D.Shard) (k : Int) : D.Shard := (⟨(mkShardCellS fuel x.Cells (k)), (mkShardVarS fuel x.Vars (k + ((ctShardCellS x.Cells : Nat) : Int))), (mkShardRedexS fuel x.Redexes (k + ((ctShardCellS x.Cells : Nat) : Int) + ((ctShardVarS x.Vars : Nat) : Int)))⟩ : D.Shard)
def ecShardS (x : D.Shard) : Nat := ctShardCellS x.Cells + ctShardVarS x.Vars + ctShardRedexS x.Redexes
def mkShardS (fuel : Nat) (xs : List D.Shard) (k : Int) : List D.Shard := markL (elShardS fuel) ecShardS xs k
def ctShardS (xs : List D.Shard) : Nat := sumL ecShardS xs
theorem zeb {fuel : Nat} {xs : List D.Shard} {k : Int} (hf : 18446744073709551616 ≤ fuel) (hl : szL D.Shard.sz xs ≤ 1048576) (h0 : 0 ≤ k) (h1 : k + (ctShardS xs : Nat) ≤ 2147483648) : z5Y fuel xs k = some (k + (ctShardS xs : Nat), mkShardS fuel xs k) := by
  unfold z5Y
  rw [z7A (f := elShardS fuel) (c := ecShardS) (xs := xs) (k := k) (by have := (z5H hl); omega) hf h0 h1 ?_ ?_]
  · rfl
  · intro i x ys k hi hl2 hx hm h0 h1
    unfold ecShardS at h1
    have hsx := z5G hl hm
    unfold D.Shard.sz at hsx
    unfold z5x elShardS ecShardS
    rw [if_pos (decide_eq_true (show (i : Int) < xs.length by omega))]
    simp only [za hx, Option.bind_some]
    simp (disch := omega) only [zc7 hf (show szL D.ShardCell.sz x.Cells ≤ 1048576 by omega), zcs hf (show x.Vars.length ≤ 1048576 by omega), zbW hf (show x.Redexes.length ≤ 1048576 by omega), za8, Option.bind_some, Int.toNat_natCast]
    all_goals (refine congrArg some (congrArg Rd.next (Prod.ext ?_ ?_)); rotate_left; first | rfl | (dsimp only; simp only [Int.natCast_add, Int.natCast_one, Int.ofNat_one, ← Int.add_assoc]))
    all_goals (dsimp only; simp only [Int.natCast_add, Int.natCast_one, Int.ofNat_one]; try omega)
  · intro k ys; unfold z5x; rw [if_neg (by simp)]

theorem zhL {xs : List D.Shard} : ctShardS xs ≤ 64 * (szL D.Shard.sz xs) := by
  have h := z9L (c := ecShardS) (g := D.Shard.sz) (m := 64) (xs := xs) fun x _ => by
    unfold ecShardS
    unfold D.Shard.sz
    have := zew (xs := x.Cells)
    have := zeT (xs := x.Vars)
    have := zdt (xs := x.Redexes)
    omega
  exact h

def mkCluster (fuel : Nat) (x : D.Cluster) (k : Int) : D.Cluster := (⟨(⟨mkShardS fuel x.Grid.Shards (k), (⟨x.Grid.Root.Machine, x.Grid.Root.Kind, x.Grid.Root.Index⟩ : D.Address)⟩ : D.Grid), mkParcelSS fuel x.Channels (k + ((ctShardS x.Grid.Shards : Nat) : Int)), zgx fuel x.Counts (k + ((ctShardS x.Grid.Shards : Nat) : Int) + ((ctParcelSS x.Channels : Nat) : Int)), z7V fuel x.Sent (k + ((ctShardS x.Grid.Shards : Nat) : Int) + ((ctParcelSS x.Channels : Nat) : Int) + ((zaH x.Counts : Nat) : Int)), z7V fuel x.Got (k + ((ctShardS x.Grid.Shards : Nat) : Int) + ((ctParcelSS x.Channels : Nat) : Int) + ((zaH x.Counts : Nat) : Int) + ((z30 x.Sent : Nat) : Int))⟩ : D.Cluster)
def ctCluster (x : D.Cluster) : Nat := ctShardS x.Grid.Shards + ctParcelSS x.Channels + zaH x.Counts + z30 x.Sent + z30 x.Got
theorem zb2 {fuel : Nat} {x : D.Cluster} {k : Int} (hf : 18446744073709551616 ≤ fuel) (hs : x.sz ≤ 1048576) (h0 : 0 ≤ k) (h1 : k + (ctCluster x : Nat) ≤ 2147483648) : z3m fuel x k = some (k + (ctCluster x : Nat), (mkCluster fuel x k).Grid.Shards, (mkCluster fuel x k).Channels, (mkCluster fuel x k).Counts, (mkCluster fuel x k).Sent, (mkCluster fuel x k).Got) := by
  unfold ctCluster at h1 ⊢
  simp only [D.Cluster.sz, D.Grid.sz] at hs
  unfold z3m mkCluster
  simp (disch := omega) only [zeb hf (show szL D.Shard.sz x.Grid.Shards ≤ 1048576 by omega), zcY hf (show szL (fun x => szL D.Parcel.sz x) x.Channels ≤ 1048576 by omega), zdn hf (show szL (fun x => x.length) x.Counts ≤ 1048576 by omega), z5J hf (show x.Sent.length ≤ 1048576 by omega), z5J hf (show x.Got.length ≤ 1048576 by omega), Option.bind_some, z8v]
  all_goals try simp only [Int.natCast_add, Int.add_assoc]

theorem zda {x : D.Cluster} : ctCluster x ≤ 64 * x.sz := by
  unfold ctCluster
  simp only [D.Cluster.sz, D.Grid.sz]
  have := zhL (xs := x.Grid.Shards)
  have := zfU (xs := x.Channels)
  have := zh5 (xs := x.Counts)
  have := z8X (xs := x.Sent)
  have := z8X (xs := x.Got)
  omega

end Go.E

