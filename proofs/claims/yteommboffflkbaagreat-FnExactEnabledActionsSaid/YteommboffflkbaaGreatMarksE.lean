/- What the functions that mark data and look for the marks give (written by program). Conditions: counts stay small. -/
import Derived.Test.YteommboffflkbaaGreatMark
import Derived.Test.YteommboffflkbaaGreatSizesE
import Derived.Test.YteommboffflkbaaGreatFM
import Derived.Test.YteommboffflkbaaGreatHE
import Derived.Test.YteommboffflkbaaGreatMarksV
namespace Go.E
open Go.RowKit Go.Proofs
set_option linter.unusedSimpArgs false
set_option linter.unusedVariables false

def elActionS (fuel : Nat) (x : D.Action) (k : Int) : D.Action := (⟨k, k + 1, k + 1 + 1⟩ : D.Action)
def ecActionS (x : D.Action) : Nat := 1 + 1 + 1
def mkActionS (fuel : Nat) (xs : List D.Action) (k : Int) : List D.Action := markL (elActionS fuel) ecActionS xs k
def ctActionS (xs : List D.Action) : Nat := sumL ecActionS xs
theorem zdo {fuel : Nat} {xs : List D.Action} {k : Int} (hf : 18446744073709551616 ≤ fuel) (hl : xs.length ≤ 1048576) (h0 : 0 ≤ k) (h1 : k + (ctActionS xs : Nat) ≤ 2147483648) : z5d fuel xs k = some (k + (ctActionS xs : Nat), mkActionS fuel xs k) := by
  unfold z5d
  rw [z7A (f := elActionS fuel) (c := ecActionS) (xs := xs) (k := k) (by have := hl; omega) hf h0 h1 ?_ ?_]
  · rfl
  · intro i x ys k hi hl2 hx hm h0 h1
    unfold ecActionS at h1
    unfold z5c elActionS ecActionS
    rw [if_pos (decide_eq_true (show (i : Int) < xs.length by omega))]
    simp only [za hx, Option.bind_some]
    simp (disch := omega) only [za8, Option.bind_some, Int.toNat_natCast]
    refine congrArg some (congrArg Rd.next (Prod.ext ?_ ?_)); rotate_left; first | rfl | (dsimp only; simp only [Int.natCast_add, Int.natCast_one, Int.ofNat_one, ← Int.add_assoc])
    dsimp only; simp only [Int.natCast_add, Int.natCast_one, Int.ofNat_one]; try omega
  · intro k ys; unfold z5c; rw [if_neg (by simp)]

theorem zdr {fuel : Nat} {xs : List D.Action} {k : Int} (hf : 18446744073709551616 ≤ fuel) (hl : xs.length ≤ 1048576) (h0 : 0 ≤ k) (h1 : k + (ctActionS xs : Nat) ≤ 2147483648) : z3n fuel (mkActionS fuel xs k) k = some (k + (ctActionS xs : Nat)) := by
  unfold z3n
  have hlen : (mkActionS fuel xs k).length = xs.length := z6Z _ _
  rw [zgB (f := elActionS fuel) (c := ecActionS) (xs := xs) (k := k) (by have := hl; omega) hf h0 h1 ?_ ?_]
  · rfl
  · intro i x k' hi hx hm h0 h1
    unfold ecActionS at h1
    have hx2 : (mkActionS fuel xs k)[i]? = some (elActionS fuel x k') := hx
    unfold z35
    rw [if_pos (decide_eq_true (show (i : Int) < (mkActionS fuel xs k).length by rw [hlen]; omega))]
    simp only [za hx2, Option.bind_some]
    unfold elActionS ecActionS
    simp (disch := omega) only [za8, Option.bind_some, lt_f, if_false, bne_self_eq_false, Bool.false_eq_true, beq_self_eq_true, Bool.not_true, Int.ofNat_one, Int.natCast_one]
    try (refine congrArg some (congrArg Rd.next (Prod.ext ?_ rfl)); dsimp only; simp only [Int.natCast_add, Int.natCast_one, Int.ofNat_one]; try omega)
  · intro k'; show z35 fuel (mkActionS fuel xs k) (k', ((mkActionS fuel xs k).length : Int)) = _; unfold z35; rw [if_neg (by simp)]

theorem zh6 {xs : List D.Action} : ctActionS xs ≤ 64 * (xs.length) := by
  have h := z9L (c := ecActionS) (g := (fun _ => 0)) (m := 64) (xs := xs) fun x _ => by
    unfold ecActionS
    omega
  rw [zbJ (fun _ => rfl)] at h
  exact h

end Go.E

