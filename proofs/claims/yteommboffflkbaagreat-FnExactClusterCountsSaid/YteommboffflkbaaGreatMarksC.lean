/- What the functions that mark data and look for the marks give (written by program). Conditions: counts stay small. -/
import Derived.Test.YteommboffflkbaaGreatMark
import Derived.Test.YteommboffflkbaaGreatRounds
import Derived.Test.YteommboffflkbaaGreatFM
import Derived.Test.YteommboffflkbaaGreatHCC
import Derived.Test.YteommboffflkbaaGreatMarksV
namespace Go.E
open Go.RowKit Go.Proofs
set_option linter.unusedSimpArgs false
set_option linter.unusedVariables false

theorem zeh {fuel : Nat} {xs : List Int} {k : Int} (hf : 18446744073709551616 ≤ fuel) (hl : xs.length ≤ 1048576) (h0 : 0 ≤ k) (h1 : k + (z30 xs : Nat) ≤ 2147483648) : z45 fuel (z7V fuel xs k) k = some (k + (z30 xs : Nat)) := by
  unfold z45
  have hlen : (z7V fuel xs k).length = xs.length := z6Z _ _
  rw [zgB (f := zbS fuel) (c := z90) (xs := xs) (k := k) (by have := hl; omega) hf h0 h1 ?_ ?_]
  · rfl
  · intro i x k' hi hx hm h0 h1
    unfold z90 at h1
    have hx2 : (z7V fuel xs k)[i]? = some (zbS fuel x k') := hx
    unfold z3G
    rw [if_pos (decide_eq_true (show (i : Int) < (z7V fuel xs k).length by rw [hlen]; omega))]
    simp only [za hx2, Option.bind_some]
    unfold zbS z90
    simp (disch := omega) only [za8, Option.bind_some, lt_f, if_false, bne_self_eq_false, Bool.false_eq_true, beq_self_eq_true, Bool.not_true, Int.ofNat_one, Int.natCast_one]
  · intro k'; show z3G fuel (z7V fuel xs k) (k', ((z7V fuel xs k).length : Int)) = _; unfold z3G; rw [if_neg (by simp)]

end Go.E

