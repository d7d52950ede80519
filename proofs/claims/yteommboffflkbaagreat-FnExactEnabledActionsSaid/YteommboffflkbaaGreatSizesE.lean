/- What the functions that size, copy and compare give on well formed data (written by program). Conditions: sizes within the law s own bound. -/
import Derived.Test.YteommboffflkbaaGreatShort
import Derived.Test.YteommboffflkbaaGreatHE
import Derived.Test.YteommboffflkbaaGreatRounds
namespace Go.E
open Go.RowKit Go.Proofs
set_option linter.unusedSimpArgs false
set_option linter.unusedVariables false

theorem zfP {fuel : Nat} {x : D.Action} (hf : 18446744073709551616 ≤ fuel) (hs : 0 ≤ 1048576) : z7b fuel x x = some true := by
  skip
  simp [z7b, z1L]

theorem zeS {fuel : Nat} {x : (List D.Action)} (hf : 18446744073709551616 ≤ fuel) (hs : x.length ≤ 1048576) : z3t fuel x x = some true := by
  have hl := hs
  unfold z3t
  rw [if_neg (by simp)]
  refine z67 (n := x.length) (t := ()) (by unfold maxLen; omega) hf rfl ?_ ?_
  · intro i hi
    obtain ⟨y, hy⟩ := z4a hi
    have hsy : 0 ≤ 1048576 := Nat.zero_le _
    simp [z6i, za hy, hi, z1L, zfP hf hsy]
  · simp [z6i]

end Go.E

