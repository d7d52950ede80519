/- What the functions that size, copy and compare give on well formed data (written by program). Conditions: sizes within the law s own bound. -/
import Derived.Test.YteommboffflkbaaGreatSzDet
import Derived.Test.YteommboffflkbaaGreatFA
import Derived.Test.YteommboffflkbaaGreatFG
import Derived.Test.YteommboffflkbaaGreatFGb
import Derived.Test.YteommboffflkbaaGreatFGc
import Derived.Test.YteommboffflkbaaGreatFGd
import Derived.Test.YteommboffflkbaaGreatFGe
import Derived.Test.YteommboffflkbaaGreatHV
import Derived.Test.YteommboffflkbaaGreatRounds
namespace Go.E
open Go.RowKit Go.Proofs
set_option linter.unusedSimpArgs false
set_option linter.unusedVariables false

theorem zgg {fuel : Nat} {x : (List Bool)} {l : Int} (hf : 18446744073709551616 ≤ fuel) (hw : WfL (fun _ => True) x) (h0 : 0 ≤ l) (h1 : l ≤ 1048576) : SzOk (x.length) l (z7G fuel x l) := by
  unfold z7G
  generalize hz : w64 (l - (x.length : Int)) = z
  exact SzOk.sub2 h0 h1 hw.1 (m := 0) rfl hz fun g0 g1 => SzOk.same g0

theorem zge {fuel : Nat} {x : (List Bool)} (hf : 18446744073709551616 ≤ fuel) (hs : x.length ≤ 1048576) : z7E fuel x = some x := by
  have hl := hs
  unfold z7E
  refine z7U hl hf (fun _ => rfl) ?_ ?_
  · intro i y out hy hl2
    have hi := (List.getElem?_eq_some_iff.1 hy).1
    have hsy : 0 ≤ 1048576 := Nat.zero_le _
    simp only [z7q, za hy, Option.bind_some, lt_t (show (i : Int) < x.length by omega), if_true]
    rw [if_pos (by simp; omega)]
    simp
  · intro out
    simp [z7q]

theorem zgF {fuel : Nat} {x : (List Bool)} (hf : 18446744073709551616 ≤ fuel) (hs : x.length ≤ 1048576) : z7K fuel x x = some true := by
  have hl := hs
  unfold z7K
  rw [if_neg (by simp)]
  refine z67 (n := x.length) (t := ()) (by unfold maxLen; omega) hf rfl ?_ ?_
  · intro i hi
    obtain ⟨y, hy⟩ := z4a hi
    have hsy : 0 ≤ 1048576 := Nat.zero_le _
    simp [z7r, za hy, hi, z1L]
  · simp [z7r]

theorem zbb {fuel : Nat} {x : D.Detector} {l : Int} (hf : 18446744073709551616 ≤ fuel) (hw : D.Detector.wf x) (h0 : 0 ≤ l) (h1 : l ≤ 1048576) : SzOk (D.Detector.sz x) l (z44 fuel x l) := by
  obtain ⟨w0, w1, w2, w3, w4, w5, w6, _⟩ := hw
  unfold z44 D.Detector.sz
  refine SzOk.bind (z7y hf w0 h0 (by omega)) rfl fun r1 g1a g1b => ?_
  refine SzOk.bind (zgg hf w4 g1a (by omega)) rfl fun r2 g2a g2b => ?_
  exact SzOk.same g2a

theorem zba {fuel : Nat} {x : D.Detector} (hf : 18446744073709551616 ≤ fuel) (hs : D.Detector.sz x ≤ 1048576) : z1q fuel x = some x := by
  unfold D.Detector.sz at hs
  unfold z1q
  simp only [z6G hf (show D.Cluster.sz x.Cluster ≤ 1048576 by omega), zge hf (show x.Stained.length ≤ 1048576 by omega), Option.bind_some]

theorem zby {fuel : Nat} {x : D.Detector} (hf : 18446744073709551616 ≤ fuel) (hs : D.Detector.sz x ≤ 1048576) : z46 fuel x x = some true := by
  unfold D.Detector.sz at hs
  simp [z46, z1L, z6K hf (show D.Cluster.sz x.Cluster ≤ 1048576 by omega), zgF hf (show x.Stained.length ≤ 1048576 by omega)]

theorem znS : Opens Tryz.prog 56 ty56 (WfL (fun _ => True)) := Opens.sl Tryz.underlying56 (by kernel_rfl) zgv
set_option maxRecDepth 100000 in
theorem zjq : Opens Tryz.prog 58 ty58 D.Detector.wf := Opens.struct (f := fun c : D.Detector => (c.Cluster, c.Holder, c.Count, c.Dark, c.Stained, c.Rounds, c.Announced, ())) Tryz.underlying58 (by kernel_rfl) (OpensF.cons ze8 rfl rfl (OpensF.cons zbk rfl rfl (OpensF.cons zbk rfl rfl (OpensF.cons zgv rfl rfl (OpensF.cons znS rfl rfl (OpensF.cons zbk rfl rfl (OpensF.cons zgv rfl rfl OpensF.nil))))))) (fun ⟨a0, a1, a2, a3, a4, a5, a6, _⟩ => ⟨⟨a0, a1, a2, a3, a4, a5, a6⟩, rfl⟩)
end Go.E

