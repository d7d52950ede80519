/- What the functions that size, copy and compare give on well formed data (written by program). Conditions: sizes within the law s own bound. -/
import Derived.Test.YteommboffflkbaaGreatSzDefs
import Derived.Test.YteommboffflkbaaGreatFA
import Derived.Test.YteommboffflkbaaGreatFG
import Derived.Test.YteommboffflkbaaGreatFGb
import Derived.Test.YteommboffflkbaaGreatFGc
import Derived.Test.YteommboffflkbaaGreatFGd
import Derived.Test.YteommboffflkbaaGreatFGe
namespace Go.E
open Go.RowKit Go.Proofs
set_option linter.unusedSimpArgs false
set_option linter.unusedVariables false

theorem z71 {fuel : Nat} {x : (List Int)} (hf : 18446744073709551616 ≤ fuel) (hs : x.length ≤ 1048576) : z2d fuel x x = some true := by
  have hl := hs
  unfold z2d
  rw [if_neg (by simp)]
  refine z5z (n := x.length) (t := ()) (by unfold maxLen; omega) hf rfl ?_ ?_
  · intro i hi
    obtain ⟨y, hy⟩ := z52 hi
    have hsy : 0 ≤ 1048576 := Nat.zero_le _
    simp [z58, za hy, hi, z2a]
  · simp [z58]

theorem z6Z {fuel : Nat} {x : (List Int)} {l : Int} (hf : 18446744073709551616 ≤ fuel) (hw : WfL I64 x) (h0 : 0 ≤ l) (h1 : l ≤ 1048576) : SzOk (x.length) l (z2c fuel x l) := by
  unfold z2c
  generalize hz : w64 (l - (x.length : Int)) = z
  exact SzOk.sub2 h0 h1 hw.1 (m := 0) rfl hz fun g0 g1 => SzOk.same g0

theorem z6Y {fuel : Nat} {x : (List Int)} (hf : 18446744073709551616 ≤ fuel) (hs : x.length ≤ 1048576) : z2b fuel x = some x := by
  have hl := hs
  unfold z2b
  refine z6r hl hf (fun _ => rfl) ?_ ?_
  · intro i y out hy hl2
    have hi := (List.getElem?_eq_some_iff.1 hy).1
    have hsy : 0 ≤ 1048576 := Nat.zero_le _
    simp only [z55, za hy, Option.bind_some, lt_t (show (i : Int) < x.length by omega), if_true]
    rw [if_pos (by simp; omega)]
    simp
  · intro out
    simp [z55]

theorem z3Q {fuel : Nat} {x : D.Address} (hf : 18446744073709551616 ≤ fuel) (hs : 0 ≤ 1048576) : z13 fuel x = some x := by
  skip
  unfold z13
  rfl

theorem z3Y {fuel : Nat} {x : D.Address} (hf : 18446744073709551616 ≤ fuel) (hs : 0 ≤ 1048576) : z14 fuel x x = some true := by
  skip
  simp [z14, z2a]

theorem zaP {fuel : Nat} {x : (List (List Int))} {l : Int} (hf : 18446744073709551616 ≤ fuel) (hw : WfL (WfL I64) x) (h0 : 0 ≤ l) (h1 : l ≤ 1048576) : SzOk (szL (fun x => x.length) x) l (z4Q fuel x l) := by
  unfold z4Q
  generalize hz : w64 (l - (x.length : Int)) = z
  refine SzOk.sub2 h0 h1 hw.1 (m := sumL (fun x => x.length) x) rfl hz fun g0 g1 => ?_
  refine SzOk.loop hw.1 hf g0 (by omega) (fun _ => rfl) ?_ ?_
  · intro i y l hy h0 h1
    have hi := (List.getElem?_eq_some_iff.1 hy).1
    have hwy := hw.2 y (List.mem_of_getElem? hy)
    obtain ⟨r, h2, h3⟩ := z6Z hf hwy h0 h1
    simp only [z4A, za hy, Option.bind_some, lt_t (show (i : Int) < x.length by omega), if_true, h2]
    by_cases hlt : r < 0
    · exact .inl (by simp only [lt_t hlt, if_true])
    · exact .inr ⟨r, by simp only [lt_f hlt, if_false], h3.resolve_left hlt⟩
  · intro l
    simp [z4A]

theorem zaM {fuel : Nat} {x : (List (List Int))} (hf : 18446744073709551616 ≤ fuel) (hs : szL (fun x => x.length) x ≤ 1048576) : z4O fuel x = some x := by
  have hl := z5T hs
  unfold z4O
  refine z6r hl hf (fun _ => rfl) ?_ ?_
  · intro i y out hy hl2
    have hi := (List.getElem?_eq_some_iff.1 hy).1
    have hsy : y.length ≤ 1048576 := z5S hs (List.mem_of_getElem? hy)
    simp only [z4y, za hy, Option.bind_some, lt_t (show (i : Int) < x.length by omega), if_true, z6Y hf hsy]
    rw [if_pos (by simp; omega)]
    simp
  · intro out
    simp [z4y]

theorem zaU {fuel : Nat} {x : (List (List Int))} (hf : 18446744073709551616 ≤ fuel) (hs : szL (fun x => x.length) x ≤ 1048576) : z4T fuel x x = some true := by
  have hl := z5T hs
  unfold z4T
  rw [if_neg (by simp)]
  refine z5z (n := x.length) (t := ()) (by unfold maxLen; omega) hf rfl ?_ ?_
  · intro i hi
    obtain ⟨y, hy⟩ := z52 hi
    have hsy : y.length ≤ 1048576 := z5S hs (List.mem_of_getElem? hy)
    simp [z4C, za hy, hi, z2a, z71 hf hsy]
  · simp [z4C]

theorem za4 {fuel : Nat} {x : (List D.Address)} {l : Int} (hf : 18446744073709551616 ≤ fuel) (hw : WfL D.Address.wf x) (h0 : 0 ≤ l) (h1 : l ≤ 1048576) : SzOk (x.length) l (z4n fuel x l) := by
  unfold z4n
  generalize hz : w64 (l - (x.length : Int)) = z
  exact SzOk.sub2 h0 h1 hw.1 (m := 0) rfl hz fun g0 g1 => SzOk.same g0

theorem z9Z {fuel : Nat} {x : D.ShardVar} (hf : 18446744073709551616 ≤ fuel) (hs : 0 ≤ 1048576) : z4i fuel x = some x := by
  skip
  unfold z4i
  simp only [z3Q hf (show 0 ≤ 1048576 by exact Nat.zero_le _), Option.bind_some]

theorem z9a {fuel : Nat} {x : D.ShardRedex} (hf : 18446744073709551616 ≤ fuel) (hs : 0 ≤ 1048576) : z3d fuel x = some x := by
  skip
  unfold z3d
  simp only [z3Q hf (show 0 ≤ 1048576 by exact Nat.zero_le _), z3Q hf (show 0 ≤ 1048576 by exact Nat.zero_le _), Option.bind_some]

theorem za1 {fuel : Nat} {x : (List D.Address)} (hf : 18446744073709551616 ≤ fuel) (hs : x.length ≤ 1048576) : z4k fuel x = some x := by
  have hl := hs
  unfold z4k
  refine z6r hl hf (fun _ => rfl) ?_ ?_
  · intro i y out hy hl2
    have hi := (List.getElem?_eq_some_iff.1 hy).1
    have hsy : 0 ≤ 1048576 := Nat.zero_le _
    simp only [z40, za hy, Option.bind_some, lt_t (show (i : Int) < x.length by omega), if_true, z3Q hf hsy]
    rw [if_pos (by simp; omega)]
    simp
  · intro out
    simp [z40]

theorem zap {fuel : Nat} {x : D.ShardVar} (hf : 18446744073709551616 ≤ fuel) (hs : 0 ≤ 1048576) : z4o fuel x x = some true := by
  skip
  simp [z4o, z2a, z3Y hf (show 0 ≤ 1048576 by exact Nat.zero_le _)]

theorem z9q {fuel : Nat} {x : D.ShardRedex} (hf : 18446744073709551616 ≤ fuel) (hs : 0 ≤ 1048576) : z3g fuel x x = some true := by
  skip
  simp [z3g, z2a, z3Y hf (show 0 ≤ 1048576 by exact Nat.zero_le _), z3Y hf (show 0 ≤ 1048576 by exact Nat.zero_le _)]

theorem zar {fuel : Nat} {x : (List D.Address)} (hf : 18446744073709551616 ≤ fuel) (hs : x.length ≤ 1048576) : z4q fuel x x = some true := by
  have hl := hs
  unfold z4q
  rw [if_neg (by simp)]
  refine z5z (n := x.length) (t := ()) (by unfold maxLen; omega) hf rfl ?_ ?_
  · intro i hi
    obtain ⟨y, hy⟩ := z52 hi
    have hsy : 0 ≤ 1048576 := Nat.zero_le _
    simp [z43, za hy, hi, z2a, z3Y hf hsy]
  · simp [z43]

theorem z9z {fuel : Nat} {x : (List D.ShardVar)} {l : Int} (hf : 18446744073709551616 ≤ fuel) (hw : WfL D.ShardVar.wf x) (h0 : 0 ≤ l) (h1 : l ≤ 1048576) : SzOk (x.length) l (z3M fuel x l) := by
  unfold z3M
  generalize hz : w64 (l - (x.length : Int)) = z
  exact SzOk.sub2 h0 h1 hw.1 (m := 0) rfl hz fun g0 g1 => SzOk.same g0

theorem z8Q {fuel : Nat} {x : (List D.ShardRedex)} {l : Int} (hf : 18446744073709551616 ≤ fuel) (hw : WfL D.ShardRedex.wf x) (h0 : 0 ≤ l) (h1 : l ≤ 1048576) : SzOk (x.length) l (z2C fuel x l) := by
  unfold z2C
  generalize hz : w64 (l - (x.length : Int)) = z
  exact SzOk.sub2 h0 h1 hw.1 (m := 0) rfl hz fun g0 g1 => SzOk.same g0

theorem z7U {fuel : Nat} {x : D.ShardCell} {l : Int} (hf : 18446744073709551616 ≤ fuel) (hw : D.ShardCell.wf x) (h0 : 0 ≤ l) (h1 : l ≤ 1048576) : SzOk (D.ShardCell.sz x) l (z2s fuel x l) := by
  obtain ⟨w0, w1, w2, w3, w4, _⟩ := hw
  unfold z2s D.ShardCell.sz
  refine SzOk.bind (z6Z hf w3 h0 (by omega)) rfl fun r1 g1a g1b => ?_
  refine SzOk.bind (za4 hf w4 g1a (by omega)) rfl fun r2 g2a g2b => ?_
  exact SzOk.same g2a

theorem z9y {fuel : Nat} {x : (List D.ShardVar)} (hf : 18446744073709551616 ≤ fuel) (hs : x.length ≤ 1048576) : z3L fuel x = some x := by
  have hl := hs
  unfold z3L
  refine z6r hl hf (fun _ => rfl) ?_ ?_
  · intro i y out hy hl2
    have hi := (List.getElem?_eq_some_iff.1 hy).1
    have hsy : 0 ≤ 1048576 := Nat.zero_le _
    simp only [z3K, za hy, Option.bind_some, lt_t (show (i : Int) < x.length by omega), if_true, z9Z hf hsy]
    rw [if_pos (by simp; omega)]
    simp
  · intro out
    simp [z3K]

theorem z8P {fuel : Nat} {x : (List D.ShardRedex)} (hf : 18446744073709551616 ≤ fuel) (hs : x.length ≤ 1048576) : z2B fuel x = some x := by
  have hl := hs
  unfold z2B
  refine z6r hl hf (fun _ => rfl) ?_ ?_
  · intro i y out hy hl2
    have hi := (List.getElem?_eq_some_iff.1 hy).1
    have hsy : 0 ≤ 1048576 := Nat.zero_le _
    simp only [z2Q, za hy, Option.bind_some, lt_t (show (i : Int) < x.length by omega), if_true, z9a hf hsy]
    rw [if_pos (by simp; omega)]
    simp
  · intro out
    simp [z2Q]

theorem z7T {fuel : Nat} {x : D.ShardCell} (hf : 18446744073709551616 ≤ fuel) (hs : D.ShardCell.sz x ≤ 1048576) : z2r fuel x = some x := by
  unfold D.ShardCell.sz at hs
  unfold z2r
  simp only [z6Y hf (show x.Data.length ≤ 1048576 by omega), za1 hf (show x.Aux.length ≤ 1048576 by omega), Option.bind_some]

theorem z9H {fuel : Nat} {x : (List D.ShardVar)} (hf : 18446744073709551616 ≤ fuel) (hs : x.length ≤ 1048576) : z3O fuel x x = some true := by
  have hl := hs
  unfold z3O
  rw [if_neg (by simp)]
  refine z5z (n := x.length) (t := ()) (by unfold maxLen; omega) hf rfl ?_ ?_
  · intro i hi
    obtain ⟨y, hy⟩ := z52 hi
    have hsy : 0 ≤ 1048576 := Nat.zero_le _
    simp [z3N, za hy, hi, z2a, zap hf hsy]
  · simp [z3N]

theorem z95 {fuel : Nat} {x : (List D.ShardRedex)} (hf : 18446744073709551616 ≤ fuel) (hs : x.length ≤ 1048576) : z2D fuel x x = some true := by
  have hl := hs
  unfold z2D
  rw [if_neg (by simp)]
  refine z5z (n := x.length) (t := ()) (by unfold maxLen; omega) hf rfl ?_ ?_
  · intro i hi
    obtain ⟨y, hy⟩ := z52 hi
    have hsy : 0 ≤ 1048576 := Nat.zero_le _
    simp [z2R, za hy, hi, z2a, z9q hf hsy]
  · simp [z2R]

theorem z7Y {fuel : Nat} {x : D.ShardCell} (hf : 18446744073709551616 ≤ fuel) (hs : D.ShardCell.sz x ≤ 1048576) : z2t fuel x x = some true := by
  unfold D.ShardCell.sz at hs
  simp [z2t, z2a, z71 hf (show x.Data.length ≤ 1048576 by omega), zar hf (show x.Aux.length ≤ 1048576 by omega)]

theorem zbu {fuel : Nat} {x : D.Parcel} {l : Int} (hf : 18446744073709551616 ≤ fuel) (hw : D.Parcel.wf x) (h0 : 0 ≤ l) (h1 : l ≤ 1048576) : SzOk (D.Parcel.sz x) l (z5j fuel x l) := by
  obtain ⟨w0, w1, w2, w3, _⟩ := hw
  unfold z5j D.Parcel.sz
  refine SzOk.bind (z7U hf w1 h0 (by omega)) rfl fun r1 g1a g1b => ?_
  exact SzOk.same g1a

theorem zbs {fuel : Nat} {x : D.Parcel} (hf : 18446744073709551616 ≤ fuel) (hs : D.Parcel.sz x ≤ 1048576) : z5h fuel x = some x := by
  unfold D.Parcel.sz at hs
  unfold z5h
  simp only [z7T hf (show D.ShardCell.sz x.Cell ≤ 1048576 by omega), z3Q hf (show 0 ≤ 1048576 by exact Nat.zero_le _), z3Q hf (show 0 ≤ 1048576 by exact Nat.zero_le _), Option.bind_some]

theorem zbL {fuel : Nat} {x : D.Parcel} (hf : 18446744073709551616 ≤ fuel) (hs : D.Parcel.sz x ≤ 1048576) : z5m fuel x x = some true := by
  unfold D.Parcel.sz at hs
  simp [z5m, z2a, z7Y hf (show D.ShardCell.sz x.Cell ≤ 1048576 by omega), z3Y hf (show 0 ≤ 1048576 by exact Nat.zero_le _), z3Y hf (show 0 ≤ 1048576 by exact Nat.zero_le _)]

theorem z9c {fuel : Nat} {x : (List D.ShardCell)} {l : Int} (hf : 18446744073709551616 ≤ fuel) (hw : WfL D.ShardCell.wf x) (h0 : 0 ≤ l) (h1 : l ≤ 1048576) : SzOk (szL D.ShardCell.sz x) l (z3f fuel x l) := by
  unfold z3f
  generalize hz : w64 (l - (x.length : Int)) = z
  refine SzOk.sub2 h0 h1 hw.1 (m := sumL D.ShardCell.sz x) rfl hz fun g0 g1 => ?_
  refine SzOk.loop hw.1 hf g0 (by omega) (fun _ => rfl) ?_ ?_
  · intro i y l hy h0 h1
    have hi := (List.getElem?_eq_some_iff.1 hy).1
    have hwy := hw.2 y (List.mem_of_getElem? hy)
    obtain ⟨r, h2, h3⟩ := z7U hf hwy h0 h1
    simp only [z3j, za hy, Option.bind_some, lt_t (show (i : Int) < x.length by omega), if_true, h2]
    by_cases hlt : r < 0
    · exact .inl (by simp only [lt_t hlt, if_true])
    · exact .inr ⟨r, by simp only [lt_f hlt, if_false], h3.resolve_left hlt⟩
  · intro l
    simp [z3j]

theorem z9b {fuel : Nat} {x : (List D.ShardCell)} (hf : 18446744073709551616 ≤ fuel) (hs : szL D.ShardCell.sz x ≤ 1048576) : z3e fuel x = some x := by
  have hl := z5T hs
  unfold z3e
  refine z6r hl hf (fun _ => rfl) ?_ ?_
  · intro i y out hy hl2
    have hi := (List.getElem?_eq_some_iff.1 hy).1
    have hsy : D.ShardCell.sz y ≤ 1048576 := z5S hs (List.mem_of_getElem? hy)
    simp only [z3i, za hy, Option.bind_some, lt_t (show (i : Int) < x.length by omega), if_true, z7T hf hsy]
    rw [if_pos (by simp; omega)]
    simp
  · intro out
    simp [z3i]

theorem z9r {fuel : Nat} {x : (List D.ShardCell)} (hf : 18446744073709551616 ≤ fuel) (hs : szL D.ShardCell.sz x ≤ 1048576) : z3h fuel x x = some true := by
  have hl := z5T hs
  unfold z3h
  rw [if_neg (by simp)]
  refine z5z (n := x.length) (t := ()) (by unfold maxLen; omega) hf rfl ?_ ?_
  · intro i hi
    obtain ⟨y, hy⟩ := z52 hi
    have hsy : D.ShardCell.sz y ≤ 1048576 := z5S hs (List.mem_of_getElem? hy)
    simp [z3k, za hy, hi, z2a, z7Y hf hsy]
  · simp [z3k]

theorem zaO {fuel : Nat} {x : (List D.Parcel)} {l : Int} (hf : 18446744073709551616 ≤ fuel) (hw : WfL D.Parcel.wf x) (h0 : 0 ≤ l) (h1 : l ≤ 1048576) : SzOk (szL D.Parcel.sz x) l (z4P fuel x l) := by
  unfold z4P
  generalize hz : w64 (l - (x.length : Int)) = z
  refine SzOk.sub2 h0 h1 hw.1 (m := sumL D.Parcel.sz x) rfl hz fun g0 g1 => ?_
  refine SzOk.loop hw.1 hf g0 (by omega) (fun _ => rfl) ?_ ?_
  · intro i y l hy h0 h1
    have hi := (List.getElem?_eq_some_iff.1 hy).1
    have hwy := hw.2 y (List.mem_of_getElem? hy)
    obtain ⟨r, h2, h3⟩ := zbu hf hwy h0 h1
    simp only [z4z, za hy, Option.bind_some, lt_t (show (i : Int) < x.length by omega), if_true, h2]
    by_cases hlt : r < 0
    · exact .inl (by simp only [lt_t hlt, if_true])
    · exact .inr ⟨r, by simp only [lt_f hlt, if_false], h3.resolve_left hlt⟩
  · intro l
    simp [z4z]

theorem zaL {fuel : Nat} {x : (List D.Parcel)} (hf : 18446744073709551616 ≤ fuel) (hs : szL D.Parcel.sz x ≤ 1048576) : z4N fuel x = some x := by
  have hl := z5T hs
  unfold z4N
  refine z6r hl hf (fun _ => rfl) ?_ ?_
  · intro i y out hy hl2
    have hi := (List.getElem?_eq_some_iff.1 hy).1
    have hsy : D.Parcel.sz y ≤ 1048576 := z5S hs (List.mem_of_getElem? hy)
    simp only [z4x, za hy, Option.bind_some, lt_t (show (i : Int) < x.length by omega), if_true, zbs hf hsy]
    rw [if_pos (by simp; omega)]
    simp
  · intro out
    simp [z4x]

theorem zaT {fuel : Nat} {x : (List D.Parcel)} (hf : 18446744073709551616 ≤ fuel) (hs : szL D.Parcel.sz x ≤ 1048576) : z4S fuel x x = some true := by
  have hl := z5T hs
  unfold z4S
  rw [if_neg (by simp)]
  refine z5z (n := x.length) (t := ()) (by unfold maxLen; omega) hf rfl ?_ ?_
  · intro i hi
    obtain ⟨y, hy⟩ := z52 hi
    have hsy : D.Parcel.sz y ≤ 1048576 := z5S hs (List.mem_of_getElem? hy)
    simp [z4B, za hy, hi, z2a, zbL hf hsy]
  · simp [z4B]

theorem zc2 {fuel : Nat} {x : D.Shard} {l : Int} (hf : 18446744073709551616 ≤ fuel) (hw : D.Shard.wf x) (h0 : 0 ≤ l) (h1 : l ≤ 1048576) : SzOk (D.Shard.sz x) l (z5J fuel x l) := by
  obtain ⟨w0, w1, w2, _⟩ := hw
  unfold z5J D.Shard.sz
  refine SzOk.bind (z9c hf w0 h0 (by omega)) rfl fun r1 g1a g1b => ?_
  refine SzOk.bind (z9z hf w1 g1a (by omega)) rfl fun r2 g2a g2b => ?_
  refine SzOk.bind (z8Q hf w2 g2a (by omega)) rfl fun r3 g3a g3b => ?_
  exact SzOk.same g3a

theorem zc1 {fuel : Nat} {x : D.Shard} (hf : 18446744073709551616 ≤ fuel) (hs : D.Shard.sz x ≤ 1048576) : z5H fuel x = some x := by
  unfold D.Shard.sz at hs
  unfold z5H
  simp only [z9b hf (show szL D.ShardCell.sz x.Cells ≤ 1048576 by omega), z9y hf (show x.Vars.length ≤ 1048576 by omega), z8P hf (show x.Redexes.length ≤ 1048576 by omega), Option.bind_some]

theorem zcm {fuel : Nat} {x : D.Shard} (hf : 18446744073709551616 ≤ fuel) (hs : D.Shard.sz x ≤ 1048576) : z5K fuel x x = some true := by
  unfold D.Shard.sz at hs
  simp [z5K, z2a, z9r hf (show szL D.ShardCell.sz x.Cells ≤ 1048576 by omega), z9H hf (show x.Vars.length ≤ 1048576 by omega), z95 hf (show x.Redexes.length ≤ 1048576 by omega)]

theorem za3 {fuel : Nat} {x : (List (List D.Parcel))} {l : Int} (hf : 18446744073709551616 ≤ fuel) (hw : WfL (WfL D.Parcel.wf) x) (h0 : 0 ≤ l) (h1 : l ≤ 1048576) : SzOk (szL (fun x => szL D.Parcel.sz x) x) l (z4m fuel x l) := by
  unfold z4m
  generalize hz : w64 (l - (x.length : Int)) = z
  refine SzOk.sub2 h0 h1 hw.1 (m := sumL (fun x => szL D.Parcel.sz x) x) rfl hz fun g0 g1 => ?_
  refine SzOk.loop hw.1 hf g0 (by omega) (fun _ => rfl) ?_ ?_
  · intro i y l hy h0 h1
    have hi := (List.getElem?_eq_some_iff.1 hy).1
    have hwy := hw.2 y (List.mem_of_getElem? hy)
    obtain ⟨r, h2, h3⟩ := zaO hf hwy h0 h1
    simp only [z41, za hy, Option.bind_some, lt_t (show (i : Int) < x.length by omega), if_true, h2]
    by_cases hlt : r < 0
    · exact .inl (by simp only [lt_t hlt, if_true])
    · exact .inr ⟨r, by simp only [lt_f hlt, if_false], h3.resolve_left hlt⟩
  · intro l
    simp [z41]

theorem za0 {fuel : Nat} {x : (List (List D.Parcel))} (hf : 18446744073709551616 ≤ fuel) (hs : szL (fun x => szL D.Parcel.sz x) x ≤ 1048576) : z4j fuel x = some x := by
  have hl := z5T hs
  unfold z4j
  refine z6r hl hf (fun _ => rfl) ?_ ?_
  · intro i y out hy hl2
    have hi := (List.getElem?_eq_some_iff.1 hy).1
    have hsy : szL D.Parcel.sz y ≤ 1048576 := z5S hs (List.mem_of_getElem? hy)
    simp only [z3Z, za hy, Option.bind_some, lt_t (show (i : Int) < x.length by omega), if_true, zaL hf hsy]
    rw [if_pos (by simp; omega)]
    simp
  · intro out
    simp [z3Z]

theorem zaq {fuel : Nat} {x : (List (List D.Parcel))} (hf : 18446744073709551616 ≤ fuel) (hs : szL (fun x => szL D.Parcel.sz x) x ≤ 1048576) : z4p fuel x x = some true := by
  have hl := z5T hs
  unfold z4p
  rw [if_neg (by simp)]
  refine z5z (n := x.length) (t := ()) (by unfold maxLen; omega) hf rfl ?_ ?_
  · intro i hi
    obtain ⟨y, hy⟩ := z52 hi
    have hsy : szL D.Parcel.sz y ≤ 1048576 := z5S hs (List.mem_of_getElem? hy)
    simp [z42, za hy, hi, z2a, zaT hf hsy]
  · simp [z42]

theorem zbt {fuel : Nat} {x : (List D.Shard)} {l : Int} (hf : 18446744073709551616 ≤ fuel) (hw : WfL D.Shard.wf x) (h0 : 0 ≤ l) (h1 : l ≤ 1048576) : SzOk (szL D.Shard.sz x) l (z5i fuel x l) := by
  unfold z5i
  generalize hz : w64 (l - (x.length : Int)) = z
  refine SzOk.sub2 h0 h1 hw.1 (m := sumL D.Shard.sz x) rfl hz fun g0 g1 => ?_
  refine SzOk.loop hw.1 hf g0 (by omega) (fun _ => rfl) ?_ ?_
  · intro i y l hy h0 h1
    have hi := (List.getElem?_eq_some_iff.1 hy).1
    have hwy := hw.2 y (List.mem_of_getElem? hy)
    obtain ⟨r, h2, h3⟩ := zc2 hf hwy h0 h1
    simp only [z56, za hy, Option.bind_some, lt_t (show (i : Int) < x.length by omega), if_true, h2]
    by_cases hlt : r < 0
    · exact .inl (by simp only [lt_t hlt, if_true])
    · exact .inr ⟨r, by simp only [lt_f hlt, if_false], h3.resolve_left hlt⟩
  · intro l
    simp [z56]

theorem zbr {fuel : Nat} {x : (List D.Shard)} (hf : 18446744073709551616 ≤ fuel) (hs : szL D.Shard.sz x ≤ 1048576) : z5g fuel x = some x := by
  have hl := z5T hs
  unfold z5g
  refine z6r hl hf (fun _ => rfl) ?_ ?_
  · intro i y out hy hl2
    have hi := (List.getElem?_eq_some_iff.1 hy).1
    have hsy : D.Shard.sz y ≤ 1048576 := z5S hs (List.mem_of_getElem? hy)
    simp only [z54, za hy, Option.bind_some, lt_t (show (i : Int) < x.length by omega), if_true, zc1 hf hsy]
    rw [if_pos (by simp; omega)]
    simp
  · intro out
    simp [z54]

theorem zbK {fuel : Nat} {x : (List D.Shard)} (hf : 18446744073709551616 ≤ fuel) (hs : szL D.Shard.sz x ≤ 1048576) : z5k fuel x x = some true := by
  have hl := z5T hs
  unfold z5k
  rw [if_neg (by simp)]
  refine z5z (n := x.length) (t := ()) (by unfold maxLen; omega) hf rfl ?_ ?_
  · intro i hi
    obtain ⟨y, hy⟩ := z52 hi
    have hsy : D.Shard.sz y ≤ 1048576 := z5S hs (List.mem_of_getElem? hy)
    simp [z57, za hy, hi, z2a, zcm hf hsy]
  · simp [z57]

theorem zd1 {fuel : Nat} {x : D.Grid} {l : Int} (hf : 18446744073709551616 ≤ fuel) (hw : D.Grid.wf x) (h0 : 0 ≤ l) (h1 : l ≤ 1048576) : SzOk (D.Grid.sz x) l (z6j fuel x l) := by
  obtain ⟨w0, w1, _⟩ := hw
  unfold z6j D.Grid.sz
  refine SzOk.bind (zbt hf w0 h0 (by omega)) rfl fun r1 g1a g1b => ?_
  exact SzOk.same g1a

theorem zd0 {fuel : Nat} {x : D.Grid} (hf : 18446744073709551616 ≤ fuel) (hs : D.Grid.sz x ≤ 1048576) : z6i fuel x = some x := by
  unfold D.Grid.sz at hs
  unfold z6i
  simp only [zbr hf (show szL D.Shard.sz x.Shards ≤ 1048576 by omega), z3Q hf (show 0 ≤ 1048576 by exact Nat.zero_le _), Option.bind_some]

theorem zdd {fuel : Nat} {x : D.Grid} (hf : 18446744073709551616 ≤ fuel) (hs : D.Grid.sz x ≤ 1048576) : z6m fuel x x = some true := by
  unfold D.Grid.sz at hs
  simp [z6m, z2a, zbK hf (show szL D.Shard.sz x.Shards ≤ 1048576 by omega), z3Y hf (show 0 ≤ 1048576 by exact Nat.zero_le _)]

theorem zaQ {fuel : Nat} {x : D.Cluster} {l : Int} (hf : 18446744073709551616 ≤ fuel) (hw : D.Cluster.wf x) (h0 : 0 ≤ l) (h1 : l ≤ 1048576) : SzOk (D.Cluster.sz x) l (z4R fuel x l) := by
  obtain ⟨w0, w1, w2, w3, w4, _⟩ := hw
  unfold z4R D.Cluster.sz
  refine SzOk.bind (zd1 hf w0 h0 (by omega)) rfl fun r1 g1a g1b => ?_
  refine SzOk.bind (za3 hf w1 g1a (by omega)) rfl fun r2 g2a g2b => ?_
  refine SzOk.bind (zaP hf w2 g2a (by omega)) rfl fun r3 g3a g3b => ?_
  refine SzOk.bind (z6Z hf w3 g3a (by omega)) rfl fun r4 g4a g4b => ?_
  refine SzOk.bind (z6Z hf w4 g4a (by omega)) rfl fun r5 g5a g5b => ?_
  exact SzOk.same g5a

theorem zaN {fuel : Nat} {x : D.Cluster} (hf : 18446744073709551616 ≤ fuel) (hs : D.Cluster.sz x ≤ 1048576) : z2y fuel x = some x := by
  unfold D.Cluster.sz at hs
  unfold z2y
  simp only [zd0 hf (show D.Grid.sz x.Grid ≤ 1048576 by omega), za0 hf (show szL (fun x => szL D.Parcel.sz x) x.Channels ≤ 1048576 by omega), zaM hf (show szL (fun x => x.length) x.Counts ≤ 1048576 by omega), z6Y hf (show x.Sent.length ≤ 1048576 by omega), z6Y hf (show x.Got.length ≤ 1048576 by omega), Option.bind_some]

theorem zaV {fuel : Nat} {x : D.Cluster} (hf : 18446744073709551616 ≤ fuel) (hs : D.Cluster.sz x ≤ 1048576) : z4U fuel x x = some true := by
  unfold D.Cluster.sz at hs
  simp [z4U, z2a, zdd hf (show D.Grid.sz x.Grid ≤ 1048576 by omega), zaq hf (show szL (fun x => szL D.Parcel.sz x) x.Channels ≤ 1048576 by omega), zaU hf (show szL (fun x => x.length) x.Counts ≤ 1048576 by omega), z71 hf (show x.Sent.length ≤ 1048576 by omega), z71 hf (show x.Got.length ≤ 1048576 by omega)]

theorem z9u : Opens Tryz.prog 2 tInt I64 := Opens.int Tryz.underlying2 (by kernel_rfl)
theorem zbD : Opens Tryz.prog 29 ty29 (WfL I64) := Opens.sl Tryz.underlying29 (by kernel_rfl) z9u
set_option maxRecDepth 100000 in
theorem z8J : Opens Tryz.prog 24 ty24 D.Address.wf := Opens.struct (f := fun c : D.Address => (c.Machine, c.Kind, c.Index, ())) Tryz.underlying24 (by kernel_rfl) (OpensF.cons z9u rfl rfl (OpensF.cons z9u rfl rfl (OpensF.cons z9u rfl rfl OpensF.nil))) (fun ⟨a0, a1, a2, _⟩ => ⟨⟨a0, a1, a2⟩, rfl⟩)
theorem zgy : Opens Tryz.prog 201 zaK (WfL D.Address.wf) := Opens.sl Tryz.underlying201 (by kernel_rfl) z8J
set_option maxRecDepth 100000 in
theorem zdo : Opens Tryz.prog 203 zaJ D.ShardCell.wf := Opens.struct (f := fun c : D.ShardCell => (c.Kind, c.Level, c.Value, c.Data, c.Aux, ())) Tryz.underlying203 (by kernel_rfl) (OpensF.cons z9u rfl rfl (OpensF.cons z9u rfl rfl (OpensF.cons z9u rfl rfl (OpensF.cons zbD rfl rfl (OpensF.cons zgy rfl rfl OpensF.nil))))) (fun ⟨a0, a1, a2, a3, a4, _⟩ => ⟨⟨a0, a1, a2, a3, a4⟩, rfl⟩)
theorem zgC : Opens Tryz.prog 195 zbZ (WfL D.ShardCell.wf) := Opens.sl Tryz.underlying195 (by kernel_rfl) zdo
theorem zhg : Opens Tryz.prog 4 tBool fun _ => True := Opens.bool Tryz.underlying4 (by kernel_rfl)
set_option maxRecDepth 100000 in
theorem zgw : Opens Tryz.prog 288 zdD D.ShardVar.wf := Opens.struct (f := fun c : D.ShardVar => (c.Used, c.Full, c.Held, ())) Tryz.underlying288 (by kernel_rfl) (OpensF.cons zhg rfl rfl (OpensF.cons zhg rfl rfl (OpensF.cons z8J rfl rfl OpensF.nil))) (fun ⟨a0, a1, a2, _⟩ => ⟨⟨a0, a1, a2⟩, rfl⟩)
theorem zgB : Opens Tryz.prog 196 zbY (WfL D.ShardVar.wf) := Opens.sl Tryz.underlying196 (by kernel_rfl) zgw
set_option maxRecDepth 100000 in
theorem zgv : Opens Tryz.prog 291 zdC D.ShardRedex.wf := Opens.struct (f := fun c : D.ShardRedex => (c.A, c.B, ())) Tryz.underlying291 (by kernel_rfl) (OpensF.cons z8J rfl rfl (OpensF.cons z8J rfl rfl OpensF.nil)) (fun ⟨a0, a1, _⟩ => ⟨⟨a0, a1⟩, rfl⟩)
theorem zgA : Opens Tryz.prog 197 zbX (WfL D.ShardRedex.wf) := Opens.sl Tryz.underlying197 (by kernel_rfl) zgv
set_option maxRecDepth 100000 in
theorem zgz : Opens Tryz.prog 199 zcV D.Shard.wf := Opens.struct (f := fun c : D.Shard => (c.Cells, c.Vars, c.Redexes, ())) Tryz.underlying199 (by kernel_rfl) (OpensF.cons zgC rfl rfl (OpensF.cons zgB rfl rfl (OpensF.cons zgA rfl rfl OpensF.nil))) (fun ⟨a0, a1, a2, _⟩ => ⟨⟨a0, a1, a2⟩, rfl⟩)
theorem zhr : Opens Tryz.prog 22 ty22 (WfL D.Shard.wf) := Opens.sl Tryz.underlying22 (by kernel_rfl) zgz
set_option maxRecDepth 100000 in
theorem zhq : Opens Tryz.prog 26 ty26 D.Grid.wf := Opens.struct (f := fun c : D.Grid => (c.Shards, c.Root, ())) Tryz.underlying26 (by kernel_rfl) (OpensF.cons zhr rfl rfl (OpensF.cons z8J rfl rfl OpensF.nil)) (fun ⟨a0, a1, _⟩ => ⟨⟨a0, a1⟩, rfl⟩)
set_option maxRecDepth 100000 in
theorem zgx : Opens Tryz.prog 205 zcU D.Parcel.wf := Opens.struct (f := fun c : D.Parcel => (c.Kind, c.Cell, c.A, c.B, ())) Tryz.underlying205 (by kernel_rfl) (OpensF.cons z9u rfl rfl (OpensF.cons zdo rfl rfl (OpensF.cons z8J rfl rfl (OpensF.cons z8J rfl rfl OpensF.nil)))) (fun ⟨a0, a1, a2, a3, _⟩ => ⟨⟨a0, a1, a2, a3⟩, rfl⟩)
theorem zgD : Opens Tryz.prog 141 zcZ (WfL D.Parcel.wf) := Opens.sl Tryz.underlying141 (by kernel_rfl) zgx
theorem zhp : Opens Tryz.prog 27 ty27 (WfL (WfL D.Parcel.wf)) := Opens.sl Tryz.underlying27 (by kernel_rfl) zgD
theorem zho : Opens Tryz.prog 28 ty28 (WfL (WfL I64)) := Opens.sl Tryz.underlying28 (by kernel_rfl) zbD
set_option maxRecDepth 100000 in
theorem zhn : Opens Tryz.prog 31 ty31 D.Cluster.wf := Opens.struct (f := fun c : D.Cluster => (c.Grid, c.Channels, c.Counts, c.Sent, c.Got, ())) Tryz.underlying31 (by kernel_rfl) (OpensF.cons zhq rfl rfl (OpensF.cons zhp rfl rfl (OpensF.cons zho rfl rfl (OpensF.cons zbD rfl rfl (OpensF.cons zbD rfl rfl OpensF.nil))))) (fun ⟨a0, a1, a2, a3, a4, _⟩ => ⟨⟨a0, a1, a2, a3, a4⟩, rfl⟩)
end Go.E

