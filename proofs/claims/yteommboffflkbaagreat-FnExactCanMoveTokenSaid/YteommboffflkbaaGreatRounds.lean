/- What the functions that size, copy and compare give on well formed data (written by program). Conditions: sizes within the law s own bound. -/
import Derived.Test.YteommboffflkbaaGreatShort
import Derived.Test.YteommboffflkbaaGreatFA
import Derived.Test.YteommboffflkbaaGreatFG
import Derived.Test.YteommboffflkbaaGreatFGb
import Derived.Test.YteommboffflkbaaGreatFGc
import Derived.Test.YteommboffflkbaaGreatFGd
import Derived.Test.YteommboffflkbaaGreatFGe
namespace Go.E
open Go.RowKit Go.Proofs
set_option linter.unusedSimpArgs false
set_option linter.unusedVariables false

theorem z8H {fuel : Nat} {x : (List Int)} (hf : 18446744073709551616 ≤ fuel) (hs : x.length ≤ 1048576) : z1w fuel x x = some true := by
  have hl := hs
  unfold z1w
  rw [if_neg (by simp)]
  refine z67 (n := x.length) (t := ()) (by unfold maxLen; omega) hf rfl ?_ ?_
  · intro i hi
    obtain ⟨y, hy⟩ := z4a hi
    have hsy : 0 ≤ 1048576 := Nat.zero_le _
    simp [z6V, za hy, hi, z1L]
  · simp [z6V]

theorem z9D {fuel : Nat} {x : (List Int)} {l : Int} (hf : 18446744073709551616 ≤ fuel) (hw : WfL I64 x) (h0 : 0 ≤ l) (h1 : l ≤ 1048576) : SzOk (x.length) l (z33 fuel x l) := by
  unfold z33
  generalize hz : w64 (l - (x.length : Int)) = z
  exact SzOk.sub2 h0 h1 hw.1 (m := 0) rfl hz fun g0 g1 => SzOk.same g0

theorem z9C {fuel : Nat} {x : (List Int)} (hf : 18446744073709551616 ≤ fuel) (hs : x.length ≤ 1048576) : z32 fuel x = some x := by
  have hl := hs
  unfold z32
  refine z7U hl hf (fun _ => rfl) ?_ ?_
  · intro i y out hy hl2
    have hi := (List.getElem?_eq_some_iff.1 hy).1
    have hsy : 0 ≤ 1048576 := Nat.zero_le _
    simp only [z6S, za hy, Option.bind_some, lt_t (show (i : Int) < x.length by omega), if_true]
    rw [if_pos (by simp; omega)]
    simp
  · intro out
    simp [z6S]

theorem z5i {fuel : Nat} {x : D.Address} (hf : 18446744073709551616 ≤ fuel) (hs : 0 ≤ 1048576) : z1m fuel x = some x := by
  skip
  unfold z1m
  rfl

theorem z5s {fuel : Nat} {x : D.Address} (hf : 18446744073709551616 ≤ fuel) (hs : 0 ≤ 1048576) : z1n fuel x x = some true := by
  skip
  simp [z1n, z1L]

theorem zeL {fuel : Nat} {x : (List (List Int))} {l : Int} (hf : 18446744073709551616 ≤ fuel) (hw : WfL (WfL I64) x) (h0 : 0 ≤ l) (h1 : l ≤ 1048576) : SzOk (szL (fun x => x.length) x) l (z6z fuel x l) := by
  unfold z6z
  generalize hz : w64 (l - (x.length : Int)) = z
  refine SzOk.sub2 h0 h1 hw.1 (m := sumL (fun x => x.length) x) rfl hz fun g0 g1 => ?_
  refine SzOk.loop hw.1 hf g0 (by omega) (fun _ => rfl) ?_ ?_
  · intro i y l hy h0 h1
    have hi := (List.getElem?_eq_some_iff.1 hy).1
    have hwy := hw.2 y (List.mem_of_getElem? hy)
    obtain ⟨r, h2, h3⟩ := z9D hf hwy h0 h1
    simp only [z6f, za hy, Option.bind_some, lt_t (show (i : Int) < x.length by omega), if_true, h2]
    by_cases hlt : r < 0
    · exact .inl (by simp only [lt_t hlt, if_true])
    · exact .inr ⟨r, by simp only [lt_f hlt, if_false], h3.resolve_left hlt⟩
  · intro l
    simp [z6f]

theorem zeJ {fuel : Nat} {x : (List (List Int))} (hf : 18446744073709551616 ≤ fuel) (hs : szL (fun x => x.length) x ≤ 1048576) : z6x fuel x = some x := by
  have hl := z5H hs
  unfold z6x
  refine z7U hl hf (fun _ => rfl) ?_ ?_
  · intro i y out hy hl2
    have hi := (List.getElem?_eq_some_iff.1 hy).1
    have hsy : y.length ≤ 1048576 := z5G hs (List.mem_of_getElem? hy)
    simp only [z6d, za hy, Option.bind_some, lt_t (show (i : Int) < x.length by omega), if_true, z9C hf hsy]
    rw [if_pos (by simp; omega)]
    simp
  · intro out
    simp [z6d]

theorem zeR {fuel : Nat} {x : (List (List Int))} (hf : 18446744073709551616 ≤ fuel) (hs : szL (fun x => x.length) x ≤ 1048576) : z6B fuel x x = some true := by
  have hl := z5H hs
  unfold z6B
  rw [if_neg (by simp)]
  refine z67 (n := x.length) (t := ()) (by unfold maxLen; omega) hf rfl ?_ ?_
  · intro i hi
    obtain ⟨y, hy⟩ := z4a hi
    have hsy : y.length ≤ 1048576 := z5G hs (List.mem_of_getElem? hy)
    simp [z6h, za hy, hi, z1L, z8H hf hsy]
  · simp [z6h]

theorem zdT {fuel : Nat} {x : (List D.Address)} {l : Int} (hf : 18446744073709551616 ≤ fuel) (hw : WfL D.Address.wf x) (h0 : 0 ≤ l) (h1 : l ≤ 1048576) : SzOk (x.length) l (z5X fuel x l) := by
  unfold z5X
  generalize hz : w64 (l - (x.length : Int)) = z
  exact SzOk.sub2 h0 h1 hw.1 (m := 0) rfl hz fun g0 g1 => SzOk.same g0

theorem zdP {fuel : Nat} {x : D.ShardVar} (hf : 18446744073709551616 ≤ fuel) (hs : 0 ≤ 1048576) : z5T fuel x = some x := by
  skip
  unfold z5T
  simp only [z5i hf (show 0 ≤ 1048576 by exact Nat.zero_le _), Option.bind_some]

theorem zcL {fuel : Nat} {x : D.ShardRedex} (hf : 18446744073709551616 ≤ fuel) (hs : 0 ≤ 1048576) : z4s fuel x = some x := by
  skip
  unfold z4s
  simp only [z5i hf (show 0 ≤ 1048576 by exact Nat.zero_le _), z5i hf (show 0 ≤ 1048576 by exact Nat.zero_le _), Option.bind_some]

theorem zdR {fuel : Nat} {x : (List D.Address)} (hf : 18446744073709551616 ≤ fuel) (hs : x.length ≤ 1048576) : z5V fuel x = some x := by
  have hl := hs
  unfold z5V
  refine z7U hl hf (fun _ => rfl) ?_ ?_
  · intro i y out hy hl2
    have hi := (List.getElem?_eq_some_iff.1 hy).1
    have hsy : 0 ≤ 1048576 := Nat.zero_le _
    simp only [z5v, za hy, Option.bind_some, lt_t (show (i : Int) < x.length by omega), if_true, z5i hf hsy]
    rw [if_pos (by simp; omega)]
    simp
  · intro out
    simp [z5v]

theorem zej {fuel : Nat} {x : D.ShardVar} (hf : 18446744073709551616 ≤ fuel) (hs : 0 ≤ 1048576) : z5Z fuel x x = some true := by
  skip
  simp [z5Z, z1L, z5s hf (show 0 ≤ 1048576 by exact Nat.zero_le _)]

theorem zd4 {fuel : Nat} {x : D.ShardRedex} (hf : 18446744073709551616 ≤ fuel) (hs : 0 ≤ 1048576) : z4w fuel x x = some true := by
  skip
  simp [z4w, z1L, z5s hf (show 0 ≤ 1048576 by exact Nat.zero_le _), z5s hf (show 0 ≤ 1048576 by exact Nat.zero_le _)]

theorem zem {fuel : Nat} {x : (List D.Address)} (hf : 18446744073709551616 ≤ fuel) (hs : x.length ≤ 1048576) : z61 fuel x x = some true := by
  have hl := hs
  unfold z61
  rw [if_neg (by simp)]
  refine z67 (n := x.length) (t := ()) (by unfold maxLen; omega) hf rfl ?_ ?_
  · intro i hi
    obtain ⟨y, hy⟩ := z4a hi
    have hsy : 0 ≤ 1048576 := Nat.zero_le _
    simp [z5A, za hy, hi, z1L, z5s hf hsy]
  · simp [z5A]

theorem zde {fuel : Nat} {x : (List D.ShardVar)} {l : Int} (hf : 18446744073709551616 ≤ fuel) (hw : WfL D.ShardVar.wf x) (h0 : 0 ≤ l) (h1 : l ≤ 1048576) : SzOk (x.length) l (z57 fuel x l) := by
  unfold z57
  generalize hz : w64 (l - (x.length : Int)) = z
  exact SzOk.sub2 h0 h1 hw.1 (m := 0) rfl hz fun g0 g1 => SzOk.same g0

theorem zce {fuel : Nat} {x : (List D.ShardRedex)} {l : Int} (hf : 18446744073709551616 ≤ fuel) (hw : WfL D.ShardRedex.wf x) (h0 : 0 ≤ l) (h1 : l ≤ 1048576) : SzOk (x.length) l (z3E fuel x l) := by
  unfold z3E
  generalize hz : w64 (l - (x.length : Int)) = z
  exact SzOk.sub2 h0 h1 hw.1 (m := 0) rfl hz fun g0 g1 => SzOk.same g0

theorem zb0 {fuel : Nat} {x : D.ShardCell} {l : Int} (hf : 18446744073709551616 ≤ fuel) (hw : D.ShardCell.wf x) (h0 : 0 ≤ l) (h1 : l ≤ 1048576) : SzOk (D.ShardCell.sz x) l (z3j fuel x l) := by
  obtain ⟨w0, w1, w2, w3, w4, _⟩ := hw
  unfold z3j D.ShardCell.sz
  refine SzOk.bind (z9D hf w3 h0 (by omega)) rfl fun r1 g1a g1b => ?_
  refine SzOk.bind (zdT hf w4 g1a (by omega)) rfl fun r2 g2a g2b => ?_
  exact SzOk.same g2a

theorem zdd {fuel : Nat} {x : (List D.ShardVar)} (hf : 18446744073709551616 ≤ fuel) (hs : x.length ≤ 1048576) : z56 fuel x = some x := by
  have hl := hs
  unfold z56
  refine z7U hl hf (fun _ => rfl) ?_ ?_
  · intro i y out hy hl2
    have hi := (List.getElem?_eq_some_iff.1 hy).1
    have hsy : 0 ≤ 1048576 := Nat.zero_le _
    simp only [z55, za hy, Option.bind_some, lt_t (show (i : Int) < x.length by omega), if_true, zdP hf hsy]
    rw [if_pos (by simp; omega)]
    simp
  · intro out
    simp [z55]

theorem zcc {fuel : Nat} {x : (List D.ShardRedex)} (hf : 18446744073709551616 ≤ fuel) (hs : x.length ≤ 1048576) : z3D fuel x = some x := by
  have hl := hs
  unfold z3D
  refine z7U hl hf (fun _ => rfl) ?_ ?_
  · intro i y out hy hl2
    have hi := (List.getElem?_eq_some_iff.1 hy).1
    have hsy : 0 ≤ 1048576 := Nat.zero_le _
    simp only [z3U, za hy, Option.bind_some, lt_t (show (i : Int) < x.length by omega), if_true, zcL hf hsy]
    rw [if_pos (by simp; omega)]
    simp
  · intro out
    simp [z3U]

theorem zaZ {fuel : Nat} {x : D.ShardCell} (hf : 18446744073709551616 ≤ fuel) (hs : D.ShardCell.sz x ≤ 1048576) : z3i fuel x = some x := by
  unfold D.ShardCell.sz at hs
  unfold z3i
  simp only [z9C hf (show x.Data.length ≤ 1048576 by omega), zdR hf (show x.Aux.length ≤ 1048576 by omega), Option.bind_some]

theorem zds {fuel : Nat} {x : (List D.ShardVar)} (hf : 18446744073709551616 ≤ fuel) (hs : x.length ≤ 1048576) : z5f fuel x x = some true := by
  have hl := hs
  unfold z5f
  rw [if_neg (by simp)]
  refine z67 (n := x.length) (t := ()) (by unfold maxLen; omega) hf rfl ?_ ?_
  · intro i hi
    obtain ⟨y, hy⟩ := z4a hi
    have hsy : 0 ≤ 1048576 := Nat.zero_le _
    simp [z5e, za hy, hi, z1L, zej hf hsy]
  · simp [z5e]

theorem zcz {fuel : Nat} {x : (List D.ShardRedex)} (hf : 18446744073709551616 ≤ fuel) (hs : x.length ≤ 1048576) : z3H fuel x x = some true := by
  have hl := hs
  unfold z3H
  rw [if_neg (by simp)]
  refine z67 (n := x.length) (t := ()) (by unfold maxLen; omega) hf rfl ?_ ?_
  · intro i hi
    obtain ⟨y, hy⟩ := z4a hi
    have hsy : 0 ≤ 1048576 := Nat.zero_le _
    simp [z3W, za hy, hi, z1L, zd4 hf hsy]
  · simp [z3W]

theorem zb5 {fuel : Nat} {x : D.ShardCell} (hf : 18446744073709551616 ≤ fuel) (hs : D.ShardCell.sz x ≤ 1048576) : z3o fuel x x = some true := by
  unfold D.ShardCell.sz at hs
  simp [z3o, z1L, z8H hf (show x.Data.length ≤ 1048576 by omega), zem hf (show x.Aux.length ≤ 1048576 by omega)]

theorem zfv {fuel : Nat} {x : D.Parcel} {l : Int} (hf : 18446744073709551616 ≤ fuel) (hw : D.Parcel.wf x) (h0 : 0 ≤ l) (h1 : l ≤ 1048576) : SzOk (D.Parcel.sz x) l (z78 fuel x l) := by
  obtain ⟨w0, w1, w2, w3, _⟩ := hw
  unfold z78 D.Parcel.sz
  refine SzOk.bind (zb0 hf w1 h0 (by omega)) rfl fun r1 g1a g1b => ?_
  exact SzOk.same g1a

theorem zft {fuel : Nat} {x : D.Parcel} (hf : 18446744073709551616 ≤ fuel) (hs : D.Parcel.sz x ≤ 1048576) : z76 fuel x = some x := by
  unfold D.Parcel.sz at hs
  unfold z76
  simp only [zaZ hf (show D.ShardCell.sz x.Cell ≤ 1048576 by omega), z5i hf (show 0 ≤ 1048576 by exact Nat.zero_le _), z5i hf (show 0 ≤ 1048576 by exact Nat.zero_le _), Option.bind_some]

theorem zfO {fuel : Nat} {x : D.Parcel} (hf : 18446744073709551616 ≤ fuel) (hs : D.Parcel.sz x ≤ 1048576) : z7a fuel x x = some true := by
  unfold D.Parcel.sz at hs
  simp [z7a, z1L, zb5 hf (show D.ShardCell.sz x.Cell ≤ 1048576 by omega), z5s hf (show 0 ≤ 1048576 by exact Nat.zero_le _), z5s hf (show 0 ≤ 1048576 by exact Nat.zero_le _)]

theorem zcN {fuel : Nat} {x : (List D.ShardCell)} {l : Int} (hf : 18446744073709551616 ≤ fuel) (hw : WfL D.ShardCell.wf x) (h0 : 0 ≤ l) (h1 : l ≤ 1048576) : SzOk (szL D.ShardCell.sz x) l (z4u fuel x l) := by
  unfold z4u
  generalize hz : w64 (l - (x.length : Int)) = z
  refine SzOk.sub2 h0 h1 hw.1 (m := sumL D.ShardCell.sz x) rfl hz fun g0 g1 => ?_
  refine SzOk.loop hw.1 hf g0 (by omega) (fun _ => rfl) ?_ ?_
  · intro i y l hy h0 h1
    have hi := (List.getElem?_eq_some_iff.1 hy).1
    have hwy := hw.2 y (List.mem_of_getElem? hy)
    obtain ⟨r, h2, h3⟩ := zb0 hf hwy h0 h1
    simp only [z4A, za hy, Option.bind_some, lt_t (show (i : Int) < x.length by omega), if_true, h2]
    by_cases hlt : r < 0
    · exact .inl (by simp only [lt_t hlt, if_true])
    · exact .inr ⟨r, by simp only [lt_f hlt, if_false], h3.resolve_left hlt⟩
  · intro l
    simp [z4A]

theorem zcM {fuel : Nat} {x : (List D.ShardCell)} (hf : 18446744073709551616 ≤ fuel) (hs : szL D.ShardCell.sz x ≤ 1048576) : z4t fuel x = some x := by
  have hl := z5H hs
  unfold z4t
  refine z7U hl hf (fun _ => rfl) ?_ ?_
  · intro i y out hy hl2
    have hi := (List.getElem?_eq_some_iff.1 hy).1
    have hsy : D.ShardCell.sz y ≤ 1048576 := z5G hs (List.mem_of_getElem? hy)
    simp only [z4z, za hy, Option.bind_some, lt_t (show (i : Int) < x.length by omega), if_true, zaZ hf hsy]
    rw [if_pos (by simp; omega)]
    simp
  · intro out
    simp [z4z]

theorem zd5 {fuel : Nat} {x : (List D.ShardCell)} (hf : 18446744073709551616 ≤ fuel) (hs : szL D.ShardCell.sz x ≤ 1048576) : z4x fuel x x = some true := by
  have hl := z5H hs
  unfold z4x
  rw [if_neg (by simp)]
  refine z67 (n := x.length) (t := ()) (by unfold maxLen; omega) hf rfl ?_ ?_
  · intro i hi
    obtain ⟨y, hy⟩ := z4a hi
    have hsy : D.ShardCell.sz y ≤ 1048576 := z5G hs (List.mem_of_getElem? hy)
    simp [z4D, za hy, hi, z1L, zb5 hf hsy]
  · simp [z4D]

theorem zeK {fuel : Nat} {x : (List D.Parcel)} {l : Int} (hf : 18446744073709551616 ≤ fuel) (hw : WfL D.Parcel.wf x) (h0 : 0 ≤ l) (h1 : l ≤ 1048576) : SzOk (szL D.Parcel.sz x) l (z6y fuel x l) := by
  unfold z6y
  generalize hz : w64 (l - (x.length : Int)) = z
  refine SzOk.sub2 h0 h1 hw.1 (m := sumL D.Parcel.sz x) rfl hz fun g0 g1 => ?_
  refine SzOk.loop hw.1 hf g0 (by omega) (fun _ => rfl) ?_ ?_
  · intro i y l hy h0 h1
    have hi := (List.getElem?_eq_some_iff.1 hy).1
    have hwy := hw.2 y (List.mem_of_getElem? hy)
    obtain ⟨r, h2, h3⟩ := zfv hf hwy h0 h1
    simp only [z6e, za hy, Option.bind_some, lt_t (show (i : Int) < x.length by omega), if_true, h2]
    by_cases hlt : r < 0
    · exact .inl (by simp only [lt_t hlt, if_true])
    · exact .inr ⟨r, by simp only [lt_f hlt, if_false], h3.resolve_left hlt⟩
  · intro l
    simp [z6e]

theorem zeH {fuel : Nat} {x : (List D.Parcel)} (hf : 18446744073709551616 ≤ fuel) (hs : szL D.Parcel.sz x ≤ 1048576) : z6w fuel x = some x := by
  have hl := z5H hs
  unfold z6w
  refine z7U hl hf (fun _ => rfl) ?_ ?_
  · intro i y out hy hl2
    have hi := (List.getElem?_eq_some_iff.1 hy).1
    have hsy : D.Parcel.sz y ≤ 1048576 := z5G hs (List.mem_of_getElem? hy)
    simp only [z6c, za hy, Option.bind_some, lt_t (show (i : Int) < x.length by omega), if_true, zft hf hsy]
    rw [if_pos (by simp; omega)]
    simp
  · intro out
    simp [z6c]

theorem zeQ {fuel : Nat} {x : (List D.Parcel)} (hf : 18446744073709551616 ≤ fuel) (hs : szL D.Parcel.sz x ≤ 1048576) : z6A fuel x x = some true := by
  have hl := z5H hs
  unfold z6A
  rw [if_neg (by simp)]
  refine z67 (n := x.length) (t := ()) (by unfold maxLen; omega) hf rfl ?_ ?_
  · intro i hi
    obtain ⟨y, hy⟩ := z4a hi
    have hsy : D.Parcel.sz y ≤ 1048576 := z5G hs (List.mem_of_getElem? hy)
    simp [z6g, za hy, hi, z1L, zfO hf hsy]
  · simp [z6g]

theorem zgf {fuel : Nat} {x : D.Shard} {l : Int} (hf : 18446744073709551616 ≤ fuel) (hw : D.Shard.wf x) (h0 : 0 ≤ l) (h1 : l ≤ 1048576) : SzOk (D.Shard.sz x) l (z7F fuel x l) := by
  obtain ⟨w0, w1, w2, _⟩ := hw
  unfold z7F D.Shard.sz
  refine SzOk.bind (zcN hf w0 h0 (by omega)) rfl fun r1 g1a g1b => ?_
  refine SzOk.bind (zde hf w1 g1a (by omega)) rfl fun r2 g2a g2b => ?_
  refine SzOk.bind (zce hf w2 g2a (by omega)) rfl fun r3 g3a g3b => ?_
  exact SzOk.same g3a

theorem zgd {fuel : Nat} {x : D.Shard} (hf : 18446744073709551616 ≤ fuel) (hs : D.Shard.sz x ≤ 1048576) : z7D fuel x = some x := by
  unfold D.Shard.sz at hs
  unfold z7D
  simp only [zcM hf (show szL D.ShardCell.sz x.Cells ≤ 1048576 by omega), zdd hf (show x.Vars.length ≤ 1048576 by omega), zcc hf (show x.Redexes.length ≤ 1048576 by omega), Option.bind_some]

theorem zgE {fuel : Nat} {x : D.Shard} (hf : 18446744073709551616 ≤ fuel) (hs : D.Shard.sz x ≤ 1048576) : z7J fuel x x = some true := by
  unfold D.Shard.sz at hs
  simp [z7J, z1L, zd5 hf (show szL D.ShardCell.sz x.Cells ≤ 1048576 by omega), zds hf (show x.Vars.length ≤ 1048576 by omega), zcz hf (show x.Redexes.length ≤ 1048576 by omega)]

theorem zdS {fuel : Nat} {x : (List (List D.Parcel))} {l : Int} (hf : 18446744073709551616 ≤ fuel) (hw : WfL (WfL D.Parcel.wf) x) (h0 : 0 ≤ l) (h1 : l ≤ 1048576) : SzOk (szL (fun x => szL D.Parcel.sz x) x) l (z5W fuel x l) := by
  unfold z5W
  generalize hz : w64 (l - (x.length : Int)) = z
  refine SzOk.sub2 h0 h1 hw.1 (m := sumL (fun x => szL D.Parcel.sz x) x) rfl hz fun g0 g1 => ?_
  refine SzOk.loop hw.1 hf g0 (by omega) (fun _ => rfl) ?_ ?_
  · intro i y l hy h0 h1
    have hi := (List.getElem?_eq_some_iff.1 hy).1
    have hwy := hw.2 y (List.mem_of_getElem? hy)
    obtain ⟨r, h2, h3⟩ := zeK hf hwy h0 h1
    simp only [z5w, za hy, Option.bind_some, lt_t (show (i : Int) < x.length by omega), if_true, h2]
    by_cases hlt : r < 0
    · exact .inl (by simp only [lt_t hlt, if_true])
    · exact .inr ⟨r, by simp only [lt_f hlt, if_false], h3.resolve_left hlt⟩
  · intro l
    simp [z5w]

theorem zdQ {fuel : Nat} {x : (List (List D.Parcel))} (hf : 18446744073709551616 ≤ fuel) (hs : szL (fun x => szL D.Parcel.sz x) x ≤ 1048576) : z5U fuel x = some x := by
  have hl := z5H hs
  unfold z5U
  refine z7U hl hf (fun _ => rfl) ?_ ?_
  · intro i y out hy hl2
    have hi := (List.getElem?_eq_some_iff.1 hy).1
    have hsy : szL D.Parcel.sz y ≤ 1048576 := z5G hs (List.mem_of_getElem? hy)
    simp only [z5u, za hy, Option.bind_some, lt_t (show (i : Int) < x.length by omega), if_true, zeH hf hsy]
    rw [if_pos (by simp; omega)]
    simp
  · intro out
    simp [z5u]

theorem zek {fuel : Nat} {x : (List (List D.Parcel))} (hf : 18446744073709551616 ≤ fuel) (hs : szL (fun x => szL D.Parcel.sz x) x ≤ 1048576) : z60 fuel x x = some true := by
  have hl := z5H hs
  unfold z60
  rw [if_neg (by simp)]
  refine z67 (n := x.length) (t := ()) (by unfold maxLen; omega) hf rfl ?_ ?_
  · intro i hi
    obtain ⟨y, hy⟩ := z4a hi
    have hsy : szL D.Parcel.sz y ≤ 1048576 := z5G hs (List.mem_of_getElem? hy)
    simp [z5z, za hy, hi, z1L, zeQ hf hsy]
  · simp [z5z]

theorem zfu {fuel : Nat} {x : (List D.Shard)} {l : Int} (hf : 18446744073709551616 ≤ fuel) (hw : WfL D.Shard.wf x) (h0 : 0 ≤ l) (h1 : l ≤ 1048576) : SzOk (szL D.Shard.sz x) l (z77 fuel x l) := by
  unfold z77
  generalize hz : w64 (l - (x.length : Int)) = z
  refine SzOk.sub2 h0 h1 hw.1 (m := sumL D.Shard.sz x) rfl hz fun g0 g1 => ?_
  refine SzOk.loop hw.1 hf g0 (by omega) (fun _ => rfl) ?_ ?_
  · intro i y l hy h0 h1
    have hi := (List.getElem?_eq_some_iff.1 hy).1
    have hwy := hw.2 y (List.mem_of_getElem? hy)
    obtain ⟨r, h2, h3⟩ := zgf hf hwy h0 h1
    simp only [z6T, za hy, Option.bind_some, lt_t (show (i : Int) < x.length by omega), if_true, h2]
    by_cases hlt : r < 0
    · exact .inl (by simp only [lt_t hlt, if_true])
    · exact .inr ⟨r, by simp only [lt_f hlt, if_false], h3.resolve_left hlt⟩
  · intro l
    simp [z6T]

theorem zfs {fuel : Nat} {x : (List D.Shard)} (hf : 18446744073709551616 ≤ fuel) (hs : szL D.Shard.sz x ≤ 1048576) : z75 fuel x = some x := by
  have hl := z5H hs
  unfold z75
  refine z7U hl hf (fun _ => rfl) ?_ ?_
  · intro i y out hy hl2
    have hi := (List.getElem?_eq_some_iff.1 hy).1
    have hsy : D.Shard.sz y ≤ 1048576 := z5G hs (List.mem_of_getElem? hy)
    simp only [z6R, za hy, Option.bind_some, lt_t (show (i : Int) < x.length by omega), if_true, zgd hf hsy]
    rw [if_pos (by simp; omega)]
    simp
  · intro out
    simp [z6R]

theorem zfN {fuel : Nat} {x : (List D.Shard)} (hf : 18446744073709551616 ≤ fuel) (hs : szL D.Shard.sz x ≤ 1048576) : z79 fuel x x = some true := by
  have hl := z5H hs
  unfold z79
  rw [if_neg (by simp)]
  refine z67 (n := x.length) (t := ()) (by unfold maxLen; omega) hf rfl ?_ ?_
  · intro i hi
    obtain ⟨y, hy⟩ := z4a hi
    have hsy : D.Shard.sz y ≤ 1048576 := z5G hs (List.mem_of_getElem? hy)
    simp [z6U, za hy, hi, z1L, zgE hf hsy]
  · simp [z6U]

theorem zhw {fuel : Nat} {x : D.Grid} {l : Int} (hf : 18446744073709551616 ≤ fuel) (hw : D.Grid.wf x) (h0 : 0 ≤ l) (h1 : l ≤ 1048576) : SzOk (D.Grid.sz x) l (z8t fuel x l) := by
  obtain ⟨w0, w1, _⟩ := hw
  unfold z8t D.Grid.sz
  refine SzOk.bind (zfu hf w0 h0 (by omega)) rfl fun r1 g1a g1b => ?_
  exact SzOk.same g1a

theorem zhv {fuel : Nat} {x : D.Grid} (hf : 18446744073709551616 ≤ fuel) (hs : D.Grid.sz x ≤ 1048576) : z8s fuel x = some x := by
  unfold D.Grid.sz at hs
  unfold z8s
  simp only [zfs hf (show szL D.Shard.sz x.Shards ≤ 1048576 by omega), z5i hf (show 0 ≤ 1048576 by exact Nat.zero_le _), Option.bind_some]

theorem zhK {fuel : Nat} {x : D.Grid} (hf : 18446744073709551616 ≤ fuel) (hs : D.Grid.sz x ≤ 1048576) : z8x fuel x x = some true := by
  unfold D.Grid.sz at hs
  simp [z8x, z1L, zfN hf (show szL D.Shard.sz x.Shards ≤ 1048576 by omega), z5s hf (show 0 ≤ 1048576 by exact Nat.zero_le _)]

theorem z7y {fuel : Nat} {x : D.Cluster} {l : Int} (hf : 18446744073709551616 ≤ fuel) (hw : D.Cluster.wf x) (h0 : 0 ≤ l) (h1 : l ≤ 1048576) : SzOk (D.Cluster.sz x) l (z24 fuel x l) := by
  obtain ⟨w0, w1, w2, w3, w4, _⟩ := hw
  unfold z24 D.Cluster.sz
  refine SzOk.bind (zhw hf w0 h0 (by omega)) rfl fun r1 g1a g1b => ?_
  refine SzOk.bind (zdS hf w1 g1a (by omega)) rfl fun r2 g2a g2b => ?_
  refine SzOk.bind (zeL hf w2 g2a (by omega)) rfl fun r3 g3a g3b => ?_
  refine SzOk.bind (z9D hf w3 g3a (by omega)) rfl fun r4 g4a g4b => ?_
  refine SzOk.bind (z9D hf w4 g4a (by omega)) rfl fun r5 g5a g5b => ?_
  exact SzOk.same g5a

theorem z6G {fuel : Nat} {x : D.Cluster} (hf : 18446744073709551616 ≤ fuel) (hs : D.Cluster.sz x ≤ 1048576) : zj fuel x = some x := by
  unfold D.Cluster.sz at hs
  unfold zj
  simp only [zhv hf (show D.Grid.sz x.Grid ≤ 1048576 by omega), zdQ hf (show szL (fun x => szL D.Parcel.sz x) x.Channels ≤ 1048576 by omega), zeJ hf (show szL (fun x => x.length) x.Counts ≤ 1048576 by omega), z9C hf (show x.Sent.length ≤ 1048576 by omega), z9C hf (show x.Got.length ≤ 1048576 by omega), Option.bind_some]

theorem z6K {fuel : Nat} {x : D.Cluster} (hf : 18446744073709551616 ≤ fuel) (hs : D.Cluster.sz x ≤ 1048576) : z25 fuel x x = some true := by
  unfold D.Cluster.sz at hs
  simp [z25, z1L, zhK hf (show D.Grid.sz x.Grid ≤ 1048576 by omega), zek hf (show szL (fun x => szL D.Parcel.sz x) x.Channels ≤ 1048576 by omega), zeR hf (show szL (fun x => x.length) x.Counts ≤ 1048576 by omega), z8H hf (show x.Sent.length ≤ 1048576 by omega), z8H hf (show x.Got.length ≤ 1048576 by omega)]

theorem zbk : Opens Tryz.prog 2 tInt I64 := Opens.int Tryz.underlying2 (by kernel_rfl)
theorem zfE : Opens Tryz.prog 29 ty29 (WfL I64) := Opens.sl Tryz.underlying29 (by kernel_rfl) zbk
set_option maxRecDepth 100000 in
theorem zc6 : Opens Tryz.prog 24 ty24 D.Address.wf := Opens.struct (f := fun c : D.Address => (c.Machine, c.Kind, c.Index, ())) Tryz.underlying24 (by kernel_rfl) (OpensF.cons zbk rfl rfl (OpensF.cons zbk rfl rfl (OpensF.cons zbk rfl rfl OpensF.nil))) (fun ⟨a0, a1, a2, _⟩ => ⟨⟨a0, a1, a2⟩, rfl⟩)
theorem zmO : Opens Tryz.prog 201 zeG (WfL D.Address.wf) := Opens.sl Tryz.underlying201 (by kernel_rfl) zc6
set_option maxRecDepth 100000 in
theorem zhX : Opens Tryz.prog 203 zeF D.ShardCell.wf := Opens.struct (f := fun c : D.ShardCell => (c.Kind, c.Level, c.Value, c.Data, c.Aux, ())) Tryz.underlying203 (by kernel_rfl) (OpensF.cons zbk rfl rfl (OpensF.cons zbk rfl rfl (OpensF.cons zbk rfl rfl (OpensF.cons zfE rfl rfl (OpensF.cons zmO rfl rfl OpensF.nil))))) (fun ⟨a0, a1, a2, a3, a4, _⟩ => ⟨⟨a0, a1, a2, a3, a4⟩, rfl⟩)
theorem zmS : Opens Tryz.prog 195 zg8 (WfL D.ShardCell.wf) := Opens.sl Tryz.underlying195 (by kernel_rfl) zhX
theorem zgv : Opens Tryz.prog 4 tBool fun _ => True := Opens.bool Tryz.underlying4 (by kernel_rfl)
set_option maxRecDepth 100000 in
theorem zmM : Opens Tryz.prog 288 ziv D.ShardVar.wf := Opens.struct (f := fun c : D.ShardVar => (c.Used, c.Full, c.Held, ())) Tryz.underlying288 (by kernel_rfl) (OpensF.cons zgv rfl rfl (OpensF.cons zgv rfl rfl (OpensF.cons zc6 rfl rfl OpensF.nil))) (fun ⟨a0, a1, a2, _⟩ => ⟨⟨a0, a1, a2⟩, rfl⟩)
theorem zmR : Opens Tryz.prog 196 zg7 (WfL D.ShardVar.wf) := Opens.sl Tryz.underlying196 (by kernel_rfl) zmM
set_option maxRecDepth 100000 in
theorem zmL : Opens Tryz.prog 291 ziu D.ShardRedex.wf := Opens.struct (f := fun c : D.ShardRedex => (c.A, c.B, ())) Tryz.underlying291 (by kernel_rfl) (OpensF.cons zc6 rfl rfl (OpensF.cons zc6 rfl rfl OpensF.nil)) (fun ⟨a0, a1, _⟩ => ⟨⟨a0, a1⟩, rfl⟩)
theorem zmQ : Opens Tryz.prog 197 zg6 (WfL D.ShardRedex.wf) := Opens.sl Tryz.underlying197 (by kernel_rfl) zmL
set_option maxRecDepth 100000 in
theorem zmP : Opens Tryz.prog 199 zho D.Shard.wf := Opens.struct (f := fun c : D.Shard => (c.Cells, c.Vars, c.Redexes, ())) Tryz.underlying199 (by kernel_rfl) (OpensF.cons zmS rfl rfl (OpensF.cons zmR rfl rfl (OpensF.cons zmQ rfl rfl OpensF.nil))) (fun ⟨a0, a1, a2, _⟩ => ⟨⟨a0, a1, a2⟩, rfl⟩)
theorem znW : Opens Tryz.prog 22 ty22 (WfL D.Shard.wf) := Opens.sl Tryz.underlying22 (by kernel_rfl) zmP
set_option maxRecDepth 100000 in
theorem znV : Opens Tryz.prog 26 ty26 D.Grid.wf := Opens.struct (f := fun c : D.Grid => (c.Shards, c.Root, ())) Tryz.underlying26 (by kernel_rfl) (OpensF.cons znW rfl rfl (OpensF.cons zc6 rfl rfl OpensF.nil)) (fun ⟨a0, a1, _⟩ => ⟨⟨a0, a1⟩, rfl⟩)
set_option maxRecDepth 100000 in
theorem zmN : Opens Tryz.prog 205 zhn D.Parcel.wf := Opens.struct (f := fun c : D.Parcel => (c.Kind, c.Cell, c.A, c.B, ())) Tryz.underlying205 (by kernel_rfl) (OpensF.cons zbk rfl rfl (OpensF.cons zhX rfl rfl (OpensF.cons zc6 rfl rfl (OpensF.cons zc6 rfl rfl OpensF.nil)))) (fun ⟨a0, a1, a2, a3, _⟩ => ⟨⟨a0, a1, a2, a3⟩, rfl⟩)
theorem zmT : Opens Tryz.prog 141 zhs (WfL D.Parcel.wf) := Opens.sl Tryz.underlying141 (by kernel_rfl) zmN
theorem znU : Opens Tryz.prog 27 ty27 (WfL (WfL D.Parcel.wf)) := Opens.sl Tryz.underlying27 (by kernel_rfl) zmT
theorem znT : Opens Tryz.prog 28 ty28 (WfL (WfL I64)) := Opens.sl Tryz.underlying28 (by kernel_rfl) zfE
set_option maxRecDepth 100000 in
theorem ze8 : Opens Tryz.prog 31 ty31 D.Cluster.wf := Opens.struct (f := fun c : D.Cluster => (c.Grid, c.Channels, c.Counts, c.Sent, c.Got, ())) Tryz.underlying31 (by kernel_rfl) (OpensF.cons znV rfl rfl (OpensF.cons znU rfl rfl (OpensF.cons znT rfl rfl (OpensF.cons zfE rfl rfl (OpensF.cons zfE rfl rfl OpensF.nil))))) (fun ⟨a0, a1, a2, a3, a4, _⟩ => ⟨⟨a0, a1, a2, a3, a4⟩, rfl⟩)
end Go.E

namespace Go.E
open Go.RowKit Go.Proofs
set_option linter.unusedVariables false
set_option linter.unusedSimpArgs false
set_option maxHeartbeats 2000000
set_option maxRecDepth 100000

theorem zi7 : Enters Tryz.prog 79 := ⟨_, _, Tryz.func79, rfl, by kernel_rfl⟩
def z9r (fuel : Nat) (t39 : (List D.Action)) : Option (List D.Action) := some t39
def z5t (fuel : Nat) (s38 : Int × (List D.Action)) (t67 : (List D.Action)) : Option (Rd (Int × (List D.Action)) ((List D.Action)) ((List D.Action))) := some (.next (w64 (s38.1 + 1), t67))
def z3y (fuel : Nat) (x0 : D.Cluster) (s38 : Int × (List D.Action)) : Option (Rd (Int × (List D.Action)) ((List D.Action)) ((List D.Action))) := (if (decide (s38.1 < (w64 ((x0.Grid.Shards.length : Int) * (x0.Grid.Shards.length : Int))))) = true then ((idx x0.Channels s38.1).bind fun x57 => (if (decide ((x57.length : Int) > 0)) = true then (if decide ((x0.Grid.Shards.length : Int) ≠ 0) = true then (if decide ((x0.Grid.Shards.length : Int) ≠ 0) = true then (if decide ((s38.2.length : Int) + (([(⟨2, w64 (s38.1.tdiv (x0.Grid.Shards.length : Int)), s38.1.tmod (x0.Grid.Shards.length : Int)⟩ : D.Action)] : (List D.Action)).length : Int) ≤ 4294967296) = true then z5t fuel s38 (s38.2 ++ ([(⟨2, w64 (s38.1.tdiv (x0.Grid.Shards.length : Int)), s38.1.tmod (x0.Grid.Shards.length : Int)⟩ : D.Action)] : (List D.Action))) else none) else none) else none) else z5t fuel s38 s38.2)) else some (.brk s38.2))
def z7v (fuel : Nat) (x0 : D.Cluster) (t25 : (List D.Action)) : Option (List D.Action) := ((iter (z3y fuel x0) fuel (0, t25)).bind fun o => aft o (z9r fuel))
def z9q (fuel : Nat) (s24 : Int × (List D.Action)) (t94 : (List D.Action)) : Option (Rd (Int × (List D.Action)) ((List D.Action)) ((List D.Action))) := some (.next (w64 (s24.1 + 1), t94))
def z3x (fuel : Nat) (x0 : D.Cluster) (s24 : Int × (List D.Action)) (s93 : Int × (List D.Action)) : Option (Rd (Int × (List D.Action)) ((List D.Action)) (Rd (Int × (List D.Action)) ((List D.Action)) ((List D.Action)))) := ((idx x0.Grid.Shards s24.1).bind fun x112 => (if (decide (s93.1 < (x112.Redexes.length : Int))) = true then (if decide ((s93.2.length : Int) + (([(⟨1, s24.1, s93.1⟩ : D.Action)] : (List D.Action)).length : Int) ≤ 4294967296) = true then some (.next (w64 (s93.1 + 1), (s93.2 ++ ([(⟨1, s24.1, s93.1⟩ : D.Action)] : (List D.Action))))) else none) else some (.brk s93.2)))
def z3z (fuel : Nat) (x0 : D.Cluster) (s24 : Int × (List D.Action)) : Option (Rd (Int × (List D.Action)) ((List D.Action)) ((List D.Action))) := (if (decide (s24.1 < (x0.Grid.Shards.length : Int))) = true then ((iter (z3x fuel x0 s24) fuel (0, s24.2)).bind fun o => aft o (z9q fuel s24)) else some (.brk s24.2))
def z43 (fuel : Nat) (x0 : D.Cluster) : Option ((List D.Action)) := ((iter (z3z fuel x0) fuel (0, ([] : (List D.Action)))).bind fun o => aft o (z7v fuel x0))

theorem zab {W w : World} (hE : Ext W w) {p0_ : Addr} {c0_ : List Value} {x0 : D.Cluster} (h0_ : ty40.ro W c0_ x0) (g0_ : At W p0_ c0_) {fuel : Nat} {r : (List D.Action)} (hm : z43 fuel x0 = some r) :
    Calls Tryz.prog 79 ⟨[.pointer (some p0_)]⟩ w (Ret fun v w8 => ∃ A0 k0, v = sl A0 r k0 ∧ St w w8 [ow ty51 A0 r k0]) := by
  obtain ⟨A1, k2, A4, k5, A7, k10, A12, k13, A15, k16, e18, h3, h6, h11, h14, h17⟩ := z1j h0_; subst e18; refine into Tryz.func79 67 _ ?_; unfold z43 at hm; have hS := St.start w; refine sq <| rg <| rr 1 ?_; refine rn <| sq <| rg <| n0 (U := zaP) hS (fun A19 k20 w21 e22 hS23 => ?_); refine rr 1 ?_; refine rn <| sq <| rg <| rr 4 ?_; refine l1 (At.ext (hE.trans hS23.ext) g0_) 0 ?_; refine rr 2 ?_; refine rn <| sq <| sq <| rg <| rr 1 ?_; refine rn ?_; obtain ⟨o34, hl35, hm⟩ := bS hm; refine ct (fun (t25 : (List D.Action)) F w9 => ∃ A31 k32, o34 = .inl t25 ∧ St w w9 [ow ty51 A31 t25 k32] ∧ F = [(0, .pointer (some p0_)), (3, sl A31 t25 k32), (4, .int .i64 (x0.Grid.Shards.length : Int))]) ?_ ?_
  · rintro t25 F w33 ⟨A31, k32, ho37, hS36, rfl⟩; subst ho37; rw [z8] at hm; unfold z7v at hm; refine sq <| sq <| rg <| rr 1 ?_; refine rn ?_; obtain ⟨o48, hl49, hm⟩ := bS hm; refine ct (fun (t39 : (List D.Action)) F w9 => ∃ A45 k46, o48 = .inl t39 ∧ St w w9 [ow ty51 A45 t39 k46] ∧ F = [(3, sl A45 t39 k46)]) ?_ ?_
    · rintro t39 F w47 ⟨A45, k46, ho51, hS50, rfl⟩; subst ho51; rw [z8] at hm; unfold z9r at hm; refine sq <| rg <| rr 2 ?_; refine rn <| rt ?_; cases hm; exact ⟨_, .cons (.tmp rfl) .nil, A45, k46, rfl, hS50⟩
    · refine bk <| wk [0, 3, 4, 7] ?_; refine it (fun (s38 : Int × (List D.Action)) F w9 => ∃ A43 k44, St w w9 [ow ty51 A43 s38.2 k44] ∧ F = [(0, .pointer (some p0_)), (3, sl A43 s38.2 k44), (4, .int .i64 (x0.Grid.Shards.length : Int)), (7, .int .i64 s38.1)]) hl49 ⟨A31, k32, hS36, rfl⟩ ?_; rintro s38 F w56 _ o54 ⟨A43, k44, hS55, rfl⟩ hb52 ho53; unfold z3y at hb52; refine sq <| sq <| rg <| rr 5 ?_; refine rn <| ci hb52 (fun hb52 => ?_) (fun hb52 => ?_)
      · refine sp <| sq <| bk <| sq <| rg <| rr 3 ?_; refine l1 (At.ext (hE.trans hS55.ext) g0_) 4 ?_; refine rr 1 ?_; obtain ⟨x57, hx58, hb52⟩ := bS hb52; refine ix (hE.trans hS55.ext) h6 hx58 (fun p59 es60 ha61 hr62 => ?_); obtain ⟨A63, k65, e66⟩ := z1t hr62; subst e66; refine l1 (At.ext (hE.trans hS55.ext) ha61) 0 ?_; refine rr 2 ?_; refine rn <| ct (fun (t67 : (List D.Action)) F w9 => ∃ A68 k69, z5t fuel s38 t67 = some o54 ∧ St w w9 [ow ty51 A68 t67 k69] ∧ F = [(0, .pointer (some p0_)), (3, sl A68 t67 k69), (4, .int .i64 (x0.Grid.Shards.length : Int)), (7, .int .i64 s38.1)]) ?_ ?_
        · rintro t67 F w71 ⟨A68, k69, hb52, hS70, rfl⟩; unfold z5t at hb52; refine rg <| rr 3 ?_; refine rn ?_; cases hb52; exact ⟨_, _, rfl, ⟨A68, k69, hS70, rfl⟩, rfl⟩
        · refine ci hb52 (fun hb52 => ?_) (fun hb52 => ?_)
          · refine dn 512 mixed 11 [([], 2047), ([], 2047), ([], 2047), ([1, 2], 2041), ([], 2047), ([], 2047), ([4, 5], 1999), ([3, 6], 1975), ([7], 1919), ([0, 8], 1790), ([9, 9, 0, 1, 2, 3, 4, 5, 6, 7, 8, 9], 1534)] hS55.ext (fun s_73 => ?_); have hS74 := hS55.step (Ext.draw _); refine dr 6 s_73 [0, 1, 2, 4, 5] ?_; refine dw [0, 3, 4, 7, 56, 57, 58, 60, 61] ?_; obtain ⟨hk75, hb52⟩ := iS hb52; refine dp s_73 3 rfl (fun _ => qQuo (of_decide_eq_true hk75)) ?_; obtain ⟨hk76, hb52⟩ := iS hb52; refine dp s_73 6 rfl (fun _ => qRem (of_decide_eq_true hk76)) ?_; refine dp s_73 7 rfl (fun _ => qb) ?_; refine o1 s_73 8 (mn (hS74.flatEls (U := zaP) (els := [.int .i64 2, .int .i64 (w64 (s38.1.tdiv (x0.Grid.Shards.length : Int))), .int .i64 (s38.1.tmod (x0.Grid.Shards.length : Int))]) (ys := [(⟨2, w64 (s38.1.tdiv (x0.Grid.Shards.length : Int)), s38.1.tmod (x0.Grid.Shards.length : Int)⟩ : D.Action)]) ⟨[.int .i64 2, .int .i64 (w64 (s38.1.tdiv (x0.Grid.Shards.length : Int))), .int .i64 (s38.1.tmod (x0.Grid.Shards.length : Int))], _, [], [], rfl, rfl, (zat (c := (⟨2, w64 (s38.1.tdiv (x0.Grid.Shards.length : Int)), s38.1.tmod (x0.Grid.Shards.length : Int)⟩ : D.Action)) rfl), ⟨rfl, rfl⟩⟩) s_73 (fun A77 k78 w79 e80 hS81 => ?_)); have hS82 := hS81.bring 1 rfl; obtain ⟨hk83, hb52⟩ := iS hb52; refine o1 s_73 9 (mp (Flat.map (Flat.pair Flat.int (Flat.pair Flat.int (Flat.pair Flat.int Flat.unit)))) hS82 s_73 ((hS82.bring 1 rfl).own) hk83 (fun A84 k85 w86 hS87 => ?_)); refine dr 0 s_73 [10] ?_; refine dw [0, 3, 4, 7] ?_; refine dd s_73 ?_; exact ⟨(s38.2 ++ ([(⟨2, w64 (s38.1.tdiv (x0.Grid.Shards.length : Int)), s38.1.tmod (x0.Grid.Shards.length : Int)⟩ : D.Action)] : (List D.Action))), _, ⟨A84, k85, hb52, (hS87.taken 1), rfl⟩, rfl⟩
          · refine sp ?_; exact ⟨s38.2, _, ⟨A43, k44, hb52, hS55, rfl⟩, rfl⟩
      · refine xt ?_; cases hb52; exact ⟨_, _, ⟨A43, k44, ho53, hS55, rfl⟩, rfl⟩
  · refine bk <| wk [0, 3, 4, 5] ?_; refine it (fun (s24 : Int × (List D.Action)) F w9 => ∃ A29 k30, St w w9 [ow ty51 A29 s24.2 k30] ∧ F = [(0, .pointer (some p0_)), (3, sl A29 s24.2 k30), (4, .int .i64 (x0.Grid.Shards.length : Int)), (5, .int .i64 s24.1)]) hl35 ⟨A19, k20, hS23, rfl⟩ ?_; rintro s24 F w92 _ o90 ⟨A29, k30, hS91, rfl⟩ hb88 ho89; unfold z3z at hb88; refine sq <| sq <| rg <| rr 3 ?_; refine rn <| ci hb88 (fun hb88 => ?_) (fun hb88 => ?_)
    · refine sp <| sq <| bk <| sq <| rg <| rr 1 ?_; refine rn ?_; obtain ⟨o103, hl104, hb88⟩ := bS hb88; refine ct (fun (t94 : (List D.Action)) F w9 => ∃ A100 k101, o103 = .inl t94 ∧ St w w9 [ow ty51 A100 t94 k101] ∧ F = [(0, .pointer (some p0_)), (3, sl A100 t94 k101), (4, .int .i64 (x0.Grid.Shards.length : Int)), (5, .int .i64 s24.1)]) ?_ ?_
      · rintro t94 F w102 ⟨A100, k101, ho106, hS105, rfl⟩; subst ho106; rw [z8] at hb88; unfold z9q at hb88; refine rg <| rr 3 ?_; refine rn ?_; cases hb88; exact ⟨_, _, rfl, ⟨A100, k101, hS105, rfl⟩, rfl⟩
      · refine bk <| wk [0, 3, 4, 5, 6] ?_; refine it (fun (s93 : Int × (List D.Action)) F w9 => ∃ A98 k99, St w w9 [ow ty51 A98 s93.2 k99] ∧ F = [(0, .pointer (some p0_)), (3, sl A98 s93.2 k99), (4, .int .i64 (x0.Grid.Shards.length : Int)), (5, .int .i64 s24.1), (6, .int .i64 s93.1)]) hl104 ⟨A29, k30, hS91, rfl⟩ ?_; rintro s93 F w111 _ o109 ⟨A98, k99, hS110, rfl⟩ hb107 ho108; unfold z3x at hb107; refine sq <| sq <| rg <| rr 5 ?_; refine l1 (At.ext (hE.trans hS110.ext) g0_) 0 ?_; refine rr 1 ?_; obtain ⟨x112, hx113, hb107⟩ := bS hb107; refine ix (hE.trans hS110.ext) h3 hx113 (fun p114 es115 ha116 hr117 => ?_); obtain ⟨A118, k119, A121, k122, A124, k125, e127, h120, h123, h126⟩ := z1e hr117; subst e127; refine rr 1 ?_; refine l1 (At.ext (hE.trans hS110.ext) ha116) 2 ?_; refine rr 2 ?_; refine rn <| ci hb107 (fun hb107 => ?_) (fun hb107 => ?_)
        · refine sp <| sq <| bk <| rg <| rr 3 ?_; refine qt (qb) ?_; refine ns (hS110.flatEls (U := zaP) (els := [.int .i64 1, .int .i64 s24.1, .int .i64 s93.1]) (ys := [(⟨1, s24.1, s93.1⟩ : D.Action)]) ⟨[.int .i64 1, .int .i64 s24.1, .int .i64 s93.1], _, [], [], rfl, rfl, (zat (c := (⟨1, s24.1, s93.1⟩ : D.Action)) rfl), ⟨rfl, rfl⟩⟩) (fun A128 k129 w130 e131 hS132 => ?_); have hS133 := hS132.bring 1 rfl; obtain ⟨hk134, hb107⟩ := iS hb107; refine ap (Flat.map (Flat.pair Flat.int (Flat.pair Flat.int (Flat.pair Flat.int Flat.unit)))) hS133 ((hS133.bring 1 rfl).own) hk134 (fun A135 k136 w137 hS138 => ?_); refine rr 1 ?_; refine rn <| rg <| rr 3 ?_; refine rn ?_; cases hb107; exact ⟨_, _, rfl, ⟨A135, k136, (hS138.taken 1), rfl⟩, rfl⟩
        · refine xt ?_; cases hb107; exact ⟨_, _, ⟨A98, k99, ho108, hS110, rfl⟩, rfl⟩
    · refine xt ?_; cases hb88; exact ⟨_, _, ⟨A29, k30, ho89, hS91, rfl⟩, rfl⟩

theorem znF : Enters Tryz.prog 20 := ⟨_, _, Tryz.func20, rfl, by kernel_rfl⟩
def z54 (fuel : Nat) (x0 : D.Cluster) : Option (Bool) := ((z4R fuel x0).bind fun r23 => (if r23 = true then ((z43 fuel x0).bind fun r31 => some ((r31.length : Int) == 0)) else some false))

theorem zc3 {W w : World} (hE : Ext W w) {c0_ : List Value} {x0 : D.Cluster} (h0_ : ty40.ro W c0_ x0) {fuel : Nat} {r : Bool} (hm : z54 fuel x0 = some r) :
    Calls Tryz.prog 20 ⟨[.agg ⟨c0_⟩]⟩ w (Ret fun v w8 => v = .bool r ∧ St w w8 []) := by
  obtain ⟨A1, k2, A4, k5, A7, k10, A12, k13, A15, k16, e18, h3, h6, h11, h14, h17⟩ := z1j h0_; subst e18; refine into Tryz.func20 9 _ ?_; unfold z54 at hm; have hS := St.start w; refine sq <| rg <| nw hS (fun g19 w20 e21 hS22 => ?_); refine rr 1 ?_; refine rn <| sq <| rg ?_; obtain ⟨r23, hx24, hm⟩ := bS hm; refine ca zcB (z8d (Ext.refl _) (ty40.ext (hE.trans hS22.ext) h0_) ((hS22.bring 0 rfl).box) hx24) (fun v25 w26 hR27 => ?_); obtain ⟨rfl, hR28⟩ := hR27; have hS29 := hS22.join hR28; refine rr 1 ?_; refine rb 4 hm (fun hm => ?_) (fun hm => ?_)
  · obtain ⟨r31, hx32, hm⟩ := bS hm; refine ca zi7 (zab (Ext.refl _) (ty40.ext (hE.trans hS29.ext) h0_) ((hS29.bring 0 rfl).box) hx32) (fun v33 w34 hR35 => ?_); obtain ⟨A36, k37, rfl, hR38⟩ := hR35; have hS39 := hS29.join hR38; refine rr 4 ?_; refine rn <| rt ?_; cases hm; exact ⟨_, .cons (.tmp rfl) .nil, rfl, (hS39.taken 0)⟩
  · refine rr 5 ?_; refine rn <| rt ?_; cases hm; exact ⟨_, .cons (.tmp rfl) .nil, rfl, (hS29.taken 0)⟩

theorem zi6 : Enters Tryz.prog 80 := ⟨_, _, Tryz.func80, rfl, by kernel_rfl⟩
def z7R (fuel : Nat) (t41 : (List D.Action)) : Option (List D.Action) := some t41
def z2Z (fuel : Nat) (s40 : Int × (List D.Action)) (t69 : (List D.Action)) : Option (Rd (Int × (List D.Action)) ((List D.Action)) ((List D.Action))) := some (.next (w64 (s40.1 + 1), t69))
def z1Y (fuel : Nat) (x0 : D.Cluster) (r33 : Int) (s40 : Int × (List D.Action)) : Option (Rd (Int × (List D.Action)) ((List D.Action)) ((List D.Action))) := (if (decide (s40.1 < (x0.Channels.length : Int))) = true then ((idx x0.Channels s40.1).bind fun x59 => (if (decide ((x59.length : Int) > 0)) = true then (if decide (r33 ≠ 0) = true then (if decide (r33 ≠ 0) = true then (if decide ((s40.2.length : Int) + (([(⟨2, w64 (s40.1.tdiv r33), s40.1.tmod r33⟩ : D.Action)] : (List D.Action)).length : Int) ≤ 4294967296) = true then z2Z fuel s40 (s40.2 ++ ([(⟨2, w64 (s40.1.tdiv r33), s40.1.tmod r33⟩ : D.Action)] : (List D.Action))) else none) else none) else none) else z2Z fuel s40 s40.2)) else some (.brk s40.2))
def z5r (fuel : Nat) (x0 : D.Cluster) (t20 : (List D.Action)) : Option (List D.Action) := ((zZ fuel x0).bind fun r33 => ((iter (z1Y fuel x0 r33) fuel (0, t20)).bind fun o => aft o (z7R fuel)))
def z7Q (fuel : Nat) (s19 : (List D.Action) × Int) (t120 : (List D.Action)) : Option (Rd ((List D.Action) × Int) ((List D.Action)) ((List D.Action))) := some (.next (t120, w64 (s19.2 + 1)))
def z1X (fuel : Nat) (s19 : (List D.Action) × Int) (x96 : D.Shard) (s119 : Int × (List D.Action)) : Option (Rd (Int × (List D.Action)) ((List D.Action)) (Rd ((List D.Action) × Int) ((List D.Action)) ((List D.Action)))) := (if (decide (s119.1 < (x96.Redexes.length : Int))) = true then (if decide ((s119.2.length : Int) + (([(⟨1, s19.2, s119.1⟩ : D.Action)] : (List D.Action)).length : Int) ≤ 4294967296) = true then some (.next (w64 (s119.1 + 1), (s119.2 ++ ([(⟨1, s19.2, s119.1⟩ : D.Action)] : (List D.Action))))) else none) else some (.brk s119.2))
def z1Z (fuel : Nat) (x0 : D.Cluster) (s19 : (List D.Action) × Int) : Option (Rd ((List D.Action) × Int) ((List D.Action)) ((List D.Action))) := (if (decide (s19.2 < (x0.Grid.Shards.length : Int))) = true then ((idx x0.Grid.Shards s19.2).bind fun x96 => ((iter (z1X fuel s19 x96) fuel (0, s19.1)).bind fun o => aft o (z7Q fuel s19))) else some (.brk s19.1))
def z1J (fuel : Nat) (x0 : D.Cluster) : Option ((List D.Action)) := ((iter (z1Z fuel x0) fuel ([], 0)).bind fun o => aft o (z5r fuel x0))

theorem z8F {W w : World} (hE : Ext W w) {p0_ : Addr} {c0_ : List Value} {x0 : D.Cluster} (h0_ : ty40.ro W c0_ x0) (g0_ : At W p0_ c0_) {fuel : Nat} {r : (List D.Action)} (hm : z1J fuel x0 = some r) :
    Calls Tryz.prog 80 ⟨[.pointer (some p0_)]⟩ w (Ret fun v w8 => ∃ A0 k0, v = sl A0 r k0 ∧ St w w8 [ow ty51 A0 r k0]) := by
  obtain ⟨A1, k2, A4, k5, A7, k10, A12, k13, A15, k16, e18, h3, h6, h11, h14, h17⟩ := z1j h0_; subst e18; refine into Tryz.func80 62 _ ?_; unfold z1J at hm; have hS := St.start w; refine sq <| rg <| rr 1 ?_; refine rn <| sq <| rg <| rr 1 ?_; refine rn <| sq <| sq <| rg <| rr 4 ?_; refine l1 (At.ext (hE.trans hS.ext) g0_) 0 ?_; refine rr 2 ?_; refine rn ?_; obtain ⟨o29, hl30, hm⟩ := bS hm; refine ct (fun (t20 : (List D.Action)) F w9 => ∃ A26 k27, o29 = .inl t20 ∧ St w w9 [ow ty51 A26 t20 k27] ∧ F = [(0, .pointer (some p0_)), (3, sl A26 t20 k27)]) ?_ ?_
  · rintro t20 F w28 ⟨A26, k27, ho32, hS31, rfl⟩; subst ho32; rw [z8] at hm; unfold z5r at hm; refine sq <| rg <| rr 1 ?_; obtain ⟨r33, hx34, hm⟩ := bS hm; refine ca zfR (z65 (hE.trans hS31.ext) h0_ g0_ hx34) (fun v35 w36 hR37 => ?_); obtain ⟨rfl, hR38⟩ := hR37; have hS39 := hS31.join hR38; refine rr 1 ?_; refine rn <| sq <| sq <| rg <| rr 3 ?_; refine l1 (At.ext (hE.trans hS39.ext) g0_) 4 ?_; refine rr 2 ?_; refine rn ?_; obtain ⟨o50, hl51, hm⟩ := bS hm; refine ct (fun (t41 : (List D.Action)) F w9 => ∃ A47 k48, o50 = .inl t41 ∧ St w w9 [ow ty51 A47 t41 k48] ∧ F = [(3, sl A47 t41 k48)]) ?_ ?_
    · rintro t41 F w49 ⟨A47, k48, ho53, hS52, rfl⟩; subst ho53; rw [z8] at hm; unfold z7R at hm; refine sq <| rg <| rr 2 ?_; refine rn <| rt ?_; cases hm; exact ⟨_, .cons (.tmp rfl) .nil, A47, k48, rfl, hS52⟩
    · refine bk <| wk [3, 7, 40, 41, 42] ?_; refine it (fun (s40 : Int × (List D.Action)) F w9 => ∃ A45 k46, St w w9 [ow ty51 A45 s40.2 k46] ∧ F = [(3, sl A45 s40.2 k46), (7, .int .i64 r33), (40, sl A4 x0.Channels k5), (41, .int .i64 (x0.Channels.length : Int)), (42, .int .i64 s40.1)]) hl51 ⟨A26, k27, hS39, rfl⟩ ?_; rintro s40 F w58 _ o56 ⟨A45, k46, hS57, rfl⟩ hb54 ho55; unfold z1Y at hb54; refine sq <| rg <| rr 1 ?_; refine rn <| sq <| ci hb54 (fun hb54 => ?_) (fun hb54 => ?_)
      · refine sp <| sq <| bk <| sq <| rg <| rr 1 ?_; obtain ⟨x59, hx60, hb54⟩ := bS hb54; refine ix (hE.trans hS57.ext) h6 hx60 (fun p61 es62 ha63 hr65 => ?_); obtain ⟨A66, k67, e68⟩ := z1t hr65; subst e68; refine l1 (At.ext (hE.trans hS57.ext) ha63) 0 ?_; refine rr 2 ?_; refine rn <| sq <| rg <| rr 3 ?_; refine rn <| ct (fun (t69 : (List D.Action)) F w9 => ∃ A70 k71, z2Z fuel s40 t69 = some o56 ∧ St w w9 [ow ty51 A70 t69 k71] ∧ F = [(3, sl A70 t69 k71), (7, .int .i64 r33), (40, sl A4 x0.Channels k5), (41, .int .i64 (x0.Channels.length : Int)), (42, .int .i64 s40.1)]) ?_ ?_
        · rintro t69 F w73 ⟨A70, k71, hb54, hS72, rfl⟩; unfold z2Z at hb54; refine rg <| rr 2 ?_; refine rn ?_; cases hb54; exact ⟨_, _, rfl, ⟨A70, k71, hS72, rfl⟩, rfl⟩
        · refine ci hb54 (fun hb54 => ?_) (fun hb54 => ?_)
          · refine dn 512 mixed 11 [([], 2047), ([], 2047), ([], 2047), ([1, 2], 2041), ([], 2047), ([], 2047), ([4, 5], 1999), ([3, 6], 1975), ([7], 1919), ([0, 8], 1790), ([9, 9, 0, 1, 2, 3, 4, 5, 6, 7, 8, 9], 1534)] hS57.ext (fun s_75 => ?_); have hS76 := hS57.step (Ext.draw _); refine dr 6 s_75 [0, 1, 2, 4, 5] ?_; refine dw [3, 7, 40, 41, 42, 50, 51, 52, 54, 55] ?_; obtain ⟨hk77, hb54⟩ := iS hb54; refine dp s_75 3 rfl (fun _ => qQuo (of_decide_eq_true hk77)) ?_; obtain ⟨hk78, hb54⟩ := iS hb54; refine dp s_75 6 rfl (fun _ => qRem (of_decide_eq_true hk78)) ?_; refine dp s_75 7 rfl (fun _ => qb) ?_; refine o1 s_75 8 (mn (hS76.flatEls (U := zaP) (els := [.int .i64 2, .int .i64 (w64 (s40.1.tdiv r33)), .int .i64 (s40.1.tmod r33)]) (ys := [(⟨2, w64 (s40.1.tdiv r33), s40.1.tmod r33⟩ : D.Action)]) ⟨[.int .i64 2, .int .i64 (w64 (s40.1.tdiv r33)), .int .i64 (s40.1.tmod r33)], _, [], [], rfl, rfl, (zat (c := (⟨2, w64 (s40.1.tdiv r33), s40.1.tmod r33⟩ : D.Action)) rfl), ⟨rfl, rfl⟩⟩) s_75 (fun A79 k80 w81 e82 hS83 => ?_)); have hS84 := hS83.bring 1 rfl; obtain ⟨hk85, hb54⟩ := iS hb54; refine o1 s_75 9 (mp (Flat.map (Flat.pair Flat.int (Flat.pair Flat.int (Flat.pair Flat.int Flat.unit)))) hS84 s_75 ((hS84.bring 1 rfl).own) hk85 (fun A86 k87 w88 hS89 => ?_)); refine dr 0 s_75 [10] ?_; refine dw [3, 7, 40, 41, 42] ?_; refine dd s_75 ?_; exact ⟨(s40.2 ++ ([(⟨2, w64 (s40.1.tdiv r33), s40.1.tmod r33⟩ : D.Action)] : (List D.Action))), _, ⟨A86, k87, hb54, (hS89.taken 1), rfl⟩, rfl⟩
          · refine sp ?_; exact ⟨s40.2, _, ⟨A45, k46, hb54, hS57, rfl⟩, rfl⟩
      · refine xt ?_; cases hb54; exact ⟨_, _, ⟨A45, k46, ho55, hS57, rfl⟩, rfl⟩
  · refine bk ?_; have hS90 := hS.nilSl zaP 114; refine wk [0, 3, 14, 15, 16] ?_; refine it (fun (s19 : (List D.Action) × Int) F w9 => ∃ A24 k25, St w w9 [ow ty51 A24 s19.1 k25] ∧ F = [(0, .pointer (some p0_)), (3, sl A24 s19.1 k25), (14, sl A1 x0.Grid.Shards k2), (15, .int .i64 (x0.Grid.Shards.length : Int)), (16, .int .i64 s19.2)]) hl30 ⟨none, 0, hS90, rfl⟩ ?_; rintro s19 F w95 _ o93 ⟨A24, k25, hS94, rfl⟩ hb91 ho92; unfold z1Z at hb91; refine sq <| rg <| rr 1 ?_; refine rn <| sq <| ci hb91 (fun hb91 => ?_) (fun hb91 => ?_)
    · refine sp <| sq <| bk <| sq <| rg <| rr 1 ?_; obtain ⟨x96, hx97, hb91⟩ := bS hb91; refine ix (hE.trans hS94.ext) h3 hx97 (fun p98 es99 ha100 hr101 => ?_); obtain ⟨A102, k103, A105, k106, A108, k109, e111, h104, h107, h110⟩ := z1e hr101; subst e111; refine lN (At.ext (hE.trans hS94.ext) ha100) ?_; refine nw hS94 (fun g112 w113 e114 hS115 => ?_); refine rr 1 ?_; have hS116 := hS115.bring 0 rfl; refine so (A := []) hS116 0 (fun w117 hS118 => ?_); refine rn <| sq <| rg <| rr 1 ?_; refine l1 ((hS118.bring 0 rfl).box) 2 ?_; refine rr 2 ?_; refine rn ?_; obtain ⟨o129, hl130, hb91⟩ := bS hb91; refine ct (fun (t120 : (List D.Action)) F w9 => ∃ A126 k127, o129 = .inl t120 ∧ St w w9 [Box g112 [sl A102 x96.Cells k103, sl A105 x96.Vars k106, sl A108 x96.Redexes k109] 166, ow ty51 A126 t120 k127] ∧ F = [(0, .pointer (some p0_)), (3, sl A126 t120 k127), (14, sl A1 x0.Grid.Shards k2), (15, .int .i64 (x0.Grid.Shards.length : Int)), (16, .int .i64 s19.2)]) ?_ ?_
      · rintro t120 F w128 ⟨A126, k127, ho132, hS131, rfl⟩; subst ho132; rw [z8] at hb91; unfold z7Q at hb91; refine rg <| rr 2 ?_; refine rn ?_; cases hb91; exact ⟨_, _, rfl, ⟨A126, k127, ((hS131.bring 1 rfl).taken 1), rfl⟩, rfl⟩
      · refine bk <| wk [0, 3, 4, 14, 15, 16, 23, 24] ?_; refine it (fun (s119 : Int × (List D.Action)) F w9 => ∃ A124 k125, St w w9 [Box g112 [sl A102 x96.Cells k103, sl A105 x96.Vars k106, sl A108 x96.Redexes k109] 166, ow ty51 A124 s119.2 k125] ∧ F = [(0, .pointer (some p0_)), (3, sl A124 s119.2 k125), (4, .int .i64 s19.2), (14, sl A1 x0.Grid.Shards k2), (15, .int .i64 (x0.Grid.Shards.length : Int)), (16, .int .i64 s19.2), (23, .int .i64 (x96.Redexes.length : Int)), (24, .int .i64 s119.1)]) hl130 ⟨A24, k25, hS118, rfl⟩ ?_; rintro s119 F w137 _ o135 ⟨A124, k125, hS136, rfl⟩ hb133 ho134; unfold z1X at hb133; refine sq <| rg <| rr 1 ?_; refine rn <| sq <| ci hb133 (fun hb133 => ?_) (fun hb133 => ?_)
        · refine sp <| sq <| bk <| sq <| rg <| rr 2 ?_; refine rn <| rg <| rr 3 ?_; refine qt (qb) ?_; refine ns (hS136.flatEls (U := zaP) (els := [.int .i64 1, .int .i64 s19.2, .int .i64 s119.1]) (ys := [(⟨1, s19.2, s119.1⟩ : D.Action)]) ⟨[.int .i64 1, .int .i64 s19.2, .int .i64 s119.1], _, [], [], rfl, rfl, (zat (c := (⟨1, s19.2, s119.1⟩ : D.Action)) rfl), ⟨rfl, rfl⟩⟩) (fun A138 k139 w140 e141 hS142 => ?_); have hS143 := hS142.bring 2 rfl; obtain ⟨hk144, hb133⟩ := iS hb133; refine ap (Flat.map (Flat.pair Flat.int (Flat.pair Flat.int (Flat.pair Flat.int Flat.unit)))) hS143 ((hS143.bring 1 rfl).own) hk144 (fun A145 k146 w147 hS148 => ?_); refine rr 1 ?_; refine rn <| rg <| rr 2 ?_; refine rn ?_; cases hb133; exact ⟨_, _, rfl, ⟨A145, k146, (((hS148.bring 0 rfl).bring 2 rfl).taken 2), rfl⟩, rfl⟩
        · refine xt ?_; cases hb133; exact ⟨_, _, ⟨A124, k125, ho134, hS136, rfl⟩, rfl⟩
    · refine xt ?_; cases hb91; exact ⟨_, _, ⟨A24, k25, ho92, hS94, rfl⟩, rfl⟩

theorem znE : Enters Tryz.prog 21 := ⟨_, _, Tryz.func21, rfl, by kernel_rfl⟩
def z5h (fuel : Nat) (x0 : D.Cluster) : Option (Bool) := ((z1i fuel x0).bind fun r23 => (if r23 = true then ((z1J fuel x0).bind fun r31 => some ((r31.length : Int) == 0)) else some false))

theorem zc9 {W w : World} (hE : Ext W w) {c0_ : List Value} {x0 : D.Cluster} (h0_ : ty40.ro W c0_ x0) {fuel : Nat} {r : Bool} (hm : z5h fuel x0 = some r) :
    Calls Tryz.prog 21 ⟨[.agg ⟨c0_⟩]⟩ w (Ret fun v w8 => v = .bool r ∧ St w w8 []) := by
  obtain ⟨A1, k2, A4, k5, A7, k10, A12, k13, A15, k16, e18, h3, h6, h11, h14, h17⟩ := z1j h0_; subst e18; refine into Tryz.func21 10 _ ?_; unfold z5h at hm; have hS := St.start w; refine sq <| rg <| nw hS (fun g19 w20 e21 hS22 => ?_); refine rr 1 ?_; refine rn <| sq <| rg <| lN ((hS22.bring 0 rfl).box) ?_; obtain ⟨r23, hx24, hm⟩ := bS hm; refine ca zcD (z3S (hE.trans hS22.ext) h0_ hx24) (fun v25 w26 hR27 => ?_); obtain ⟨rfl, hR28⟩ := hR27; have hS29 := hS22.join hR28; refine rr 1 ?_; refine rb 5 hm (fun hm => ?_) (fun hm => ?_)
  · obtain ⟨r31, hx32, hm⟩ := bS hm; refine ca zi6 (z8F (Ext.refl _) (ty40.ext (hE.trans hS29.ext) h0_) ((hS29.bring 0 rfl).box) hx32) (fun v33 w34 hR35 => ?_); obtain ⟨A36, k37, rfl, hR38⟩ := hR35; have hS39 := hS29.join hR38; refine rr 4 ?_; refine rn <| rt ?_; cases hm; exact ⟨_, .cons (.tmp rfl) .nil, rfl, (hS39.taken 0)⟩
  · refine rr 5 ?_; refine rn <| rt ?_; cases hm; exact ⟨_, .cons (.tmp rfl) .nil, rfl, (hS29.taken 0)⟩

def z2W (fuel : Nat) (x0 : D.Cluster) : Option (Bool) := ((z24 fuel x0 1048576).bind fun r23 => (if (decide (r23 < 0)) = true then some true else ((zj fuel x0).bind fun r30 => ((z54 fuel r30).bind fun r47 => ((zj fuel x0).bind fun r54 => ((z5h fuel r54).bind fun r79 => (if (!(r79 == r47)) = true then some false else ((zj fuel x0).bind fun r88 => ((z25 fuel r54 r88).bind fun r105 => (if (!r105) = true then some false else some true))))))))))

theorem laws_FnExactClusterDone_ok {W w : World} (hE : Ext W w) {c0_ : List Value} {x0 : D.Cluster} (h0_ : ty31.ro W c0_ x0) {fuel : Nat} {r : Bool} (hm : z2W fuel x0 = some r) :
    Calls Tryz.prog 4 ⟨[.agg ⟨c0_⟩]⟩ w (Ret fun v w8 => v = .bool r ∧ St w w8 []) := by
  obtain ⟨A1, k2, A4, k5, A7, k10, A12, k13, A15, k16, e18, h3, h6, h11, h14, h17⟩ := z9J h0_; subst e18; refine into Tryz.func4 27 _ ?_; unfold z2W at hm; have hS := St.start w; refine sq <| rg <| nw hS (fun g19 w20 e21 hS22 => ?_); refine rr 1 ?_; refine rn <| sq <| rg <| rr 1 ?_; refine rn <| sq <| rg <| lN ((hS22.bring 0 rfl).box) ?_; refine rr 1 ?_; obtain ⟨r23, hx24, hm⟩ := bS hm; refine ca zcE (laws_szCluster_ok (hE.trans hS22.ext) h0_ hx24) (fun v25 w26 hR27 => ?_); obtain ⟨rfl, hR28⟩ := hR27; have hS29 := hS22.join hR28; refine rr 1 ?_; refine rn <| sq <| sq <| rg <| rr 2 ?_; refine rn <| ci hm (fun hm => ?_) (fun hm => ?_)
  · refine sq <| rg <| rr 1 ?_; refine rn <| rt ?_; cases hm; exact ⟨_, .cons (.tmp rfl) .nil, rfl, (hS29.taken 0)⟩
  · refine sp <| sq <| rg <| lN ((hS29.bring 0 rfl).box) ?_; obtain ⟨r30, hx31, hm⟩ := bS hm; refine ca z6o (laws_toCluster_ok (hE.trans hS29.ext) h0_ hx31) (fun v32 w33 hR34 => ?_); obtain ⟨A35, k36, A37, k38, A39, k40, A41, k42, A43, k44, rfl, hR45⟩ := hR34; have hS46 := hS29.join hR45; obtain ⟨r47, hx48, hm⟩ := bS hm; refine ca znF (zc3 (Ext.refl _) (z1b r30 ((hS46.bring 0 rfl).own) ((hS46.bring 1 rfl).own) ((hS46.bring 2 rfl).own) ((hS46.bring 3 rfl).own) ((hS46.bring 4 rfl).own)) hx48) (fun v49 w50 hR51 => ?_); obtain ⟨rfl, hR52⟩ := hR51; have hS53 := hS46.join hR52; refine rr 1 ?_; refine rn <| sq <| rg <| lN ((hS53.bring 5 rfl).box) ?_; obtain ⟨r54, hx55, hm⟩ := bS hm; refine ca z6o (laws_toCluster_ok (hE.trans hS53.ext) h0_ hx55) (fun v56 w57 hR58 => ?_); obtain ⟨A59, k60, A61, k62, A63, k65, A66, k67, A68, k69, rfl, hR70⟩ := hR58; have hS71 := hS53.join hR70; refine nw hS71 (fun g72 w73 e74 hS75 => ?_); have hS76 := hS75.bring 0 rfl; refine so (A := []) hS76 0 (fun w77 hS78 => ?_); refine rn <| sq <| rg <| lN ((hS78.bring 0 rfl).box) ?_; obtain ⟨r79, hx80, hm⟩ := bS hm; refine ca znE (zc9 (Ext.refl _) (z1b r54 ((hS78.bring 1 rfl).own) ((hS78.bring 2 rfl).own) ((hS78.bring 3 rfl).own) ((hS78.bring 4 rfl).own) ((hS78.bring 5 rfl).own)) hx80) (fun v81 w82 hR83 => ?_); obtain ⟨rfl, hR84⟩ := hR83; have hS85 := hS78.join hR84; refine rr 1 ?_; refine rn <| sq <| sq <| rg <| rr 3 ?_; refine rn <| ci hm (fun hm => ?_) (fun hm => ?_)
    · refine sq <| rg <| rr 1 ?_; refine rn <| rt ?_; cases hm; exact ⟨_, .cons (.tmp rfl) .nil, rfl, (hS85.taken 0)⟩
    · refine sp <| sq <| sq <| dn 0 mixed 5 [([], 31), ([], 31), ([1], 29), ([0, 2, 2], 26), ([3], 23)] hS85.ext (fun s_86 => ?_); have hS87 := hS85.step (Ext.draw _); refine dL s_86 0 ((hS85.bring 0 rfl).box) ?_; refine dL s_86 1 ((hS85.bring 11 rfl).box) ?_; obtain ⟨r88, hx89, hm⟩ := bS hm; refine o1 s_86 2 (mc s_86 z6o (laws_toCluster_ok (hE.trans hS87.ext) h0_ hx89) (fun v90 w91 hR92 => ?_)); obtain ⟨A93, k94, A95, k96, A97, k98, A99, k100, A101, k102, rfl, hR103⟩ := hR92; refine ⟨hR103.ext, ?_⟩; have hS104 := hS87.join hR103; obtain ⟨r105, hx106, hm⟩ := bS hm; refine o1 s_86 3 (mc s_86 zcC (laws_eqCluster_ok (Ext.refl _) (z1b r54 ((hS104.bring 6 rfl).own) ((hS104.bring 7 rfl).own) ((hS104.bring 8 rfl).own) ((hS104.bring 9 rfl).own) ((hS104.bring 10 rfl).own)) (z1b r88 ((hS104.bring 0 rfl).own) ((hS104.bring 1 rfl).own) ((hS104.bring 2 rfl).own) ((hS104.bring 3 rfl).own) ((hS104.bring 4 rfl).own)) hx106) (fun v107 w108 hR109 => ?_)); obtain ⟨rfl, hR110⟩ := hR109; refine ⟨hR110.ext, ?_⟩; have hS111 := hS104.join hR110; refine dr 0 s_86 [4] ?_; refine dw [26] ?_; refine dd s_86 ?_; refine ci hm (fun hm => ?_) (fun hm => ?_)
      · refine sq <| rg <| rr 1 ?_; refine rn <| rt ?_; cases hm; exact ⟨_, .cons (.tmp rfl) .nil, rfl, (hS111.taken 0)⟩
      · refine sp <| sq <| rg <| rr 1 ?_; refine rn <| rt ?_; cases hm; exact ⟨_, .cons (.tmp rfl) .nil, rfl, (hS111.taken 0)⟩

end Go.E

namespace Go.E
set_option linter.unusedVariables false
set_option linter.unusedSimpArgs false


theorem eqLoop {α τ ρ : Type} [DecidableEq α] {xs ys : List α} {body : Int → Option (Rd Int τ ρ)} {fuel : Nat} {t : τ} {v : ρ} (hl : xs.length ≤ maxLen) (hf : 18446744073709551616 ≤ fuel) (he : xs.length = ys.length)
    (step : ∀ (i : Nat) (a b : α), i < xs.length → xs[i]? = some a → ys[i]? = some b → body i = if a = b then some (.next (w64 (i + 1))) else some (.ret v)) (last : body xs.length = some (.brk t)) :
    iter body fuel 0 = some (if xs = ys then .inl t else .inr v) := by
  have hm : maxLen = 9223372036854775807 := rfl
  obtain ⟨o, h2, h3⟩ := z12 (body := body) (fun i s => s = (i : Int) ∧ xs.take i = ys.take i) xs.length (fun o => o = if xs = ys then .inl t else .inr v) (by
    rintro i s hi ⟨rfl, h⟩
    obtain ⟨a, ha⟩ := z4a hi
    obtain ⟨b, hb⟩ := z4a (he ▸ hi : i < ys.length)
    have hs := step i a b hi ha hb
    by_cases e : a = b
    · rw [if_pos e] at hs
      refine .inl ⟨_, hs, by rw [z9 (by omega) (by omega)]; simp, ?_⟩
      rw [List.take_add_one, List.take_add_one, h, ha, hb, e]
    · rw [if_neg e] at hs
      refine .inr (.inl ⟨_, hs, ?_⟩)
      rw [if_neg]
      rintro rfl
      rw [ha] at hb
      exact e (Option.some.inj hb)) (by
    rintro s ⟨rfl, h⟩
    rw [List.take_length, he, List.take_length] at h
    exact .inr ⟨_, last, by rw [if_pos h]⟩) (fuel := fuel) (i := 0) (s := 0) (Nat.zero_le _) (by omega) ⟨rfl, by simp⟩
  rw [h2, h3]


theorem eqWhole {α τ : Type} [DecidableEq α] {xs ys : List α} {body : Int → Option (Rd Int τ Bool)} {j : τ → Option Bool} {fuel : Nat} {t : τ} (hl : xs.length ≤ maxLen) (hf : 18446744073709551616 ≤ fuel) (hj : j t = some true)
    (step : ∀ (i : Nat) (a b : α), i < xs.length → xs[i]? = some a → ys[i]? = some b → body i = if a = b then some (.next (w64 (i + 1))) else some (.ret false)) (last : body xs.length = some (.brk t)) :
    (if ((xs.length : Int) != (ys.length : Int)) = true then some false else ((iter body fuel 0).bind fun o => aft o j)) = some (decide (xs = ys)) := by
  by_cases he : xs.length = ys.length
  · rw [if_neg (by simp [he]), eqLoop hl hf he step last]
    by_cases h : xs = ys
    · rw [if_pos h, decide_eq_true h]; exact hj
    · rw [if_neg h, decide_eq_false h]; rfl
  · rw [if_pos (by simp; omega), decide_eq_false (fun h => he (by rw [h]))]


theorem askLoop {α τ ρ : Type} {xs : List α} {body : Int → Option (Rd Int τ ρ)} {fuel : Nat} {t : τ} {p : α → Bool} {g : Int → ρ} (hl : xs.length ≤ maxLen) (hf : 18446744073709551616 ≤ fuel)
    (step : ∀ (i : Nat) (x : α), i < xs.length → xs[i]? = some x → body i = if p x = true then some (.ret (g i)) else some (.next (w64 (i + 1)))) (last : body xs.length = some (.brk t)) :
    (xs.any p = false ∧ iter body fuel 0 = some (.inl t)) ∨ (xs.any p = true ∧ ∃ i : Nat, i < xs.length ∧ iter body fuel 0 = some (.inr (g i))) := by
  have hm : maxLen = 9223372036854775807 := rfl
  obtain ⟨o, h2, h3⟩ := z12 (body := body) (fun i s => s = (i : Int) ∧ (xs.take i).any p = false) xs.length (fun o => (xs.any p = false ∧ o = .inl t) ∨ (xs.any p = true ∧ ∃ i : Nat, i < xs.length ∧ o = .inr (g i))) (by
    rintro i s hi ⟨rfl, ha⟩
    obtain ⟨x, hx⟩ := z4a hi
    have hs := step i x hi hx
    cases hp : p x with
    | true =>
      rw [hp, if_pos rfl] at hs
      exact .inr (.inl ⟨_, hs, .inr ⟨List.any_eq_true.2 ⟨x, List.mem_of_getElem? hx, hp⟩, i, hi, rfl⟩⟩)
    | false =>
      rw [hp, if_neg (by simp)] at hs
      refine .inl ⟨_, hs, by rw [z9 (by omega) (by omega)]; simp, ?_⟩
      rw [List.take_add_one, hx, List.any_append, ha]
      simp [hp]) (by
    rintro s ⟨rfl, ha⟩
    rw [List.take_length] at ha
    exact .inr ⟨_, last, .inl ⟨ha, rfl⟩⟩) (fuel := fuel) (i := 0) (s := 0) (Nat.zero_le _) (by omega) ⟨rfl, by simp⟩
  rcases h3 with ⟨h3, rfl⟩ | ⟨h3, i, hi, rfl⟩
  · exact .inl ⟨h3, h2⟩
  · exact .inr ⟨h3, i, hi, h2⟩


theorem askOne {α τ ρ : Type} {xs : List α} {body : Int → Option (Rd Int τ ρ)} {j : τ → Option ρ} {fuel : Nat} {t : τ} {p : α → Bool} {v : ρ} (hl : xs.length ≤ maxLen) (hf : 18446744073709551616 ≤ fuel)
    (step : ∀ (i : Nat) (x : α), i < xs.length → xs[i]? = some x → body i = if p x = true then some (.ret v) else some (.next (w64 (i + 1)))) (last : body xs.length = some (.brk t)) :
    ((iter body fuel 0).bind fun o => aft o j) = if xs.any p = true then some v else j t := by
  rcases askLoop (g := fun _ => v) hl hf step last with ⟨h1, h2⟩ | ⟨h1, i, _, h2⟩
  · rw [h2, h1]; rfl
  · rw [h2, h1]; rfl


theorem askIndex {α τ : Type} {xs : List α} {body : Int → Option (Rd Int τ Int)} {j : τ → Option Int} {fuel : Nat} {t : τ} {p : α → Bool} (hl : xs.length ≤ maxLen) (hf : 18446744073709551616 ≤ fuel) (hj : j t = some (-1))
    (step : ∀ (i : Nat) (x : α), i < xs.length → xs[i]? = some x → body i = if p x = true then some (.ret i) else some (.next (w64 (i + 1)))) (last : body xs.length = some (.brk t)) :
    ∃ r, ((iter body fuel 0).bind fun o => aft o j) = some r ∧ decide (r ≥ 0) = xs.any p := by
  rcases askLoop (g := fun i => i) hl hf step last with ⟨h1, h2⟩ | ⟨h1, i, _, h2⟩
  · exact ⟨-1, by rw [h2]; exact hj, by rw [h1]; decide⟩
  · exact ⟨i, by rw [h2]; rfl, by rw [h1]; exact decide_eq_true (by omega)⟩
end Go.E
namespace Go.E

end Go.E

namespace Go.E
open Go.RowKit Go.Proofs
set_option linter.unusedSimpArgs false
set_option linter.unusedVariables false

theorem z6O {fuel : Nat} {a l h : Int} : zA fuel a l h = some (decide (l ≤ a ∧ a ≤ h)) := by
  unfold zA
  by_cases h1 : l ≤ a
  · rw [if_pos (decide_eq_true (by omega))]; simp [h1]
  · rw [if_neg (by simp; omega)]; simp [h1]

def portsN (k f : Int) : Int :=
  if k = 9 then (if 0 ≤ f ∧ f ≤ 3 then 1 + f else 0) else if f ≠ 0 then 0 else if k = 1 ∨ k = 5 ∨ k = 6 ∨ k = 12 then 1 else
  if k = 8 ∨ k = 10 ∨ k = 11 then 2 else if k = 2 ∨ k = 3 ∨ k = 4 ∨ k = 7 then 3 else 0
def levelN (k : Int) : Bool := decide (2 ≤ k ∧ k ≤ 12 ∧ k ≠ 5 ∧ k ≠ 6)
def allowN (k l : Int) : Bool := decide (1 ≤ k ∧ k ≤ 12) && (decide (l = 0) || (levelN k && decide (0 ≤ l ∧ l ≤ 8)))
def defN (n : Int) : Bool := decide (0 ≤ n ∧ n ≤ 23)
def contentN (k v : Int) (d : List Int) : Bool :=
  if k = 6 then decide (d.length = 0 ∧ -2147483648 ≤ v ∧ v ≤ 2147483647) else
  if k = 7 then decide (d.length = 0 ∧ 1 ≤ v ∧ v ≤ 6) else
  if k = 8 then decide (d.length = 1 ∧ 1 ≤ v ∧ v ≤ 6) && d.all (fun n => decide (-2147483648 ≤ n ∧ n ≤ 2147483647)) else
  if k = 9 then decide (d.length = 0 ∧ 0 ≤ v ∧ v ≤ 3) else
  if k = 10 then decide (v = 0 ∧ 1 ≤ d.length ∧ d.length ≤ 4) && d.all defN else
  if k = 11 then decide (v = 0 ∧ d.length = 2) && d.all defN else
  if k = 12 then decide (d.length = 0 ∧ 0 ≤ v ∧ v ≤ 23) else decide (v = 0 ∧ d.length = 0)
def agentN (k l v : Int) (d : List Int) (n : Nat) : Bool := decide (portsN k (if k = 9 then n - 1 else 0) = n) && (allowN k l && contentN k v d)

theorem kinds (k : Int) : (k = 1 ∨ k = 2 ∨ k = 3 ∨ k = 4 ∨ k = 5 ∨ k = 6 ∨ k = 7 ∨ k = 8 ∨ k = 9 ∨ k = 10 ∨ k = 11 ∨ k = 12) ∨ ¬ (1 ≤ k ∧ k ≤ 12) := by omega
theorem zhZ {k : Int} (h : ¬ (1 ≤ k ∧ k ≤ 12)) (c : Int) (h1 : 1 ≤ c ∧ c ≤ 12) : (k == c) = false := by
  rw [beq_eq_false_iff_ne]; rintro rfl; exact h h1

theorem zfe {fuel : Nat} {k f : Int} : z5k fuel k f = some (portsN k f) := by
  by_cases h9 : k = 9
  · subst h9
    unfold z5k portsN
    simp only [z6O, Option.bind_some, beq_self_eq_true, if_true, decide_eq_true_eq]
    split
    · rw [z9 (by omega) (by omega)]
    · rfl
  · by_cases hf : f = 0
    · subst hf
      rcases kinds k with h | h
      · rcases h with rfl | rfl | rfl | rfl | rfl | rfl | rfl | rfl | rfl | rfl | rfl | rfl <;> first | exact absurd rfl h9 | rfl
      · simp [z5k, z5S, z5R, z5Q, z5P, z5O, z5N, z5M, z5L, portsN, zhZ h, h9]
        omega
    · unfold z5k portsN
      rw [if_neg (by simpa using h9), if_pos (by simpa using hf), if_neg h9, if_pos hf]
theorem zaS {fuel : Nat} {k : Int} : z6n fuel k = some (decide (1 ≤ k ∧ k ≤ 12)) := by
  unfold z6n
  by_cases h1 : 1 ≤ k
  · rw [if_pos (decide_eq_true (by omega))]; simp [h1]
  · rw [if_neg (by simp; omega)]; simp [h1]
theorem ziP {fuel : Nat} {k f : Int} : z6J fuel k f = some (portsN k f) := by
  by_cases h9 : k = 9
  · subst h9
    unfold z6J portsN z2T
    simp only [zaS, Option.bind_some, beq_self_eq_true, if_true]
    by_cases h0 : 0 ≤ f
    · by_cases h3 : f ≤ 3
      · rw [if_pos (decide_eq_true (by omega)), if_pos (decide_eq_true h3), if_pos ⟨h0, h3⟩, z9 (by omega) (by omega), Int.add_comm]
      · rw [if_pos (decide_eq_true (by omega)), if_neg (by simpa using h3)]; simp [z1A, h3]
    · rw [if_neg (by simp; omega), if_neg Bool.false_ne_true]; simp [z1A, h0]
  · unfold z6J z2T
    rw [if_neg (by simpa using h9), if_neg Bool.false_ne_true, zaS, Option.bind_some]
    rcases kinds k with h | h
    · by_cases hf : f = 0
      · subst hf
        rcases h with rfl | rfl | rfl | rfl | rfl | rfl | rfl | rfl | rfl | rfl | rfl | rfl <;> first | exact absurd rfl h9 | rfl
      · rw [if_neg (by simp; omega), if_neg (by simpa using h9), show (f != 0) = true by simpa using hf]
        simp [z1A, portsN, h9, hf]
    · rw [if_pos (by simp; omega)]
      simp [z1A, portsN, h9]
      omega

theorem ziR {fuel : Nat} {k : Int} : z74 fuel k = some (levelN k) := by
  rcases kinds k with h | h
  · rcases h with rfl | rfl | rfl | rfl | rfl | rfl | rfl | rfl | rfl | rfl | rfl | rfl <;> rfl
  · simp [z74, z53, z52, z51, z50, z4Z, z4Y, z4X, z4W, levelN, zhZ h]
    omega
theorem ziS {fuel : Nat} {k : Int} : z7f fuel k = some (levelN k) := by
  unfold z7f
  rw [zaS, Option.bind_some]
  rcases kinds k with h | h
  · rcases h with rfl | rfl | rfl | rfl | rfl | rfl | rfl | rfl | rfl | rfl | rfl | rfl <;> rfl
  · rw [if_neg (by simpa using h)]
    simp [levelN]; omega
theorem zj3 {fuel : Nat} {k l : Int} : z73 fuel k l = some (allowN k l) := by
  unfold z73 z8Z allowN
  simp only [ziR, z6O, Option.bind_some]
  cases hl : levelN k with
  | true =>
    have : 1 ≤ k ∧ k ≤ 12 := by unfold levelN at hl; simp at hl; omega
    simp [this]; omega
  | false => by_cases h : 1 ≤ k ∧ k ≤ 12 <;> by_cases h0 : l = 0 <;> simp [h, h0]
theorem zj4 {fuel : Nat} {k l : Int} : z6C fuel k l = some (allowN k l) := by
  unfold z6C allowN
  have hL : z7L fuel l = some (decide (0 ≤ l ∧ l ≤ 8)) := by
    unfold z7L
    by_cases h1 : 0 ≤ l
    · rw [if_pos (decide_eq_true (by omega))]; simp [h1]
    · rw [if_neg (by simp; omega)]; simp [h1]
  simp only [zaS, ziS, hL, Option.bind_some]
  by_cases h : 1 ≤ k ∧ k ≤ 12
  · by_cases h0 : l = 0
    · simp [h, h0]
    · cases hl : levelN k <;> simp [h, h0]
  · simp [h]

theorem zii {fuel : Nat} {n : Int} : z7o fuel n = some (defN n) := by
  unfold z7o defN; rw [z6O]; rfl
theorem zij {fuel : Nat} {n : Int} : z49 fuel n = some (defN n) := by
  unfold z49 defN
  by_cases h1 : 0 ≤ n
  · rw [if_pos (decide_eq_true (by omega))]; simp [h1]; omega
  · rw [if_neg (by simp; omega)]; simp [h1]
theorem zmY {fuel : Nat} {n : Int} : z88 fuel n = some (decide (-2147483648 ≤ n ∧ n ≤ 2147483647)) := by
  unfold z88
  by_cases h1 : -2147483648 ≤ n
  · rw [if_pos (decide_eq_true (by omega))]; simp [h1]
  · rw [if_neg (by simp; omega)]; simp [h1]
theorem zjp {fuel : Nat} {n : Int} : z48 fuel n = some (decide (1 ≤ n ∧ n ≤ 6)) := by
  unfold z48
  by_cases h1 : 1 ≤ n
  · rw [if_pos (decide_eq_true (by omega))]; simp [h1]
  · rw [if_neg (by simp; omega)]; simp [h1]
theorem zap {α : Type} {p : α → Bool} : ∀ {xs : List α}, xs.any (fun x => !p x) = !xs.all p
  | [] => rfl
  | x :: xs => by simp [zap (p := p) (xs := xs)]
theorem zma {fuel : Nat} {a : D.Agent} (hf : 18446744073709551616 ≤ fuel) (hl : a.Data.length ≤ maxLen) :
    ((iter (z3A fuel a) fuel 0).bind fun o => aft o (z7w fuel)) = some (a.Data.all defN) := by
  rw [askOne (xs := a.Data) (p := fun n => !defN n) (v := false) (t := ()) hl hf (fun i x hi hx => by
    unfold z3A
    simp only [za hx, zii, lt_t (show (i : Int) < a.Data.length by omega), if_true, Option.bind_some]) (by simp [z3A]), zap]
  cases a.Data.all defN <;> rfl
theorem zdb {fuel : Nat} {p : Int → Bool} {f : Int → Option Bool} {xs : List Int} (hf : 18446744073709551616 ≤ fuel) (hl : xs.length ≤ maxLen) (h : ∀ n, f n = some (p n)) :
    zD fuel xs f = some (xs.any p) := by
  unfold zD z1H
  obtain ⟨r, h1, h2⟩ := askIndex (xs := xs) (p := p) (body := zX fuel xs f) (j := z2o fuel) (t := ()) hl hf rfl (fun i x hi hx => by
    simp only [zX, za hx, h, lt_t (show (i : Int) < xs.length by omega), if_true, Option.bind_some]) (by simp [zX])
  rw [h1, Option.bind_some, h2]

theorem zh7 {fuel : Nat} {a : D.Agent} (hf : 18446744073709551616 ≤ fuel) (hl : a.Data.length ≤ maxLen) : zW fuel a = some (contentN a.Kind a.Value a.Data) := by
  have hd := zma (a := a) hf hl
  obtain ⟨k, l, v, d, ps⟩ := a
  dsimp only at hl hd ⊢
  by_cases h6 : k = 6
  · subst h6
    simp only [zW, contentN, z6O, Option.bind_some, beq_self_eq_true, if_true]
    by_cases h : d.length = 0 <;> simp [h] <;> omega
  by_cases h7 : k = 7
  · subst h7
    simp only [zW, contentN, z6O, Option.bind_some, beq_self_eq_true, if_true]
    by_cases h : d.length = 0 <;> simp [h] <;> omega
  by_cases h8 : k = 8
  · subst h8
    simp only [zW, contentN, z6O, Option.bind_some, beq_self_eq_true, if_true]
    match d with
    | [] => simp
    | [n] => by_cases h : 1 ≤ v ∧ v ≤ 6 <;> simp [h, idx]
    | _ :: _ :: _ => simp; omega
  by_cases h9 : k = 9
  · subst h9
    simp only [zW, contentN, z6O, Option.bind_some, beq_self_eq_true, if_true]
    by_cases h : d.length = 0 <;> simp [h] <;> omega
  by_cases h12 : k = 12
  · subst h12
    simp only [zW, contentN, z6O, zii, Option.bind_some, beq_self_eq_true, if_true]
    by_cases h : d.length = 0 <;> simp [h, defN] <;> omega
  by_cases h10 : k = 10
  · subst h10
    simp only [zW, z1D, zR, contentN, z6O, Option.bind_some, beq_self_eq_true, if_true, hd]
    by_cases h : v = 0
    · by_cases h1 : 1 ≤ d.length ∧ d.length ≤ 4
      · have h2 : (1 : Int) ≤ d.length ∧ (d.length : Int) ≤ 4 := by omega
        simp [h, h1, h2]
      · have h2 : ¬ ((1 : Int) ≤ d.length ∧ (d.length : Int) ≤ 4) := by omega
        simp [h, h1, h2]
    · simp [h]
  by_cases h11 : k = 11
  · subst h11
    simp only [zW, z1D, zR, contentN, z6O, Option.bind_some, beq_self_eq_true, if_true, hd]
    by_cases h : v = 0
    · by_cases h1 : d.length = 2
      · simp [h, h1]
      · have h2 : ¬ ((d.length : Int) = 2) := by omega
        simp [h, h1, h2]
    · simp [h]
  · simp only [zW, z1D, contentN, h6, h7, h8, h9, h10, h11, h12, if_false]
    by_cases h : v = 0 <;> by_cases h1 : d.length = 0 <;> simp [h, h1, h6, h7, h8, h9, h10, h11, h12]

theorem zh8 {fuel : Nat} {a : D.Agent} (hf : 18446744073709551616 ≤ fuel) (hl : a.Data.length ≤ maxLen) : z1E fuel a false = some (contentN a.Kind a.Value a.Data) := by
  unfold z1E
  rw [if_neg Bool.false_ne_true, zdb (p := fun n => !defN n) hf hl (fun n => by unfold z5B; rw [zij]; rfl), Option.bind_some, zap, Bool.not_not]
  obtain ⟨k, l, v, d, ps⟩ := a
  dsimp only at hl ⊢
  simp only [z3P, z3O, z3N, z3M, z3L, z2A, z3K, z3J, z36, zmY, zjp, zij, Option.bind_some]
  by_cases h6 : k = 6
  · subst h6
    simp only [contentN, beq_self_eq_true, if_true]
    by_cases h : d.length = 0 <;> by_cases h1 : -2147483648 ≤ v ∧ v ≤ 2147483647 <;> simp [h, h1]
  by_cases h7 : k = 7
  · subst h7
    simp only [contentN, beq_self_eq_true, if_true]
    by_cases h : d.length = 0 <;> by_cases h1 : 1 ≤ v ∧ v ≤ 6 <;> simp [h, h1]
  by_cases h8 : k = 8
  · subst h8
    simp only [contentN, beq_self_eq_true, if_true]
    match d with
    | [] => simp
    | [n] => by_cases h : 1 ≤ v ∧ v ≤ 6 <;> simp [h, idx]
    | _ :: _ :: _ => simp; omega
  by_cases h9 : k = 9
  · subst h9
    simp only [contentN, beq_self_eq_true, if_true]
    by_cases h1 : 0 ≤ v
    · by_cases h : d.length = 0 <;> by_cases h2 : v < 4 <;> simp [h, h1, h2] <;> omega
    · simp [h1]
  by_cases h12 : k = 12
  · subst h12
    simp only [contentN, beq_self_eq_true, if_true]
    by_cases h : d.length = 0 <;> by_cases h1 : 0 ≤ v ∧ v ≤ 23 <;> simp [h, h1, defN]
  by_cases h10 : k = 10
  · subst h10
    simp only [contentN, beq_self_eq_true, if_true]
    by_cases h : v = 0
    · by_cases h1 : 1 ≤ d.length
      · by_cases h2 : d.length ≤ 4
        · have h3 : (1 : Int) ≤ d.length := by omega
          have h4 : (d.length : Int) ≤ 4 := by omega
          simp [h, h1, h2, h3, h4]
        · have h3 : (1 : Int) ≤ d.length := by omega
          have h4 : ¬ (d.length : Int) ≤ 4 := by omega
          simp [h, h1, h2, h3, h4]
      · have h3 : ¬ (1 : Int) ≤ d.length := by omega
        simp [h, h1, h3]
    · by_cases h1 : (1 : Int) ≤ d.length <;> by_cases h2 : (d.length : Int) ≤ 4 <;> simp [h, h1, h2]
  by_cases h11 : k = 11
  · subst h11
    simp only [contentN, beq_self_eq_true, if_true]
    by_cases h : v = 0 <;> by_cases h1 : d.length = 2
    · simp [h, h1]
    · have h2 : ¬ ((d.length : Int) = 2) := by omega
      simp [h, h1, h2]
    · simp [h, h1]
    · have h2 : ¬ ((d.length : Int) = 2) := by omega
      simp [h, h1, h2]
  · simp only [contentN, h6, h7, h8, h9, h10, h11, h12, if_false]
    by_cases h : v = 0 <;> by_cases h1 : d.length = 0 <;> simp [h, h1, h6, h7, h8, h9, h10, h11, h12]

theorem zbP {n : Nat} (hn : n ≤ maxLen) : w64 ((n : Int) - 1) = (n : Int) - 1 := by
  have : maxLen = 9223372036854775807 := rfl
  exact z9 (by omega) (by omega)
theorem zj6 {fuel : Nat} {a : D.Agent} (hf : 18446744073709551616 ≤ fuel) (hl : a.Data.length ≤ maxLen) (h1 : 1 ≤ a.Ports.length) (h2 : a.Ports.length ≤ maxLen) :
    z2S fuel a = some (agentN a.Kind a.Level a.Value a.Data a.Ports.length) := by
  unfold z2S agentN
  rw [if_neg (by simp; intro h; rw [h] at h1; exact absurd h1 (by decide))]
  have hF : z7e fuel a.Kind (a.Ports.length : Int) = some (if a.Kind = 9 then (a.Ports.length : Int) - 1 else 0) := by
    unfold z7e
    by_cases h : a.Kind = 9
    · rw [if_pos (by simpa using h), if_pos h, zbP h2]
    · rw [if_neg (by simpa using h), if_neg h]
  rw [hF, Option.bind_some, ziP, Option.bind_some, zj4, Option.bind_some]
  by_cases hp : portsN a.Kind (if a.Kind = 9 then (a.Ports.length : Int) - 1 else 0) = (a.Ports.length : Int)
  · rw [if_neg (by simp [hp]), decide_eq_true hp, Bool.true_and]
    cases allowN a.Kind a.Level with
    | false => rfl
    | true => rw [Bool.true_and]; exact zh8 hf hl
  · rw [if_pos (by simpa using hp), decide_eq_false hp]; rfl
theorem zj5 {fuel : Nat} {a : D.Agent} (hf : 18446744073709551616 ≤ fuel) (hl : a.Data.length ≤ maxLen) (h1 : 1 ≤ a.Ports.length) (h2 : a.Ports.length ≤ maxLen) :
    z4q fuel a = some (agentN a.Kind a.Level a.Value a.Data a.Ports.length) := by
  unfold z4q agentN
  have hF : z3s fuel a = some (if a.Kind = 9 then (a.Ports.length : Int) - 1 else 0) := by
    unfold z3s
    by_cases h : a.Kind = 9
    · rw [if_pos (by simpa using h), if_pos h, zbP h2]
    · rw [if_neg (by simpa using h), if_neg h]
  rw [hF, Option.bind_some, zfe, Option.bind_some, zj3, Option.bind_some, zh7 hf hl]
  by_cases hp : portsN a.Kind (if a.Kind = 9 then (a.Ports.length : Int) - 1 else 0) = (a.Ports.length : Int)
  · rw [hp, if_pos (decide_eq_true (by omega)), if_pos (by simp), decide_eq_true rfl, Bool.true_and]
    cases allowN a.Kind a.Level <;> rfl
  · rw [decide_eq_false hp]
    generalize portsN a.Kind (if a.Kind = 9 then (a.Ports.length : Int) - 1 else 0) = r at hp ⊢
    by_cases h : r > 0
    · rw [if_pos (decide_eq_true h), if_neg (by simpa using fun h => hp h.symm)]; rfl
    · rw [if_neg (by simpa using h)]; rfl



def agN (a : D.Agent) : Bool := decide (a.Ports.length ≠ 0) && agentN a.Kind a.Level a.Value a.Data a.Ports.length
theorem zo7 {fuel : Nat} {a : D.Agent} (hf : 18446744073709551616 ≤ fuel) (hl : a.Data.length ≤ maxLen) (h2 : a.Ports.length ≤ maxLen) : z2S fuel a = some (agN a) := by
  by_cases h : a.Ports.length = 0
  · unfold z2S agN
    rw [if_pos (by simp [h]), show decide (a.Ports.length ≠ 0) = false by simp [h], Bool.false_and]
    rfl
  · rw [zj6 hf hl (by omega) h2]
    unfold agN
    rw [decide_eq_true (by simpa using h), Bool.true_and]
theorem zo6 {fuel : Nat} {a : D.Agent} (hf : 18446744073709551616 ≤ fuel) (hl : a.Data.length ≤ maxLen) (h2 : a.Ports.length ≤ maxLen) : z4q fuel a = some (agN a) := by
  by_cases h : a.Ports.length = 0
  · unfold z4q agN
    have hF : z3s fuel a = some (if a.Kind = 9 then (a.Ports.length : Int) - 1 else 0) := by
      unfold z3s
      by_cases h : a.Kind = 9
      · rw [if_pos (by simpa using h), if_pos h, zbP h2]
      · rw [if_neg (by simpa using h), if_neg h]
    rw [hF, Option.bind_some, zfe, Option.bind_some, show decide (a.Ports.length ≠ 0) = false by simp [h], Bool.false_and]
    generalize portsN a.Kind (if a.Kind = 9 then (a.Ports.length : Int) - 1 else 0) = r
    by_cases hr : r > 0
    · rw [if_pos (decide_eq_true hr), if_neg (by rw [h]; simp; omega)]
    · rw [if_neg (by simpa using hr)]
  · rw [zj5 hf hl (by omega) h2]
    unfold agN
    rw [decide_eq_true (by simpa using h), Bool.true_and]
end Go.E

namespace Go.E
open Go.RowKit Go.Proofs
set_option linter.unusedSimpArgs false
set_option linter.unusedVariables false


inductive Rnd (σ ρ : Type) where
  | go (s : σ)
  | back (r : ρ)
def foldR {α σ ρ : Type} (f : Nat → σ → α → Rnd σ ρ) : Nat → List α → σ → Rnd σ ρ
  | _, [], s => .go s
  | i, x :: xs, s => match f i s x with
    | .go s' => foldR f (i + 1) xs s'
    | .back r => .back r
theorem loopR {α σ S τ ρ : Type} {xs : List α} {body : S → Option (Rd S τ ρ)} {mk : Int → σ → S} {out : σ → τ} {f : Nat → σ → α → Rnd σ ρ} {J : Nat → σ → Prop} {s0 : σ} {fuel : Nat}
    (hl : xs.length ≤ maxLen) (hf : 18446744073709551616 ≤ fuel) (hJ : J 0 s0)
    (step : ∀ (i : Nat) s x, i < xs.length → xs[i]? = some x → J i s → match f i s x with
      | .go s' => body (mk i s) = some (.next (mk (w64 (i + 1)) s')) ∧ J (i + 1) s'
      | .back r => body (mk i s) = some (.ret r))
    (last : ∀ s, J xs.length s → body (mk xs.length s) = some (.brk (out s))) :
    (match foldR f 0 xs s0 with
      | .go s => iter body fuel (mk 0 s0) = some (.inl (out s)) ∧ J xs.length s
      | .back r => iter body fuel (mk 0 s0) = some (.inr r)) := by
  have hm : maxLen = 9223372036854775807 := rfl
  have key : ∀ (ys : List α) (i : Nat) (s : σ) (fu : Nat), i + ys.length = xs.length → (∀ j, ys[j]? = xs[i + j]?) → ys.length < fu → J i s → (match foldR f i ys s with
      | .go s' => iter body fu (mk i s) = some (.inl (out s')) ∧ J xs.length s'
      | .back r => iter body fu (mk i s) = some (.inr r)) := by
    intro ys
    induction ys with
    | nil =>
      intro i s fu hi _ hfu hj
      obtain ⟨fu, rfl⟩ : ∃ f', fu = f' + 1 := ⟨fu - 1, by simp at hfu; omega⟩
      simp only [List.length_nil, Nat.add_zero] at hi
      subst hi
      simp only [foldR, iter, last s hj]
      exact ⟨trivial, hj⟩
    | cons y ys ih =>
      intro i s fu hi hat hfu hj
      obtain ⟨fu, rfl⟩ : ∃ f', fu = f' + 1 := ⟨fu - 1, by simp at hfu; omega⟩
      simp only [List.length_cons] at hi hfu
      have hx : xs[i]? = some y := by have := hat 0; simpa using this.symm
      have hs := step i s y (by omega) hx hj
      unfold foldR
      cases hfs : f i s y with
      | go s' =>
        rw [hfs] at hs
        have h2 := ih (i + 1) s' fu (by omega) (fun j => by have := hat (j + 1); rw [show i + 1 + j = i + (j + 1) by omega]; simpa using this) (by omega) hs.2
        simp only [iter, hs.1]
        rw [z9 (by omega) (by omega)]
        exact_mod_cast h2
      | back r =>
        rw [hfs] at hs
        simp only [iter, hs]
  have := key xs 0 s0 fuel (by simp) (by simp) (by omega) hJ
  exact_mod_cast this

theorem z8b {α : Type} {xs : List α} {p : Nat → α → Bool} {k : Nat} : ((xs.zipIdx k).all fun y => p y.2 y.1) = true ↔ ∀ i x, xs[i]? = some x → p (k + i) x = true := by
  rw [List.all_eq_true]
  constructor
  · intro h i x hx
    have : (x, k + i) ∈ xs.zipIdx k := by
      rw [List.mem_zipIdx_iff_le_and_getElem?_sub]
      exact ⟨Nat.le_add_right _ _, by simpa using hx⟩
    exact h _ this
  · rintro h ⟨x, j⟩ hj
    rw [List.mem_zipIdx_iff_le_and_getElem?_sub] at hj
    have := h (j - k) x hj.2
    rwa [show k + (j - k) = j by have := hj.1; simp at this; omega] at this

theorem zgC {α ρ : Type} {p : Nat → α → Bool} {v : ρ} : ∀ {xs : List α} {k : Nat}, foldR (fun i (_ : Unit) x => if p i x = true then Rnd.go () else Rnd.back v) k xs () = if ((xs.zipIdx k).all fun y => p y.2 y.1) = true then Rnd.go () else Rnd.back v
  | [], k => by simp [foldR]
  | x :: xs, k => by
    unfold foldR
    cases h : p k x with
    | true => simp only [if_true, zgC (xs := xs), List.zipIdx_cons, List.all_cons, h, Bool.true_and]
    | false => simp [h]


theorem allLoop {α τ ρ : Type} {xs : List α} {body : Int → Option (Rd Int τ ρ)} {p : Nat → α → Bool} {t : τ} {v : ρ} {fuel : Nat} (hl : xs.length ≤ maxLen) (hf : 18446744073709551616 ≤ fuel)
    (step : ∀ (i : Nat) x, i < xs.length → xs[i]? = some x → body i = if p i x = true then some (.next (w64 (i + 1))) else some (.ret v)) (last : body xs.length = some (.brk t)) :
    iter body fuel 0 = some (if (xs.zipIdx.all fun y => p y.2 y.1) = true then .inl t else .inr v) := by
  have h := loopR (xs := xs) (body := body) (mk := fun i _ => i) (out := fun (_ : Unit) => t) (f := fun i (_ : Unit) x => if p i x = true then Rnd.go () else Rnd.back v) (J := fun _ _ => True) (s0 := ()) hl hf trivial
    (fun i s x hi hx _ => by
      have := step i x hi hx
      cases hp : p i x with
      | true => rw [hp] at this; exact ⟨this, trivial⟩
      | false => rw [hp] at this; simpa using this) (fun s _ => last)
  rw [zgC] at h
  cases hp : (xs.zipIdx.all fun y => p y.2 y.1) with
  | true => rw [hp] at h; exact h.1
  | false => rw [hp] at h; exact h

theorem zca {α : Type} {xs : List α} {i : Nat} {x : α} (h : xs[i]? = some x) : (xs.take (i + 1)).zipIdx = (xs.take i).zipIdx ++ [(x, i)] := by
  have hl := (List.getElem?_eq_some_iff.1 h).1
  rw [List.take_add_one, h, List.zipIdx_append]
  simp [Nat.min_eq_left (Nat.le_of_lt hl)]

theorem sumLoop {α S τ ρ : Type} {xs : List α} {body : S → Option (Rd S τ ρ)} {mk : Int → Int → S} {out : Int → τ} {f : α → Nat} {c0 : Int} {fuel : Nat} (hl : xs.length ≤ 1048576) (hf : 18446744073709551616 ≤ fuel)
    (step : ∀ (i : Nat) x, xs[i]? = some x → body (mk i (c0 + (sumL f (xs.take i) : Nat))) = some (.next (mk (w64 (i + 1)) (c0 + (sumL f (xs.take i) : Nat) + (f x : Nat)))))
    (last : ∀ c, body (mk xs.length c) = some (.brk (out c))) :
    iter body fuel (mk 0 c0) = some (.inl (out (c0 + (sumL f xs : Nat)))) := by
  obtain ⟨o, h1, h2⟩ := z12 (body := body) (fun k s => s = mk k (c0 + (sumL f (xs.take k) : Nat))) xs.length (fun o => o = .inl (out (c0 + (sumL f xs : Nat)))) (by
    rintro k s hk rfl
    obtain ⟨x, hx⟩ := z4a hk
    refine .inl ⟨_, step k x hx, ?_⟩
    rw [z9 (by omega) (by omega), zau hx]
    congr 1
    omega) (by
    rintro s rfl
    rw [List.take_length]
    exact .inr ⟨_, last _, rfl⟩) (fuel := fuel) (i := 0) (s := mk 0 c0) (Nat.zero_le _) (by omega) (by simp [sumL])
  rw [h1, h2]

theorem z6P {α : Type} {xs : List α} {p : α → Bool} : (xs.zipIdx.all fun y => p y.1) = xs.all p := by
  rw [Bool.eq_iff_iff, z8b (p := fun _ x => p x), List.all_eq_true]
  constructor
  · intro h x hx
    obtain ⟨i, hi⟩ := List.getElem?_of_mem hx
    exact h i x hi
  · exact fun h i x hi => h x (List.mem_of_getElem? hi)
end Go.E

