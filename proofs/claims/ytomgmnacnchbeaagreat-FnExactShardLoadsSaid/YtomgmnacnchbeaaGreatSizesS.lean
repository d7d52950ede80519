/- What the functions that size, copy and compare give on well formed data (written by program). Conditions: sizes within the law s own bound. -/
import Derived.Test.YtomgmnacnchbeaaGreatSzDefs
import Derived.Test.YtomgmnacnchbeaaGreatFG
import Derived.Test.YtomgmnacnchbeaaGreatFGb
import Derived.Test.YtomgmnacnchbeaaGreatFGc
import Derived.Test.YtomgmnacnchbeaaGreatFS
namespace Go.E
open Go.RowKit Go.Proofs
set_option linter.unusedSimpArgs false
set_option linter.unusedVariables false

theorem z7p {fuel : Nat} {x : (List Int)} (hf : 18446744073709551616 ≤ fuel) (hs : x.length ≤ 1048576) : z1C fuel x x = some true := by
  have hl := hs
  unfold z1C
  rw [if_neg (by simp)]
  refine z5x (n := x.length) (t := ()) (by unfold maxLen; omega) hf rfl ?_ ?_
  · intro i hi
    obtain ⟨y, hy⟩ := z4H hi
    have hsy : 0 ≤ 1048576 := Nat.zero_le _
    simp [z3Y, zf hy, hi, z3K]
  · simp [z3Y]

theorem z9s {fuel : Nat} {x : (List Int)} (hf : 18446744073709551616 ≤ fuel) (hs : x.length ≤ 1048576) : z44 fuel x = some x := by
  have hl := hs
  unfold z44
  refine z65 hl hf (fun _ => rfl) ?_ ?_
  · intro i y out hy hl2
    have hi := (List.getElem?_eq_some_iff.1 hy).1
    have hsy : 0 ≤ 1048576 := Nat.zero_le _
    simp only [z3V, zf hy, Option.bind_some, lt_t (show (i : Int) < x.length by omega), if_true]
    rw [if_pos (by simp; omega)]
    simp
  · intro out
    simp [z3V]

theorem z4m {fuel : Nat} {x : D.Address} (hf : 18446744073709551616 ≤ fuel) (hs : 0 ≤ 1048576) : z1a fuel x = some x := by
  skip
  unfold z1a
  rfl

theorem z4x {fuel : Nat} {x : D.Address} (hf : 18446744073709551616 ≤ fuel) (hs : 0 ≤ 1048576) : z1b fuel x x = some true := by
  skip
  simp [z1b, z3K]

theorem z9u {fuel : Nat} {x : (List Int)} {l : Int} (hf : 18446744073709551616 ≤ fuel) (hw : WfL I64 x) (h0 : 0 ≤ l) (h1 : l ≤ 1048576) : SzOk (x.length) l (z46 fuel x l) := by
  unfold z46
  generalize hz : w64 (l - (x.length : Int)) = z
  exact SzOk.sub2 h0 h1 hw.1 (m := 0) rfl hz fun g0 g1 => SzOk.same g0

theorem z8g {fuel : Nat} {x : D.ShardVar} (hf : 18446744073709551616 ≤ fuel) (hs : 0 ≤ 1048576) : z3w fuel x = some x := by
  skip
  unfold z3w
  simp only [z4m hf (show 0 ≤ 1048576 by exact Nat.zero_le _), Option.bind_some]

theorem z7v {fuel : Nat} {x : D.ShardRedex} (hf : 18446744073709551616 ≤ fuel) (hs : 0 ≤ 1048576) : z2y fuel x = some x := by
  skip
  unfold z2y
  simp only [z4m hf (show 0 ≤ 1048576 by exact Nat.zero_le _), z4m hf (show 0 ≤ 1048576 by exact Nat.zero_le _), Option.bind_some]

theorem z8H {fuel : Nat} {x : D.ShardVar} (hf : 18446744073709551616 ≤ fuel) (hs : 0 ≤ 1048576) : z3A fuel x x = some true := by
  skip
  simp [z3A, z3K, z4x hf (show 0 ≤ 1048576 by exact Nat.zero_le _)]

theorem z7L {fuel : Nat} {x : D.ShardRedex} (hf : 18446744073709551616 ≤ fuel) (hs : 0 ≤ 1048576) : z2C fuel x x = some true := by
  skip
  simp [z2C, z3K, z4x hf (show 0 ≤ 1048576 by exact Nat.zero_le _), z4x hf (show 0 ≤ 1048576 by exact Nat.zero_le _)]

theorem z8i {fuel : Nat} {x : (List D.Address)} {l : Int} (hf : 18446744073709551616 ≤ fuel) (hw : WfL D.Address.wf x) (h0 : 0 ≤ l) (h1 : l ≤ 1048576) : SzOk (x.length) l (z3y fuel x l) := by
  unfold z3y
  generalize hz : w64 (l - (x.length : Int)) = z
  exact SzOk.sub2 h0 h1 hw.1 (m := 0) rfl hz fun g0 g1 => SzOk.same g0

theorem z8h {fuel : Nat} {x : (List D.Address)} (hf : 18446744073709551616 ≤ fuel) (hs : x.length ≤ 1048576) : z3x fuel x = some x := by
  have hl := hs
  unfold z3x
  refine z65 hl hf (fun _ => rfl) ?_ ?_
  · intro i y out hy hl2
    have hi := (List.getElem?_eq_some_iff.1 hy).1
    have hsy : 0 ≤ 1048576 := Nat.zero_le _
    simp only [z3b, zf hy, Option.bind_some, lt_t (show (i : Int) < x.length by omega), if_true, z4m hf hsy]
    rw [if_pos (by simp; omega)]
    simp
  · intro out
    simp [z3b]

theorem z8J {fuel : Nat} {x : (List D.Address)} (hf : 18446744073709551616 ≤ fuel) (hs : x.length ≤ 1048576) : z3B fuel x x = some true := by
  have hl := hs
  unfold z3B
  rw [if_neg (by simp)]
  refine z5x (n := x.length) (t := ()) (by unfold maxLen; omega) hf rfl ?_ ?_
  · intro i hi
    obtain ⟨y, hy⟩ := z4H hi
    have hsy : 0 ≤ 1048576 := Nat.zero_le _
    simp [z3e, zf hy, hi, z3K, z4x hf hsy]
  · simp [z3e]

theorem z7U {fuel : Nat} {x : (List D.ShardVar)} {l : Int} (hf : 18446744073709551616 ≤ fuel) (hw : WfL D.ShardVar.wf x) (h0 : 0 ≤ l) (h1 : l ≤ 1048576) : SzOk (x.length) l (z2Z fuel x l) := by
  unfold z2Z
  generalize hz : w64 (l - (x.length : Int)) = z
  exact SzOk.sub2 h0 h1 hw.1 (m := 0) rfl hz fun g0 g1 => SzOk.same g0

theorem z75 {fuel : Nat} {x : (List D.ShardRedex)} {l : Int} (hf : 18446744073709551616 ≤ fuel) (hw : WfL D.ShardRedex.wf x) (h0 : 0 ≤ l) (h1 : l ≤ 1048576) : SzOk (x.length) l (z1Y fuel x l) := by
  unfold z1Y
  generalize hz : w64 (l - (x.length : Int)) = z
  exact SzOk.sub2 h0 h1 hw.1 (m := 0) rfl hz fun g0 g1 => SzOk.same g0

theorem z7S {fuel : Nat} {x : (List D.ShardVar)} (hf : 18446744073709551616 ≤ fuel) (hs : x.length ≤ 1048576) : z2W fuel x = some x := by
  have hl := hs
  unfold z2W
  refine z65 hl hf (fun _ => rfl) ?_ ?_
  · intro i y out hy hl2
    have hi := (List.getElem?_eq_some_iff.1 hy).1
    have hsy : 0 ≤ 1048576 := Nat.zero_le _
    simp only [z2V, zf hy, Option.bind_some, lt_t (show (i : Int) < x.length by omega), if_true, z8g hf hsy]
    rw [if_pos (by simp; omega)]
    simp
  · intro out
    simp [z2V]

theorem z74 {fuel : Nat} {x : (List D.ShardRedex)} (hf : 18446744073709551616 ≤ fuel) (hs : x.length ≤ 1048576) : z1X fuel x = some x := by
  have hl := hs
  unfold z1X
  refine z65 hl hf (fun _ => rfl) ?_ ?_
  · intro i y out hy hl2
    have hi := (List.getElem?_eq_some_iff.1 hy).1
    have hsy : 0 ≤ 1048576 := Nat.zero_le _
    simp only [z2d, zf hy, Option.bind_some, lt_t (show (i : Int) < x.length by omega), if_true, z7v hf hsy]
    rw [if_pos (by simp; omega)]
    simp
  · intro out
    simp [z2d]

theorem z82 {fuel : Nat} {x : (List D.ShardVar)} (hf : 18446744073709551616 ≤ fuel) (hs : x.length ≤ 1048576) : z32 fuel x x = some true := by
  have hl := hs
  unfold z32
  rw [if_neg (by simp)]
  refine z5x (n := x.length) (t := ()) (by unfold maxLen; omega) hf rfl ?_ ?_
  · intro i hi
    obtain ⟨y, hy⟩ := z4H hi
    have hsy : 0 ≤ 1048576 := Nat.zero_le _
    simp [z31, zf hy, hi, z3K, z8H hf hsy]
  · simp [z31]

theorem z7o {fuel : Nat} {x : (List D.ShardRedex)} (hf : 18446744073709551616 ≤ fuel) (hs : x.length ≤ 1048576) : z21 fuel x x = some true := by
  have hl := hs
  unfold z21
  rw [if_neg (by simp)]
  refine z5x (n := x.length) (t := ()) (by unfold maxLen; omega) hf rfl ?_ ?_
  · intro i hi
    obtain ⟨y, hy⟩ := z4H hi
    have hsy : 0 ≤ 1048576 := Nat.zero_le _
    simp [z2f, zf hy, hi, z3K, z7L hf hsy]
  · simp [z2f]

theorem z7V {fuel : Nat} {x : D.ShardCell} {l : Int} (hf : 18446744073709551616 ≤ fuel) (hw : D.ShardCell.wf x) (h0 : 0 ≤ l) (h1 : l ≤ 1048576) : SzOk (D.ShardCell.sz x) l (z30 fuel x l) := by
  obtain ⟨w0, w1, w2, w3, w4, _⟩ := hw
  unfold z30 D.ShardCell.sz
  refine SzOk.bind (z9u hf w3 h0 (by omega)) rfl fun r1 g1a g1b => ?_
  refine SzOk.bind (z8i hf w4 g1a (by omega)) rfl fun r2 g2a g2b => ?_
  exact SzOk.same g2a

theorem z7T {fuel : Nat} {x : D.ShardCell} (hf : 18446744073709551616 ≤ fuel) (hs : D.ShardCell.sz x ≤ 1048576) : z2X fuel x = some x := by
  unfold D.ShardCell.sz at hs
  unfold z2X
  simp only [z9s hf (show x.Data.length ≤ 1048576 by omega), z8h hf (show x.Aux.length ≤ 1048576 by omega), Option.bind_some]

theorem z83 {fuel : Nat} {x : D.ShardCell} (hf : 18446744073709551616 ≤ fuel) (hs : D.ShardCell.sz x ≤ 1048576) : z33 fuel x x = some true := by
  unfold D.ShardCell.sz at hs
  simp [z33, z3K, z7p hf (show x.Data.length ≤ 1048576 by omega), z8J hf (show x.Aux.length ≤ 1048576 by omega)]

theorem z7x {fuel : Nat} {x : (List D.ShardCell)} {l : Int} (hf : 18446744073709551616 ≤ fuel) (hw : WfL D.ShardCell.wf x) (h0 : 0 ≤ l) (h1 : l ≤ 1048576) : SzOk (szL D.ShardCell.sz x) l (z2A fuel x l) := by
  unfold z2A
  generalize hz : w64 (l - (x.length : Int)) = z
  refine SzOk.sub2 h0 h1 hw.1 (m := sumL D.ShardCell.sz x) rfl hz fun g0 g1 => ?_
  refine SzOk.loop hw.1 hf g0 (by omega) (fun _ => rfl) ?_ ?_
  · intro i y l hy h0 h1
    have hi := (List.getElem?_eq_some_iff.1 hy).1
    have hwy := hw.2 y (List.mem_of_getElem? hy)
    obtain ⟨r, h2, h3⟩ := z7V hf hwy h0 h1
    simp only [z2F, zf hy, Option.bind_some, lt_t (show (i : Int) < x.length by omega), if_true, h2]
    by_cases hlt : r < 0
    · exact .inl (by simp only [lt_t hlt, if_true])
    · exact .inr ⟨r, by simp only [lt_f hlt, if_false], h3.resolve_left hlt⟩
  · intro l
    simp [z2F]

theorem z7w {fuel : Nat} {x : (List D.ShardCell)} (hf : 18446744073709551616 ≤ fuel) (hs : szL D.ShardCell.sz x ≤ 1048576) : z2z fuel x = some x := by
  have hl := z6j hs
  unfold z2z
  refine z65 hl hf (fun _ => rfl) ?_ ?_
  · intro i y out hy hl2
    have hi := (List.getElem?_eq_some_iff.1 hy).1
    have hsy : D.ShardCell.sz y ≤ 1048576 := z6i hs (List.mem_of_getElem? hy)
    simp only [z2E, zf hy, Option.bind_some, lt_t (show (i : Int) < x.length by omega), if_true, z7T hf hsy]
    rw [if_pos (by simp; omega)]
    simp
  · intro out
    simp [z2E]

theorem z7M {fuel : Nat} {x : (List D.ShardCell)} (hf : 18446744073709551616 ≤ fuel) (hs : szL D.ShardCell.sz x ≤ 1048576) : z2D fuel x x = some true := by
  have hl := z6j hs
  unfold z2D
  rw [if_neg (by simp)]
  refine z5x (n := x.length) (t := ()) (by unfold maxLen; omega) hf rfl ?_ ?_
  · intro i hi
    obtain ⟨y, hy⟩ := z4H hi
    have hsy : D.ShardCell.sz y ≤ 1048576 := z6i hs (List.mem_of_getElem? hy)
    simp [z2H, zf hy, hi, z3K, z83 hf hsy]
  · simp [z2H]

theorem z9Z {fuel : Nat} {x : D.Shard} {l : Int} (hf : 18446744073709551616 ≤ fuel) (hw : D.Shard.wf x) (h0 : 0 ≤ l) (h1 : l ≤ 1048576) : SzOk (D.Shard.sz x) l (z4p fuel x l) := by
  obtain ⟨w0, w1, w2, _⟩ := hw
  unfold z4p D.Shard.sz
  refine SzOk.bind (z7x hf w0 h0 (by omega)) rfl fun r1 g1a g1b => ?_
  refine SzOk.bind (z7U hf w1 g1a (by omega)) rfl fun r2 g2a g2b => ?_
  refine SzOk.bind (z75 hf w2 g2a (by omega)) rfl fun r3 g3a g3b => ?_
  exact SzOk.same g3a

theorem z9Y {fuel : Nat} {x : D.Shard} (hf : 18446744073709551616 ≤ fuel) (hs : D.Shard.sz x ≤ 1048576) : z4o fuel x = some x := by
  unfold D.Shard.sz at hs
  unfold z4o
  simp only [z7w hf (show szL D.ShardCell.sz x.Cells ≤ 1048576 by omega), z7S hf (show x.Vars.length ≤ 1048576 by omega), z74 hf (show x.Redexes.length ≤ 1048576 by omega), Option.bind_some]

theorem zag {fuel : Nat} {x : D.Shard} (hf : 18446744073709551616 ≤ fuel) (hs : D.Shard.sz x ≤ 1048576) : z4r fuel x x = some true := by
  unfold D.Shard.sz at hs
  simp [z4r, z3K, z7M hf (show szL D.ShardCell.sz x.Cells ≤ 1048576 by omega), z82 hf (show x.Vars.length ≤ 1048576 by omega), z7o hf (show x.Redexes.length ≤ 1048576 by omega)]

theorem z9t {fuel : Nat} {x : (List D.Shard)} {l : Int} (hf : 18446744073709551616 ≤ fuel) (hw : WfL D.Shard.wf x) (h0 : 0 ≤ l) (h1 : l ≤ 1048576) : SzOk (szL D.Shard.sz x) l (z45 fuel x l) := by
  unfold z45
  generalize hz : w64 (l - (x.length : Int)) = z
  refine SzOk.sub2 h0 h1 hw.1 (m := sumL D.Shard.sz x) rfl hz fun g0 g1 => ?_
  refine SzOk.loop hw.1 hf g0 (by omega) (fun _ => rfl) ?_ ?_
  · intro i y l hy h0 h1
    have hi := (List.getElem?_eq_some_iff.1 hy).1
    have hwy := hw.2 y (List.mem_of_getElem? hy)
    obtain ⟨r, h2, h3⟩ := z9Z hf hwy h0 h1
    simp only [z3W, zf hy, Option.bind_some, lt_t (show (i : Int) < x.length by omega), if_true, h2]
    by_cases hlt : r < 0
    · exact .inl (by simp only [lt_t hlt, if_true])
    · exact .inr ⟨r, by simp only [lt_f hlt, if_false], h3.resolve_left hlt⟩
  · intro l
    simp [z3W]

theorem z9r {fuel : Nat} {x : (List D.Shard)} (hf : 18446744073709551616 ≤ fuel) (hs : szL D.Shard.sz x ≤ 1048576) : z43 fuel x = some x := by
  have hl := z6j hs
  unfold z43
  refine z65 hl hf (fun _ => rfl) ?_ ?_
  · intro i y out hy hl2
    have hi := (List.getElem?_eq_some_iff.1 hy).1
    have hsy : D.Shard.sz y ≤ 1048576 := z6i hs (List.mem_of_getElem? hy)
    simp only [z3U, zf hy, Option.bind_some, lt_t (show (i : Int) < x.length by omega), if_true, z9Y hf hsy]
    rw [if_pos (by simp; omega)]
    simp
  · intro out
    simp [z3U]

theorem z9H {fuel : Nat} {x : (List D.Shard)} (hf : 18446744073709551616 ≤ fuel) (hs : szL D.Shard.sz x ≤ 1048576) : z48 fuel x x = some true := by
  have hl := z6j hs
  unfold z48
  rw [if_neg (by simp)]
  refine z5x (n := x.length) (t := ()) (by unfold maxLen; omega) hf rfl ?_ ?_
  · intro i hi
    obtain ⟨y, hy⟩ := z4H hi
    have hsy : D.Shard.sz y ≤ 1048576 := z6i hs (List.mem_of_getElem? hy)
    simp [z3X, zf hy, hi, z3K, zag hf hsy]
  · simp [z3X]

theorem zaD {fuel : Nat} {x : D.Grid} {l : Int} (hf : 18446744073709551616 ≤ fuel) (hw : D.Grid.wf x) (h0 : 0 ≤ l) (h1 : l ≤ 1048576) : SzOk (D.Grid.sz x) l (z4R fuel x l) := by
  obtain ⟨w0, w1, _⟩ := hw
  unfold z4R D.Grid.sz
  refine SzOk.bind (z9t hf w0 h0 (by omega)) rfl fun r1 g1a g1b => ?_
  exact SzOk.same g1a

theorem zaC {fuel : Nat} {x : D.Grid} (hf : 18446744073709551616 ≤ fuel) (hs : D.Grid.sz x ≤ 1048576) : z2Y fuel x = some x := by
  unfold D.Grid.sz at hs
  unfold z2Y
  simp only [z9r hf (show szL D.Shard.sz x.Shards ≤ 1048576 by omega), z4m hf (show 0 ≤ 1048576 by exact Nat.zero_le _), Option.bind_some]

theorem zaN {fuel : Nat} {x : D.Grid} (hf : 18446744073709551616 ≤ fuel) (hs : D.Grid.sz x ≤ 1048576) : z4U fuel x x = some true := by
  unfold D.Grid.sz at hs
  simp [z4U, z3K, z9H hf (show szL D.Shard.sz x.Shards ≤ 1048576 by omega), z4x hf (show 0 ≤ 1048576 by exact Nat.zero_le _)]

theorem z8y : Opens Tryz.prog 2 tInt I64 := Opens.int Tryz.underlying2 (by kernel_rfl)
theorem zeC : Opens Tryz.prog 62 ty62 (WfL I64) := Opens.sl Tryz.underlying62 (by kernel_rfl) z8y
set_option maxRecDepth 100000 in
theorem z8x : Opens Tryz.prog 24 ty24 D.Address.wf := Opens.struct (f := fun c : D.Address => (c.Machine, c.Kind, c.Index, ())) Tryz.underlying24 (by kernel_rfl) (OpensF.cons z8y rfl rfl (OpensF.cons z8y rfl rfl (OpensF.cons z8y rfl rfl OpensF.nil))) (fun ⟨a0, a1, a2, _⟩ => ⟨⟨a0, a1, a2⟩, rfl⟩)
theorem zdR : Opens Tryz.prog 271 z9U (WfL D.Address.wf) := Opens.sl Tryz.underlying271 (by kernel_rfl) z8x
set_option maxRecDepth 100000 in
theorem zdQ : Opens Tryz.prog 273 zaA D.ShardCell.wf := Opens.struct (f := fun c : D.ShardCell => (c.Kind, c.Level, c.Value, c.Data, c.Aux, ())) Tryz.underlying273 (by kernel_rfl) (OpensF.cons z8y rfl rfl (OpensF.cons z8y rfl rfl (OpensF.cons z8y rfl rfl (OpensF.cons zeC rfl rfl (OpensF.cons zdR rfl rfl OpensF.nil))))) (fun ⟨a0, a1, a2, a3, a4, _⟩ => ⟨⟨a0, a1, a2, a3, a4⟩, rfl⟩)
theorem zdV : Opens Tryz.prog 153 z9X (WfL D.ShardCell.wf) := Opens.sl Tryz.underlying153 (by kernel_rfl) zdQ
theorem zew : Opens Tryz.prog 4 tBool fun _ => True := Opens.bool Tryz.underlying4 (by kernel_rfl)
set_option maxRecDepth 100000 in
theorem zdP : Opens Tryz.prog 278 zbn D.ShardVar.wf := Opens.struct (f := fun c : D.ShardVar => (c.Used, c.Full, c.Held, ())) Tryz.underlying278 (by kernel_rfl) (OpensF.cons zew rfl rfl (OpensF.cons zew rfl rfl (OpensF.cons z8x rfl rfl OpensF.nil))) (fun ⟨a0, a1, a2, _⟩ => ⟨⟨a0, a1, a2⟩, rfl⟩)
theorem zdU : Opens Tryz.prog 154 z9W (WfL D.ShardVar.wf) := Opens.sl Tryz.underlying154 (by kernel_rfl) zdP
set_option maxRecDepth 100000 in
theorem zdO : Opens Tryz.prog 281 zbm D.ShardRedex.wf := Opens.struct (f := fun c : D.ShardRedex => (c.A, c.B, ())) Tryz.underlying281 (by kernel_rfl) (OpensF.cons z8x rfl rfl (OpensF.cons z8x rfl rfl OpensF.nil)) (fun ⟨a0, a1, _⟩ => ⟨⟨a0, a1⟩, rfl⟩)
theorem zdT : Opens Tryz.prog 155 z9V (WfL D.ShardRedex.wf) := Opens.sl Tryz.underlying155 (by kernel_rfl) zdO
set_option maxRecDepth 100000 in
theorem zdS : Opens Tryz.prog 157 zaB D.Shard.wf := Opens.struct (f := fun c : D.Shard => (c.Cells, c.Vars, c.Redexes, ())) Tryz.underlying157 (by kernel_rfl) (OpensF.cons zdV rfl rfl (OpensF.cons zdU rfl rfl (OpensF.cons zdT rfl rfl OpensF.nil))) (fun ⟨a0, a1, a2, _⟩ => ⟨⟨a0, a1, a2⟩, rfl⟩)
theorem zeE : Opens Tryz.prog 22 ty22 (WfL D.Shard.wf) := Opens.sl Tryz.underlying22 (by kernel_rfl) zdS
set_option maxRecDepth 100000 in
theorem zeD : Opens Tryz.prog 26 ty26 D.Grid.wf := Opens.struct (f := fun c : D.Grid => (c.Shards, c.Root, ())) Tryz.underlying26 (by kernel_rfl) (OpensF.cons zeE rfl rfl (OpensF.cons z8x rfl rfl OpensF.nil)) (fun ⟨a0, a1, _⟩ => ⟨⟨a0, a1⟩, rfl⟩)
end Go.E

