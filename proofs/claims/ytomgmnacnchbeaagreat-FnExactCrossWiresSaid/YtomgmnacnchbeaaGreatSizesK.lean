/- What the functions that size, copy and compare give on well formed data (written by program). Conditions: sizes within the law s own bound. -/
import Derived.Test.YtomgmnacnchbeaaGreatSzDefs
import Derived.Test.YtomgmnacnchbeaaGreatFG
import Derived.Test.YtomgmnacnchbeaaGreatFGb
import Derived.Test.YtomgmnacnchbeaaGreatFGc
import Derived.Test.YtomgmnacnchbeaaGreatFK
namespace Go.E
open Go.RowKit Go.Proofs
set_option linter.unusedSimpArgs false
set_option linter.unusedVariables false

theorem eqInt64S_pure {fuel : Nat} {x : (List Int)} (hf : 18446744073709551616 ≤ fuel) (hs : x.length ≤ 1048576) : m_laws_eqInt64S fuel x x = some true := by
  have hl := hs
  unfold m_laws_eqInt64S
  rw [if_neg (by simp)]
  refine count_loop (n := x.length) (t := ()) (by unfold maxLen; omega) hf rfl ?_ ?_
  · intro i hi
    obtain ⟨y, hy⟩ := at_lt hi
    have hsy : 0 ≤ 1048576 := Nat.zero_le _
    simp [m_laws_eqInt64S_b1, idx_at hy, hi, seqb_refl]
  · simp [m_laws_eqInt64S_b1]

theorem toInt64S_pure {fuel : Nat} {x : (List Int)} (hf : 18446744073709551616 ≤ fuel) (hs : x.length ≤ 1048576) : m_laws_toInt64S fuel x = some x := by
  have hl := hs
  unfold m_laws_toInt64S
  refine copy_loop hl hf (fun _ => rfl) ?_ ?_
  · intro i y out hy hl2
    have hi := (List.getElem?_eq_some_iff.1 hy).1
    have hsy : 0 ≤ 1048576 := Nat.zero_le _
    simp only [m_laws_toInt64S_b1, idx_at hy, Option.bind_some, lt_t (show (i : Int) < x.length by omega), if_true]
    rw [if_pos (by simp; omega)]
    simp
  · intro out
    simp [m_laws_toInt64S_b1]

theorem toAddress_pure {fuel : Nat} {x : D.Address} (hf : 18446744073709551616 ≤ fuel) (hs : 0 ≤ 1048576) : m_laws_toAddress fuel x = some x := by
  skip
  unfold m_laws_toAddress
  rfl

theorem eqAddress_pure {fuel : Nat} {x : D.Address} (hf : 18446744073709551616 ≤ fuel) (hs : 0 ≤ 1048576) : m_laws_eqAddress fuel x x = some true := by
  skip
  simp [m_laws_eqAddress, seqb_refl]

theorem szInt64S_pure {fuel : Nat} {x : (List Int)} {l : Int} (hf : 18446744073709551616 ≤ fuel) (hw : WfL I64 x) (h0 : 0 ≤ l) (h1 : l ≤ 1048576) : SzOk (x.length) l (m_laws_szInt64S fuel x l) := by
  unfold m_laws_szInt64S
  generalize hz : w64 (l - (x.length : Int)) = z
  exact SzOk.sub2 h0 h1 hw.1 (m := 0) rfl hz fun g0 g1 => SzOk.same g0

theorem toShardVar_pure {fuel : Nat} {x : D.ShardVar} (hf : 18446744073709551616 ≤ fuel) (hs : 0 ≤ 1048576) : m_laws_toShardVar fuel x = some x := by
  skip
  unfold m_laws_toShardVar
  simp only [toAddress_pure hf (show 0 ≤ 1048576 by exact Nat.zero_le _), Option.bind_some]

theorem toShardRedex_pure {fuel : Nat} {x : D.ShardRedex} (hf : 18446744073709551616 ≤ fuel) (hs : 0 ≤ 1048576) : m_laws_toShardRedex fuel x = some x := by
  skip
  unfold m_laws_toShardRedex
  simp only [toAddress_pure hf (show 0 ≤ 1048576 by exact Nat.zero_le _), toAddress_pure hf (show 0 ≤ 1048576 by exact Nat.zero_le _), Option.bind_some]

theorem eqShardVar_pure {fuel : Nat} {x : D.ShardVar} (hf : 18446744073709551616 ≤ fuel) (hs : 0 ≤ 1048576) : m_laws_eqShardVar fuel x x = some true := by
  skip
  simp [m_laws_eqShardVar, seqb_refl, eqAddress_pure hf (show 0 ≤ 1048576 by exact Nat.zero_le _)]

theorem eqShardRedex_pure {fuel : Nat} {x : D.ShardRedex} (hf : 18446744073709551616 ≤ fuel) (hs : 0 ≤ 1048576) : m_laws_eqShardRedex fuel x x = some true := by
  skip
  simp [m_laws_eqShardRedex, seqb_refl, eqAddress_pure hf (show 0 ≤ 1048576 by exact Nat.zero_le _), eqAddress_pure hf (show 0 ≤ 1048576 by exact Nat.zero_le _)]

theorem szAddressS_pure {fuel : Nat} {x : (List D.Address)} {l : Int} (hf : 18446744073709551616 ≤ fuel) (hw : WfL D.Address.wf x) (h0 : 0 ≤ l) (h1 : l ≤ 1048576) : SzOk (x.length) l (m_laws_szAddressS fuel x l) := by
  unfold m_laws_szAddressS
  generalize hz : w64 (l - (x.length : Int)) = z
  exact SzOk.sub2 h0 h1 hw.1 (m := 0) rfl hz fun g0 g1 => SzOk.same g0

theorem toAddressS_pure {fuel : Nat} {x : (List D.Address)} (hf : 18446744073709551616 ≤ fuel) (hs : x.length ≤ 1048576) : m_laws_toAddressS fuel x = some x := by
  have hl := hs
  unfold m_laws_toAddressS
  refine copy_loop hl hf (fun _ => rfl) ?_ ?_
  · intro i y out hy hl2
    have hi := (List.getElem?_eq_some_iff.1 hy).1
    have hsy : 0 ≤ 1048576 := Nat.zero_le _
    simp only [m_laws_toAddressS_b1, idx_at hy, Option.bind_some, lt_t (show (i : Int) < x.length by omega), if_true, toAddress_pure hf hsy]
    rw [if_pos (by simp; omega)]
    simp
  · intro out
    simp [m_laws_toAddressS_b1]

theorem eqAddressS_pure {fuel : Nat} {x : (List D.Address)} (hf : 18446744073709551616 ≤ fuel) (hs : x.length ≤ 1048576) : m_laws_eqAddressS fuel x x = some true := by
  have hl := hs
  unfold m_laws_eqAddressS
  rw [if_neg (by simp)]
  refine count_loop (n := x.length) (t := ()) (by unfold maxLen; omega) hf rfl ?_ ?_
  · intro i hi
    obtain ⟨y, hy⟩ := at_lt hi
    have hsy : 0 ≤ 1048576 := Nat.zero_le _
    simp [m_laws_eqAddressS_b1, idx_at hy, hi, seqb_refl, eqAddress_pure hf hsy]
  · simp [m_laws_eqAddressS_b1]

theorem szShardVarS_pure {fuel : Nat} {x : (List D.ShardVar)} {l : Int} (hf : 18446744073709551616 ≤ fuel) (hw : WfL D.ShardVar.wf x) (h0 : 0 ≤ l) (h1 : l ≤ 1048576) : SzOk (x.length) l (m_laws_szShardVarS fuel x l) := by
  unfold m_laws_szShardVarS
  generalize hz : w64 (l - (x.length : Int)) = z
  exact SzOk.sub2 h0 h1 hw.1 (m := 0) rfl hz fun g0 g1 => SzOk.same g0

theorem szShardRedexS_pure {fuel : Nat} {x : (List D.ShardRedex)} {l : Int} (hf : 18446744073709551616 ≤ fuel) (hw : WfL D.ShardRedex.wf x) (h0 : 0 ≤ l) (h1 : l ≤ 1048576) : SzOk (x.length) l (m_laws_szShardRedexS fuel x l) := by
  unfold m_laws_szShardRedexS
  generalize hz : w64 (l - (x.length : Int)) = z
  exact SzOk.sub2 h0 h1 hw.1 (m := 0) rfl hz fun g0 g1 => SzOk.same g0

theorem toShardVarS_pure {fuel : Nat} {x : (List D.ShardVar)} (hf : 18446744073709551616 ≤ fuel) (hs : x.length ≤ 1048576) : m_laws_toShardVarS fuel x = some x := by
  have hl := hs
  unfold m_laws_toShardVarS
  refine copy_loop hl hf (fun _ => rfl) ?_ ?_
  · intro i y out hy hl2
    have hi := (List.getElem?_eq_some_iff.1 hy).1
    have hsy : 0 ≤ 1048576 := Nat.zero_le _
    simp only [m_laws_toShardVarS_b1, idx_at hy, Option.bind_some, lt_t (show (i : Int) < x.length by omega), if_true, toShardVar_pure hf hsy]
    rw [if_pos (by simp; omega)]
    simp
  · intro out
    simp [m_laws_toShardVarS_b1]

theorem toShardRedexS_pure {fuel : Nat} {x : (List D.ShardRedex)} (hf : 18446744073709551616 ≤ fuel) (hs : x.length ≤ 1048576) : m_laws_toShardRedexS fuel x = some x := by
  have hl := hs
  unfold m_laws_toShardRedexS
  refine copy_loop hl hf (fun _ => rfl) ?_ ?_
  · intro i y out hy hl2
    have hi := (List.getElem?_eq_some_iff.1 hy).1
    have hsy : 0 ≤ 1048576 := Nat.zero_le _
    simp only [m_laws_toShardRedexS_b1, idx_at hy, Option.bind_some, lt_t (show (i : Int) < x.length by omega), if_true, toShardRedex_pure hf hsy]
    rw [if_pos (by simp; omega)]
    simp
  · intro out
    simp [m_laws_toShardRedexS_b1]

theorem eqShardVarS_pure {fuel : Nat} {x : (List D.ShardVar)} (hf : 18446744073709551616 ≤ fuel) (hs : x.length ≤ 1048576) : m_laws_eqShardVarS fuel x x = some true := by
  have hl := hs
  unfold m_laws_eqShardVarS
  rw [if_neg (by simp)]
  refine count_loop (n := x.length) (t := ()) (by unfold maxLen; omega) hf rfl ?_ ?_
  · intro i hi
    obtain ⟨y, hy⟩ := at_lt hi
    have hsy : 0 ≤ 1048576 := Nat.zero_le _
    simp [m_laws_eqShardVarS_b1, idx_at hy, hi, seqb_refl, eqShardVar_pure hf hsy]
  · simp [m_laws_eqShardVarS_b1]

theorem eqShardRedexS_pure {fuel : Nat} {x : (List D.ShardRedex)} (hf : 18446744073709551616 ≤ fuel) (hs : x.length ≤ 1048576) : m_laws_eqShardRedexS fuel x x = some true := by
  have hl := hs
  unfold m_laws_eqShardRedexS
  rw [if_neg (by simp)]
  refine count_loop (n := x.length) (t := ()) (by unfold maxLen; omega) hf rfl ?_ ?_
  · intro i hi
    obtain ⟨y, hy⟩ := at_lt hi
    have hsy : 0 ≤ 1048576 := Nat.zero_le _
    simp [m_laws_eqShardRedexS_b1, idx_at hy, hi, seqb_refl, eqShardRedex_pure hf hsy]
  · simp [m_laws_eqShardRedexS_b1]

theorem szShardCell_pure {fuel : Nat} {x : D.ShardCell} {l : Int} (hf : 18446744073709551616 ≤ fuel) (hw : D.ShardCell.wf x) (h0 : 0 ≤ l) (h1 : l ≤ 1048576) : SzOk (D.ShardCell.sz x) l (m_laws_szShardCell fuel x l) := by
  obtain ⟨w0, w1, w2, w3, w4, _⟩ := hw
  unfold m_laws_szShardCell D.ShardCell.sz
  refine SzOk.bind (szInt64S_pure hf w3 h0 (by omega)) rfl fun r1 g1a g1b => ?_
  refine SzOk.bind (szAddressS_pure hf w4 g1a (by omega)) rfl fun r2 g2a g2b => ?_
  exact SzOk.same g2a

theorem toShardCell_pure {fuel : Nat} {x : D.ShardCell} (hf : 18446744073709551616 ≤ fuel) (hs : D.ShardCell.sz x ≤ 1048576) : m_laws_toShardCell fuel x = some x := by
  unfold D.ShardCell.sz at hs
  unfold m_laws_toShardCell
  simp only [toInt64S_pure hf (show x.Data.length ≤ 1048576 by omega), toAddressS_pure hf (show x.Aux.length ≤ 1048576 by omega), Option.bind_some]

theorem eqShardCell_pure {fuel : Nat} {x : D.ShardCell} (hf : 18446744073709551616 ≤ fuel) (hs : D.ShardCell.sz x ≤ 1048576) : m_laws_eqShardCell fuel x x = some true := by
  unfold D.ShardCell.sz at hs
  simp [m_laws_eqShardCell, seqb_refl, eqInt64S_pure hf (show x.Data.length ≤ 1048576 by omega), eqAddressS_pure hf (show x.Aux.length ≤ 1048576 by omega)]

theorem szShardCellS_pure {fuel : Nat} {x : (List D.ShardCell)} {l : Int} (hf : 18446744073709551616 ≤ fuel) (hw : WfL D.ShardCell.wf x) (h0 : 0 ≤ l) (h1 : l ≤ 1048576) : SzOk (szL D.ShardCell.sz x) l (m_laws_szShardCellS fuel x l) := by
  unfold m_laws_szShardCellS
  generalize hz : w64 (l - (x.length : Int)) = z
  refine SzOk.sub2 h0 h1 hw.1 (m := sumL D.ShardCell.sz x) rfl hz fun g0 g1 => ?_
  refine SzOk.loop hw.1 hf g0 (by omega) (fun _ => rfl) ?_ ?_
  · intro i y l hy h0 h1
    have hi := (List.getElem?_eq_some_iff.1 hy).1
    have hwy := hw.2 y (List.mem_of_getElem? hy)
    obtain ⟨r, h2, h3⟩ := szShardCell_pure hf hwy h0 h1
    simp only [m_laws_szShardCellS_b1, idx_at hy, Option.bind_some, lt_t (show (i : Int) < x.length by omega), if_true, h2]
    by_cases hlt : r < 0
    · exact .inl (by simp only [lt_t hlt, if_true])
    · exact .inr ⟨r, by simp only [lt_f hlt, if_false], h3.resolve_left hlt⟩
  · intro l
    simp [m_laws_szShardCellS_b1]

theorem toShardCellS_pure {fuel : Nat} {x : (List D.ShardCell)} (hf : 18446744073709551616 ≤ fuel) (hs : szL D.ShardCell.sz x ≤ 1048576) : m_laws_toShardCellS fuel x = some x := by
  have hl := szL_len hs
  unfold m_laws_toShardCellS
  refine copy_loop hl hf (fun _ => rfl) ?_ ?_
  · intro i y out hy hl2
    have hi := (List.getElem?_eq_some_iff.1 hy).1
    have hsy : D.ShardCell.sz y ≤ 1048576 := szL_mem hs (List.mem_of_getElem? hy)
    simp only [m_laws_toShardCellS_b1, idx_at hy, Option.bind_some, lt_t (show (i : Int) < x.length by omega), if_true, toShardCell_pure hf hsy]
    rw [if_pos (by simp; omega)]
    simp
  · intro out
    simp [m_laws_toShardCellS_b1]

theorem eqShardCellS_pure {fuel : Nat} {x : (List D.ShardCell)} (hf : 18446744073709551616 ≤ fuel) (hs : szL D.ShardCell.sz x ≤ 1048576) : m_laws_eqShardCellS fuel x x = some true := by
  have hl := szL_len hs
  unfold m_laws_eqShardCellS
  rw [if_neg (by simp)]
  refine count_loop (n := x.length) (t := ()) (by unfold maxLen; omega) hf rfl ?_ ?_
  · intro i hi
    obtain ⟨y, hy⟩ := at_lt hi
    have hsy : D.ShardCell.sz y ≤ 1048576 := szL_mem hs (List.mem_of_getElem? hy)
    simp [m_laws_eqShardCellS_b1, idx_at hy, hi, seqb_refl, eqShardCell_pure hf hsy]
  · simp [m_laws_eqShardCellS_b1]

theorem szShard_pure {fuel : Nat} {x : D.Shard} {l : Int} (hf : 18446744073709551616 ≤ fuel) (hw : D.Shard.wf x) (h0 : 0 ≤ l) (h1 : l ≤ 1048576) : SzOk (D.Shard.sz x) l (m_laws_szShard fuel x l) := by
  obtain ⟨w0, w1, w2, _⟩ := hw
  unfold m_laws_szShard D.Shard.sz
  refine SzOk.bind (szShardCellS_pure hf w0 h0 (by omega)) rfl fun r1 g1a g1b => ?_
  refine SzOk.bind (szShardVarS_pure hf w1 g1a (by omega)) rfl fun r2 g2a g2b => ?_
  refine SzOk.bind (szShardRedexS_pure hf w2 g2a (by omega)) rfl fun r3 g3a g3b => ?_
  exact SzOk.same g3a

theorem toShard_pure {fuel : Nat} {x : D.Shard} (hf : 18446744073709551616 ≤ fuel) (hs : D.Shard.sz x ≤ 1048576) : m_laws_toShard fuel x = some x := by
  unfold D.Shard.sz at hs
  unfold m_laws_toShard
  simp only [toShardCellS_pure hf (show szL D.ShardCell.sz x.Cells ≤ 1048576 by omega), toShardVarS_pure hf (show x.Vars.length ≤ 1048576 by omega), toShardRedexS_pure hf (show x.Redexes.length ≤ 1048576 by omega), Option.bind_some]

theorem eqShard_pure {fuel : Nat} {x : D.Shard} (hf : 18446744073709551616 ≤ fuel) (hs : D.Shard.sz x ≤ 1048576) : m_laws_eqShard fuel x x = some true := by
  unfold D.Shard.sz at hs
  simp [m_laws_eqShard, seqb_refl, eqShardCellS_pure hf (show szL D.ShardCell.sz x.Cells ≤ 1048576 by omega), eqShardVarS_pure hf (show x.Vars.length ≤ 1048576 by omega), eqShardRedexS_pure hf (show x.Redexes.length ≤ 1048576 by omega)]

theorem szShardS_pure {fuel : Nat} {x : (List D.Shard)} {l : Int} (hf : 18446744073709551616 ≤ fuel) (hw : WfL D.Shard.wf x) (h0 : 0 ≤ l) (h1 : l ≤ 1048576) : SzOk (szL D.Shard.sz x) l (m_laws_szShardS fuel x l) := by
  unfold m_laws_szShardS
  generalize hz : w64 (l - (x.length : Int)) = z
  refine SzOk.sub2 h0 h1 hw.1 (m := sumL D.Shard.sz x) rfl hz fun g0 g1 => ?_
  refine SzOk.loop hw.1 hf g0 (by omega) (fun _ => rfl) ?_ ?_
  · intro i y l hy h0 h1
    have hi := (List.getElem?_eq_some_iff.1 hy).1
    have hwy := hw.2 y (List.mem_of_getElem? hy)
    obtain ⟨r, h2, h3⟩ := szShard_pure hf hwy h0 h1
    simp only [m_laws_szShardS_b1, idx_at hy, Option.bind_some, lt_t (show (i : Int) < x.length by omega), if_true, h2]
    by_cases hlt : r < 0
    · exact .inl (by simp only [lt_t hlt, if_true])
    · exact .inr ⟨r, by simp only [lt_f hlt, if_false], h3.resolve_left hlt⟩
  · intro l
    simp [m_laws_szShardS_b1]

theorem toShardS_pure {fuel : Nat} {x : (List D.Shard)} (hf : 18446744073709551616 ≤ fuel) (hs : szL D.Shard.sz x ≤ 1048576) : m_laws_toShardS fuel x = some x := by
  have hl := szL_len hs
  unfold m_laws_toShardS
  refine copy_loop hl hf (fun _ => rfl) ?_ ?_
  · intro i y out hy hl2
    have hi := (List.getElem?_eq_some_iff.1 hy).1
    have hsy : D.Shard.sz y ≤ 1048576 := szL_mem hs (List.mem_of_getElem? hy)
    simp only [m_laws_toShardS_b1, idx_at hy, Option.bind_some, lt_t (show (i : Int) < x.length by omega), if_true, toShard_pure hf hsy]
    rw [if_pos (by simp; omega)]
    simp
  · intro out
    simp [m_laws_toShardS_b1]

theorem eqShardS_pure {fuel : Nat} {x : (List D.Shard)} (hf : 18446744073709551616 ≤ fuel) (hs : szL D.Shard.sz x ≤ 1048576) : m_laws_eqShardS fuel x x = some true := by
  have hl := szL_len hs
  unfold m_laws_eqShardS
  rw [if_neg (by simp)]
  refine count_loop (n := x.length) (t := ()) (by unfold maxLen; omega) hf rfl ?_ ?_
  · intro i hi
    obtain ⟨y, hy⟩ := at_lt hi
    have hsy : D.Shard.sz y ≤ 1048576 := szL_mem hs (List.mem_of_getElem? hy)
    simp [m_laws_eqShardS_b1, idx_at hy, hi, seqb_refl, eqShard_pure hf hsy]
  · simp [m_laws_eqShardS_b1]

theorem szGrid_pure {fuel : Nat} {x : D.Grid} {l : Int} (hf : 18446744073709551616 ≤ fuel) (hw : D.Grid.wf x) (h0 : 0 ≤ l) (h1 : l ≤ 1048576) : SzOk (D.Grid.sz x) l (m_laws_szGrid fuel x l) := by
  obtain ⟨w0, w1, _⟩ := hw
  unfold m_laws_szGrid D.Grid.sz
  refine SzOk.bind (szShardS_pure hf w0 h0 (by omega)) rfl fun r1 g1a g1b => ?_
  exact SzOk.same g1a

theorem toGrid_pure {fuel : Nat} {x : D.Grid} (hf : 18446744073709551616 ≤ fuel) (hs : D.Grid.sz x ≤ 1048576) : m_laws_toGrid fuel x = some x := by
  unfold D.Grid.sz at hs
  unfold m_laws_toGrid
  simp only [toShardS_pure hf (show szL D.Shard.sz x.Shards ≤ 1048576 by omega), toAddress_pure hf (show 0 ≤ 1048576 by exact Nat.zero_le _), Option.bind_some]

theorem eqGrid_pure {fuel : Nat} {x : D.Grid} (hf : 18446744073709551616 ≤ fuel) (hs : D.Grid.sz x ≤ 1048576) : m_laws_eqGrid fuel x x = some true := by
  unfold D.Grid.sz at hs
  simp [m_laws_eqGrid, seqb_refl, eqShardS_pure hf (show szL D.Shard.sz x.Shards ≤ 1048576 by omega), eqAddress_pure hf (show 0 ≤ 1048576 by exact Nat.zero_le _)]

theorem opens2 : Opens Tryz.prog 2 tInt I64 := Opens.int Tryz.underlying2 (by kernel_rfl)
theorem opens62 : Opens Tryz.prog 62 ty62 (WfL I64) := Opens.sl Tryz.underlying62 (by kernel_rfl) opens2
set_option maxRecDepth 100000 in
theorem opens24 : Opens Tryz.prog 24 ty24 D.Address.wf := Opens.struct (f := fun c : D.Address => (c.Machine, c.Kind, c.Index, ())) Tryz.underlying24 (by kernel_rfl) (OpensF.cons opens2 rfl rfl (OpensF.cons opens2 rfl rfl (OpensF.cons opens2 rfl rfl OpensF.nil))) (fun ⟨a0, a1, a2, _⟩ => ⟨⟨a0, a1, a2⟩, rfl⟩)
theorem opens271 : Opens Tryz.prog 271 ty271 (WfL D.Address.wf) := Opens.sl Tryz.underlying271 (by kernel_rfl) opens24
set_option maxRecDepth 100000 in
theorem opens273 : Opens Tryz.prog 273 ty273 D.ShardCell.wf := Opens.struct (f := fun c : D.ShardCell => (c.Kind, c.Level, c.Value, c.Data, c.Aux, ())) Tryz.underlying273 (by kernel_rfl) (OpensF.cons opens2 rfl rfl (OpensF.cons opens2 rfl rfl (OpensF.cons opens2 rfl rfl (OpensF.cons opens62 rfl rfl (OpensF.cons opens271 rfl rfl OpensF.nil))))) (fun ⟨a0, a1, a2, a3, a4, _⟩ => ⟨⟨a0, a1, a2, a3, a4⟩, rfl⟩)
theorem opens153 : Opens Tryz.prog 153 ty153 (WfL D.ShardCell.wf) := Opens.sl Tryz.underlying153 (by kernel_rfl) opens273
theorem opens4 : Opens Tryz.prog 4 tBool fun _ => True := Opens.bool Tryz.underlying4 (by kernel_rfl)
set_option maxRecDepth 100000 in
theorem opens278 : Opens Tryz.prog 278 ty278 D.ShardVar.wf := Opens.struct (f := fun c : D.ShardVar => (c.Used, c.Full, c.Held, ())) Tryz.underlying278 (by kernel_rfl) (OpensF.cons opens4 rfl rfl (OpensF.cons opens4 rfl rfl (OpensF.cons opens24 rfl rfl OpensF.nil))) (fun ⟨a0, a1, a2, _⟩ => ⟨⟨a0, a1, a2⟩, rfl⟩)
theorem opens154 : Opens Tryz.prog 154 ty154 (WfL D.ShardVar.wf) := Opens.sl Tryz.underlying154 (by kernel_rfl) opens278
set_option maxRecDepth 100000 in
theorem opens281 : Opens Tryz.prog 281 ty281 D.ShardRedex.wf := Opens.struct (f := fun c : D.ShardRedex => (c.A, c.B, ())) Tryz.underlying281 (by kernel_rfl) (OpensF.cons opens24 rfl rfl (OpensF.cons opens24 rfl rfl OpensF.nil)) (fun ⟨a0, a1, _⟩ => ⟨⟨a0, a1⟩, rfl⟩)
theorem opens155 : Opens Tryz.prog 155 ty155 (WfL D.ShardRedex.wf) := Opens.sl Tryz.underlying155 (by kernel_rfl) opens281
set_option maxRecDepth 100000 in
theorem opens157 : Opens Tryz.prog 157 ty157 D.Shard.wf := Opens.struct (f := fun c : D.Shard => (c.Cells, c.Vars, c.Redexes, ())) Tryz.underlying157 (by kernel_rfl) (OpensF.cons opens153 rfl rfl (OpensF.cons opens154 rfl rfl (OpensF.cons opens155 rfl rfl OpensF.nil))) (fun ⟨a0, a1, a2, _⟩ => ⟨⟨a0, a1, a2⟩, rfl⟩)
theorem opens22 : Opens Tryz.prog 22 ty22 (WfL D.Shard.wf) := Opens.sl Tryz.underlying22 (by kernel_rfl) opens157
set_option maxRecDepth 100000 in
theorem opens26 : Opens Tryz.prog 26 ty26 D.Grid.wf := Opens.struct (f := fun c : D.Grid => (c.Shards, c.Root, ())) Tryz.underlying26 (by kernel_rfl) (OpensF.cons opens22 rfl rfl (OpensF.cons opens24 rfl rfl OpensF.nil)) (fun ⟨a0, a1, _⟩ => ⟨⟨a0, a1⟩, rfl⟩)
end Go.E
