/- What the functions that size, copy and compare give on well formed data (written by program). Conditions: sizes within the law s own bound. -/
import Derived.Test.YtghfkejdmcpmhaaPure
import Derived.Test.YtghfkejdmcpmhaaFS
import Derived.Test.YtghfkejdmcpmhaaFSb
import Derived.Test.YtghfkejdmcpmhaaFSc
namespace Go.E
open Go.RowKit Go.Proofs
set_option linter.unusedSimpArgs false
set_option linter.unusedVariables false

def D.Address.wf (x : D.Address) : Prop := I64 x.Machine ∧ I64 x.Kind ∧ I64 x.Index ∧ True
def D.Address.sz (x : D.Address) : Nat := 0
theorem toAddress_pure {fuel : Nat} {x : D.Address} (hf : 18446744073709551616 ≤ fuel) (hs : 0 ≤ 1048576) : m_laws_toAddress fuel x = some x := by
  skip
  unfold m_laws_toAddress
  rfl

theorem eqAddress_pure {fuel : Nat} {x : D.Address} (hf : 18446744073709551616 ≤ fuel) (hs : 0 ≤ 1048576) : m_laws_eqAddress fuel x x = some true := by
  skip
  simp [m_laws_eqAddress, seqb_refl]

theorem szInt64S_pure {fuel : Nat} {x : (List Int)} {l : Int} (hf : 18446744073709551616 ≤ fuel) (hw : WfL I64 x) (h0 : 0 ≤ l) (h1 : l ≤ 1048576) : SzOk (x.length) l (m_laws_szInt64S fuel x l) := by
  unfold m_laws_szInt64S
  generalize hz : w64 (l - (x.length : Int)) = z
  exact SzOk.sub2 h0 h1 hw.1 (m := 0) rfl hz fun g0 g1 => SzOk.same g0

theorem toInt64S_pure {fuel : Nat} {x : (List Int)} (hf : 18446744073709551616 ≤ fuel) (hs : x.length ≤ 1048576) : m_laws_toInt64S fuel x = some x := by
  have hl := hs
  unfold m_laws_toInt64S
  refine copy_loop hl hf (fun _ => rfl) ?_ ?_
  · intro i y out hy hl2
    have hi := (List.getElem?_eq_some_iff.1 hy).1
    have hsy : 0 ≤ 1048576 := Nat.zero_le _
    simp only [m_laws_toInt64S_b1, idx_at hy, Option.bind_some, lt_t (show (i : Int) < x.length by omega), if_true]
    rw [if_pos (by simp; omega)]
    simp
  · intro out
    simp [m_laws_toInt64S_b1]

theorem eqInt64S_pure {fuel : Nat} {x : (List Int)} (hf : 18446744073709551616 ≤ fuel) (hs : x.length ≤ 1048576) : m_laws_eqInt64S fuel x x = some true := by
  have hl := hs
  unfold m_laws_eqInt64S
  rw [if_neg (by simp)]
  refine count_loop (n := x.length) (t := ()) (by unfold maxLen; omega) hf rfl ?_ ?_
  · intro i hi
    obtain ⟨y, hy⟩ := at_lt hi
    have hsy : 0 ≤ 1048576 := Nat.zero_le _
    simp [m_laws_eqInt64S_b1, idx_at hy, hi, seqb_refl]
  · simp [m_laws_eqInt64S_b1]

theorem szBoolS_pure {fuel : Nat} {x : (List Bool)} {l : Int} (hf : 18446744073709551616 ≤ fuel) (hw : WfL (fun _ => True) x) (h0 : 0 ≤ l) (h1 : l ≤ 1048576) : SzOk (x.length) l (m_laws_szBoolS fuel x l) := by
  unfold m_laws_szBoolS
  generalize hz : w64 (l - (x.length : Int)) = z
  exact SzOk.sub2 h0 h1 hw.1 (m := 0) rfl hz fun g0 g1 => SzOk.same g0

theorem toBoolS_pure {fuel : Nat} {x : (List Bool)} (hf : 18446744073709551616 ≤ fuel) (hs : x.length ≤ 1048576) : m_laws_toBoolS fuel x = some x := by
  have hl := hs
  unfold m_laws_toBoolS
  refine copy_loop hl hf (fun _ => rfl) ?_ ?_
  · intro i y out hy hl2
    have hi := (List.getElem?_eq_some_iff.1 hy).1
    have hsy : 0 ≤ 1048576 := Nat.zero_le _
    simp only [m_laws_toBoolS_b1, idx_at hy, Option.bind_some, lt_t (show (i : Int) < x.length by omega), if_true]
    rw [if_pos (by simp; omega)]
    simp
  · intro out
    simp [m_laws_toBoolS_b1]

theorem eqBoolS_pure {fuel : Nat} {x : (List Bool)} (hf : 18446744073709551616 ≤ fuel) (hs : x.length ≤ 1048576) : m_laws_eqBoolS fuel x x = some true := by
  have hl := hs
  unfold m_laws_eqBoolS
  rw [if_neg (by simp)]
  refine count_loop (n := x.length) (t := ()) (by unfold maxLen; omega) hf rfl ?_ ?_
  · intro i hi
    obtain ⟨y, hy⟩ := at_lt hi
    have hsy : 0 ≤ 1048576 := Nat.zero_le _
    simp [m_laws_eqBoolS_b1, idx_at hy, hi, seqb_refl]
  · simp [m_laws_eqBoolS_b1]

theorem szInt64SS_pure {fuel : Nat} {x : (List (List Int))} {l : Int} (hf : 18446744073709551616 ≤ fuel) (hw : WfL (WfL I64) x) (h0 : 0 ≤ l) (h1 : l ≤ 1048576) : SzOk (szL (fun x => x.length) x) l (m_laws_szInt64SS fuel x l) := by
  unfold m_laws_szInt64SS
  generalize hz : w64 (l - (x.length : Int)) = z
  refine SzOk.sub2 h0 h1 hw.1 (m := sumL (fun x => x.length) x) rfl hz fun g0 g1 => ?_
  refine SzOk.loop hw.1 hf g0 (by omega) (fun _ => rfl) ?_ ?_
  · intro i y l hy h0 h1
    have hi := (List.getElem?_eq_some_iff.1 hy).1
    have hwy := hw.2 y (List.mem_of_getElem? hy)
    obtain ⟨r, h2, h3⟩ := szInt64S_pure hf hwy h0 h1
    simp only [m_laws_szInt64SS_b1, idx_at hy, Option.bind_some, lt_t (show (i : Int) < x.length by omega), if_true, h2]
    by_cases hlt : r < 0
    · exact .inl (by simp only [lt_t hlt, if_true])
    · exact .inr ⟨r, by simp only [lt_f hlt, if_false], h3.resolve_left hlt⟩
  · intro l
    simp [m_laws_szInt64SS_b1]

theorem toInt64SS_pure {fuel : Nat} {x : (List (List Int))} (hf : 18446744073709551616 ≤ fuel) (hs : szL (fun x => x.length) x ≤ 1048576) : m_laws_toInt64SS fuel x = some x := by
  have hl := szL_len hs
  unfold m_laws_toInt64SS
  refine copy_loop hl hf (fun _ => rfl) ?_ ?_
  · intro i y out hy hl2
    have hi := (List.getElem?_eq_some_iff.1 hy).1
    have hsy : y.length ≤ 1048576 := szL_mem hs (List.mem_of_getElem? hy)
    simp only [m_laws_toInt64SS_b1, idx_at hy, Option.bind_some, lt_t (show (i : Int) < x.length by omega), if_true, toInt64S_pure hf hsy]
    rw [if_pos (by simp; omega)]
    simp
  · intro out
    simp [m_laws_toInt64SS_b1]

theorem eqInt64SS_pure {fuel : Nat} {x : (List (List Int))} (hf : 18446744073709551616 ≤ fuel) (hs : szL (fun x => x.length) x ≤ 1048576) : m_laws_eqInt64SS fuel x x = some true := by
  have hl := szL_len hs
  unfold m_laws_eqInt64SS
  rw [if_neg (by simp)]
  refine count_loop (n := x.length) (t := ()) (by unfold maxLen; omega) hf rfl ?_ ?_
  · intro i hi
    obtain ⟨y, hy⟩ := at_lt hi
    have hsy : y.length ≤ 1048576 := szL_mem hs (List.mem_of_getElem? hy)
    simp [m_laws_eqInt64SS_b1, idx_at hy, hi, seqb_refl, eqInt64S_pure hf hsy]
  · simp [m_laws_eqInt64SS_b1]

def D.ShardVar.wf (x : D.ShardVar) : Prop := True ∧ True ∧ D.Address.wf x.Held ∧ True
def D.ShardVar.sz (x : D.ShardVar) : Nat := 0
theorem toShardVar_pure {fuel : Nat} {x : D.ShardVar} (hf : 18446744073709551616 ≤ fuel) (hs : 0 ≤ 1048576) : m_laws_toShardVar fuel x = some x := by
  skip
  unfold m_laws_toShardVar
  simp only [toAddress_pure hf (show 0 ≤ 1048576 by exact Nat.zero_le _), Option.bind_some]

def D.ShardRedex.wf (x : D.ShardRedex) : Prop := D.Address.wf x.A ∧ D.Address.wf x.B ∧ True
def D.ShardRedex.sz (x : D.ShardRedex) : Nat := 0
theorem toShardRedex_pure {fuel : Nat} {x : D.ShardRedex} (hf : 18446744073709551616 ≤ fuel) (hs : 0 ≤ 1048576) : m_laws_toShardRedex fuel x = some x := by
  skip
  unfold m_laws_toShardRedex
  simp only [toAddress_pure hf (show 0 ≤ 1048576 by exact Nat.zero_le _), toAddress_pure hf (show 0 ≤ 1048576 by exact Nat.zero_le _), Option.bind_some]

theorem eqShardVar_pure {fuel : Nat} {x : D.ShardVar} (hf : 18446744073709551616 ≤ fuel) (hs : 0 ≤ 1048576) : m_laws_eqShardVar fuel x x = some true := by
  skip
  simp [m_laws_eqShardVar, seqb_refl, eqAddress_pure hf (show 0 ≤ 1048576 by exact Nat.zero_le _)]

theorem eqShardRedex_pure {fuel : Nat} {x : D.ShardRedex} (hf : 18446744073709551616 ≤ fuel) (hs : 0 ≤ 1048576) : m_laws_eqShardRedex fuel x x = some true := by
  skip
  simp [m_laws_eqShardRedex, seqb_refl, eqAddress_pure hf (show 0 ≤ 1048576 by exact Nat.zero_le _), eqAddress_pure hf (show 0 ≤ 1048576 by exact Nat.zero_le _)]

theorem szAddressS_pure {fuel : Nat} {x : (List D.Address)} {l : Int} (hf : 18446744073709551616 ≤ fuel) (hw : WfL D.Address.wf x) (h0 : 0 ≤ l) (h1 : l ≤ 1048576) : SzOk (x.length) l (m_laws_szAddressS fuel x l) := by
  unfold m_laws_szAddressS
  generalize hz : w64 (l - (x.length : Int)) = z
  exact SzOk.sub2 h0 h1 hw.1 (m := 0) rfl hz fun g0 g1 => SzOk.same g0

theorem toAddressS_pure {fuel : Nat} {x : (List D.Address)} (hf : 18446744073709551616 ≤ fuel) (hs : x.length ≤ 1048576) : m_laws_toAddressS fuel x = some x := by
  have hl := hs
  unfold m_laws_toAddressS
  refine copy_loop hl hf (fun _ => rfl) ?_ ?_
  · intro i y out hy hl2
    have hi := (List.getElem?_eq_some_iff.1 hy).1
    have hsy : 0 ≤ 1048576 := Nat.zero_le _
    simp only [m_laws_toAddressS_b1, idx_at hy, Option.bind_some, lt_t (show (i : Int) < x.length by omega), if_true, toAddress_pure hf hsy]
    rw [if_pos (by simp; omega)]
    simp
  · intro out
    simp [m_laws_toAddressS_b1]

theorem eqAddressS_pure {fuel : Nat} {x : (List D.Address)} (hf : 18446744073709551616 ≤ fuel) (hs : x.length ≤ 1048576) : m_laws_eqAddressS fuel x x = some true := by
  have hl := hs
  unfold m_laws_eqAddressS
  rw [if_neg (by simp)]
  refine count_loop (n := x.length) (t := ()) (by unfold maxLen; omega) hf rfl ?_ ?_
  · intro i hi
    obtain ⟨y, hy⟩ := at_lt hi
    have hsy : 0 ≤ 1048576 := Nat.zero_le _
    simp [m_laws_eqAddressS_b1, idx_at hy, hi, seqb_refl, eqAddress_pure hf hsy]
  · simp [m_laws_eqAddressS_b1]

theorem szShardVarS_pure {fuel : Nat} {x : (List D.ShardVar)} {l : Int} (hf : 18446744073709551616 ≤ fuel) (hw : WfL D.ShardVar.wf x) (h0 : 0 ≤ l) (h1 : l ≤ 1048576) : SzOk (x.length) l (m_laws_szShardVarS fuel x l) := by
  unfold m_laws_szShardVarS
  generalize hz : w64 (l - (x.length : Int)) = z
  exact SzOk.sub2 h0 h1 hw.1 (m := 0) rfl hz fun g0 g1 => SzOk.same g0

theorem szShardRedexS_pure {fuel : Nat} {x : (List D.ShardRedex)} {l : Int} (hf : 18446744073709551616 ≤ fuel) (hw : WfL D.ShardRedex.wf x) (h0 : 0 ≤ l) (h1 : l ≤ 1048576) : SzOk (x.length) l (m_laws_szShardRedexS fuel x l) := by
  unfold m_laws_szShardRedexS
  generalize hz : w64 (l - (x.length : Int)) = z
  exact SzOk.sub2 h0 h1 hw.1 (m := 0) rfl hz fun g0 g1 => SzOk.same g0

theorem toShardVarS_pure {fuel : Nat} {x : (List D.ShardVar)} (hf : 18446744073709551616 ≤ fuel) (hs : x.length ≤ 1048576) : m_laws_toShardVarS fuel x = some x := by
  have hl := hs
  unfold m_laws_toShardVarS
  refine copy_loop hl hf (fun _ => rfl) ?_ ?_
  · intro i y out hy hl2
    have hi := (List.getElem?_eq_some_iff.1 hy).1
    have hsy : 0 ≤ 1048576 := Nat.zero_le _
    simp only [m_laws_toShardVarS_b1, idx_at hy, Option.bind_some, lt_t (show (i : Int) < x.length by omega), if_true, toShardVar_pure hf hsy]
    rw [if_pos (by simp; omega)]
    simp
  · intro out
    simp [m_laws_toShardVarS_b1]

theorem toShardRedexS_pure {fuel : Nat} {x : (List D.ShardRedex)} (hf : 18446744073709551616 ≤ fuel) (hs : x.length ≤ 1048576) : m_laws_toShardRedexS fuel x = some x := by
  have hl := hs
  unfold m_laws_toShardRedexS
  refine copy_loop hl hf (fun _ => rfl) ?_ ?_
  · intro i y out hy hl2
    have hi := (List.getElem?_eq_some_iff.1 hy).1
    have hsy : 0 ≤ 1048576 := Nat.zero_le _
    simp only [m_laws_toShardRedexS_b1, idx_at hy, Option.bind_some, lt_t (show (i : Int) < x.length by omega), if_true, toShardRedex_pure hf hsy]
    rw [if_pos (by simp; omega)]
    simp
  · intro out
    simp [m_laws_toShardRedexS_b1]

theorem eqShardVarS_pure {fuel : Nat} {x : (List D.ShardVar)} (hf : 18446744073709551616 ≤ fuel) (hs : x.length ≤ 1048576) : m_laws_eqShardVarS fuel x x = some true := by
  have hl := hs
  unfold m_laws_eqShardVarS
  rw [if_neg (by simp)]
  refine count_loop (n := x.length) (t := ()) (by unfold maxLen; omega) hf rfl ?_ ?_
  · intro i hi
    obtain ⟨y, hy⟩ := at_lt hi
    have hsy : 0 ≤ 1048576 := Nat.zero_le _
    simp [m_laws_eqShardVarS_b1, idx_at hy, hi, seqb_refl, eqShardVar_pure hf hsy]
  · simp [m_laws_eqShardVarS_b1]

theorem eqShardRedexS_pure {fuel : Nat} {x : (List D.ShardRedex)} (hf : 18446744073709551616 ≤ fuel) (hs : x.length ≤ 1048576) : m_laws_eqShardRedexS fuel x x = some true := by
  have hl := hs
  unfold m_laws_eqShardRedexS
  rw [if_neg (by simp)]
  refine count_loop (n := x.length) (t := ()) (by unfold maxLen; omega) hf rfl ?_ ?_
  · intro i hi
    obtain ⟨y, hy⟩ := at_lt hi
    have hsy : 0 ≤ 1048576 := Nat.zero_le _
    simp [m_laws_eqShardRedexS_b1, idx_at hy, hi, seqb_refl, eqShardRedex_pure hf hsy]
  · simp [m_laws_eqShardRedexS_b1]

def D.ShardCell.wf (x : D.ShardCell) : Prop := I64 x.Kind ∧ I64 x.Level ∧ I64 x.Value ∧ WfL I64 x.Data ∧ WfL D.Address.wf x.Aux ∧ True
def D.ShardCell.sz (x : D.ShardCell) : Nat := x.Data.length + (x.Aux.length + (0))
theorem szShardCell_pure {fuel : Nat} {x : D.ShardCell} {l : Int} (hf : 18446744073709551616 ≤ fuel) (hw : D.ShardCell.wf x) (h0 : 0 ≤ l) (h1 : l ≤ 1048576) : SzOk (D.ShardCell.sz x) l (m_laws_szShardCell fuel x l) := by
  obtain ⟨w0, w1, w2, w3, w4, _⟩ := hw
  unfold m_laws_szShardCell D.ShardCell.sz
  refine SzOk.bind (szInt64S_pure hf w3 h0 (by omega)) rfl fun r1 g1a g1b => ?_
  refine SzOk.bind (szAddressS_pure hf w4 g1a (by omega)) rfl fun r2 g2a g2b => ?_
  exact SzOk.same g2a

theorem toShardCell_pure {fuel : Nat} {x : D.ShardCell} (hf : 18446744073709551616 ≤ fuel) (hs : D.ShardCell.sz x ≤ 1048576) : m_laws_toShardCell fuel x = some x := by
  unfold D.ShardCell.sz at hs
  unfold m_laws_toShardCell
  simp only [toInt64S_pure hf (show x.Data.length ≤ 1048576 by omega), toAddressS_pure hf (show x.Aux.length ≤ 1048576 by omega), Option.bind_some]

theorem eqShardCell_pure {fuel : Nat} {x : D.ShardCell} (hf : 18446744073709551616 ≤ fuel) (hs : D.ShardCell.sz x ≤ 1048576) : m_laws_eqShardCell fuel x x = some true := by
  unfold D.ShardCell.sz at hs
  simp [m_laws_eqShardCell, seqb_refl, eqInt64S_pure hf (show x.Data.length ≤ 1048576 by omega), eqAddressS_pure hf (show x.Aux.length ≤ 1048576 by omega)]

theorem szShardCellS_pure {fuel : Nat} {x : (List D.ShardCell)} {l : Int} (hf : 18446744073709551616 ≤ fuel) (hw : WfL D.ShardCell.wf x) (h0 : 0 ≤ l) (h1 : l ≤ 1048576) : SzOk (szL D.ShardCell.sz x) l (m_laws_szShardCellS fuel x l) := by
  unfold m_laws_szShardCellS
  generalize hz : w64 (l - (x.length : Int)) = z
  refine SzOk.sub2 h0 h1 hw.1 (m := sumL D.ShardCell.sz x) rfl hz fun g0 g1 => ?_
  refine SzOk.loop hw.1 hf g0 (by omega) (fun _ => rfl) ?_ ?_
  · intro i y l hy h0 h1
    have hi := (List.getElem?_eq_some_iff.1 hy).1
    have hwy := hw.2 y (List.mem_of_getElem? hy)
    obtain ⟨r, h2, h3⟩ := szShardCell_pure hf hwy h0 h1
    simp only [m_laws_szShardCellS_b1, idx_at hy, Option.bind_some, lt_t (show (i : Int) < x.length by omega), if_true, h2]
    by_cases hlt : r < 0
    · exact .inl (by simp only [lt_t hlt, if_true])
    · exact .inr ⟨r, by simp only [lt_f hlt, if_false], h3.resolve_left hlt⟩
  · intro l
    simp [m_laws_szShardCellS_b1]

theorem toShardCellS_pure {fuel : Nat} {x : (List D.ShardCell)} (hf : 18446744073709551616 ≤ fuel) (hs : szL D.ShardCell.sz x ≤ 1048576) : m_laws_toShardCellS fuel x = some x := by
  have hl := szL_len hs
  unfold m_laws_toShardCellS
  refine copy_loop hl hf (fun _ => rfl) ?_ ?_
  · intro i y out hy hl2
    have hi := (List.getElem?_eq_some_iff.1 hy).1
    have hsy : D.ShardCell.sz y ≤ 1048576 := szL_mem hs (List.mem_of_getElem? hy)
    simp only [m_laws_toShardCellS_b1, idx_at hy, Option.bind_some, lt_t (show (i : Int) < x.length by omega), if_true, toShardCell_pure hf hsy]
    rw [if_pos (by simp; omega)]
    simp
  · intro out
    simp [m_laws_toShardCellS_b1]

theorem eqShardCellS_pure {fuel : Nat} {x : (List D.ShardCell)} (hf : 18446744073709551616 ≤ fuel) (hs : szL D.ShardCell.sz x ≤ 1048576) : m_laws_eqShardCellS fuel x x = some true := by
  have hl := szL_len hs
  unfold m_laws_eqShardCellS
  rw [if_neg (by simp)]
  refine count_loop (n := x.length) (t := ()) (by unfold maxLen; omega) hf rfl ?_ ?_
  · intro i hi
    obtain ⟨y, hy⟩ := at_lt hi
    have hsy : D.ShardCell.sz y ≤ 1048576 := szL_mem hs (List.mem_of_getElem? hy)
    simp [m_laws_eqShardCellS_b1, idx_at hy, hi, seqb_refl, eqShardCell_pure hf hsy]
  · simp [m_laws_eqShardCellS_b1]

def D.Parcel.wf (x : D.Parcel) : Prop := I64 x.Kind ∧ D.ShardCell.wf x.Cell ∧ D.Address.wf x.A ∧ D.Address.wf x.B ∧ True
def D.Parcel.sz (x : D.Parcel) : Nat := D.ShardCell.sz x.Cell + (0)
theorem szParcel_pure {fuel : Nat} {x : D.Parcel} {l : Int} (hf : 18446744073709551616 ≤ fuel) (hw : D.Parcel.wf x) (h0 : 0 ≤ l) (h1 : l ≤ 1048576) : SzOk (D.Parcel.sz x) l (m_laws_szParcel fuel x l) := by
  obtain ⟨w0, w1, w2, w3, _⟩ := hw
  unfold m_laws_szParcel D.Parcel.sz
  refine SzOk.bind (szShardCell_pure hf w1 h0 (by omega)) rfl fun r1 g1a g1b => ?_
  exact SzOk.same g1a

theorem toParcel_pure {fuel : Nat} {x : D.Parcel} (hf : 18446744073709551616 ≤ fuel) (hs : D.Parcel.sz x ≤ 1048576) : m_laws_toParcel fuel x = some x := by
  unfold D.Parcel.sz at hs
  unfold m_laws_toParcel
  simp only [toShardCell_pure hf (show D.ShardCell.sz x.Cell ≤ 1048576 by omega), toAddress_pure hf (show 0 ≤ 1048576 by exact Nat.zero_le _), toAddress_pure hf (show 0 ≤ 1048576 by exact Nat.zero_le _), Option.bind_some]

theorem eqParcel_pure {fuel : Nat} {x : D.Parcel} (hf : 18446744073709551616 ≤ fuel) (hs : D.Parcel.sz x ≤ 1048576) : m_laws_eqParcel fuel x x = some true := by
  unfold D.Parcel.sz at hs
  simp [m_laws_eqParcel, seqb_refl, eqShardCell_pure hf (show D.ShardCell.sz x.Cell ≤ 1048576 by omega), eqAddress_pure hf (show 0 ≤ 1048576 by exact Nat.zero_le _), eqAddress_pure hf (show 0 ≤ 1048576 by exact Nat.zero_le _)]

def D.Shard.wf (x : D.Shard) : Prop := WfL D.ShardCell.wf x.Cells ∧ WfL D.ShardVar.wf x.Vars ∧ WfL D.ShardRedex.wf x.Redexes ∧ True
def D.Shard.sz (x : D.Shard) : Nat := szL D.ShardCell.sz x.Cells + (x.Vars.length + (x.Redexes.length + (0)))
theorem szShard_pure {fuel : Nat} {x : D.Shard} {l : Int} (hf : 18446744073709551616 ≤ fuel) (hw : D.Shard.wf x) (h0 : 0 ≤ l) (h1 : l ≤ 1048576) : SzOk (D.Shard.sz x) l (m_laws_szShard fuel x l) := by
  obtain ⟨w0, w1, w2, _⟩ := hw
  unfold m_laws_szShard D.Shard.sz
  refine SzOk.bind (szShardCellS_pure hf w0 h0 (by omega)) rfl fun r1 g1a g1b => ?_
  refine SzOk.bind (szShardVarS_pure hf w1 g1a (by omega)) rfl fun r2 g2a g2b => ?_
  refine SzOk.bind (szShardRedexS_pure hf w2 g2a (by omega)) rfl fun r3 g3a g3b => ?_
  exact SzOk.same g3a

theorem toShard_pure {fuel : Nat} {x : D.Shard} (hf : 18446744073709551616 ≤ fuel) (hs : D.Shard.sz x ≤ 1048576) : m_laws_toShard fuel x = some x := by
  unfold D.Shard.sz at hs
  unfold m_laws_toShard
  simp only [toShardCellS_pure hf (show szL D.ShardCell.sz x.Cells ≤ 1048576 by omega), toShardVarS_pure hf (show x.Vars.length ≤ 1048576 by omega), toShardRedexS_pure hf (show x.Redexes.length ≤ 1048576 by omega), Option.bind_some]

theorem eqShard_pure {fuel : Nat} {x : D.Shard} (hf : 18446744073709551616 ≤ fuel) (hs : D.Shard.sz x ≤ 1048576) : m_laws_eqShard fuel x x = some true := by
  unfold D.Shard.sz at hs
  simp [m_laws_eqShard, seqb_refl, eqShardCellS_pure hf (show szL D.ShardCell.sz x.Cells ≤ 1048576 by omega), eqShardVarS_pure hf (show x.Vars.length ≤ 1048576 by omega), eqShardRedexS_pure hf (show x.Redexes.length ≤ 1048576 by omega)]

theorem szParcelS_pure {fuel : Nat} {x : (List D.Parcel)} {l : Int} (hf : 18446744073709551616 ≤ fuel) (hw : WfL D.Parcel.wf x) (h0 : 0 ≤ l) (h1 : l ≤ 1048576) : SzOk (szL D.Parcel.sz x) l (m_laws_szParcelS fuel x l) := by
  unfold m_laws_szParcelS
  generalize hz : w64 (l - (x.length : Int)) = z
  refine SzOk.sub2 h0 h1 hw.1 (m := sumL D.Parcel.sz x) rfl hz fun g0 g1 => ?_
  refine SzOk.loop hw.1 hf g0 (by omega) (fun _ => rfl) ?_ ?_
  · intro i y l hy h0 h1
    have hi := (List.getElem?_eq_some_iff.1 hy).1
    have hwy := hw.2 y (List.mem_of_getElem? hy)
    obtain ⟨r, h2, h3⟩ := szParcel_pure hf hwy h0 h1
    simp only [m_laws_szParcelS_b1, idx_at hy, Option.bind_some, lt_t (show (i : Int) < x.length by omega), if_true, h2]
    by_cases hlt : r < 0
    · exact .inl (by simp only [lt_t hlt, if_true])
    · exact .inr ⟨r, by simp only [lt_f hlt, if_false], h3.resolve_left hlt⟩
  · intro l
    simp [m_laws_szParcelS_b1]

theorem toParcelS_pure {fuel : Nat} {x : (List D.Parcel)} (hf : 18446744073709551616 ≤ fuel) (hs : szL D.Parcel.sz x ≤ 1048576) : m_laws_toParcelS fuel x = some x := by
  have hl := szL_len hs
  unfold m_laws_toParcelS
  refine copy_loop hl hf (fun _ => rfl) ?_ ?_
  · intro i y out hy hl2
    have hi := (List.getElem?_eq_some_iff.1 hy).1
    have hsy : D.Parcel.sz y ≤ 1048576 := szL_mem hs (List.mem_of_getElem? hy)
    simp only [m_laws_toParcelS_b1, idx_at hy, Option.bind_some, lt_t (show (i : Int) < x.length by omega), if_true, toParcel_pure hf hsy]
    rw [if_pos (by simp; omega)]
    simp
  · intro out
    simp [m_laws_toParcelS_b1]

theorem eqParcelS_pure {fuel : Nat} {x : (List D.Parcel)} (hf : 18446744073709551616 ≤ fuel) (hs : szL D.Parcel.sz x ≤ 1048576) : m_laws_eqParcelS fuel x x = some true := by
  have hl := szL_len hs
  unfold m_laws_eqParcelS
  rw [if_neg (by simp)]
  refine count_loop (n := x.length) (t := ()) (by unfold maxLen; omega) hf rfl ?_ ?_
  · intro i hi
    obtain ⟨y, hy⟩ := at_lt hi
    have hsy : D.Parcel.sz y ≤ 1048576 := szL_mem hs (List.mem_of_getElem? hy)
    simp [m_laws_eqParcelS_b1, idx_at hy, hi, seqb_refl, eqParcel_pure hf hsy]
  · simp [m_laws_eqParcelS_b1]

theorem szShardS_pure {fuel : Nat} {x : (List D.Shard)} {l : Int} (hf : 18446744073709551616 ≤ fuel) (hw : WfL D.Shard.wf x) (h0 : 0 ≤ l) (h1 : l ≤ 1048576) : SzOk (szL D.Shard.sz x) l (m_laws_szShardS fuel x l) := by
  unfold m_laws_szShardS
  generalize hz : w64 (l - (x.length : Int)) = z
  refine SzOk.sub2 h0 h1 hw.1 (m := sumL D.Shard.sz x) rfl hz fun g0 g1 => ?_
  refine SzOk.loop hw.1 hf g0 (by omega) (fun _ => rfl) ?_ ?_
  · intro i y l hy h0 h1
    have hi := (List.getElem?_eq_some_iff.1 hy).1
    have hwy := hw.2 y (List.mem_of_getElem? hy)
    obtain ⟨r, h2, h3⟩ := szShard_pure hf hwy h0 h1
    simp only [m_laws_szShardS_b1, idx_at hy, Option.bind_some, lt_t (show (i : Int) < x.length by omega), if_true, h2]
    by_cases hlt : r < 0
    · exact .inl (by simp only [lt_t hlt, if_true])
    · exact .inr ⟨r, by simp only [lt_f hlt, if_false], h3.resolve_left hlt⟩
  · intro l
    simp [m_laws_szShardS_b1]

theorem toShardS_pure {fuel : Nat} {x : (List D.Shard)} (hf : 18446744073709551616 ≤ fuel) (hs : szL D.Shard.sz x ≤ 1048576) : m_laws_toShardS fuel x = some x := by
  have hl := szL_len hs
  unfold m_laws_toShardS
  refine copy_loop hl hf (fun _ => rfl) ?_ ?_
  · intro i y out hy hl2
    have hi := (List.getElem?_eq_some_iff.1 hy).1
    have hsy : D.Shard.sz y ≤ 1048576 := szL_mem hs (List.mem_of_getElem? hy)
    simp only [m_laws_toShardS_b1, idx_at hy, Option.bind_some, lt_t (show (i : Int) < x.length by omega), if_true, toShard_pure hf hsy]
    rw [if_pos (by simp; omega)]
    simp
  · intro out
    simp [m_laws_toShardS_b1]

theorem eqShardS_pure {fuel : Nat} {x : (List D.Shard)} (hf : 18446744073709551616 ≤ fuel) (hs : szL D.Shard.sz x ≤ 1048576) : m_laws_eqShardS fuel x x = some true := by
  have hl := szL_len hs
  unfold m_laws_eqShardS
  rw [if_neg (by simp)]
  refine count_loop (n := x.length) (t := ()) (by unfold maxLen; omega) hf rfl ?_ ?_
  · intro i hi
    obtain ⟨y, hy⟩ := at_lt hi
    have hsy : D.Shard.sz y ≤ 1048576 := szL_mem hs (List.mem_of_getElem? hy)
    simp [m_laws_eqShardS_b1, idx_at hy, hi, seqb_refl, eqShard_pure hf hsy]
  · simp [m_laws_eqShardS_b1]

theorem szParcelSS_pure {fuel : Nat} {x : (List (List D.Parcel))} {l : Int} (hf : 18446744073709551616 ≤ fuel) (hw : WfL (WfL D.Parcel.wf) x) (h0 : 0 ≤ l) (h1 : l ≤ 1048576) : SzOk (szL (fun x => szL D.Parcel.sz x) x) l (m_laws_szParcelSS fuel x l) := by
  unfold m_laws_szParcelSS
  generalize hz : w64 (l - (x.length : Int)) = z
  refine SzOk.sub2 h0 h1 hw.1 (m := sumL (fun x => szL D.Parcel.sz x) x) rfl hz fun g0 g1 => ?_
  refine SzOk.loop hw.1 hf g0 (by omega) (fun _ => rfl) ?_ ?_
  · intro i y l hy h0 h1
    have hi := (List.getElem?_eq_some_iff.1 hy).1
    have hwy := hw.2 y (List.mem_of_getElem? hy)
    obtain ⟨r, h2, h3⟩ := szParcelS_pure hf hwy h0 h1
    simp only [m_laws_szParcelSS_b1, idx_at hy, Option.bind_some, lt_t (show (i : Int) < x.length by omega), if_true, h2]
    by_cases hlt : r < 0
    · exact .inl (by simp only [lt_t hlt, if_true])
    · exact .inr ⟨r, by simp only [lt_f hlt, if_false], h3.resolve_left hlt⟩
  · intro l
    simp [m_laws_szParcelSS_b1]

theorem toParcelSS_pure {fuel : Nat} {x : (List (List D.Parcel))} (hf : 18446744073709551616 ≤ fuel) (hs : szL (fun x => szL D.Parcel.sz x) x ≤ 1048576) : m_laws_toParcelSS fuel x = some x := by
  have hl := szL_len hs
  unfold m_laws_toParcelSS
  refine copy_loop hl hf (fun _ => rfl) ?_ ?_
  · intro i y out hy hl2
    have hi := (List.getElem?_eq_some_iff.1 hy).1
    have hsy : szL D.Parcel.sz y ≤ 1048576 := szL_mem hs (List.mem_of_getElem? hy)
    simp only [m_laws_toParcelSS_b1, idx_at hy, Option.bind_some, lt_t (show (i : Int) < x.length by omega), if_true, toParcelS_pure hf hsy]
    rw [if_pos (by simp; omega)]
    simp
  · intro out
    simp [m_laws_toParcelSS_b1]

theorem eqParcelSS_pure {fuel : Nat} {x : (List (List D.Parcel))} (hf : 18446744073709551616 ≤ fuel) (hs : szL (fun x => szL D.Parcel.sz x) x ≤ 1048576) : m_laws_eqParcelSS fuel x x = some true := by
  have hl := szL_len hs
  unfold m_laws_eqParcelSS
  rw [if_neg (by simp)]
  refine count_loop (n := x.length) (t := ()) (by unfold maxLen; omega) hf rfl ?_ ?_
  · intro i hi
    obtain ⟨y, hy⟩ := at_lt hi
    have hsy : szL D.Parcel.sz y ≤ 1048576 := szL_mem hs (List.mem_of_getElem? hy)
    simp [m_laws_eqParcelSS_b1, idx_at hy, hi, seqb_refl, eqParcelS_pure hf hsy]
  · simp [m_laws_eqParcelSS_b1]

def D.Grid.wf (x : D.Grid) : Prop := WfL D.Shard.wf x.Shards ∧ D.Address.wf x.Root ∧ True
def D.Grid.sz (x : D.Grid) : Nat := szL D.Shard.sz x.Shards + (0)
theorem szGrid_pure {fuel : Nat} {x : D.Grid} {l : Int} (hf : 18446744073709551616 ≤ fuel) (hw : D.Grid.wf x) (h0 : 0 ≤ l) (h1 : l ≤ 1048576) : SzOk (D.Grid.sz x) l (m_laws_szGrid fuel x l) := by
  obtain ⟨w0, w1, _⟩ := hw
  unfold m_laws_szGrid D.Grid.sz
  refine SzOk.bind (szShardS_pure hf w0 h0 (by omega)) rfl fun r1 g1a g1b => ?_
  exact SzOk.same g1a

theorem toGrid_pure {fuel : Nat} {x : D.Grid} (hf : 18446744073709551616 ≤ fuel) (hs : D.Grid.sz x ≤ 1048576) : m_laws_toGrid fuel x = some x := by
  unfold D.Grid.sz at hs
  unfold m_laws_toGrid
  simp only [toShardS_pure hf (show szL D.Shard.sz x.Shards ≤ 1048576 by omega), toAddress_pure hf (show 0 ≤ 1048576 by exact Nat.zero_le _), Option.bind_some]

theorem eqGrid_pure {fuel : Nat} {x : D.Grid} (hf : 18446744073709551616 ≤ fuel) (hs : D.Grid.sz x ≤ 1048576) : m_laws_eqGrid fuel x x = some true := by
  unfold D.Grid.sz at hs
  simp [m_laws_eqGrid, seqb_refl, eqShardS_pure hf (show szL D.Shard.sz x.Shards ≤ 1048576 by omega), eqAddress_pure hf (show 0 ≤ 1048576 by exact Nat.zero_le _)]

def D.Shot.wf (x : D.Shot) : Prop := WfL (fun _ => True) x.Taken ∧ WfL D.Shard.wf x.Shards ∧ WfL (WfL I64) x.Counts ∧ WfL (fun _ => True) x.Recording ∧ WfL (WfL D.Parcel.wf) x.Saved ∧ True
def D.Shot.sz (x : D.Shot) : Nat := x.Taken.length + (szL D.Shard.sz x.Shards + (szL (fun x => x.length) x.Counts + (x.Recording.length + (szL (fun x => szL D.Parcel.sz x) x.Saved + (0)))))
theorem szShot_pure {fuel : Nat} {x : D.Shot} {l : Int} (hf : 18446744073709551616 ≤ fuel) (hw : D.Shot.wf x) (h0 : 0 ≤ l) (h1 : l ≤ 1048576) : SzOk (D.Shot.sz x) l (m_laws_szShot fuel x l) := by
  obtain ⟨w0, w1, w2, w3, w4, _⟩ := hw
  unfold m_laws_szShot D.Shot.sz
  refine SzOk.bind (szBoolS_pure hf w0 h0 (by omega)) rfl fun r1 g1a g1b => ?_
  refine SzOk.bind (szShardS_pure hf w1 g1a (by omega)) rfl fun r2 g2a g2b => ?_
  refine SzOk.bind (szInt64SS_pure hf w2 g2a (by omega)) rfl fun r3 g3a g3b => ?_
  refine SzOk.bind (szBoolS_pure hf w3 g3a (by omega)) rfl fun r4 g4a g4b => ?_
  refine SzOk.bind (szParcelSS_pure hf w4 g4a (by omega)) rfl fun r5 g5a g5b => ?_
  exact SzOk.same g5a

theorem toShot_pure {fuel : Nat} {x : D.Shot} (hf : 18446744073709551616 ≤ fuel) (hs : D.Shot.sz x ≤ 1048576) : m_laws_toShot fuel x = some x := by
  unfold D.Shot.sz at hs
  unfold m_laws_toShot
  simp only [toBoolS_pure hf (show x.Taken.length ≤ 1048576 by omega), toShardS_pure hf (show szL D.Shard.sz x.Shards ≤ 1048576 by omega), toInt64SS_pure hf (show szL (fun x => x.length) x.Counts ≤ 1048576 by omega), toBoolS_pure hf (show x.Recording.length ≤ 1048576 by omega), toParcelSS_pure hf (show szL (fun x => szL D.Parcel.sz x) x.Saved ≤ 1048576 by omega), Option.bind_some]

theorem eqShot_pure {fuel : Nat} {x : D.Shot} (hf : 18446744073709551616 ≤ fuel) (hs : D.Shot.sz x ≤ 1048576) : m_laws_eqShot fuel x x = some true := by
  unfold D.Shot.sz at hs
  simp [m_laws_eqShot, seqb_refl, eqBoolS_pure hf (show x.Taken.length ≤ 1048576 by omega), eqShardS_pure hf (show szL D.Shard.sz x.Shards ≤ 1048576 by omega), eqInt64SS_pure hf (show szL (fun x => x.length) x.Counts ≤ 1048576 by omega), eqBoolS_pure hf (show x.Recording.length ≤ 1048576 by omega), eqParcelSS_pure hf (show szL (fun x => szL D.Parcel.sz x) x.Saved ≤ 1048576 by omega)]

def D.Cluster.wf (x : D.Cluster) : Prop := D.Grid.wf x.Grid ∧ WfL (WfL D.Parcel.wf) x.Channels ∧ WfL (WfL I64) x.Counts ∧ WfL I64 x.Sent ∧ WfL I64 x.Got ∧ True
def D.Cluster.sz (x : D.Cluster) : Nat := D.Grid.sz x.Grid + (szL (fun x => szL D.Parcel.sz x) x.Channels + (szL (fun x => x.length) x.Counts + (x.Sent.length + (x.Got.length + (0)))))
theorem szCluster_pure {fuel : Nat} {x : D.Cluster} {l : Int} (hf : 18446744073709551616 ≤ fuel) (hw : D.Cluster.wf x) (h0 : 0 ≤ l) (h1 : l ≤ 1048576) : SzOk (D.Cluster.sz x) l (m_laws_szCluster fuel x l) := by
  obtain ⟨w0, w1, w2, w3, w4, _⟩ := hw
  unfold m_laws_szCluster D.Cluster.sz
  refine SzOk.bind (szGrid_pure hf w0 h0 (by omega)) rfl fun r1 g1a g1b => ?_
  refine SzOk.bind (szParcelSS_pure hf w1 g1a (by omega)) rfl fun r2 g2a g2b => ?_
  refine SzOk.bind (szInt64SS_pure hf w2 g2a (by omega)) rfl fun r3 g3a g3b => ?_
  refine SzOk.bind (szInt64S_pure hf w3 g3a (by omega)) rfl fun r4 g4a g4b => ?_
  refine SzOk.bind (szInt64S_pure hf w4 g4a (by omega)) rfl fun r5 g5a g5b => ?_
  exact SzOk.same g5a

theorem toCluster_pure {fuel : Nat} {x : D.Cluster} (hf : 18446744073709551616 ≤ fuel) (hs : D.Cluster.sz x ≤ 1048576) : m_laws_toCluster fuel x = some x := by
  unfold D.Cluster.sz at hs
  unfold m_laws_toCluster
  simp only [toGrid_pure hf (show D.Grid.sz x.Grid ≤ 1048576 by omega), toParcelSS_pure hf (show szL (fun x => szL D.Parcel.sz x) x.Channels ≤ 1048576 by omega), toInt64SS_pure hf (show szL (fun x => x.length) x.Counts ≤ 1048576 by omega), toInt64S_pure hf (show x.Sent.length ≤ 1048576 by omega), toInt64S_pure hf (show x.Got.length ≤ 1048576 by omega), Option.bind_some]

theorem eqCluster_pure {fuel : Nat} {x : D.Cluster} (hf : 18446744073709551616 ≤ fuel) (hs : D.Cluster.sz x ≤ 1048576) : m_laws_eqCluster fuel x x = some true := by
  unfold D.Cluster.sz at hs
  simp [m_laws_eqCluster, seqb_refl, eqGrid_pure hf (show D.Grid.sz x.Grid ≤ 1048576 by omega), eqParcelSS_pure hf (show szL (fun x => szL D.Parcel.sz x) x.Channels ≤ 1048576 by omega), eqInt64SS_pure hf (show szL (fun x => x.length) x.Counts ≤ 1048576 by omega), eqInt64S_pure hf (show x.Sent.length ≤ 1048576 by omega), eqInt64S_pure hf (show x.Got.length ≤ 1048576 by omega)]

def D.Detector.wf (x : D.Detector) : Prop := D.Cluster.wf x.Cluster ∧ I64 x.Holder ∧ I64 x.Count ∧ True ∧ WfL (fun _ => True) x.Stained ∧ I64 x.Rounds ∧ True ∧ True
def D.Detector.sz (x : D.Detector) : Nat := D.Cluster.sz x.Cluster + (x.Stained.length + (0))
theorem szDetector_pure {fuel : Nat} {x : D.Detector} {l : Int} (hf : 18446744073709551616 ≤ fuel) (hw : D.Detector.wf x) (h0 : 0 ≤ l) (h1 : l ≤ 1048576) : SzOk (D.Detector.sz x) l (m_laws_szDetector fuel x l) := by
  obtain ⟨w0, w1, w2, w3, w4, w5, w6, _⟩ := hw
  unfold m_laws_szDetector D.Detector.sz
  refine SzOk.bind (szCluster_pure hf w0 h0 (by omega)) rfl fun r1 g1a g1b => ?_
  refine SzOk.bind (szBoolS_pure hf w4 g1a (by omega)) rfl fun r2 g2a g2b => ?_
  exact SzOk.same g2a

theorem toDetector_pure {fuel : Nat} {x : D.Detector} (hf : 18446744073709551616 ≤ fuel) (hs : D.Detector.sz x ≤ 1048576) : m_laws_toDetector fuel x = some x := by
  unfold D.Detector.sz at hs
  unfold m_laws_toDetector
  simp only [toCluster_pure hf (show D.Cluster.sz x.Cluster ≤ 1048576 by omega), toBoolS_pure hf (show x.Stained.length ≤ 1048576 by omega), Option.bind_some]

theorem eqDetector_pure {fuel : Nat} {x : D.Detector} (hf : 18446744073709551616 ≤ fuel) (hs : D.Detector.sz x ≤ 1048576) : m_laws_eqDetector fuel x x = some true := by
  unfold D.Detector.sz at hs
  simp [m_laws_eqDetector, seqb_refl, eqCluster_pure hf (show D.Cluster.sz x.Cluster ≤ 1048576 by omega), eqBoolS_pure hf (show x.Stained.length ≤ 1048576 by omega)]

def D.Watched.wf (x : D.Watched) : Prop := D.Cluster.wf x.Cluster ∧ D.Shot.wf x.Shot ∧ True
def D.Watched.sz (x : D.Watched) : Nat := D.Cluster.sz x.Cluster + (D.Shot.sz x.Shot + (0))
theorem szWatched_pure {fuel : Nat} {x : D.Watched} {l : Int} (hf : 18446744073709551616 ≤ fuel) (hw : D.Watched.wf x) (h0 : 0 ≤ l) (h1 : l ≤ 1048576) : SzOk (D.Watched.sz x) l (m_laws_szWatched fuel x l) := by
  obtain ⟨w0, w1, _⟩ := hw
  unfold m_laws_szWatched D.Watched.sz
  refine SzOk.bind (szCluster_pure hf w0 h0 (by omega)) rfl fun r1 g1a g1b => ?_
  refine SzOk.bind (szShot_pure hf w1 g1a (by omega)) rfl fun r2 g2a g2b => ?_
  exact SzOk.same g2a

theorem toWatched_pure {fuel : Nat} {x : D.Watched} (hf : 18446744073709551616 ≤ fuel) (hs : D.Watched.sz x ≤ 1048576) : m_laws_toWatched fuel x = some x := by
  unfold D.Watched.sz at hs
  unfold m_laws_toWatched
  simp only [toCluster_pure hf (show D.Cluster.sz x.Cluster ≤ 1048576 by omega), toShot_pure hf (show D.Shot.sz x.Shot ≤ 1048576 by omega), Option.bind_some]

theorem eqWatched_pure {fuel : Nat} {x : D.Watched} (hf : 18446744073709551616 ≤ fuel) (hs : D.Watched.sz x ≤ 1048576) : m_laws_eqWatched fuel x x = some true := by
  unfold D.Watched.sz at hs
  simp [m_laws_eqWatched, seqb_refl, eqCluster_pure hf (show D.Cluster.sz x.Cluster ≤ 1048576 by omega), eqShot_pure hf (show D.Shot.sz x.Shot ≤ 1048576 by omega)]

theorem opens2 : Opens Try.prog 2 tInt I64 := Opens.int Try.underlying2 (by kernel_rfl)
theorem opens72 : Opens Try.prog 72 ty72 (WfL I64) := Opens.sl Try.underlying72 (by kernel_rfl) opens2
set_option maxRecDepth 100000 in
theorem opens38 : Opens Try.prog 38 ty38 D.Address.wf := Opens.struct (f := fun c : D.Address => (c.Machine, c.Kind, c.Index, ())) Try.underlying38 (by kernel_rfl) (OpensF.cons opens2 rfl rfl (OpensF.cons opens2 rfl rfl (OpensF.cons opens2 rfl rfl OpensF.nil))) (fun ⟨a0, a1, a2, _⟩ => ⟨⟨a0, a1, a2⟩, rfl⟩)
theorem opens202 : Opens Try.prog 202 ty202 (WfL D.Address.wf) := Opens.sl Try.underlying202 (by kernel_rfl) opens38
set_option maxRecDepth 100000 in
theorem opens204 : Opens Try.prog 204 ty204 D.ShardCell.wf := Opens.struct (f := fun c : D.ShardCell => (c.Kind, c.Level, c.Value, c.Data, c.Aux, ())) Try.underlying204 (by kernel_rfl) (OpensF.cons opens2 rfl rfl (OpensF.cons opens2 rfl rfl (OpensF.cons opens2 rfl rfl (OpensF.cons opens72 rfl rfl (OpensF.cons opens202 rfl rfl OpensF.nil))))) (fun ⟨a0, a1, a2, a3, a4, _⟩ => ⟨⟨a0, a1, a2, a3, a4⟩, rfl⟩)
theorem opens22 : Opens Try.prog 22 ty22 (WfL D.ShardCell.wf) := Opens.sl Try.underlying22 (by kernel_rfl) opens204
theorem opens4 : Opens Try.prog 4 tBool fun _ => True := Opens.bool Try.underlying4 (by kernel_rfl)
set_option maxRecDepth 100000 in
theorem opens209 : Opens Try.prog 209 ty209 D.ShardVar.wf := Opens.struct (f := fun c : D.ShardVar => (c.Used, c.Full, c.Held, ())) Try.underlying209 (by kernel_rfl) (OpensF.cons opens4 rfl rfl (OpensF.cons opens4 rfl rfl (OpensF.cons opens38 rfl rfl OpensF.nil))) (fun ⟨a0, a1, a2, _⟩ => ⟨⟨a0, a1, a2⟩, rfl⟩)
theorem opens23 : Opens Try.prog 23 ty23 (WfL D.ShardVar.wf) := Opens.sl Try.underlying23 (by kernel_rfl) opens209
set_option maxRecDepth 100000 in
theorem opens212 : Opens Try.prog 212 ty212 D.ShardRedex.wf := Opens.struct (f := fun c : D.ShardRedex => (c.A, c.B, ())) Try.underlying212 (by kernel_rfl) (OpensF.cons opens38 rfl rfl (OpensF.cons opens38 rfl rfl OpensF.nil)) (fun ⟨a0, a1, _⟩ => ⟨⟨a0, a1⟩, rfl⟩)
theorem opens24 : Opens Try.prog 24 ty24 (WfL D.ShardRedex.wf) := Opens.sl Try.underlying24 (by kernel_rfl) opens212
set_option maxRecDepth 100000 in
theorem opens26 : Opens Try.prog 26 ty26 D.Shard.wf := Opens.struct (f := fun c : D.Shard => (c.Cells, c.Vars, c.Redexes, ())) Try.underlying26 (by kernel_rfl) (OpensF.cons opens22 rfl rfl (OpensF.cons opens23 rfl rfl (OpensF.cons opens24 rfl rfl OpensF.nil))) (fun ⟨a0, a1, a2, _⟩ => ⟨⟨a0, a1, a2⟩, rfl⟩)
theorem opens36 : Opens Try.prog 36 ty36 (WfL D.Shard.wf) := Opens.sl Try.underlying36 (by kernel_rfl) opens26
set_option maxRecDepth 100000 in
theorem opens40 : Opens Try.prog 40 ty40 D.Grid.wf := Opens.struct (f := fun c : D.Grid => (c.Shards, c.Root, ())) Try.underlying40 (by kernel_rfl) (OpensF.cons opens36 rfl rfl (OpensF.cons opens38 rfl rfl OpensF.nil)) (fun ⟨a0, a1, _⟩ => ⟨⟨a0, a1⟩, rfl⟩)
set_option maxRecDepth 100000 in
theorem opens276 : Opens Try.prog 276 ty276 D.Parcel.wf := Opens.struct (f := fun c : D.Parcel => (c.Kind, c.Cell, c.A, c.B, ())) Try.underlying276 (by kernel_rfl) (OpensF.cons opens2 rfl rfl (OpensF.cons opens204 rfl rfl (OpensF.cons opens38 rfl rfl (OpensF.cons opens38 rfl rfl OpensF.nil)))) (fun ⟨a0, a1, a2, a3, _⟩ => ⟨⟨a0, a1, a2, a3⟩, rfl⟩)
theorem opens237 : Opens Try.prog 237 ty237 (WfL D.Parcel.wf) := Opens.sl Try.underlying237 (by kernel_rfl) opens276
theorem opens70 : Opens Try.prog 70 ty70 (WfL (WfL D.Parcel.wf)) := Opens.sl Try.underlying70 (by kernel_rfl) opens237
theorem opens71 : Opens Try.prog 71 ty71 (WfL (WfL I64)) := Opens.sl Try.underlying71 (by kernel_rfl) opens72
set_option maxRecDepth 100000 in
theorem opens74 : Opens Try.prog 74 ty74 D.Cluster.wf := Opens.struct (f := fun c : D.Cluster => (c.Grid, c.Channels, c.Counts, c.Sent, c.Got, ())) Try.underlying74 (by kernel_rfl) (OpensF.cons opens40 rfl rfl (OpensF.cons opens70 rfl rfl (OpensF.cons opens71 rfl rfl (OpensF.cons opens72 rfl rfl (OpensF.cons opens72 rfl rfl OpensF.nil))))) (fun ⟨a0, a1, a2, a3, a4, _⟩ => ⟨⟨a0, a1, a2, a3, a4⟩, rfl⟩)
theorem opens82 : Opens Try.prog 82 ty82 (WfL (fun _ => True)) := Opens.sl Try.underlying82 (by kernel_rfl) opens4
set_option maxRecDepth 100000 in
theorem opens84 : Opens Try.prog 84 ty84 D.Detector.wf := Opens.struct (f := fun c : D.Detector => (c.Cluster, c.Holder, c.Count, c.Dark, c.Stained, c.Rounds, c.Announced, ())) Try.underlying84 (by kernel_rfl) (OpensF.cons opens74 rfl rfl (OpensF.cons opens2 rfl rfl (OpensF.cons opens2 rfl rfl (OpensF.cons opens4 rfl rfl (OpensF.cons opens82 rfl rfl (OpensF.cons opens2 rfl rfl (OpensF.cons opens4 rfl rfl OpensF.nil))))))) (fun ⟨a0, a1, a2, a3, a4, a5, a6, _⟩ => ⟨⟨a0, a1, a2, a3, a4, a5, a6⟩, rfl⟩)
set_option maxRecDepth 100000 in
theorem opens92 : Opens Try.prog 92 ty92 D.Shot.wf := Opens.struct (f := fun c : D.Shot => (c.Taken, c.Shards, c.Counts, c.Recording, c.Saved, ())) Try.underlying92 (by kernel_rfl) (OpensF.cons opens82 rfl rfl (OpensF.cons opens36 rfl rfl (OpensF.cons opens71 rfl rfl (OpensF.cons opens82 rfl rfl (OpensF.cons opens70 rfl rfl OpensF.nil))))) (fun ⟨a0, a1, a2, a3, a4, _⟩ => ⟨⟨a0, a1, a2, a3, a4⟩, rfl⟩)
set_option maxRecDepth 100000 in
theorem opens94 : Opens Try.prog 94 ty94 D.Watched.wf := Opens.struct (f := fun c : D.Watched => (c.Cluster, c.Shot, ())) Try.underlying94 (by kernel_rfl) (OpensF.cons opens74 rfl rfl (OpensF.cons opens92 rfl rfl OpensF.nil)) (fun ⟨a0, a1, _⟩ => ⟨⟨a0, a1⟩, rfl⟩)
end Go.E
