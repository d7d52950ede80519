/- The functions that compare shards, grids, clusters and what holds them: each, of the program and of the reference, says whether its two arguments are equal. Conditions: the arguments are well formed. -/
import Derived.Test.YtghfkejdmcpmhaaSizesS
import Derived.Test.YtghfkejdmcpmhaaLoops
namespace Go.E
open Go.RowKit Go.Proofs
set_option linter.unusedSimpArgs false
set_option linter.unusedVariables false

theorem D.Address.eqb (a b : D.Address) : ((a.Machine == b.Machine) && ((a.Kind == b.Kind) && ((a.Index == b.Index) && true))) = decide (a = b) := by
  cases a; cases b; rw [Bool.eq_iff_iff]; simp
theorem D.ShardRedex.eqb (a b : D.ShardRedex) : (decide (a.A = b.A) && (decide (a.B = b.B) && true)) = decide (a = b) := by
  cases a; cases b; rw [Bool.eq_iff_iff]; simp
theorem D.ShardVar.eqb (a b : D.ShardVar) : ((a.Used == b.Used) && ((a.Full == b.Full) && (decide (a.Held = b.Held) && true))) = decide (a = b) := by
  cases a; cases b; rw [Bool.eq_iff_iff]; simp

section
variable {fuel : Nat} (hf : 18446744073709551616 ≤ fuel)
include hf

theorem l00Same_eq {x y : List Int} (hl : x.length ≤ maxLen) : m_spec_l00Same fuel x y = some (decide (x = y)) := by
  unfold m_spec_l00Same
  refine eqWhole (t := ()) hl hf rfl (fun i a b hi ha hb => ?_) (by simp [m_spec_l00Same_b1])
  simp only [m_spec_l00Same_b1, idx_at ha, idx_at hb, Option.bind_some, lt_t (show (i : Int) < x.length by omega), if_true]
  by_cases h : a = b <;> simp [h]
theorem Equal_int64_eq {x y : List Int} (hl : x.length ≤ maxLen) : m_slices_Equal_int64_int64 fuel x y = some (decide (x = y)) := l00Same_eq hf hl

theorem SameBools_eq {x y : List Bool} (hl : x.length ≤ maxLen) : m_spec_l30SameBools fuel x y = some (decide (x = y)) := by
  unfold m_spec_l30SameBools
  refine eqWhole (t := ()) hl hf rfl (fun i a b hi ha hb => ?_) (by simp [m_spec_l30SameBools_b1])
  simp only [m_spec_l30SameBools_b1, idx_at ha, idx_at hb, Option.bind_some, lt_t (show (i : Int) < x.length by omega), if_true]
  by_cases h : a = b <;> simp [h]
theorem Equal_bool_eq {x y : List Bool} (hl : x.length ≤ maxLen) : m_slices_Equal_bool_bool fuel x y = some (decide (x = y)) := SameBools_eq hf hl

theorem SameAddresses_eq {x y : List D.Address} (hl : x.length ≤ maxLen) : m_spec_l27SameAddresses fuel x y = some (decide (x = y)) := by
  unfold m_spec_l27SameAddresses
  refine eqWhole (t := ()) hl hf rfl (fun i a b hi ha hb => ?_) (by simp [m_spec_l27SameAddresses_b1])
  simp only [m_spec_l27SameAddresses_b1, idx_at ha, idx_at hb, Option.bind_some, lt_t (show (i : Int) < x.length by omega), if_true, D.Address.eqb]
  by_cases h : a = b <;> simp [h]
theorem Equal_Address_eq {x y : List D.Address} (hl : x.length ≤ maxLen) : m_slices_Equal_impl_Address_impl_Address fuel x y = some (decide (x = y)) := SameAddresses_eq hf hl

theorem Equal_ShardVar_eq {x y : List D.ShardVar} (hl : x.length ≤ maxLen) : m_slices_Equal_impl_ShardVar_impl_ShardVar fuel x y = some (decide (x = y)) := by
  unfold m_slices_Equal_impl_ShardVar_impl_ShardVar
  refine eqWhole (t := ()) hl hf rfl (fun i a b hi ha hb => ?_) (by simp [m_slices_Equal_impl_ShardVar_impl_ShardVar_b1])
  simp only [m_slices_Equal_impl_ShardVar_impl_ShardVar_b1, idx_at ha, idx_at hb, Option.bind_some, lt_t (show (i : Int) < x.length by omega), if_true, D.Address.eqb, D.ShardVar.eqb]
  by_cases h : a = b <;> simp [h]

theorem Equal_ShardRedex_eq {x y : List D.ShardRedex} (hl : x.length ≤ maxLen) : m_slices_Equal_impl_ShardRedex_impl_ShardRedex fuel x y = some (decide (x = y)) := by
  unfold m_slices_Equal_impl_ShardRedex_impl_ShardRedex
  refine eqWhole (t := ()) hl hf rfl (fun i a b hi ha hb => ?_) (by simp [m_slices_Equal_impl_ShardRedex_impl_ShardRedex_b1])
  simp only [m_slices_Equal_impl_ShardRedex_impl_ShardRedex_b1, idx_at ha, idx_at hb, Option.bind_some, lt_t (show (i : Int) < x.length by omega), if_true, D.Address.eqb, D.ShardRedex.eqb]
  by_cases h : a = b <;> simp [h]

theorem SameCell_eq {x y : D.ShardCell} (hw : x.wf) : m_spec_l27SameCell fuel x y = some (decide (x = y)) := by
  obtain ⟨_, _, _, hd, ha, _⟩ := hw
  simp only [m_spec_l27SameCell, l00Same_eq hf hd.1, SameAddresses_eq hf ha.1, Option.bind_some]
  cases x; cases y
  simp only [D.ShardCell.mk.injEq]
  repeat' split
  all_goals simp_all
theorem sameShardCell_eq {x y : D.ShardCell} (hw : x.wf) : m_impl_sameShardCell fuel x y = some (decide (x = y)) := SameCell_eq hf hw

theorem EqualFunc_ShardCell_eq {x y : List D.ShardCell} (hw : WfL D.ShardCell.wf x) : m_slices_EqualFunc_impl_ShardCell_impl_ShardCell_impl_ShardCell_impl_ShardCell fuel x y (fun y0 y1 => m_impl_sameShardCell fuel y0 y1) = some (decide (x = y)) := by
  unfold m_slices_EqualFunc_impl_ShardCell_impl_ShardCell_impl_ShardCell_impl_ShardCell
  refine eqWhole (t := ()) hw.1 hf rfl (fun i a b hi ha hb => ?_) (by simp [m_slices_EqualFunc_impl_ShardCell_impl_ShardCell_impl_ShardCell_impl_ShardCell_b1])
  simp only [m_slices_EqualFunc_impl_ShardCell_impl_ShardCell_impl_ShardCell_impl_ShardCell_b1, idx_at ha, idx_at hb, Option.bind_some, lt_t (show (i : Int) < x.length by omega), if_true, sameShardCell_eq hf (hw.2 a (List.mem_of_getElem? ha))]
  by_cases h : a = b <;> simp [h]

theorem impl_SameShard_eq {x y : D.Shard} (hw : x.wf) : m_impl_SameShard fuel x y = some (decide (x = y)) := by
  have hw' := hw
  obtain ⟨h1, h2, h3, _⟩ := hw'
  simp only [m_impl_SameShard, EqualFunc_ShardCell_eq hf h1, Equal_ShardVar_eq hf h2.1, Equal_ShardRedex_eq hf h3.1, Option.bind_some]
  cases x; cases y
  simp only [D.Shard.mk.injEq]
  repeat' split
  all_goals simp_all

theorem SameShard_eq {x y : D.Shard} (hw : x.wf) : m_spec_SameShard fuel x y = some (decide (x = y)) := by
  have hw' := hw
  obtain ⟨h1, h2, h3, _⟩ := hw'
  have e3 : x.Redexes.length = y.Redexes.length → m_spec_SameShard_j3 fuel x y () = some (decide (x.Redexes = y.Redexes)) := fun he => by
    unfold m_spec_SameShard_j3
    rw [eqThen (t := ()) (v := false) h3.1 hf he (fun i a b hi ha hb => by
      simp only [m_spec_SameShard_b3, idx_at ha, idx_at hb, Option.bind_some, lt_t (show (i : Int) < x.Redexes.length by omega), if_true, D.Address.eqb, D.ShardRedex.eqb]
      by_cases h : a = b <;> simp [h]) (by simp [m_spec_SameShard_b3])]
    by_cases h : x.Redexes = y.Redexes <;> simp [h, m_spec_SameShard_j4]
  have e2 : x.Vars.length = y.Vars.length → m_spec_SameShard_j2 fuel x y () = if x.Vars = y.Vars then m_spec_SameShard_j3 fuel x y () else some false := fun he => by
    unfold m_spec_SameShard_j2
    exact eqThen (t := ()) h2.1 hf he (fun i a b hi ha hb => by
      simp only [m_spec_SameShard_b2, idx_at ha, idx_at hb, Option.bind_some, lt_t (show (i : Int) < x.Vars.length by omega), if_true, D.Address.eqb, D.ShardVar.eqb]
      by_cases h : a = b <;> simp [h]) (by simp [m_spec_SameShard_b2])
  have e1 : x.Cells.length = y.Cells.length → m_spec_SameShard_j1 fuel x y false = if x.Cells = y.Cells then m_spec_SameShard_j2 fuel x y () else some false := fun he => by
    unfold m_spec_SameShard_j1
    rw [if_neg Bool.false_ne_true]
    exact eqThen (t := ()) h1.1 hf he (fun i a b hi ha hb => by
      simp only [m_spec_SameShard_b1, idx_at ha, idx_at hb, Option.bind_some, lt_t (show (i : Int) < x.Cells.length by omega), if_true, SameCell_eq hf (h1.2 a (List.mem_of_getElem? ha))]
      by_cases h : a = b <;> simp [h]) (by simp [m_spec_SameShard_b1])
  have et : m_spec_SameShard_j1 fuel x y true = some false := rfl
  unfold m_spec_SameShard
  have key : (x = y) ↔ (x.Cells = y.Cells ∧ x.Vars = y.Vars ∧ x.Redexes = y.Redexes) := by cases x; cases y; simp
  by_cases c1 : x.Cells.length = y.Cells.length
  · by_cases c2 : x.Vars.length = y.Vars.length
    · by_cases c3 : x.Redexes.length = y.Redexes.length
      · simp only [c1, c2, c3, bne_self_eq_false, Bool.false_eq_true, if_false, e1 c1, e2 c2, e3 c3, key]
        by_cases d1 : x.Cells = y.Cells <;> by_cases d2 : x.Vars = y.Vars <;> simp [d1, d2]
      · rw [decide_eq_false (fun h => c3 (by rw [h]))]
        have hb : ((x.Redexes.length : Int) != (y.Redexes.length : Int)) = true := by simp; omega
        simp [c1, c2, hb, et]
    · rw [decide_eq_false (fun h => c2 (by rw [h]))]
      simp [c1, show ¬ (x.Vars.length : Int) = y.Vars.length by omega, et, c2]
  · rw [decide_eq_false (fun h => c1 (by rw [h]))]
    simp [show ¬ (x.Cells.length : Int) = y.Cells.length by omega, et, c1]

theorem EqualFunc_Shard_eq {x y : List D.Shard} (hw : WfL D.Shard.wf x) : m_slices_EqualFunc_impl_Shard_impl_Shard_impl_Shard_impl_Shard fuel x y (fun y0 y1 => m_impl_SameShard fuel y0 y1) = some (decide (x = y)) := by
  unfold m_slices_EqualFunc_impl_Shard_impl_Shard_impl_Shard_impl_Shard
  refine eqWhole (t := ()) hw.1 hf rfl (fun i a b hi ha hb => ?_) (by simp [m_slices_EqualFunc_impl_Shard_impl_Shard_impl_Shard_impl_Shard_b1])
  simp only [m_slices_EqualFunc_impl_Shard_impl_Shard_impl_Shard_impl_Shard_b1, idx_at ha, idx_at hb, Option.bind_some, lt_t (show (i : Int) < x.length by omega), if_true, impl_SameShard_eq hf (hw.2 a (List.mem_of_getElem? ha))]
  by_cases h : a = b <;> simp [h]

theorem impl_SameGrid_eq {x y : D.Grid} (hw : x.wf) : m_impl_SameGrid fuel x y = some (decide (x = y)) := by
  have hw' := hw
  obtain ⟨h1, h2, _⟩ := hw'
  first
  | simp only [m_impl_SameGrid, EqualFunc_Shard_eq hf h1, D.Address.eqb, Option.bind_some]
  | simp only [m_impl_SameGrid, EqualFunc_Shard_eq hf h2, D.Address.eqb, Option.bind_some]
  cases x; cases y
  simp only [D.Grid.mk.injEq]
  repeat' split
  all_goals simp_all

theorem shards_then {x y : List D.Shard} {j : Unit → Option Bool} {body : Int → Option (Rd Int Unit Bool)} (hw : WfL D.Shard.wf x) (he : x.length = y.length)
    (hb : ∀ (i : Nat), body i = if decide ((i : Int) < x.length) = true then ((idx x i).bind fun a => ((idx y i).bind fun b => ((m_spec_SameShard fuel a b).bind fun r => (if (!r) = true then some (.ret false) else some (.next (w64 (i + 1))))))) else some (.brk ())) :
    ((iter body fuel 0).bind fun o => aft o j) = if x = y then j () else some false :=
  eqThen (t := ()) hw.1 hf he (fun i a b hi ha hb' => by
    simp only [hb, idx_at ha, idx_at hb', Option.bind_some, lt_t (show (i : Int) < x.length by omega), if_true, SameShard_eq hf (hw.2 a (List.mem_of_getElem? ha))]
    by_cases h : a = b <;> simp [h]) (by simp [hb])

theorem SameGrid_eq {x y : D.Grid} (hw : x.wf) : m_spec_SameGrid fuel x y = some (decide (x = y)) := by
  have hw' := hw
  obtain ⟨h1, h2, _⟩ := hw'
  have hs : WfL D.Shard.wf x.Shards := by first | exact h1 | exact h2
  have e1 : x.Shards.length = y.Shards.length → m_spec_SameGrid_j1 fuel x y false = if x.Shards = y.Shards then some true else some false := fun he => by
    unfold m_spec_SameGrid_j1
    rw [if_neg Bool.false_ne_true]
    exact shards_then hf (j := m_spec_SameGrid_j2 fuel) hs he (fun i => rfl)
  have et : m_spec_SameGrid_j1 fuel x y true = some false := rfl
  have key : (x = y) ↔ (x.Root = y.Root ∧ x.Shards = y.Shards) := by cases x; cases y; simp [and_comm]
  simp only [m_spec_SameGrid, D.Address.eqb]
  by_cases c1 : x.Root = y.Root
  · by_cases c2 : x.Shards.length = y.Shards.length
    · simp only [c1, c2, decide_true, Bool.not_true, Bool.false_eq_true, if_false, bne_self_eq_false, e1 c2, key, true_and]
      by_cases d : x.Shards = y.Shards <;> simp [d]
    · rw [decide_eq_false (show ¬ x = y from fun h => c2 (by rw [h]))]
      have hb : ((x.Shards.length : Int) != (y.Shards.length : Int)) = true := by simp; omega
      simp [c1, hb, et]
  · rw [decide_eq_false (show ¬ x = y from fun h => c1 (by rw [h]))]
    simp [c1, et]

theorem SameParcel_eq {x y : D.Parcel} (hw : x.wf) : m_spec_l29SameParcel fuel x y = some (decide (x = y)) := by
  have hc : x.Cell.wf := by obtain ⟨h1, h2, h3, h4, _⟩ := hw; first | exact h1 | exact h2 | exact h3 | exact h4
  have e := SameCell_eq hf (y := y.Cell) hc
  have e' : m_spec_l27SameCell fuel ⟨x.Cell.Kind, x.Cell.Level, x.Cell.Value, x.Cell.Data, x.Cell.Aux⟩ ⟨y.Cell.Kind, y.Cell.Level, y.Cell.Value, y.Cell.Data, y.Cell.Aux⟩ = some (decide (x.Cell = y.Cell)) := e
  simp only [m_spec_l29SameParcel, e', D.Address.eqb, Option.bind_some]
  cases x; cases y
  simp only [D.Parcel.mk.injEq]
  repeat' split
  all_goals simp_all
theorem impl_sameParcel_eq {x y : D.Parcel} (hw : x.wf) : m_impl_sameParcel fuel x y = some (decide (x = y)) := by
  have hc : x.Cell.wf := by obtain ⟨h1, h2, h3, h4, _⟩ := hw; first | exact h1 | exact h2 | exact h3 | exact h4
  simp only [m_impl_sameParcel, sameShardCell_eq hf hc, D.Address.eqb, Option.bind_some]
  cases x; cases y
  simp only [D.Parcel.mk.injEq]
  repeat' split
  all_goals simp_all

theorem EqualFunc_Parcel_eq {x y : List D.Parcel} (hw : WfL D.Parcel.wf x) : m_slices_EqualFunc_impl_Parcel_impl_Parcel_impl_Parcel_impl_Parcel_n151 fuel x y (fun y0 y1 => m_impl_sameParcel fuel y0 y1) = some (decide (x = y)) := by
  unfold m_slices_EqualFunc_impl_Parcel_impl_Parcel_impl_Parcel_impl_Parcel_n151
  refine eqWhole (t := ()) hw.1 hf rfl (fun i a b hi ha hb => ?_) (by simp [m_slices_EqualFunc_impl_Parcel_impl_Parcel_impl_Parcel_impl_Parcel_n151_b1])
  simp only [m_slices_EqualFunc_impl_Parcel_impl_Parcel_impl_Parcel_impl_Parcel_n151_b1, idx_at ha, idx_at hb, Option.bind_some, lt_t (show (i : Int) < x.length by omega), if_true, impl_sameParcel_eq hf (hw.2 a (List.mem_of_getElem? ha))]
  by_cases h : a = b <;> simp [h]

theorem sameParcels_eq {x y : List D.Parcel} (hw : WfL D.Parcel.wf x) : m_impl_sameParcels fuel x y = some (decide (x = y)) := by
  simp only [m_impl_sameParcels, EqualFunc_Parcel_eq hf hw, Option.bind_some]

theorem EqualFunc_Parcels_eq {x y : List (List D.Parcel)} (hw : WfL (WfL D.Parcel.wf) x) : m_slices_EqualFunc_impl_Parcel_impl_Parcel_impl_Parcel_impl_Parcel fuel x y (fun y0 y1 => m_impl_sameParcels fuel y0 y1) = some (decide (x = y)) := by
  unfold m_slices_EqualFunc_impl_Parcel_impl_Parcel_impl_Parcel_impl_Parcel
  refine eqWhole (t := ()) hw.1 hf rfl (fun i a b hi ha hb => ?_) (by simp [m_slices_EqualFunc_impl_Parcel_impl_Parcel_impl_Parcel_impl_Parcel_b1])
  simp only [m_slices_EqualFunc_impl_Parcel_impl_Parcel_impl_Parcel_impl_Parcel_b1, idx_at ha, idx_at hb, Option.bind_some, lt_t (show (i : Int) < x.length by omega), if_true, sameParcels_eq hf (hw.2 a (List.mem_of_getElem? ha))]
  by_cases h : a = b <;> simp [h]

theorem EqualFunc_ints_eq {x y : List (List Int)} (hw : WfL (WfL I64) x) : m_slices_EqualFunc_int64_int64_int64_int64 fuel x y (fun y0 y1 => m_slices_Equal_int64_int64 fuel y0 y1) = some (decide (x = y)) := by
  unfold m_slices_EqualFunc_int64_int64_int64_int64
  refine eqWhole (t := ()) hw.1 hf rfl (fun i a b hi ha hb => ?_) (by simp [m_slices_EqualFunc_int64_int64_int64_int64_b1])
  simp only [m_slices_EqualFunc_int64_int64_int64_int64_b1, idx_at ha, idx_at hb, Option.bind_some, lt_t (show (i : Int) < x.length by omega), if_true, Equal_int64_eq hf (hw.2 a (List.mem_of_getElem? ha)).1]
  by_cases h : a = b <;> simp [h]

theorem SameLists_eq {x y : List (List Int)} (hw : WfL (WfL I64) x) : m_spec_l29SameLists fuel x y = some (decide (x = y)) := by
  unfold m_spec_l29SameLists
  refine eqWhole (t := ()) hw.1 hf rfl (fun i a b hi ha hb => ?_) (by simp [m_spec_l29SameLists_b1])
  simp only [m_spec_l29SameLists_b1, idx_at ha, idx_at hb, Option.bind_some, lt_t (show (i : Int) < x.length by omega), if_true, l00Same_eq hf (hw.2 a (List.mem_of_getElem? ha)).1]
  by_cases h : a = b <;> simp [h]

theorem SameChannels_eq {x y : List (List D.Parcel)} (hw : WfL (WfL D.Parcel.wf) x) : m_spec_l29SameChannels fuel x y = some (decide (x = y)) := by
  unfold m_spec_l29SameChannels
  refine eqWhole (t := ()) hw.1 hf rfl (fun i a b hi ha hb => ?_) (by simp [m_spec_l29SameChannels_b1])
  have hwa := hw.2 a (List.mem_of_getElem? ha)
  simp only [m_spec_l29SameChannels_b1, idx_at ha, idx_at hb, Option.bind_some, lt_t (show (i : Int) < x.length by omega), if_true]
  by_cases he : a.length = b.length
  · rw [if_neg (by simp [he]), eqThen (t := ()) (xs := a) (ys := b) (v := Rd.ret false) hwa.1 hf he (fun k p q hk hp hq => by
      simp only [m_spec_l29SameChannels_b2, idx_at ha, idx_at hb, idx_at hp, idx_at hq, Option.bind_some, lt_t (show (k : Int) < a.length by omega), if_true, SameParcel_eq hf (hwa.2 p (List.mem_of_getElem? hp))]
      by_cases h : p = q <;> simp [h]) (by simp [m_spec_l29SameChannels_b2, idx_at ha])]
    rfl
  · rw [if_pos (by simp; omega), if_neg (fun h => he (by rw [h]))]

theorem SameCluster_eq {x y : D.Cluster} (hw : x.wf) : m_spec_SameCluster fuel x y = some (decide (x = y)) := by
  obtain ⟨h1, h2, h3, h4, h5, _⟩ := hw
  simp only [m_spec_SameCluster, SameGrid_eq hf h1, SameChannels_eq hf h2, SameLists_eq hf h3, l00Same_eq hf h4.1, l00Same_eq hf h5.1, Option.bind_some]
  cases x; cases y
  simp only [D.Cluster.mk.injEq]
  repeat' split
  all_goals simp_all
theorem impl_SameCluster_eq {x y : D.Cluster} (hw : x.wf) : m_impl_SameCluster fuel x y = some (decide (x = y)) := by
  obtain ⟨h1, h2, h3, h4, h5, _⟩ := hw
  simp only [m_impl_SameCluster, impl_SameGrid_eq hf h1, EqualFunc_Parcels_eq hf h2, EqualFunc_ints_eq hf h3, Equal_int64_eq hf h4.1, Equal_int64_eq hf h5.1, Option.bind_some]
  cases x; cases y
  simp only [D.Cluster.mk.injEq]
  repeat' split
  all_goals simp_all

theorem SameDetector_eq {x y : D.Detector} (hw : x.wf) : m_spec_SameDetector fuel x y = some (decide (x = y)) := by
  obtain ⟨h1, _, _, _, h2, _⟩ := hw
  simp only [m_spec_SameDetector, SameCluster_eq hf h1, SameBools_eq hf h2.1, Option.bind_some]
  cases x; cases y
  simp only [D.Detector.mk.injEq]
  repeat' split
  all_goals (try rw [Option.some.injEq, Bool.eq_iff_iff]) <;> simp_all
theorem impl_SameDetector_eq {x y : D.Detector} (hw : x.wf) : m_impl_SameDetector fuel x y = some (decide (x = y)) := by
  obtain ⟨h1, _, _, _, h2, _⟩ := hw
  simp only [m_impl_SameDetector, impl_SameCluster_eq hf h1, Equal_bool_eq hf h2.1, Option.bind_some]
  cases x; cases y
  simp only [D.Detector.mk.injEq]
  repeat' split
  all_goals (try rw [Option.some.injEq, Bool.eq_iff_iff]) <;> simp_all

theorem SameShot_eq {x y : D.Shot} (hw : x.wf) : m_spec_l30SameShot fuel x y = some (decide (x = y)) := by
  obtain ⟨h1, h2, h3, h4, h5, _⟩ := hw
  have ej : m_spec_l30SameShot_j1 fuel x y () = some (decide (x.Taken = y.Taken ∧ x.Counts = y.Counts ∧ x.Recording = y.Recording ∧ x.Saved = y.Saved)) := by
    simp only [m_spec_l30SameShot_j1, SameBools_eq hf h1.1, SameLists_eq hf h3, SameBools_eq hf h4.1, SameChannels_eq hf h5, Option.bind_some]
    repeat' split
    all_goals simp_all
  have key : (x = y) ↔ (x.Shards = y.Shards ∧ x.Taken = y.Taken ∧ x.Counts = y.Counts ∧ x.Recording = y.Recording ∧ x.Saved = y.Saved) := by
    cases x; cases y; simp; constructor
    · rintro ⟨a, b, c⟩; exact ⟨b, a, c⟩
    · rintro ⟨a, b, c⟩; exact ⟨b, a, c⟩
  unfold m_spec_l30SameShot
  by_cases he : x.Shards.length = y.Shards.length
  · rw [if_neg (by simp [he]), shards_then hf (j := m_spec_l30SameShot_j1 fuel x y) h2 he (fun i => rfl), ej]
    by_cases h : x.Shards = y.Shards <;> simp [key, h]
  · rw [if_pos (by simp; omega), decide_eq_false (show ¬ x = y from fun h => he (by rw [h]))]
theorem sameShot_eq {x y : D.Shot} (hw : x.wf) : m_impl_sameShot fuel x y = some (decide (x = y)) := by
  obtain ⟨h1, h2, h3, h4, h5, _⟩ := hw
  simp only [m_impl_sameShot, Equal_bool_eq hf h1.1, EqualFunc_Shard_eq hf h2, EqualFunc_ints_eq hf h3, Equal_bool_eq hf h4.1, EqualFunc_Parcels_eq hf h5, Option.bind_some]
  cases x; cases y
  simp only [D.Shot.mk.injEq]
  repeat' split
  all_goals simp_all

theorem SameWatched_eq {x y : D.Watched} (hw : x.wf) : m_spec_SameWatched fuel x y = some (decide (x = y)) := by
  obtain ⟨h1, h2, _⟩ := hw
  have e := SameShot_eq hf (y := y.Shot) h2
  have e' : m_spec_l30SameShot fuel ⟨x.Shot.Taken, x.Shot.Shards, x.Shot.Counts, x.Shot.Recording, x.Shot.Saved⟩ ⟨y.Shot.Taken, y.Shot.Shards, y.Shot.Counts, y.Shot.Recording, y.Shot.Saved⟩ = some (decide (x.Shot = y.Shot)) := e
  simp only [m_spec_SameWatched, SameCluster_eq hf h1, e', Option.bind_some]
  cases x; cases y
  simp only [D.Watched.mk.injEq]
  repeat' split
  all_goals simp_all
theorem impl_SameWatched_eq {x y : D.Watched} (hw : x.wf) : m_impl_SameWatched fuel x y = some (decide (x = y)) := by
  obtain ⟨h1, h2, _⟩ := hw
  simp only [m_impl_SameWatched, impl_SameCluster_eq hf h1, sameShot_eq hf h2, Option.bind_some]
  cases x; cases y
  simp only [D.Watched.mk.injEq]
  repeat' split
  all_goals simp_all

theorem same_SameShard {x y : D.Shard} (hw : x.wf) (hv : y.wf) (hs : x.sz ≤ 1048576) (hz : y.sz ≤ 1048576) : ∃ r, m_spec_SameShard fuel x y = some r ∧ m_impl_SameShard fuel x y = some r := ⟨_, SameShard_eq hf hw, impl_SameShard_eq hf hw⟩
theorem same_SameGrid {x y : D.Grid} (hw : x.wf) (hv : y.wf) (hs : x.sz ≤ 1048576) (hz : y.sz ≤ 1048576) : ∃ r, m_spec_SameGrid fuel x y = some r ∧ m_impl_SameGrid fuel x y = some r := ⟨_, SameGrid_eq hf hw, impl_SameGrid_eq hf hw⟩
theorem same_SameCluster {x y : D.Cluster} (hw : x.wf) (hv : y.wf) (hs : x.sz ≤ 1048576) (hz : y.sz ≤ 1048576) : ∃ r, m_spec_SameCluster fuel x y = some r ∧ m_impl_SameCluster fuel x y = some r := ⟨_, SameCluster_eq hf hw, impl_SameCluster_eq hf hw⟩
theorem same_SameDetector {x y : D.Detector} (hw : x.wf) (hv : y.wf) (hs : x.sz ≤ 1048576) (hz : y.sz ≤ 1048576) : ∃ r, m_spec_SameDetector fuel x y = some r ∧ m_impl_SameDetector fuel x y = some r := ⟨_, SameDetector_eq hf hw, impl_SameDetector_eq hf hw⟩
theorem same_SameWatched {x y : D.Watched} (hw : x.wf) (hv : y.wf) (hs : x.sz ≤ 1048576) (hz : y.sz ≤ 1048576) : ∃ r, m_spec_SameWatched fuel x y = some r ∧ m_impl_SameWatched fuel x y = some r := ⟨_, SameWatched_eq hf hw, impl_SameWatched_eq hf hw⟩
end
theorem lawSameShard {x0 : D.Shard} {x1 : D.Shard} (h0 : D.Shard.wf x0) (h1 : D.Shard.wf x1) : ∃ fuel, m_laws_FnExactSameShard fuel x0 x1 = some true := by
  obtain ⟨fuel, hf⟩ : ∃ n : Nat, 18446744073709551616 ≤ n := ⟨_, Nat.le_refl _⟩
  refine ⟨fuel, ?_⟩
  unfold m_laws_FnExactSameShard
  obtain ⟨r0, e0, s0⟩ := szShard_pure (l := (1048576 : Int)) hf h0 (by decide) (by omega)
  rw [e0, Option.bind_some]
  rcases s0 with s0 | ⟨s0, t0⟩
  · rw [if_pos (by simp [s0])]
  rw [if_neg (by simp [s0])]
  obtain ⟨r1, e1, s1⟩ := szShard_pure (l := r0) hf h1 s0 (by omega)
  rw [e1, Option.bind_some]
  rcases s1 with s1 | ⟨s1, t1⟩
  · rw [if_pos (by simp [s1])]
  rw [if_neg (by simp [s1])]
  have z0 : D.Shard.sz x0 ≤ 1048576 := by omega
  have z1 : D.Shard.sz x1 ≤ 1048576 := by omega
  obtain ⟨q, a0, a1⟩ := same_SameShard hf h0 h1 z0 z1
  simp only [Option.bind_some, a0, a1, toShard_pure hf z0, eqShard_pure hf z0, toShard_pure hf z1, eqShard_pure hf z1]
  simp

theorem lawSameGrid {x0 : D.Grid} {x1 : D.Grid} (h0 : D.Grid.wf x0) (h1 : D.Grid.wf x1) : ∃ fuel, m_laws_FnExactSameGrid fuel x0 x1 = some true := by
  obtain ⟨fuel, hf⟩ : ∃ n : Nat, 18446744073709551616 ≤ n := ⟨_, Nat.le_refl _⟩
  refine ⟨fuel, ?_⟩
  unfold m_laws_FnExactSameGrid
  obtain ⟨r0, e0, s0⟩ := szGrid_pure (l := (1048576 : Int)) hf h0 (by decide) (by omega)
  rw [e0, Option.bind_some]
  rcases s0 with s0 | ⟨s0, t0⟩
  · rw [if_pos (by simp [s0])]
  rw [if_neg (by simp [s0])]
  obtain ⟨r1, e1, s1⟩ := szGrid_pure (l := r0) hf h1 s0 (by omega)
  rw [e1, Option.bind_some]
  rcases s1 with s1 | ⟨s1, t1⟩
  · rw [if_pos (by simp [s1])]
  rw [if_neg (by simp [s1])]
  have z0 : D.Grid.sz x0 ≤ 1048576 := by omega
  have z1 : D.Grid.sz x1 ≤ 1048576 := by omega
  obtain ⟨q, a0, a1⟩ := same_SameGrid hf h0 h1 z0 z1
  simp only [Option.bind_some, a0, a1, toGrid_pure hf z0, eqGrid_pure hf z0, toGrid_pure hf z1, eqGrid_pure hf z1]
  simp

theorem lawSameCluster {x0 : D.Cluster} {x1 : D.Cluster} (h0 : D.Cluster.wf x0) (h1 : D.Cluster.wf x1) : ∃ fuel, m_laws_FnExactSameCluster fuel x0 x1 = some true := by
  obtain ⟨fuel, hf⟩ : ∃ n : Nat, 18446744073709551616 ≤ n := ⟨_, Nat.le_refl _⟩
  refine ⟨fuel, ?_⟩
  unfold m_laws_FnExactSameCluster
  obtain ⟨r0, e0, s0⟩ := szCluster_pure (l := (1048576 : Int)) hf h0 (by decide) (by omega)
  rw [e0, Option.bind_some]
  rcases s0 with s0 | ⟨s0, t0⟩
  · rw [if_pos (by simp [s0])]
  rw [if_neg (by simp [s0])]
  obtain ⟨r1, e1, s1⟩ := szCluster_pure (l := r0) hf h1 s0 (by omega)
  rw [e1, Option.bind_some]
  rcases s1 with s1 | ⟨s1, t1⟩
  · rw [if_pos (by simp [s1])]
  rw [if_neg (by simp [s1])]
  have z0 : D.Cluster.sz x0 ≤ 1048576 := by omega
  have z1 : D.Cluster.sz x1 ≤ 1048576 := by omega
  obtain ⟨q, a0, a1⟩ := same_SameCluster hf h0 h1 z0 z1
  simp only [Option.bind_some, a0, a1, toCluster_pure hf z0, eqCluster_pure hf z0, toCluster_pure hf z1, eqCluster_pure hf z1]
  simp

theorem lawSameDetector {x0 : D.Detector} {x1 : D.Detector} (h0 : D.Detector.wf x0) (h1 : D.Detector.wf x1) : ∃ fuel, m_laws_FnExactSameDetector fuel x0 x1 = some true := by
  obtain ⟨fuel, hf⟩ : ∃ n : Nat, 18446744073709551616 ≤ n := ⟨_, Nat.le_refl _⟩
  refine ⟨fuel, ?_⟩
  unfold m_laws_FnExactSameDetector
  obtain ⟨r0, e0, s0⟩ := szDetector_pure (l := (1048576 : Int)) hf h0 (by decide) (by omega)
  rw [e0, Option.bind_some]
  rcases s0 with s0 | ⟨s0, t0⟩
  · rw [if_pos (by simp [s0])]
  rw [if_neg (by simp [s0])]
  obtain ⟨r1, e1, s1⟩ := szDetector_pure (l := r0) hf h1 s0 (by omega)
  rw [e1, Option.bind_some]
  rcases s1 with s1 | ⟨s1, t1⟩
  · rw [if_pos (by simp [s1])]
  rw [if_neg (by simp [s1])]
  have z0 : D.Detector.sz x0 ≤ 1048576 := by omega
  have z1 : D.Detector.sz x1 ≤ 1048576 := by omega
  obtain ⟨q, a0, a1⟩ := same_SameDetector hf h0 h1 z0 z1
  simp only [Option.bind_some, a0, a1, toDetector_pure hf z0, eqDetector_pure hf z0, toDetector_pure hf z1, eqDetector_pure hf z1]
  simp

theorem lawSameWatched {x0 : D.Watched} {x1 : D.Watched} (h0 : D.Watched.wf x0) (h1 : D.Watched.wf x1) : ∃ fuel, m_laws_FnExactSameWatched fuel x0 x1 = some true := by
  obtain ⟨fuel, hf⟩ : ∃ n : Nat, 18446744073709551616 ≤ n := ⟨_, Nat.le_refl _⟩
  refine ⟨fuel, ?_⟩
  unfold m_laws_FnExactSameWatched
  obtain ⟨r0, e0, s0⟩ := szWatched_pure (l := (1048576 : Int)) hf h0 (by decide) (by omega)
  rw [e0, Option.bind_some]
  rcases s0 with s0 | ⟨s0, t0⟩
  · rw [if_pos (by simp [s0])]
  rw [if_neg (by simp [s0])]
  obtain ⟨r1, e1, s1⟩ := szWatched_pure (l := r0) hf h1 s0 (by omega)
  rw [e1, Option.bind_some]
  rcases s1 with s1 | ⟨s1, t1⟩
  · rw [if_pos (by simp [s1])]
  rw [if_neg (by simp [s1])]
  have z0 : D.Watched.sz x0 ≤ 1048576 := by omega
  have z1 : D.Watched.sz x1 ≤ 1048576 := by omega
  obtain ⟨q, a0, a1⟩ := same_SameWatched hf h0 h1 z0 z1
  simp only [Option.bind_some, a0, a1, toWatched_pure hf z0, eqWatched_pure hf z0, toWatched_pure hf z1, eqWatched_pure hf z1]
  simp

end Go.E
