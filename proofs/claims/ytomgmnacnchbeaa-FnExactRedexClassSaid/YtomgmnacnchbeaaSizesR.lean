/- What the functions that size, copy and compare give on well formed data (written by program). Conditions: sizes within the law s own bound. -/
import Derived.Test.YtomgmnacnchbeaaSzDefs
import Derived.Test.YtomgmnacnchbeaaFR
import Derived.Test.YtomgmnacnchbeaaFRb
namespace Go.E
open Go.RowKit Go.Proofs
set_option linter.unusedSimpArgs false
set_option linter.unusedVariables false

theorem toWord_pure {fuel : Nat} {x : D.Word} (hf : 18446744073709551616 ≤ fuel) (hs : 0 ≤ 1048576) : m_laws_toWord fuel x = some x := by
  skip
  unfold m_laws_toWord
  rfl

theorem eqWord_pure {fuel : Nat} {x : D.Word} (hf : 18446744073709551616 ≤ fuel) (hs : 0 ≤ 1048576) : m_laws_eqWord fuel x x = some true := by
  skip
  simp [m_laws_eqWord, seqb_refl]

theorem szInt64S_pure {fuel : Nat} {x : (List Int)} {l : Int} (hf : 18446744073709551616 ≤ fuel) (hw : WfL I64 x) (h0 : 0 ≤ l) (h1 : l ≤ 1048576) : SzOk (x.length) l (m_laws_szInt64S fuel x l) := by
  unfold m_laws_szInt64S
  generalize hz : w64 (l - (x.length : Int)) = z
  exact SzOk.sub2 h0 h1 hw.1 (m := 0) rfl hz fun g0 g1 => SzOk.same g0

theorem toInt64S_pure {fuel : Nat} {x : (List Int)} (hf : 18446744073709551616 ≤ fuel) (hs : x.length ≤ 1048576) : m_laws_toInt64S fuel x = some x := by
  have hl := hs
  unfold m_laws_toInt64S
  refine copy_loop hl hf (fun _ => rfl) ?_ ?_
  · intro i y out hy hl2
    have hi := (List.getElem?_eq_some_iff.1 hy).1
    have hsy : 0 ≤ 1048576 := Nat.zero_le _
    simp only [m_laws_toInt64S_b1, idx_at hy, Option.bind_some, lt_t (show (i : Int) < x.length by omega), if_true]
    rw [if_pos (by simp; omega)]
    simp
  · intro out
    simp [m_laws_toInt64S_b1]

theorem eqInt64S_pure {fuel : Nat} {x : (List Int)} (hf : 18446744073709551616 ≤ fuel) (hs : x.length ≤ 1048576) : m_laws_eqInt64S fuel x x = some true := by
  have hl := hs
  unfold m_laws_eqInt64S
  rw [if_neg (by simp)]
  refine count_loop (n := x.length) (t := ()) (by unfold maxLen; omega) hf rfl ?_ ?_
  · intro i hi
    obtain ⟨y, hy⟩ := at_lt hi
    have hsy : 0 ≤ 1048576 := Nat.zero_le _
    simp [m_laws_eqInt64S_b1, idx_at hy, hi, seqb_refl]
  · simp [m_laws_eqInt64S_b1]

theorem toPair_pure {fuel : Nat} {x : D.Pair} (hf : 18446744073709551616 ≤ fuel) (hs : 0 ≤ 1048576) : m_laws_toPair fuel x = some x := by
  skip
  unfold m_laws_toPair
  rfl

theorem eqPair_pure {fuel : Nat} {x : D.Pair} (hf : 18446744073709551616 ≤ fuel) (hs : 0 ≤ 1048576) : m_laws_eqPair fuel x x = some true := by
  skip
  simp [m_laws_eqPair, seqb_refl]

theorem szPairS_pure {fuel : Nat} {x : (List D.Pair)} {l : Int} (hf : 18446744073709551616 ≤ fuel) (hw : WfL D.Pair.wf x) (h0 : 0 ≤ l) (h1 : l ≤ 1048576) : SzOk (x.length) l (m_laws_szPairS fuel x l) := by
  unfold m_laws_szPairS
  generalize hz : w64 (l - (x.length : Int)) = z
  exact SzOk.sub2 h0 h1 hw.1 (m := 0) rfl hz fun g0 g1 => SzOk.same g0

theorem toPairS_pure {fuel : Nat} {x : (List D.Pair)} (hf : 18446744073709551616 ≤ fuel) (hs : x.length ≤ 1048576) : m_laws_toPairS fuel x = some x := by
  have hl := hs
  unfold m_laws_toPairS
  refine copy_loop hl hf (fun _ => rfl) ?_ ?_
  · intro i y out hy hl2
    have hi := (List.getElem?_eq_some_iff.1 hy).1
    have hsy : 0 ≤ 1048576 := Nat.zero_le _
    simp only [m_laws_toPairS_b1, idx_at hy, Option.bind_some, lt_t (show (i : Int) < x.length by omega), if_true, toPair_pure hf hsy]
    rw [if_pos (by simp; omega)]
    simp
  · intro out
    simp [m_laws_toPairS_b1]

theorem eqPairS_pure {fuel : Nat} {x : (List D.Pair)} (hf : 18446744073709551616 ≤ fuel) (hs : x.length ≤ 1048576) : m_laws_eqPairS fuel x x = some true := by
  have hl := hs
  unfold m_laws_eqPairS
  rw [if_neg (by simp)]
  refine count_loop (n := x.length) (t := ()) (by unfold maxLen; omega) hf rfl ?_ ?_
  · intro i hi
    obtain ⟨y, hy⟩ := at_lt hi
    have hsy : 0 ≤ 1048576 := Nat.zero_le _
    simp [m_laws_eqPairS_b1, idx_at hy, hi, seqb_refl, eqPair_pure hf hsy]
  · simp [m_laws_eqPairS_b1]

theorem szWordS_pure {fuel : Nat} {x : (List D.Word)} {l : Int} (hf : 18446744073709551616 ≤ fuel) (hw : WfL D.Word.wf x) (h0 : 0 ≤ l) (h1 : l ≤ 1048576) : SzOk (x.length) l (m_laws_szWordS fuel x l) := by
  unfold m_laws_szWordS
  generalize hz : w64 (l - (x.length : Int)) = z
  exact SzOk.sub2 h0 h1 hw.1 (m := 0) rfl hz fun g0 g1 => SzOk.same g0

theorem toWordS_pure {fuel : Nat} {x : (List D.Word)} (hf : 18446744073709551616 ≤ fuel) (hs : x.length ≤ 1048576) : m_laws_toWordS fuel x = some x := by
  have hl := hs
  unfold m_laws_toWordS
  refine copy_loop hl hf (fun _ => rfl) ?_ ?_
  · intro i y out hy hl2
    have hi := (List.getElem?_eq_some_iff.1 hy).1
    have hsy : 0 ≤ 1048576 := Nat.zero_le _
    simp only [m_laws_toWordS_b1, idx_at hy, Option.bind_some, lt_t (show (i : Int) < x.length by omega), if_true, toWord_pure hf hsy]
    rw [if_pos (by simp; omega)]
    simp
  · intro out
    simp [m_laws_toWordS_b1]

theorem eqWordS_pure {fuel : Nat} {x : (List D.Word)} (hf : 18446744073709551616 ≤ fuel) (hs : x.length ≤ 1048576) : m_laws_eqWordS fuel x x = some true := by
  have hl := hs
  unfold m_laws_eqWordS
  rw [if_neg (by simp)]
  refine count_loop (n := x.length) (t := ()) (by unfold maxLen; omega) hf rfl ?_ ?_
  · intro i hi
    obtain ⟨y, hy⟩ := at_lt hi
    have hsy : 0 ≤ 1048576 := Nat.zero_le _
    simp [m_laws_eqWordS_b1, idx_at hy, hi, seqb_refl, eqWord_pure hf hsy]
  · simp [m_laws_eqWordS_b1]

theorem szCell_pure {fuel : Nat} {x : D.Cell} {l : Int} (hf : 18446744073709551616 ≤ fuel) (hw : D.Cell.wf x) (h0 : 0 ≤ l) (h1 : l ≤ 1048576) : SzOk (D.Cell.sz x) l (m_laws_szCell fuel x l) := by
  obtain ⟨w0, w1, w2, w3, w4, _⟩ := hw
  unfold m_laws_szCell D.Cell.sz
  refine SzOk.bind (szInt64S_pure hf w3 h0 (by omega)) rfl fun r1 g1a g1b => ?_
  refine SzOk.bind (szWordS_pure hf w4 g1a (by omega)) rfl fun r2 g2a g2b => ?_
  exact SzOk.same g2a

theorem toCell_pure {fuel : Nat} {x : D.Cell} (hf : 18446744073709551616 ≤ fuel) (hs : D.Cell.sz x ≤ 1048576) : m_laws_toCell fuel x = some x := by
  unfold D.Cell.sz at hs
  unfold m_laws_toCell
  simp only [toInt64S_pure hf (show x.Data.length ≤ 1048576 by omega), toWordS_pure hf (show x.Words.length ≤ 1048576 by omega), Option.bind_some]

theorem eqCell_pure {fuel : Nat} {x : D.Cell} (hf : 18446744073709551616 ≤ fuel) (hs : D.Cell.sz x ≤ 1048576) : m_laws_eqCell fuel x x = some true := by
  unfold D.Cell.sz at hs
  simp [m_laws_eqCell, seqb_refl, eqInt64S_pure hf (show x.Data.length ≤ 1048576 by omega), eqWordS_pure hf (show x.Words.length ≤ 1048576 by omega)]

theorem szCellS_pure {fuel : Nat} {x : (List D.Cell)} {l : Int} (hf : 18446744073709551616 ≤ fuel) (hw : WfL D.Cell.wf x) (h0 : 0 ≤ l) (h1 : l ≤ 1048576) : SzOk (szL D.Cell.sz x) l (m_laws_szCellS fuel x l) := by
  unfold m_laws_szCellS
  generalize hz : w64 (l - (x.length : Int)) = z
  refine SzOk.sub2 h0 h1 hw.1 (m := sumL D.Cell.sz x) rfl hz fun g0 g1 => ?_
  refine SzOk.loop hw.1 hf g0 (by omega) (fun _ => rfl) ?_ ?_
  · intro i y l hy h0 h1
    have hi := (List.getElem?_eq_some_iff.1 hy).1
    have hwy := hw.2 y (List.mem_of_getElem? hy)
    obtain ⟨r, h2, h3⟩ := szCell_pure hf hwy h0 h1
    simp only [m_laws_szCellS_b1, idx_at hy, Option.bind_some, lt_t (show (i : Int) < x.length by omega), if_true, h2]
    by_cases hlt : r < 0
    · exact .inl (by simp only [lt_t hlt, if_true])
    · exact .inr ⟨r, by simp only [lt_f hlt, if_false], h3.resolve_left hlt⟩
  · intro l
    simp [m_laws_szCellS_b1]

theorem toCellS_pure {fuel : Nat} {x : (List D.Cell)} (hf : 18446744073709551616 ≤ fuel) (hs : szL D.Cell.sz x ≤ 1048576) : m_laws_toCellS fuel x = some x := by
  have hl := szL_len hs
  unfold m_laws_toCellS
  refine copy_loop hl hf (fun _ => rfl) ?_ ?_
  · intro i y out hy hl2
    have hi := (List.getElem?_eq_some_iff.1 hy).1
    have hsy : D.Cell.sz y ≤ 1048576 := szL_mem hs (List.mem_of_getElem? hy)
    simp only [m_laws_toCellS_b1, idx_at hy, Option.bind_some, lt_t (show (i : Int) < x.length by omega), if_true, toCell_pure hf hsy]
    rw [if_pos (by simp; omega)]
    simp
  · intro out
    simp [m_laws_toCellS_b1]

theorem eqCellS_pure {fuel : Nat} {x : (List D.Cell)} (hf : 18446744073709551616 ≤ fuel) (hs : szL D.Cell.sz x ≤ 1048576) : m_laws_eqCellS fuel x x = some true := by
  have hl := szL_len hs
  unfold m_laws_eqCellS
  rw [if_neg (by simp)]
  refine count_loop (n := x.length) (t := ()) (by unfold maxLen; omega) hf rfl ?_ ?_
  · intro i hi
    obtain ⟨y, hy⟩ := at_lt hi
    have hsy : D.Cell.sz y ≤ 1048576 := szL_mem hs (List.mem_of_getElem? hy)
    simp [m_laws_eqCellS_b1, idx_at hy, hi, seqb_refl, eqCell_pure hf hsy]
  · simp [m_laws_eqCellS_b1]

theorem szMemory_pure {fuel : Nat} {x : D.Memory} {l : Int} (hf : 18446744073709551616 ≤ fuel) (hw : D.Memory.wf x) (h0 : 0 ≤ l) (h1 : l ≤ 1048576) : SzOk (D.Memory.sz x) l (m_laws_szMemory fuel x l) := by
  obtain ⟨w0, w1, w2, w3, _⟩ := hw
  unfold m_laws_szMemory D.Memory.sz
  refine SzOk.bind (szCellS_pure hf w0 h0 (by omega)) rfl fun r1 g1a g1b => ?_
  refine SzOk.bind (szPairS_pure hf w3 g1a (by omega)) rfl fun r2 g2a g2b => ?_
  exact SzOk.same g2a

theorem toMemory_pure {fuel : Nat} {x : D.Memory} (hf : 18446744073709551616 ≤ fuel) (hs : D.Memory.sz x ≤ 1048576) : m_laws_toMemory fuel x = some x := by
  unfold D.Memory.sz at hs
  unfold m_laws_toMemory
  simp only [toCellS_pure hf (show szL D.Cell.sz x.Cells ≤ 1048576 by omega), toWord_pure hf (show 0 ≤ 1048576 by exact Nat.zero_le _), toPairS_pure hf (show x.Redexes.length ≤ 1048576 by omega), Option.bind_some]

theorem eqMemory_pure {fuel : Nat} {x : D.Memory} (hf : 18446744073709551616 ≤ fuel) (hs : D.Memory.sz x ≤ 1048576) : m_laws_eqMemory fuel x x = some true := by
  unfold D.Memory.sz at hs
  simp [m_laws_eqMemory, seqb_refl, eqCellS_pure hf (show szL D.Cell.sz x.Cells ≤ 1048576 by omega), eqWord_pure hf (show 0 ≤ 1048576 by exact Nat.zero_le _), eqPairS_pure hf (show x.Redexes.length ≤ 1048576 by omega)]

theorem opens2 : Opens Try.prog 2 tInt I64 := Opens.int Try.underlying2 (by kernel_rfl)
theorem opens103 : Opens Try.prog 103 ty103 (WfL I64) := Opens.sl Try.underlying103 (by kernel_rfl) opens2
set_option maxRecDepth 100000 in
theorem opens70 : Opens Try.prog 70 ty70 D.Word.wf := Opens.struct (f := fun c : D.Word => (c.Tag, c.At, ())) Try.underlying70 (by kernel_rfl) (OpensF.cons opens2 rfl rfl (OpensF.cons opens2 rfl rfl OpensF.nil)) (fun ⟨a0, a1, _⟩ => ⟨⟨a0, a1⟩, rfl⟩)
theorem opens208 : Opens Try.prog 208 ty208 (WfL D.Word.wf) := Opens.sl Try.underlying208 (by kernel_rfl) opens70
set_option maxRecDepth 100000 in
theorem opens210 : Opens Try.prog 210 ty210 D.Cell.wf := Opens.struct (f := fun c : D.Cell => (c.Kind, c.Level, c.Value, c.Data, c.Words, ())) Try.underlying210 (by kernel_rfl) (OpensF.cons opens2 rfl rfl (OpensF.cons opens2 rfl rfl (OpensF.cons opens2 rfl rfl (OpensF.cons opens103 rfl rfl (OpensF.cons opens208 rfl rfl OpensF.nil))))) (fun ⟨a0, a1, a2, a3, a4, _⟩ => ⟨⟨a0, a1, a2, a3, a4⟩, rfl⟩)
theorem opens68 : Opens Try.prog 68 ty68 (WfL D.Cell.wf) := Opens.sl Try.underlying68 (by kernel_rfl) opens210
set_option maxRecDepth 100000 in
theorem opens216 : Opens Try.prog 216 ty216 D.Pair.wf := Opens.struct (f := fun c : D.Pair => (c.A, c.B, ())) Try.underlying216 (by kernel_rfl) (OpensF.cons opens2 rfl rfl (OpensF.cons opens2 rfl rfl OpensF.nil)) (fun ⟨a0, a1, _⟩ => ⟨⟨a0, a1⟩, rfl⟩)
theorem opens71 : Opens Try.prog 71 ty71 (WfL D.Pair.wf) := Opens.sl Try.underlying71 (by kernel_rfl) opens216
set_option maxRecDepth 100000 in
theorem opens73 : Opens Try.prog 73 ty73 D.Memory.wf := Opens.struct (f := fun c : D.Memory => (c.Cells, c.Free, c.Root, c.Redexes, ())) Try.underlying73 (by kernel_rfl) (OpensF.cons opens68 rfl rfl (OpensF.cons opens2 rfl rfl (OpensF.cons opens70 rfl rfl (OpensF.cons opens71 rfl rfl OpensF.nil)))) (fun ⟨a0, a1, a2, a3, _⟩ => ⟨⟨a0, a1, a2, a3⟩, rfl⟩)
end Go.E
