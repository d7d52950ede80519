/- What the functions that size, copy and compare give on well formed data. Conditions: sizes within the laws own bound. -/
import Derived.Test.YtlepmbkfpfnnfaaPure
import Derived.Test.YtlepmbkfpfnnfaaF1
namespace Go.E
open Go.RowKit Go.Proofs
set_option linter.unusedSimpArgs false
set_option linter.unusedVariables false

def D.Packet.wf (x : D.Packet) : Prop := True ∧ I64 x.Number ∧ x.Text.size ≤ maxLen ∧ True
def D.Channel.wf (x : D.Channel) : Prop := I64 x.Window ∧ WfL (fun s => s.size ≤ maxLen) x.Messages ∧ I64 x.Base ∧ I64 x.Next ∧ I64 x.Expected ∧ WfL D.Packet.wf x.Early ∧ WfL (fun s => s.size ≤ maxLen) x.Delivered ∧ WfL D.Packet.wf x.Flight ∧ True
def D.Packet.sz (x : D.Packet) : Nat := x.Text.size
def D.Channel.sz (x : D.Channel) : Nat := szL ByteArray.size x.Messages + (szL D.Packet.sz x.Early + (szL ByteArray.size x.Delivered + (szL D.Packet.sz x.Flight + 0)))

theorem opens2 : Opens Try.prog 2 tInt I64 := Opens.int Try.underlying2 (by kernel_rfl)
theorem opens4 : Opens Try.prog 4 tBool fun _ => True := Opens.bool Try.underlying4 (by kernel_rfl)
theorem opens9 : Opens Try.prog 9 tStr fun s => s.size ≤ maxLen := Opens.str Try.underlying9 (by kernel_rfl)
theorem opens22 : Opens Try.prog 22 ty22 (WfL fun s => s.size ≤ maxLen) := Opens.sl Try.underlying22 (by kernel_rfl) opens9
set_option maxRecDepth 100000 in
theorem opens97 : Opens Try.prog 97 ty97 D.Packet.wf := Opens.struct (f := fun c : D.Packet => (c.Ack, c.Number, c.Text, ())) Try.underlying97 (by kernel_rfl) (OpensF.cons opens4 rfl rfl (OpensF.cons opens2 rfl rfl (OpensF.cons opens9 rfl rfl OpensF.nil))) (fun ⟨a, b, c, _⟩ => ⟨⟨a, b, c⟩, rfl⟩)
theorem opens23 : Opens Try.prog 23 ty23 (WfL D.Packet.wf) := Opens.sl Try.underlying23 (by kernel_rfl) opens97
set_option maxRecDepth 100000 in
theorem opens25 : Opens Try.prog 25 ty25 D.Channel.wf := Opens.struct (f := fun c : D.Channel => (c.Window, c.Messages, c.Base, c.Next, c.Expected, c.Early, c.Delivered, c.Flight, ())) Try.underlying25 (by kernel_rfl) (OpensF.cons opens2 rfl rfl (OpensF.cons opens22 rfl rfl (OpensF.cons opens2 rfl rfl (OpensF.cons opens2 rfl rfl (OpensF.cons opens2 rfl rfl (OpensF.cons opens23 rfl rfl (OpensF.cons opens22 rfl rfl (OpensF.cons opens23 rfl rfl OpensF.nil)))))))) (fun ⟨a, b, c, d, e, f, g, h, _⟩ => ⟨⟨a, b, c, d, e, f, g, h⟩, rfl⟩)

theorem szStringS_pure {fuel : Nat} {x : List ByteArray} {l : Int} (hf : 18446744073709551616 ≤ fuel) (hw : WfL (fun s => s.size ≤ maxLen) x) (h0 : 0 ≤ l) (h1 : l ≤ 1048576) : SzOk (szL ByteArray.size x) l (m_laws_szStringS fuel x l) := by
  unfold m_laws_szStringS
  refine SzOk.sub h0 h1 hw.1 (m := sumL ByteArray.size x) rfl (f := fun r => (iter (m_laws_szStringS_b1 fuel x) fuel (r, 0)).bind fun o => aft o (m_laws_szStringS_j1 fuel)) fun r g0 g1 => ?_
  refine SzOk.loop hw.1 hf g0 (by omega) (fun _ => rfl) ?_ ?_
  · intro i y l hy h0 h1
    have hi := (List.getElem?_eq_some_iff.1 hy).1
    have hwy := hw.2 y (List.mem_of_getElem? hy)
    simp only [m_laws_szStringS_b1, idx_at hy, Option.bind_some, lt_t (show (i : Int) < x.length by omega), if_true]
    obtain ⟨r, h2, h3⟩ := SzOk.sub (n := y.size) (m := 0) (f := fun r => some r) h0 h1 hwy rfl fun r g0 g1 => SzOk.same g0
    split at h2 <;> rename_i hlt
    · exact .inl (by rw [if_pos hlt])
    · have := Option.some.inj h2
      rw [if_neg hlt]
      refine .inr ⟨r, by rw [this], ?_⟩
      rcases h3 with h3 | h3
      · exact absurd (by simpa [this] using h3) hlt
      · exact h3
  · intro l
    simp [m_laws_szStringS_b1]

theorem szPacket_pure {fuel : Nat} {x : D.Packet} {l : Int} (hf : 18446744073709551616 ≤ fuel) (hw : x.wf) (h0 : 0 ≤ l) (h1 : l ≤ 1048576) : SzOk x.sz l (m_laws_szPacket fuel x l) := by
  obtain ⟨w1, w2, w3, w4⟩ := hw
  unfold m_laws_szPacket D.Packet.sz
  refine SzOk.sub h0 h1 w3 rfl (f := fun r => some r) fun r g0 g1 => SzOk.same g0

theorem szPacketS_pure {fuel : Nat} {x : List D.Packet} {l : Int} (hf : 18446744073709551616 ≤ fuel) (hw : WfL D.Packet.wf x) (h0 : 0 ≤ l) (h1 : l ≤ 1048576) : SzOk (szL D.Packet.sz x) l (m_laws_szPacketS fuel x l) := by
  unfold m_laws_szPacketS
  refine SzOk.sub h0 h1 hw.1 (m := sumL D.Packet.sz x) rfl (f := fun r => (iter (m_laws_szPacketS_b1 fuel x) fuel (r, 0)).bind fun o => aft o (m_laws_szPacketS_j1 fuel)) fun r g0 g1 => ?_
  refine SzOk.loop hw.1 hf g0 (by omega) (fun _ => rfl) ?_ ?_
  · intro i y l hy h0 h1
    have hi := (List.getElem?_eq_some_iff.1 hy).1
    have hwy := hw.2 y (List.mem_of_getElem? hy)
    obtain ⟨r, h2, h3⟩ := szPacket_pure hf hwy h0 h1
    simp only [m_laws_szPacketS_b1, idx_at hy, Option.bind_some, lt_t (show (i : Int) < x.length by omega), if_true, h2]
    by_cases hlt : r < 0
    · exact .inl (by simp only [lt_t hlt, if_true])
    · exact .inr ⟨r, by simp only [lt_f hlt, if_false], h3.resolve_left hlt⟩
  · intro l
    simp [m_laws_szPacketS_b1]

theorem szChannel_pure {fuel : Nat} {x : D.Channel} {l : Int} (hf : 18446744073709551616 ≤ fuel) (hw : x.wf) (h0 : 0 ≤ l) (h1 : l ≤ 1048576) : SzOk x.sz l (m_laws_szChannel fuel x l) := by
  obtain ⟨w1, w2, w3, w4, w5, w6, w7, w8, w9⟩ := hw
  unfold m_laws_szChannel D.Channel.sz
  refine SzOk.bind (szStringS_pure hf w2 h0 h1) rfl fun r g0 g1 => ?_
  refine SzOk.bind (szPacketS_pure hf w6 g0 (by omega)) rfl fun r g0 g1 => ?_
  refine SzOk.bind (szStringS_pure hf w7 g0 (by omega)) rfl fun r g0 g1 => ?_
  refine SzOk.bind (szPacketS_pure hf w8 g0 (by omega)) rfl fun r g0 g1 => ?_
  exact SzOk.same g0

theorem toStringS_pure {fuel : Nat} {x : List ByteArray} (hf : 18446744073709551616 ≤ fuel) (hs : szL ByteArray.size x ≤ 1048576) : m_laws_toStringS fuel x = some x := by
  unfold m_laws_toStringS
  refine copy_loop (szL_len hs) hf (fun _ => rfl) ?_ ?_
  · intro i y out hy hl
    have hi := (List.getElem?_eq_some_iff.1 hy).1
    have hsy := szL_mem hs (List.mem_of_getElem? hy)
    simp only [m_laws_toStringS_b1, idx_at hy, Option.bind_some, lt_t (show (i : Int) < x.length by omega), if_true]
    rw [if_pos (by simp; omega)]
    simp
  · intro out
    simp [m_laws_toStringS_b1]

theorem toPacket_pure {fuel : Nat} {x : D.Packet} (hf : 18446744073709551616 ≤ fuel) (hs : x.sz ≤ 1048576) : m_laws_toPacket fuel x = some x := by
  unfold D.Packet.sz at hs
  unfold m_laws_toPacket
  rfl

theorem toPacketS_pure {fuel : Nat} {x : List D.Packet} (hf : 18446744073709551616 ≤ fuel) (hs : szL D.Packet.sz x ≤ 1048576) : m_laws_toPacketS fuel x = some x := by
  unfold m_laws_toPacketS
  refine copy_loop (szL_len hs) hf (fun _ => rfl) ?_ ?_
  · intro i y out hy hl
    have hi := (List.getElem?_eq_some_iff.1 hy).1
    have hsy := szL_mem hs (List.mem_of_getElem? hy)
    simp only [m_laws_toPacketS_b1, idx_at hy, Option.bind_some, lt_t (show (i : Int) < x.length by omega), if_true, toPacket_pure hf hsy]
    rw [if_pos (by simp; omega)]
    simp
  · intro out
    simp [m_laws_toPacketS_b1]

theorem toChannel_pure {fuel : Nat} {x : D.Channel} (hf : 18446744073709551616 ≤ fuel) (hs : x.sz ≤ 1048576) : m_laws_toChannel fuel x = some x := by
  unfold D.Channel.sz at hs
  unfold m_laws_toChannel
  simp only [toStringS_pure hf (show szL ByteArray.size x.Messages ≤ 1048576 by omega), toPacketS_pure hf (show szL D.Packet.sz x.Early ≤ 1048576 by omega), toStringS_pure hf (show szL ByteArray.size x.Delivered ≤ 1048576 by omega), toPacketS_pure hf (show szL D.Packet.sz x.Flight ≤ 1048576 by omega), Option.bind_some]

theorem eqStringS_pure {fuel : Nat} {x : List ByteArray} (hf : 18446744073709551616 ≤ fuel) (hs : szL ByteArray.size x ≤ 1048576) : m_laws_eqStringS fuel x x = some true := by
  have hl := szL_len hs
  unfold m_laws_eqStringS
  rw [if_neg (by simp)]
  refine count_loop (n := x.length) (t := ()) (by unfold maxLen; omega) hf rfl ?_ ?_
  · intro i hi
    obtain ⟨y, hy⟩ := at_lt hi
    have hsy := szL_mem hs (List.mem_of_getElem? hy)
    simp [m_laws_eqStringS_b1, idx_at hy, hi, seqb_refl]
  · simp [m_laws_eqStringS_b1]

theorem eqPacket_pure {fuel : Nat} {x : D.Packet} (hf : 18446744073709551616 ≤ fuel) (hs : x.sz ≤ 1048576) : m_laws_eqPacket fuel x x = some true := by
  unfold D.Packet.sz at hs
  simp [m_laws_eqPacket, seqb_refl]

theorem eqPacketS_pure {fuel : Nat} {x : List D.Packet} (hf : 18446744073709551616 ≤ fuel) (hs : szL D.Packet.sz x ≤ 1048576) : m_laws_eqPacketS fuel x x = some true := by
  have hl := szL_len hs
  unfold m_laws_eqPacketS
  rw [if_neg (by simp)]
  refine count_loop (n := x.length) (t := ()) (by unfold maxLen; omega) hf rfl ?_ ?_
  · intro i hi
    obtain ⟨y, hy⟩ := at_lt hi
    have hsy := szL_mem hs (List.mem_of_getElem? hy)
    simp [m_laws_eqPacketS_b1, idx_at hy, hi, seqb_refl, eqPacket_pure hf hsy]
  · simp [m_laws_eqPacketS_b1]

theorem eqChannel_pure {fuel : Nat} {x : D.Channel} (hf : 18446744073709551616 ≤ fuel) (hs : x.sz ≤ 1048576) : m_laws_eqChannel fuel x x = some true := by
  unfold D.Channel.sz at hs
  simp [m_laws_eqChannel, seqb_refl, eqStringS_pure hf (show szL ByteArray.size x.Messages ≤ 1048576 by omega), eqPacketS_pure hf (show szL D.Packet.sz x.Early ≤ 1048576 by omega), eqStringS_pure hf (show szL ByteArray.size x.Delivered ≤ 1048576 by omega), eqPacketS_pure hf (show szL D.Packet.sz x.Flight ≤ 1048576 by omega)]
end Go.E
