/- What the functions that size, copy and compare give on well formed data (written by program). Conditions: sizes within the law s own bound. -/
import Derived.Test.YtlgkoadccodcaaaPure
import Derived.Test.YtlgkoadccodcaaaFE
import Derived.Test.YtlgkoadccodcaaaFEb
namespace Go.E
open Go.RowKit Go.Proofs
set_option linter.unusedSimpArgs false
set_option linter.unusedVariables false

theorem szStringS_pure {fuel : Nat} {x : (List ByteArray)} {l : Int} (hf : 18446744073709551616 ≤ fuel) (hw : WfL (fun s => s.size ≤ maxLen) x) (h0 : 0 ≤ l) (h1 : l ≤ 1048576) : SzOk (szL ByteArray.size x) l (m_laws_szStringS fuel x l) := by
  unfold m_laws_szStringS
  generalize hz : w64 (l - (x.length : Int)) = z
  refine SzOk.sub2 h0 h1 hw.1 (m := sumL ByteArray.size x) rfl hz fun g0 g1 => ?_
  refine SzOk.loop hw.1 hf g0 (by omega) (fun _ => rfl) ?_ ?_
  · intro i y l hy h0 h1
    have hi := (List.getElem?_eq_some_iff.1 hy).1
    have hwy := hw.2 y (List.mem_of_getElem? hy)
    simp only [m_laws_szStringS_b1, idx_at hy, Option.bind_some, lt_t (show (i : Int) < x.length by omega), if_true]
    have hm : maxLen = 9223372036854775807 := rfl
    have hwz : y.size ≤ maxLen := hwy
    rw [i64_small (show -9223372036854775808 ≤ l - (y.size : Int) by omega) (by omega)]
    by_cases hlt : l - (y.size : Int) < 0
    · exact .inl (by rw [if_pos (by simpa using hlt)])
    · exact .inr ⟨_, by rw [if_neg (by simpa using hlt)], by omega, by omega⟩
  · intro l
    simp [m_laws_szStringS_b1]

theorem toStringS_pure {fuel : Nat} {x : (List ByteArray)} (hf : 18446744073709551616 ≤ fuel) (hs : szL ByteArray.size x ≤ 1048576) : m_laws_toStringS fuel x = some x := by
  have hl := szL_len hs
  unfold m_laws_toStringS
  refine copy_loop hl hf (fun _ => rfl) ?_ ?_
  · intro i y out hy hl2
    have hi := (List.getElem?_eq_some_iff.1 hy).1
    have hsy : y.size ≤ 1048576 := szL_mem hs (List.mem_of_getElem? hy)
    simp only [m_laws_toStringS_b1, idx_at hy, Option.bind_some, lt_t (show (i : Int) < x.length by omega), if_true]
    rw [if_pos (by simp; omega)]
    simp
  · intro out
    simp [m_laws_toStringS_b1]

theorem eqStringS_pure {fuel : Nat} {x : (List ByteArray)} (hf : 18446744073709551616 ≤ fuel) (hs : szL ByteArray.size x ≤ 1048576) : m_laws_eqStringS fuel x x = some true := by
  have hl := szL_len hs
  unfold m_laws_eqStringS
  rw [if_neg (by simp)]
  refine count_loop (n := x.length) (t := ()) (by unfold maxLen; omega) hf rfl ?_ ?_
  · intro i hi
    obtain ⟨y, hy⟩ := at_lt hi
    have hsy : y.size ≤ 1048576 := szL_mem hs (List.mem_of_getElem? hy)
    simp [m_laws_eqStringS_b1, idx_at hy, hi, seqb_refl]
  · simp [m_laws_eqStringS_b1]

def D.ChannelEvent.wf (x : D.ChannelEvent) : Prop := I64 x.Kind ∧ I64 x.Index ∧ True
def D.ChannelEvent.sz (x : D.ChannelEvent) : Nat := 0
theorem eqChannelEvent_pure {fuel : Nat} {x : D.ChannelEvent} (hf : 18446744073709551616 ≤ fuel) (hs : 0 ≤ 1048576) : m_laws_eqChannelEvent fuel x x = some true := by
  skip
  simp [m_laws_eqChannelEvent, seqb_refl]

def D.Packet.wf (x : D.Packet) : Prop := True ∧ I64 x.Number ∧ x.Text.size ≤ maxLen ∧ True
def D.Packet.sz (x : D.Packet) : Nat := x.Text.size + (0)
theorem eqPacket_pure {fuel : Nat} {x : D.Packet} (hf : 18446744073709551616 ≤ fuel) (hs : D.Packet.sz x ≤ 1048576) : m_laws_eqPacket fuel x x = some true := by
  unfold D.Packet.sz at hs
  simp [m_laws_eqPacket, seqb_refl]

theorem szPacket_pure {fuel : Nat} {x : D.Packet} {l : Int} (hf : 18446744073709551616 ≤ fuel) (hw : D.Packet.wf x) (h0 : 0 ≤ l) (h1 : l ≤ 1048576) : SzOk (D.Packet.sz x) l (m_laws_szPacket fuel x l) := by
  obtain ⟨w0, w1, w2, _⟩ := hw
  unfold m_laws_szPacket D.Packet.sz
  generalize hz1 : w64 (l - (x.Text.size : Int)) = z1
  refine SzOk.sub2 h0 (by omega) w2 rfl hz1 fun g1a g1b => ?_
  exact SzOk.same g1a

theorem toPacket_pure {fuel : Nat} {x : D.Packet} (hf : 18446744073709551616 ≤ fuel) (hs : D.Packet.sz x ≤ 1048576) : m_laws_toPacket fuel x = some x := by
  unfold D.Packet.sz at hs
  unfold m_laws_toPacket
  rfl

theorem eqChannelEventS_pure {fuel : Nat} {x : (List D.ChannelEvent)} (hf : 18446744073709551616 ≤ fuel) (hs : x.length ≤ 1048576) : m_laws_eqChannelEventS fuel x x = some true := by
  have hl := hs
  unfold m_laws_eqChannelEventS
  rw [if_neg (by simp)]
  refine count_loop (n := x.length) (t := ()) (by unfold maxLen; omega) hf rfl ?_ ?_
  · intro i hi
    obtain ⟨y, hy⟩ := at_lt hi
    have hsy : 0 ≤ 1048576 := Nat.zero_le _
    simp [m_laws_eqChannelEventS_b1, idx_at hy, hi, seqb_refl, eqChannelEvent_pure hf hsy]
  · simp [m_laws_eqChannelEventS_b1]

theorem eqPacketS_pure {fuel : Nat} {x : (List D.Packet)} (hf : 18446744073709551616 ≤ fuel) (hs : szL D.Packet.sz x ≤ 1048576) : m_laws_eqPacketS fuel x x = some true := by
  have hl := szL_len hs
  unfold m_laws_eqPacketS
  rw [if_neg (by simp)]
  refine count_loop (n := x.length) (t := ()) (by unfold maxLen; omega) hf rfl ?_ ?_
  · intro i hi
    obtain ⟨y, hy⟩ := at_lt hi
    have hsy : D.Packet.sz y ≤ 1048576 := szL_mem hs (List.mem_of_getElem? hy)
    simp [m_laws_eqPacketS_b1, idx_at hy, hi, seqb_refl, eqPacket_pure hf hsy]
  · simp [m_laws_eqPacketS_b1]

theorem szPacketS_pure {fuel : Nat} {x : (List D.Packet)} {l : Int} (hf : 18446744073709551616 ≤ fuel) (hw : WfL D.Packet.wf x) (h0 : 0 ≤ l) (h1 : l ≤ 1048576) : SzOk (szL D.Packet.sz x) l (m_laws_szPacketS fuel x l) := by
  unfold m_laws_szPacketS
  generalize hz : w64 (l - (x.length : Int)) = z
  refine SzOk.sub2 h0 h1 hw.1 (m := sumL D.Packet.sz x) rfl hz fun g0 g1 => ?_
  refine SzOk.loop hw.1 hf g0 (by omega) (fun _ => rfl) ?_ ?_
  · intro i y l hy h0 h1
    have hi := (List.getElem?_eq_some_iff.1 hy).1
    have hwy := hw.2 y (List.mem_of_getElem? hy)
    obtain ⟨r, h2, h3⟩ := szPacket_pure hf hwy h0 h1
    simp only [m_laws_szPacketS_b1, idx_at hy, Option.bind_some, lt_t (show (i : Int) < x.length by omega), if_true, h2]
    by_cases hlt : r < 0
    · exact .inl (by simp only [lt_t hlt, if_true])
    · exact .inr ⟨r, by simp only [lt_f hlt, if_false], h3.resolve_left hlt⟩
  · intro l
    simp [m_laws_szPacketS_b1]

theorem toPacketS_pure {fuel : Nat} {x : (List D.Packet)} (hf : 18446744073709551616 ≤ fuel) (hs : szL D.Packet.sz x ≤ 1048576) : m_laws_toPacketS fuel x = some x := by
  have hl := szL_len hs
  unfold m_laws_toPacketS
  refine copy_loop hl hf (fun _ => rfl) ?_ ?_
  · intro i y out hy hl2
    have hi := (List.getElem?_eq_some_iff.1 hy).1
    have hsy : D.Packet.sz y ≤ 1048576 := szL_mem hs (List.mem_of_getElem? hy)
    simp only [m_laws_toPacketS_b1, idx_at hy, Option.bind_some, lt_t (show (i : Int) < x.length by omega), if_true, toPacket_pure hf hsy]
    rw [if_pos (by simp; omega)]
    simp
  · intro out
    simp [m_laws_toPacketS_b1]

def D.Channel.wf (x : D.Channel) : Prop := I64 x.Window ∧ WfL (fun s => s.size ≤ maxLen) x.Messages ∧ I64 x.Base ∧ I64 x.Next ∧ I64 x.Expected ∧ WfL D.Packet.wf x.Early ∧ WfL (fun s => s.size ≤ maxLen) x.Delivered ∧ WfL D.Packet.wf x.Flight ∧ True
def D.Channel.sz (x : D.Channel) : Nat := szL ByteArray.size x.Messages + (szL D.Packet.sz x.Early + (szL ByteArray.size x.Delivered + (szL D.Packet.sz x.Flight + (0))))
theorem eqChannel_pure {fuel : Nat} {x : D.Channel} (hf : 18446744073709551616 ≤ fuel) (hs : D.Channel.sz x ≤ 1048576) : m_laws_eqChannel fuel x x = some true := by
  unfold D.Channel.sz at hs
  simp [m_laws_eqChannel, seqb_refl, eqStringS_pure hf (show szL ByteArray.size x.Messages ≤ 1048576 by omega), eqPacketS_pure hf (show szL D.Packet.sz x.Early ≤ 1048576 by omega), eqStringS_pure hf (show szL ByteArray.size x.Delivered ≤ 1048576 by omega), eqPacketS_pure hf (show szL D.Packet.sz x.Flight ≤ 1048576 by omega)]

theorem szChannel_pure {fuel : Nat} {x : D.Channel} {l : Int} (hf : 18446744073709551616 ≤ fuel) (hw : D.Channel.wf x) (h0 : 0 ≤ l) (h1 : l ≤ 1048576) : SzOk (D.Channel.sz x) l (m_laws_szChannel fuel x l) := by
  obtain ⟨w0, w1, w2, w3, w4, w5, w6, w7, _⟩ := hw
  unfold m_laws_szChannel D.Channel.sz
  refine SzOk.bind (szStringS_pure hf w1 h0 (by omega)) rfl fun r1 g1a g1b => ?_
  refine SzOk.bind (szPacketS_pure hf w5 g1a (by omega)) rfl fun r2 g2a g2b => ?_
  refine SzOk.bind (szStringS_pure hf w6 g2a (by omega)) rfl fun r3 g3a g3b => ?_
  refine SzOk.bind (szPacketS_pure hf w7 g3a (by omega)) rfl fun r4 g4a g4b => ?_
  exact SzOk.same g4a

theorem toChannel_pure {fuel : Nat} {x : D.Channel} (hf : 18446744073709551616 ≤ fuel) (hs : D.Channel.sz x ≤ 1048576) : m_laws_toChannel fuel x = some x := by
  unfold D.Channel.sz at hs
  unfold m_laws_toChannel
  simp only [toStringS_pure hf (show szL ByteArray.size x.Messages ≤ 1048576 by omega), toPacketS_pure hf (show szL D.Packet.sz x.Early ≤ 1048576 by omega), toStringS_pure hf (show szL ByteArray.size x.Delivered ≤ 1048576 by omega), toPacketS_pure hf (show szL D.Packet.sz x.Flight ≤ 1048576 by omega), Option.bind_some]

theorem opens2 : Opens Try.prog 2 tInt I64 := Opens.int Try.underlying2 (by kernel_rfl)
theorem opens9 : Opens Try.prog 9 tStr fun s => s.size ≤ maxLen := Opens.str Try.underlying9 (by kernel_rfl)
theorem opens35 : Opens Try.prog 35 ty35 (WfL (fun s => s.size ≤ maxLen)) := Opens.sl Try.underlying35 (by kernel_rfl) opens9
theorem opens4 : Opens Try.prog 4 tBool fun _ => True := Opens.bool Try.underlying4 (by kernel_rfl)
set_option maxRecDepth 100000 in
theorem opens187 : Opens Try.prog 187 ty187 D.Packet.wf := Opens.struct (f := fun c : D.Packet => (c.Ack, c.Number, c.Text, ())) Try.underlying187 (by kernel_rfl) (OpensF.cons opens4 rfl rfl (OpensF.cons opens2 rfl rfl (OpensF.cons opens9 rfl rfl OpensF.nil))) (fun ⟨a0, a1, a2, _⟩ => ⟨⟨a0, a1, a2⟩, rfl⟩)
theorem opens47 : Opens Try.prog 47 ty47 (WfL D.Packet.wf) := Opens.sl Try.underlying47 (by kernel_rfl) opens187
set_option maxRecDepth 100000 in
theorem opens49 : Opens Try.prog 49 ty49 D.Channel.wf := Opens.struct (f := fun c : D.Channel => (c.Window, c.Messages, c.Base, c.Next, c.Expected, c.Early, c.Delivered, c.Flight, ())) Try.underlying49 (by kernel_rfl) (OpensF.cons opens2 rfl rfl (OpensF.cons opens35 rfl rfl (OpensF.cons opens2 rfl rfl (OpensF.cons opens2 rfl rfl (OpensF.cons opens2 rfl rfl (OpensF.cons opens47 rfl rfl (OpensF.cons opens35 rfl rfl (OpensF.cons opens47 rfl rfl OpensF.nil)))))))) (fun ⟨a0, a1, a2, a3, a4, a5, a6, a7, _⟩ => ⟨⟨a0, a1, a2, a3, a4, a5, a6, a7⟩, rfl⟩)
end Go.E
