/- What the functions that size, copy and compare give on well formed data (written by program). Conditions: sizes within the law s own bound. -/
import Derived.Test.YtlgkoadccodcaaaPure
import Derived.Test.YtlgkoadccodcaaaFN
import Derived.Test.YtlgkoadccodcaaaFNb
namespace Go.E
open Go.RowKit Go.Proofs
set_option linter.unusedSimpArgs false
set_option linter.unusedVariables false

theorem szStringS_pure {fuel : Nat} {x : (List ByteArray)} {l : Int} (hf : 18446744073709551616 ≤ fuel) (hw : WfL (fun s => s.size ≤ maxLen) x) (h0 : 0 ≤ l) (h1 : l ≤ 1048576) : SzOk (szL ByteArray.size x) l (m_laws_szStringS fuel x l) := by
  unfold m_laws_szStringS
  generalize hz : w64 (l - (x.length : Int)) = z
  refine SzOk.sub2 h0 h1 hw.1 (m := sumL ByteArray.size x) rfl hz fun g0 g1 => ?_
  refine SzOk.loop hw.1 hf g0 (by omega) (fun _ => rfl) ?_ ?_
  · intro i y l hy h0 h1
    have hi := (List.getElem?_eq_some_iff.1 hy).1
    have hwy := hw.2 y (List.mem_of_getElem? hy)
    simp only [m_laws_szStringS_b1, idx_at hy, Option.bind_some, lt_t (show (i : Int) < x.length by omega), if_true]
    have hm : maxLen = 9223372036854775807 := rfl
    have hwz : y.size ≤ maxLen := hwy
    rw [i64_small (show -9223372036854775808 ≤ l - (y.size : Int) by omega) (by omega)]
    by_cases hlt : l - (y.size : Int) < 0
    · exact .inl (by rw [if_pos (by simpa using hlt)])
    · exact .inr ⟨_, by rw [if_neg (by simpa using hlt)], by omega, by omega⟩
  · intro l
    simp [m_laws_szStringS_b1]

theorem toStringS_pure {fuel : Nat} {x : (List ByteArray)} (hf : 18446744073709551616 ≤ fuel) (hs : szL ByteArray.size x ≤ 1048576) : m_laws_toStringS fuel x = some x := by
  have hl := szL_len hs
  unfold m_laws_toStringS
  refine copy_loop hl hf (fun _ => rfl) ?_ ?_
  · intro i y out hy hl2
    have hi := (List.getElem?_eq_some_iff.1 hy).1
    have hsy : y.size ≤ 1048576 := szL_mem hs (List.mem_of_getElem? hy)
    simp only [m_laws_toStringS_b1, idx_at hy, Option.bind_some, lt_t (show (i : Int) < x.length by omega), if_true]
    rw [if_pos (by simp; omega)]
    simp
  · intro out
    simp [m_laws_toStringS_b1]

theorem eqStringS_pure {fuel : Nat} {x : (List ByteArray)} (hf : 18446744073709551616 ≤ fuel) (hs : szL ByteArray.size x ≤ 1048576) : m_laws_eqStringS fuel x x = some true := by
  have hl := szL_len hs
  unfold m_laws_eqStringS
  rw [if_neg (by simp)]
  refine count_loop (n := x.length) (t := ()) (by unfold maxLen; omega) hf rfl ?_ ?_
  · intro i hi
    obtain ⟨y, hy⟩ := at_lt hi
    have hsy : y.size ≤ 1048576 := szL_mem hs (List.mem_of_getElem? hy)
    simp [m_laws_eqStringS_b1, idx_at hy, hi, seqb_refl]
  · simp [m_laws_eqStringS_b1]

def D.Packet.wf (x : D.Packet) : Prop := True ∧ I64 x.Number ∧ x.Text.size ≤ maxLen ∧ True
def D.Packet.sz (x : D.Packet) : Nat := x.Text.size + (0)
theorem eqPacket_pure {fuel : Nat} {x : D.Packet} (hf : 18446744073709551616 ≤ fuel) (hs : D.Packet.sz x ≤ 1048576) : m_laws_eqPacket fuel x x = some true := by
  unfold D.Packet.sz at hs
  simp [m_laws_eqPacket, seqb_refl]

theorem eqPacketS_pure {fuel : Nat} {x : (List D.Packet)} (hf : 18446744073709551616 ≤ fuel) (hs : szL D.Packet.sz x ≤ 1048576) : m_laws_eqPacketS fuel x x = some true := by
  have hl := szL_len hs
  unfold m_laws_eqPacketS
  rw [if_neg (by simp)]
  refine count_loop (n := x.length) (t := ()) (by unfold maxLen; omega) hf rfl ?_ ?_
  · intro i hi
    obtain ⟨y, hy⟩ := at_lt hi
    have hsy : D.Packet.sz y ≤ 1048576 := szL_mem hs (List.mem_of_getElem? hy)
    simp [m_laws_eqPacketS_b1, idx_at hy, hi, seqb_refl, eqPacket_pure hf hsy]
  · simp [m_laws_eqPacketS_b1]

def D.Channel.wf (x : D.Channel) : Prop := I64 x.Window ∧ WfL (fun s => s.size ≤ maxLen) x.Messages ∧ I64 x.Base ∧ I64 x.Next ∧ I64 x.Expected ∧ WfL D.Packet.wf x.Early ∧ WfL (fun s => s.size ≤ maxLen) x.Delivered ∧ WfL D.Packet.wf x.Flight ∧ True
def D.Channel.sz (x : D.Channel) : Nat := szL ByteArray.size x.Messages + (szL D.Packet.sz x.Early + (szL ByteArray.size x.Delivered + (szL D.Packet.sz x.Flight + (0))))
theorem eqChannel_pure {fuel : Nat} {x : D.Channel} (hf : 18446744073709551616 ≤ fuel) (hs : D.Channel.sz x ≤ 1048576) : m_laws_eqChannel fuel x x = some true := by
  unfold D.Channel.sz at hs
  simp [m_laws_eqChannel, seqb_refl, eqStringS_pure hf (show szL ByteArray.size x.Messages ≤ 1048576 by omega), eqPacketS_pure hf (show szL D.Packet.sz x.Early ≤ 1048576 by omega), eqStringS_pure hf (show szL ByteArray.size x.Delivered ≤ 1048576 by omega), eqPacketS_pure hf (show szL D.Packet.sz x.Flight ≤ 1048576 by omega)]

theorem opens9 : Opens Try.prog 9 tStr fun s => s.size ≤ maxLen := Opens.str Try.underlying9 (by kernel_rfl)
theorem opens35 : Opens Try.prog 35 ty35 (WfL (fun s => s.size ≤ maxLen)) := Opens.sl Try.underlying35 (by kernel_rfl) opens9
theorem opens2 : Opens Try.prog 2 tInt I64 := Opens.int Try.underlying2 (by kernel_rfl)
end Go.E
