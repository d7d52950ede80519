/- What the functions that mark data and look for the marks give (written by program). Conditions: counts stay small. -/
import Derived.Test.YtlgkoadccodcaaaMark
import Derived.Test.YtlgkoadccodcaaaSizesE
import Derived.Test.YtlgkoadccodcaaaFE
import Derived.Test.YtlgkoadccodcaaaFEb
namespace Go.E
open Go.RowKit Go.Proofs
set_option linter.unusedSimpArgs false
set_option linter.unusedVariables false

theorem text_loop {fuel0 : Nat} : ∀ (fuel : Nat) (s : Int) (t : ByteArray), 0 ≤ s → s + (t.size : Int) ≤ 2147483648 → s.toNat < fuel → ∃ r : ByteArray, iter (m_laws_markText_b1 fuel0) fuel (s, t) = some (.inl r) ∧ r.size ≤ 2147483648
  | 0, s, t, _, _, h => by omega
  | fuel + 1, s, t, h0, h1, h2 => by
    unfold iter m_laws_markText_b1
    by_cases hs : s > 0
    · have hz : (strOfNums ([IntKind.u8.wrap (w64 (48 + (s.tmod 10)))] : (List Int))).size = 1 := by rw [strOfNums_size]; rfl
      have hd : s.tdiv 10 = s / 10 := Int.tdiv_eq_ediv_of_nonneg h0
      dsimp only
      rw [if_pos (decide_eq_true hs), if_pos (decide_eq_true (by rw [hz]; omega))]
      dsimp only
      rw [i64_small (by rw [hd]; omega) (by rw [hd]; omega)]
      exact text_loop (fuel0 := fuel0) fuel _ _ (by rw [hd]; omega) (by rw [ByteArray.size_append, hz, hd]; omega) (by rw [hd]; omega)
    · dsimp only
      rw [if_neg (by simpa using hs)]
      exact ⟨t, rfl, by omega⟩

/-- the text that a count is marked by -/
def textOf (fuel : Nat) (k : Int) : ByteArray := (m_laws_markText fuel k).getD default
theorem textOf_eq {fuel : Nat} {k : Int} (hf : 18446744073709551616 ≤ fuel) (h0 : 0 ≤ k) (h1 : k ≤ 2147483648) : m_laws_markText fuel k = some (textOf fuel k) := by
  have : ∃ r, m_laws_markText fuel k = some r := by
    unfold m_laws_markText
    by_cases h : k ≤ 0
    · rw [if_pos (decide_eq_true h)]; exact ⟨_, rfl⟩
    · rw [if_neg (by simpa using h)]
      obtain ⟨r, h3, h4⟩ := text_loop (fuel0 := fuel) fuel k ⟨#[]⟩ h0 (by show k + ((0 : Nat) : Int) ≤ _; omega) (by omega)
      rw [h3]
      show ∃ q, m_laws_markText_j1 fuel r = some q
      unfold m_laws_markText_j1
      rw [if_pos (decide_eq_true (by show 1 + r.size ≤ _; omega))]
      exact ⟨_, rfl⟩
  obtain ⟨r, h⟩ := this
  unfold textOf
  rw [h]; rfl


def elStringS (fuel : Nat) (x : ByteArray) (k : Int) : ByteArray := (textOf fuel (k))
def ecStringS (x : ByteArray) : Nat := 1
def mkStringS (fuel : Nat) (xs : List ByteArray) (k : Int) : List ByteArray := markL (elStringS fuel) ecStringS xs k
def ctStringS (xs : List ByteArray) : Nat := sumL ecStringS xs
theorem markStringS_pure {fuel : Nat} {xs : List ByteArray} {k : Int} (hf : 18446744073709551616 ≤ fuel) (hl : szL ByteArray.size xs ≤ 1048576) (h0 : 0 ≤ k) (h1 : k + (ctStringS xs : Nat) ≤ 2147483648) : m_laws_markStringS fuel xs k = some (k + (ctStringS xs : Nat), mkStringS fuel xs k) := by
  unfold m_laws_markStringS
  rw [mark_loop (f := elStringS fuel) (c := ecStringS) (xs := xs) (k := k) (by have := (szL_len hl); omega) hf h0 h1 ?_ ?_]
  · rfl
  · intro i x ys k hi hl2 hx hm h0 h1
    unfold ecStringS at h1
    have hsx := szL_mem hl hm
    unfold m_laws_markStringS_b1 elStringS ecStringS
    rw [if_pos (decide_eq_true (show (i : Int) < xs.length by omega))]
    rw [textOf_eq hf h0 (by omega), Option.bind_some]
    rw [if_pos (decide_eq_true (show 0 ≤ (i : Int) ∧ (i : Int).toNat < ys.length from ⟨by omega, by rw [hl2]; simpa using hi⟩))]
    simp (disch := omega) only [w64_up, Int.toNat_natCast, Int.ofNat_one, Int.natCast_one]
  · intro k ys; unfold m_laws_markStringS_b1; rw [if_neg (by simp)]

theorem ctStringS_le {xs : List ByteArray} : ctStringS xs ≤ 64 * (szL ByteArray.size xs) := by
  have h := sumL_le (c := ecStringS) (g := ByteArray.size) (m := 64) (xs := xs) fun x _ => by
    unfold ecStringS
    omega
  exact h

def elChannelEventS (fuel : Nat) (x : D.ChannelEvent) (k : Int) : D.ChannelEvent := (⟨k, k + 1⟩ : D.ChannelEvent)
def ecChannelEventS (x : D.ChannelEvent) : Nat := 1 + 1
def mkChannelEventS (fuel : Nat) (xs : List D.ChannelEvent) (k : Int) : List D.ChannelEvent := markL (elChannelEventS fuel) ecChannelEventS xs k
def ctChannelEventS (xs : List D.ChannelEvent) : Nat := sumL ecChannelEventS xs
theorem markChannelEventS_pure {fuel : Nat} {xs : List D.ChannelEvent} {k : Int} (hf : 18446744073709551616 ≤ fuel) (hl : xs.length ≤ 1048576) (h0 : 0 ≤ k) (h1 : k + (ctChannelEventS xs : Nat) ≤ 2147483648) : m_laws_markChannelEventS fuel xs k = some (k + (ctChannelEventS xs : Nat), mkChannelEventS fuel xs k) := by
  unfold m_laws_markChannelEventS
  rw [mark_loop (f := elChannelEventS fuel) (c := ecChannelEventS) (xs := xs) (k := k) (by have := hl; omega) hf h0 h1 ?_ ?_]
  · rfl
  · intro i x ys k hi hl2 hx hm h0 h1
    unfold ecChannelEventS at h1
    unfold m_laws_markChannelEventS_b1 elChannelEventS ecChannelEventS
    rw [if_pos (decide_eq_true (show (i : Int) < xs.length by omega))]
    simp only [idx_at hx, Option.bind_some]
    simp (disch := omega) only [w64_up, Option.bind_some, Int.toNat_natCast]
    refine congrArg some (congrArg Rd.next (Prod.ext ?_ rfl))
    dsimp only; simp only [Int.natCast_add, Int.natCast_one, Int.ofNat_one]; try omega
  · intro k ys; unfold m_laws_markChannelEventS_b1; rw [if_neg (by simp)]

theorem heldChannelEventS_pure {fuel : Nat} {xs : List D.ChannelEvent} {k : Int} (hf : 18446744073709551616 ≤ fuel) (hl : xs.length ≤ 1048576) (h0 : 0 ≤ k) (h1 : k + (ctChannelEventS xs : Nat) ≤ 2147483648) : m_laws_heldChannelEventS fuel (mkChannelEventS fuel xs k) k = some (k + (ctChannelEventS xs : Nat)) := by
  unfold m_laws_heldChannelEventS
  have hlen : (mkChannelEventS fuel xs k).length = xs.length := markL_length _ _
  rw [held_loop (f := elChannelEventS fuel) (c := ecChannelEventS) (xs := xs) (k := k) (by have := hl; omega) hf h0 h1 ?_ ?_]
  · rfl
  · intro i x k' hi hx hm h0 h1
    unfold ecChannelEventS at h1
    have hx2 : (mkChannelEventS fuel xs k)[i]? = some (elChannelEventS fuel x k') := hx
    unfold m_laws_heldChannelEventS_b1
    rw [if_pos (decide_eq_true (show (i : Int) < (mkChannelEventS fuel xs k).length by rw [hlen]; omega))]
    simp only [idx_at hx2, Option.bind_some]
    unfold elChannelEventS ecChannelEventS
    simp (disch := omega) only [w64_up, Option.bind_some, lt_f, if_false, bne_self_eq_false, Bool.false_eq_true, beq_self_eq_true, Bool.not_true, Int.ofNat_one, Int.natCast_one]
    try (refine congrArg some (congrArg Rd.next (Prod.ext ?_ rfl)); dsimp only; simp only [Int.natCast_add, Int.natCast_one, Int.ofNat_one]; try omega)
  · intro k'; show m_laws_heldChannelEventS_b1 fuel (mkChannelEventS fuel xs k) (k', ((mkChannelEventS fuel xs k).length : Int)) = _; unfold m_laws_heldChannelEventS_b1; rw [if_neg (by simp)]

theorem ctChannelEventS_le {xs : List D.ChannelEvent} : ctChannelEventS xs ≤ 64 * (xs.length) := by
  have h := sumL_le (c := ecChannelEventS) (g := (fun _ => 0)) (m := 64) (xs := xs) fun x _ => by
    unfold ecChannelEventS
    omega
  rw [szL_zero (fun _ => rfl)] at h
  exact h

def elPacketS (fuel : Nat) (x : D.Packet) (k : Int) : D.Packet := (⟨((k).tmod 3 == 0), k + 1, (textOf fuel (k + 1 + 1))⟩ : D.Packet)
def ecPacketS (x : D.Packet) : Nat := 1 + 1 + 1
def mkPacketS (fuel : Nat) (xs : List D.Packet) (k : Int) : List D.Packet := markL (elPacketS fuel) ecPacketS xs k
def ctPacketS (xs : List D.Packet) : Nat := sumL ecPacketS xs
theorem markPacketS_pure {fuel : Nat} {xs : List D.Packet} {k : Int} (hf : 18446744073709551616 ≤ fuel) (hl : szL D.Packet.sz xs ≤ 1048576) (h0 : 0 ≤ k) (h1 : k + (ctPacketS xs : Nat) ≤ 2147483648) : m_laws_markPacketS fuel xs k = some (k + (ctPacketS xs : Nat), mkPacketS fuel xs k) := by
  unfold m_laws_markPacketS
  rw [mark_loop (f := elPacketS fuel) (c := ecPacketS) (xs := xs) (k := k) (by have := (szL_len hl); omega) hf h0 h1 ?_ ?_]
  · rfl
  · intro i x ys k hi hl2 hx hm h0 h1
    unfold ecPacketS at h1
    have hsx := szL_mem hl hm
    unfold D.Packet.sz at hsx
    unfold m_laws_markPacketS_b1 elPacketS ecPacketS
    rw [if_pos (decide_eq_true (show (i : Int) < xs.length by omega))]
    simp only [idx_at hx, Option.bind_some]
    simp (disch := omega) only [textOf_eq hf, w64_up, Option.bind_some, Int.toNat_natCast]
    refine congrArg some (congrArg Rd.next (Prod.ext ?_ rfl))
    dsimp only; simp only [Int.natCast_add, Int.natCast_one, Int.ofNat_one]; try omega
  · intro k ys; unfold m_laws_markPacketS_b1; rw [if_neg (by simp)]

theorem ctPacketS_le {xs : List D.Packet} : ctPacketS xs ≤ 64 * (szL D.Packet.sz xs) := by
  have h := sumL_le (c := ecPacketS) (g := D.Packet.sz) (m := 64) (xs := xs) fun x _ => by
    unfold ecPacketS
    unfold D.Packet.sz
    omega
  exact h

def mkChannel (fuel : Nat) (x : D.Channel) (k : Int) : D.Channel := (⟨x.Window, mkStringS fuel x.Messages (k), x.Base, x.Next, x.Expected, mkPacketS fuel x.Early (k + ((ctStringS x.Messages : Nat) : Int)), mkStringS fuel x.Delivered (k + ((ctStringS x.Messages : Nat) : Int) + ((ctPacketS x.Early : Nat) : Int)), mkPacketS fuel x.Flight (k + ((ctStringS x.Messages : Nat) : Int) + ((ctPacketS x.Early : Nat) : Int) + ((ctStringS x.Delivered : Nat) : Int))⟩ : D.Channel)
def ctChannel (x : D.Channel) : Nat := ctStringS x.Messages + ctPacketS x.Early + ctStringS x.Delivered + ctPacketS x.Flight
theorem mkChannel_eta {fuel : Nat} {x : D.Channel} {k : Int} : (⟨x.Window, (mkChannel fuel x k).Messages, x.Base, x.Next, x.Expected, (mkChannel fuel x k).Early, (mkChannel fuel x k).Delivered, (mkChannel fuel x k).Flight⟩ : D.Channel) = mkChannel fuel x k := rfl
theorem markChannel_pure {fuel : Nat} {x : D.Channel} {k : Int} (hf : 18446744073709551616 ≤ fuel) (hs : x.sz ≤ 1048576) (h0 : 0 ≤ k) (h1 : k + (ctChannel x : Nat) ≤ 2147483648) : m_laws_markChannel fuel x k = some (k + (ctChannel x : Nat), (mkChannel fuel x k).Messages, (mkChannel fuel x k).Early, (mkChannel fuel x k).Delivered, (mkChannel fuel x k).Flight) := by
  unfold ctChannel at h1 ⊢
  simp only [D.Channel.sz] at hs
  unfold m_laws_markChannel mkChannel
  simp (disch := omega) only [markStringS_pure hf (show szL ByteArray.size x.Messages ≤ 1048576 by omega), markPacketS_pure hf (show szL D.Packet.sz x.Early ≤ 1048576 by omega), markStringS_pure hf (show szL ByteArray.size x.Delivered ≤ 1048576 by omega), markPacketS_pure hf (show szL D.Packet.sz x.Flight ≤ 1048576 by omega), Option.bind_some]
  simp only [Int.natCast_add, Int.add_assoc]

theorem ctChannel_le {x : D.Channel} : ctChannel x ≤ 64 * x.sz := by
  unfold ctChannel
  simp only [D.Channel.sz]
  have := ctStringS_le (xs := x.Messages)
  have := ctPacketS_le (xs := x.Early)
  have := ctStringS_le (xs := x.Delivered)
  have := ctPacketS_le (xs := x.Flight)
  omega

end Go.E
