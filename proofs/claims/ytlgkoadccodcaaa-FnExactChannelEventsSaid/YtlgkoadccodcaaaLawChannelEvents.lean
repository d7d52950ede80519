/- ChannelEvents: the plain law. Conditions: none but the argument's own size. -/
import Derived.Test.YtlgkoadccodcaaaMarksE
import Derived.Test.YtlgkoadccodcaaaOkChannelE
namespace Go.E
open Go.RowKit Go.Proofs
set_option linter.unusedSimpArgs false
set_option linter.unusedVariables false

theorem same_events {fuel : Nat} {x : D.Channel} : m_impl_Channel_events fuel x = m_spec_l28Events fuel x := rfl

theorem events_total {fuel : Nat} {x : D.Channel} (hf : 18446744073709551616 ≤ fuel) (h0 : 0 ≤ x.Next - x.Base) (h1 : x.Next - x.Base ≤ 30) (h2 : x.Flight.length ≤ 60) : ∃ l, m_spec_l28Events fuel x = some l ∧ l.length ≤ 1000 := by
  have hw : w64 (x.Next - x.Base) = x.Next - x.Base := i64_small (by omega) (by omega)
  have e2 : ∀ t : List D.ChannelEvent, t.length ≤ 100 → ∃ l, m_spec_l28Events_j2 fuel x t = some l ∧ l.length ≤ 1000 := fun t ht => by
    unfold m_spec_l28Events_j2
    obtain ⟨o, a1, a2⟩ := iter_count (body := m_spec_l28Events_b2 fuel x) (fun i s => s.1 = (i : Int) ∧ s.2.length ≤ 100 + 3 * i) x.Flight.length (fun o => ∃ l, o = .inl l ∧ l.length ≤ 1000) (by
      rintro i ⟨s, l⟩ hi ⟨g1, g2⟩
      dsimp only at g1 g2
      subst g1
      have hw : w64 ((i : Int) + 1) = ((i + 1 : Nat) : Int) := by rw [i64_small (by omega) (by omega)]; simp
      left
      unfold m_spec_l28Events_b2
      dsimp only
      rw [if_pos (decide_eq_true (by omega)), if_pos (by simp; omega)]
      by_cases hr : (x.Flight.length : Int) < 60
      · rw [if_pos (decide_eq_true hr), if_pos (by simp; omega)]
        exact ⟨_, rfl, hw, by simp; omega⟩
      · rw [if_neg (by simpa using hr)]
        exact ⟨_, rfl, hw, by simp; omega⟩) (by
      rintro ⟨s, l⟩ ⟨g1, g2⟩
      dsimp only at g1 g2
      subst g1
      refine .inr ⟨l, ?_, l, rfl, by omega⟩
      unfold m_spec_l28Events_b2
      rw [if_neg (by simp)]) (fuel := fuel) (i := 0) (s := (0, t)) (Nat.zero_le _) (by omega) ⟨rfl, by simpa using ht⟩
    obtain ⟨l, rfl, h⟩ := a2
    exact ⟨l, by rw [a1]; rfl, h⟩
  have e1 : ∀ t : List D.ChannelEvent, t.length ≤ 1 → ∃ l, m_spec_l28Events_j1 fuel x t = some l ∧ l.length ≤ 1000 := fun t ht => by
    unfold m_spec_l28Events_j1
    obtain ⟨k, hk⟩ : ∃ k : Nat, x.Next - x.Base = k := ⟨(x.Next - x.Base).toNat, by omega⟩
    obtain ⟨o, a1, a2⟩ := iter_count (body := m_spec_l28Events_b1 fuel x) (fun i s => s.1 = (i : Int) ∧ s.2.length ≤ 1 + i) k (fun o => ∃ l, o = .inl l ∧ l.length ≤ 100) (by
      rintro i ⟨s, l⟩ hi ⟨g1, g2⟩
      dsimp only at g1 g2
      subst g1
      have hw2 : w64 ((i : Int) + 1) = ((i + 1 : Nat) : Int) := by rw [i64_small (by omega) (by omega)]; simp
      unfold m_spec_l28Events_b1 m_spec_l28Events_j5
      dsimp only
      rw [hw, if_pos (decide_eq_true (by omega))]
      by_cases hr : (x.Flight.length : Int) < 60
      · rw [decide_eq_true hr, if_pos rfl, if_pos (by simp; omega)]
        exact .inl ⟨_, rfl, hw2, by simp; omega⟩
      · rw [decide_eq_false hr, if_neg Bool.false_ne_true]
        exact .inr (.inr ⟨_, rfl, l, rfl, by omega⟩)) (by
      rintro ⟨s, l⟩ ⟨g1, g2⟩
      dsimp only at g1 g2
      subst g1
      refine .inr ⟨l, ?_, l, rfl, by omega⟩
      unfold m_spec_l28Events_b1 m_spec_l28Events_j5
      rw [hw, if_neg (by simp; omega), if_neg Bool.false_ne_true]) (fuel := fuel) (i := 0) (s := (0, t)) (Nat.zero_le _) (by omega) ⟨rfl, by simpa using ht⟩
    obtain ⟨l, rfl, h⟩ := a2
    rw [a1, Option.bind_some]
    exact e2 l h
  have hc : ∃ b, m_spec_l28CanSend fuel x = some b := by
    unfold m_spec_l28CanSend
    split
    · split <;> exact ⟨_, rfl⟩
    · exact ⟨_, rfl⟩
  obtain ⟨b, hb⟩ := hc
  unfold m_spec_l28Events
  rw [hb, Option.bind_some]
  cases b with
  | true =>
    rw [if_pos rfl, if_pos (by decide)]
    exact e1 _ (by simp)
  | false =>
    rw [if_neg Bool.false_ne_true]
    exact e1 _ (by simp)

theorem same_ChannelEvents {fuel : Nat} {x : D.Channel} (hf : 18446744073709551616 ≤ fuel) (hw : x.wf) (hs : x.sz ≤ 1048576) :
    ∃ r : List D.ChannelEvent × Int, m_spec_ChannelEvents fuel x = some r ∧ m_impl_ChannelEvents fuel x = some r ∧ r.1.length ≤ 1048576 := by
  obtain ⟨b, h1, h2⟩ := ok_two hf hw hs
  simp only [m_spec_ChannelEvents, m_impl_ChannelEvents, h1, h2, Option.bind_some, same_events]
  cases b with
  | false => exact ⟨([], 1), rfl, rfl, by simp⟩
  | true =>
    have hE : x.Early.length ≤ 1048576 := by
      unfold D.Channel.sz at hs
      exact szL_len (f := D.Packet.sz) (by omega)
    obtain ⟨_, f1, f2, f3, f4, f5, f6, f7, _⟩ := ok_facts hE h1
    obtain ⟨l, h3, h4⟩ := events_total hf (by omega) f6 f7
    rw [h3]
    exact ⟨(l, 0), rfl, rfl, by dsimp only; omega⟩

theorem lawChannelEvents {x0 : D.Channel} (h0 : D.Channel.wf x0) : ∃ fuel, m_laws_FnExactChannelEvents fuel x0 = some true := by
  obtain ⟨fuel, hf⟩ : ∃ n : Nat, 18446744073709551616 ≤ n := ⟨_, Nat.le_refl _⟩
  refine ⟨fuel, ?_⟩
  unfold m_laws_FnExactChannelEvents
  obtain ⟨r0, e0, s0⟩ := szChannel_pure (l := (1048576 : Int)) hf h0 (by decide) (by omega)
  rw [e0, Option.bind_some]
  rcases s0 with s0 | ⟨s0, t0⟩
  · rw [if_pos (by simp [s0])]
  rw [if_neg (by simp [s0])]
  have z0 : D.Channel.sz x0 ≤ 1048576 := by omega
  obtain ⟨r, a0, a1, b0⟩ := same_ChannelEvents hf h0 z0
  have m0 := fun {β : Type} (g : _ → Option β) => bind_of (g := g) a0
  have m1 := fun {β : Type} (g : _ → Option β) => bind_of (g := g) a1
  have m2 := fun {β : Type} (g : _ → Option β) => bind_of (g := g) (toChannel_pure hf z0)
  have m3 := fun {β : Type} (g : _ → Option β) => bind_of (g := g) (eqChannel_pure hf z0)
  have m4 := fun {β : Type} (g : _ → Option β) (k : Int) (h0 : 0 ≤ k) (h1 : k + (ctChannel x0 : Nat) ≤ 2147483648) => bind_of (g := g) (markChannel_pure hf z0 h0 h1)
  have c0 := ctChannel_le (x := x0)
  have m5 := fun {β : Type} (g : _ → Option β) => bind_of (g := g) (eqChannelEventS_pure hf b0)
  have m6 := fun {β : Type} (g : _ → Option β) (k : Int) (h0 : 0 ≤ k) (h1 : k + (ctChannelEventS r.1 : Nat) ≤ 2147483648) => bind_of (g := g) (markChannelEventS_pure hf b0 h0 h1)
  have m7 := fun {β : Type} (g : _ → Option β) (k : Int) (h0 : 0 ≤ k) (h1 : k + (ctChannelEventS r.1 : Nat) ≤ 2147483648) => bind_of (g := g) (heldChannelEventS_pure hf b0 h0 h1)
  have d0 := ctChannelEventS_le (xs := r.1)
  simp (disch := omega) only [↓reduceIte, ↓m0, ↓m1, ↓m2, ↓m3, ↓m4, ↓m5, ↓m6, ↓m7, lt_f, Bool.not_true, Bool.false_eq_true, bne_self_eq_false]
  simp (disch := omega) only [↓reduceIte, ↓m_laws_FnExactChannelEvents_j1, ↓m0, ↓m1, ↓m2, ↓m3, ↓m4, ↓m5, ↓m6, ↓m7, lt_f, Bool.not_true, Bool.false_eq_true, bne_self_eq_false]
  simp (disch := omega) only [↓reduceIte, ↓m_laws_FnExactChannelEvents_j2, ↓m0, ↓m1, ↓m2, ↓m3, ↓m4, ↓m5, ↓m6, ↓m7, lt_f, Bool.not_true, Bool.false_eq_true, bne_self_eq_false]
  simp (disch := omega) only [↓reduceIte, ↓m_laws_FnExactChannelEvents_j3, ↓m0, ↓m1, ↓m2, ↓m3, ↓m4, ↓m5, ↓m6, ↓m7, lt_f, Bool.not_true, Bool.false_eq_true, bne_self_eq_false]
end Go.E
