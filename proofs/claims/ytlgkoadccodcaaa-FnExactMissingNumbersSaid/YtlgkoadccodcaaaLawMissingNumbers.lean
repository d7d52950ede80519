/- MissingNumbers: the plain law. Conditions: none but the argument's own size. -/
import Derived.Test.YtlgkoadccodcaaaMarksM
import Derived.Test.YtlgkoadccodcaaaOkChannelM
namespace Go.E
open Go.RowKit Go.Proofs
set_option linter.unusedSimpArgs false
set_option linter.unusedVariables false

theorem asc_mem {l : Int} : ∀ {ps : List D.Packet}, asc l ps → ∀ p, p ∈ ps → l < p.Number
  | [], _, p, hp => by cases hp
  | q :: ps, ⟨h1, h2⟩, p, hp => by
    rcases List.mem_cons.1 hp with rfl | hp
    · exact h1
    · have := asc_mem h2 p hp; omega
theorem asc_le {l l' : Int} (hl : l' ≤ l) : ∀ {ps : List D.Packet}, asc l ps → asc l' ps
  | [], _ => trivial
  | q :: ps, ⟨h1, h2⟩ => ⟨by omega, h2⟩

/-- the numbers from a on, k of them, that no packet has -/
def missL (E : List D.Packet) (a : Int) : Nat → List Int
  | 0 => []
  | k + 1 => missL E a k ++ (if E.any (fun p => p.Number == a + k) = true then [] else [a + k])
theorem missL_succ {E : List D.Packet} {a : Int} {k : Nat} : missL E a (k + 1) = missL E a k ++ (if E.any (fun p => p.Number == a + k) = true then [] else [a + k]) := rfl
theorem missL_len {E : List D.Packet} {a : Int} : ∀ k, (missL E a k).length ≤ k
  | 0 => Nat.le_refl _
  | k + 1 => by
    have := missL_len (E := E) (a := a) k
    rw [missL_succ]
    split <;> simp <;> omega

theorem contains_packet {fuel : Nat} {p : D.Packet → Bool} {f : D.Packet → Option Bool} {xs : List D.Packet} (hf : 18446744073709551616 ≤ fuel) (hl : xs.length ≤ maxLen) (h : ∀ n, f n = some (p n)) : m_slices_ContainsFunc_impl_Packet_impl_Packet fuel xs f = some (xs.any p) := by
  unfold m_slices_ContainsFunc_impl_Packet_impl_Packet m_slices_IndexFunc_impl_Packet_impl_Packet
  obtain ⟨r, h1, h2⟩ := askIndex (xs := xs) (p := p) (body := m_slices_IndexFunc_impl_Packet_impl_Packet_b1 fuel xs f) (j := m_slices_IndexFunc_impl_Packet_impl_Packet_j1 fuel) (t := ()) hl hf rfl (fun i x hi hx => by
    simp only [m_slices_IndexFunc_impl_Packet_impl_Packet_b1, idx_at hx, h, lt_t (show (i : Int) < xs.length by omega), if_true, Option.bind_some]) (by simp [m_slices_IndexFunc_impl_Packet_impl_Packet_b1])
  rw [h1, Option.bind_some, h2]

theorem same_MissingNumbers {fuel : Nat} {x : D.Channel} (hf : 18446744073709551616 ≤ fuel) (hw : x.wf) (hs : x.sz ≤ 1048576) :
    ∃ r : List Int × Int, m_spec_MissingNumbers fuel x = some r ∧ m_impl_MissingNumbers fuel x = some r ∧ r.1.length ≤ 1048576 := by
  obtain ⟨b, h1, h2⟩ := ok_two hf hw hs
  simp only [m_spec_MissingNumbers, m_impl_MissingNumbers, h1, h2, Option.bind_some]
  cases b with
  | false => exact ⟨([], 1), rfl, rfl, by simp⟩
  | true =>
    have hE : x.Early.length ≤ 1048576 := by
      unfold D.Channel.sz at hs
      exact szL_len (f := D.Packet.sz) (by omega)
    obtain ⟨_, f1, f2, f3, f4, f5, _, _, f6⟩ := ok_facts hE h1
    obtain ⟨k, hk⟩ : ∃ k : Nat, x.Next = x.Expected + k := ⟨(x.Next - x.Expected).toNat, by omega⟩
    have hk30 : k ≤ 30 := by omega
    have hm : maxLen = 9223372036854775807 := rfl
    -- the reference's loop
    obtain ⟨o, a1, a2⟩ := iter_count (body := m_spec_MissingNumbers_b1 fuel x) (fun i s => s.2.1 = x.Expected + i ∧ s.2.2 = missL x.Early x.Expected i ∧ ∃ pre suf, x.Early = pre ++ suf ∧ s.1 = (pre.length : Int) ∧ (∀ p, p ∈ pre → p.Number < x.Expected + i) ∧ asc (x.Expected + i - 1) suf) k (fun o => o = .inl (missL x.Early x.Expected k)) (by
      rintro i ⟨at_, n, out⟩ hi ⟨g1, g2, pre, suf, g3, g4, g5, g6⟩
      dsimp only at g1 g2 g4
      subst g1; subst g2; subst g4
      have hlen := missL_len (E := x.Early) (a := x.Expected) i
      have hw2 : w64 (x.Expected + i + 1) = x.Expected + ((i + 1 : Nat) : Int) := by rw [i64_small (by omega) (by omega)]; omega
      have put : x.Early.any (fun p => p.Number == x.Expected + i) = false → m_spec_MissingNumbers_j3 fuel ((pre.length : Int), x.Expected + i, missL x.Early x.Expected i) false = some (.next ((pre.length : Int), x.Expected + ((i + 1 : Nat) : Int), missL x.Early x.Expected (i + 1))) := fun ha => by
        unfold m_spec_MissingNumbers_j3
        rw [if_neg Bool.false_ne_true, if_pos (by simp; omega)]
        unfold m_spec_MissingNumbers_j2
        rw [missL_succ, ha, if_neg Bool.false_ne_true]
        dsimp only
        rw [hw2]
      left
      unfold m_spec_MissingNumbers_b1
      dsimp only
      rw [if_pos (decide_eq_true (by omega))]
      cases suf with
      | nil =>
        have hel : x.Early.length = pre.length := by rw [g3]; simp
        have ha : x.Early.any (fun p => p.Number == x.Expected + i) = false := by
          rw [List.any_eq_false]
          intro p hp
          have := g5 p (by rw [g3] at hp; simpa using hp)
          simp; omega
        rw [if_neg (by simp; omega), put ha]
        exact ⟨_, rfl, rfl, rfl, pre, [], g3, rfl, fun p hp => by have := g5 p hp; omega, trivial⟩
      | cons q ss =>
        have hel : x.Early.length = pre.length + (ss.length + 1) := by rw [g3]; simp
        have hq : x.Early[pre.length]? = some q := by rw [g3, List.getElem?_append_right (Nat.le_refl _), Nat.sub_self]; rfl
        rw [if_pos (decide_eq_true (by omega)), idx_at hq, Option.bind_some]
        obtain ⟨g7, g8⟩ := g6
        by_cases he : q.Number = x.Expected + i
        · have ha : x.Early.any (fun p => p.Number == x.Expected + i) = true := List.any_eq_true.2 ⟨q, by rw [g3]; simp, by simp [he]⟩
          rw [show (q.Number == x.Expected + (i : Int)) = true by simp [he]]
          unfold m_spec_MissingNumbers_j3 m_spec_MissingNumbers_j2
          rw [if_pos rfl]
          refine ⟨_, rfl, hw2, ?_, pre ++ [q], ss, by rw [g3]; simp, ?_, fun p hp => ?_, ?_⟩
          · rw [missL_succ, ha, if_pos rfl, List.append_nil]
          · show w64 _ = _
            rw [i64_small (by omega) (by omega)]; simp
          · rcases List.mem_append.1 hp with hp | hp
            · have := g5 p hp; omega
            · simp only [List.mem_singleton] at hp; subst hp; omega
          · rw [he] at g8
            exact asc_le (by omega) g8
        · have ha : x.Early.any (fun p => p.Number == x.Expected + i) = false := by
            rw [List.any_eq_false]
            intro p hp
            rw [g3] at hp
            rcases List.mem_append.1 hp with hp | hp
            · have := g5 p hp; simp; omega
            · rcases List.mem_cons.1 hp with rfl | hp
              · simpa using he
              · have := asc_mem g8 p hp; simp; omega
          rw [show (q.Number == x.Expected + (i : Int)) = false by simpa using he, put ha]
          exact ⟨_, rfl, rfl, rfl, pre, q :: ss, g3, rfl, fun p hp => by have := g5 p hp; omega, by omega, g8⟩) (by
      rintro ⟨at_, n, out⟩ ⟨g1, g2, _⟩
      dsimp only at g1 g2
      subst g1; subst g2
      refine .inr ⟨_, ?_, rfl⟩
      unfold m_spec_MissingNumbers_b1
      rw [if_neg (by simp; omega)]) (fuel := fuel) (i := 0) (s := (0, x.Expected, [])) (Nat.zero_le _) (by omega) ⟨by simp, rfl, [], x.Early, rfl, rfl, by simp, by
        rw [show x.Expected + ((0 : Nat) : Int) - 1 = x.Expected - 1 by omega]
        exact asc_le (by omega) f6⟩
    subst a2
    -- the program's loop
    obtain ⟨o, b1, b2⟩ := iter_count (body := m_impl_MissingNumbers_b1 fuel x) (fun i s => s.2 = x.Expected + i ∧ s.1 = missL x.Early x.Expected i) k (fun o => o = .inl (missL x.Early x.Expected k)) (by
      rintro i ⟨out, n⟩ hi ⟨g1, g2⟩
      dsimp only at g1 g2
      subst g1; subst g2
      have hlen := missL_len (E := x.Early) (a := x.Expected) i
      have hw2 : w64 (x.Expected + i + 1) = x.Expected + ((i + 1 : Nat) : Int) := by rw [i64_small (by omega) (by omega)]; omega
      have hc := contains_packet (fuel := fuel) (p := fun p => p.Number == x.Expected + i) (f := fun y0 => m_impl_MissingNumbers_c1 fuel y0 (x.Expected + i)) (xs := x.Early) hf (by omega) (fun p => rfl)
      left
      unfold m_impl_MissingNumbers_b1
      dsimp only
      rw [if_pos (decide_eq_true (by omega)), hc, Option.bind_some]
      cases ha : x.Early.any (fun p => p.Number == x.Expected + i) with
      | true =>
        rw [if_neg (by simp)]
        exact ⟨_, rfl, hw2, by rw [missL_succ, ha, if_pos rfl, List.append_nil]⟩
      | false =>
        rw [if_pos (by decide : (!false) = true), if_pos (by simp; omega)]
        exact ⟨_, rfl, hw2, by rw [missL_succ, ha, if_neg Bool.false_ne_true]⟩) (by
      rintro ⟨out, n⟩ ⟨g1, g2⟩
      dsimp only at g1 g2
      subst g1; subst g2
      refine .inr ⟨_, ?_, rfl⟩
      unfold m_impl_MissingNumbers_b1
      rw [if_neg (by simp; omega)]) (fuel := fuel) (i := 0) (s := ([], x.Expected)) (Nat.zero_le _) (by omega) ⟨by simp, rfl⟩
    subst b2
    refine ⟨(missL x.Early x.Expected k, 0), ?_, ?_, ?_⟩
    · rw [if_neg (by simp), a1]; rfl
    · rw [if_neg (by simp), b1]; rfl
    · have := missL_len (E := x.Early) (a := x.Expected) k
      dsimp only
      omega

theorem lawMissingNumbers {x0 : D.Channel} (h0 : D.Channel.wf x0) : ∃ fuel, m_laws_FnExactMissingNumbers fuel x0 = some true := by
  obtain ⟨fuel, hf⟩ : ∃ n : Nat, 18446744073709551616 ≤ n := ⟨_, Nat.le_refl _⟩
  refine ⟨fuel, ?_⟩
  unfold m_laws_FnExactMissingNumbers
  obtain ⟨r0, e0, s0⟩ := szChannel_pure (l := (1048576 : Int)) hf h0 (by decide) (by omega)
  rw [e0, Option.bind_some]
  rcases s0 with s0 | ⟨s0, t0⟩
  · rw [if_pos (by simp [s0])]
  rw [if_neg (by simp [s0])]
  have z0 : D.Channel.sz x0 ≤ 1048576 := by omega
  obtain ⟨r, a0, a1, b0⟩ := same_MissingNumbers hf h0 z0
  have m0 := fun {β : Type} (g : _ → Option β) => bind_of (g := g) a0
  have m1 := fun {β : Type} (g : _ → Option β) => bind_of (g := g) a1
  have m2 := fun {β : Type} (g : _ → Option β) => bind_of (g := g) (toChannel_pure hf z0)
  have m3 := fun {β : Type} (g : _ → Option β) => bind_of (g := g) (eqChannel_pure hf z0)
  have m4 := fun {β : Type} (g : _ → Option β) (k : Int) (h0 : 0 ≤ k) (h1 : k + (ctChannel x0 : Nat) ≤ 2147483648) => bind_of (g := g) (markChannel_pure hf z0 h0 h1)
  have c0 := ctChannel_le (x := x0)
  have m5 := fun {β : Type} (g : _ → Option β) => bind_of (g := g) (eqInt64S_pure hf b0)
  have m6 := fun {β : Type} (g : _ → Option β) (k : Int) (h0 : 0 ≤ k) (h1 : k + (ctInt64S r.1 : Nat) ≤ 2147483648) => bind_of (g := g) (markInt64S_pure hf b0 h0 h1)
  have m7 := fun {β : Type} (g : _ → Option β) (k : Int) (h0 : 0 ≤ k) (h1 : k + (ctInt64S r.1 : Nat) ≤ 2147483648) => bind_of (g := g) (heldInt64S_pure hf b0 h0 h1)
  have d0 := ctInt64S_le (xs := r.1)
  simp (disch := omega) only [↓reduceIte, ↓m0, ↓m1, ↓m2, ↓m3, ↓m4, ↓m5, ↓m6, ↓m7, lt_f, Bool.not_true, Bool.false_eq_true, bne_self_eq_false]
  simp (disch := omega) only [↓reduceIte, ↓m_laws_FnExactMissingNumbers_j1, ↓m0, ↓m1, ↓m2, ↓m3, ↓m4, ↓m5, ↓m6, ↓m7, lt_f, Bool.not_true, Bool.false_eq_true, bne_self_eq_false]
  simp (disch := omega) only [↓reduceIte, ↓m_laws_FnExactMissingNumbers_j2, ↓m0, ↓m1, ↓m2, ↓m3, ↓m4, ↓m5, ↓m6, ↓m7, lt_f, Bool.not_true, Bool.false_eq_true, bne_self_eq_false]
  simp (disch := omega) only [↓reduceIte, ↓m_laws_FnExactMissingNumbers_j3, ↓m0, ↓m1, ↓m2, ↓m3, ↓m4, ↓m5, ↓m6, ↓m7, lt_f, Bool.not_true, Bool.false_eq_true, bne_self_eq_false]
end Go.E
