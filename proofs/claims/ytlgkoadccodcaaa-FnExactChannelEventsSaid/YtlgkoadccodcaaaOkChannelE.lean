/- Which states of a channel are valid: the program and the reference agree. Conditions: none but the state's own size. -/
import Derived.Test.YtlgkoadccodcaaaSizesE
namespace Go.E
open Go.RowKit Go.Proofs
set_option linter.unusedSimpArgs false
set_option linter.unusedVariables false

def m_spec_ValidChannel (fuel : Nat) (x0 : D.Channel) : Option Bool := (m_spec_l28Ok fuel x0).bind fun r18 => some r18

/-- two loops whose rounds agree where an invariant holds -/
theorem iter_congr {σ τ ρ : Type} {b b' : σ → Option (Rd σ τ ρ)} (I : σ → Prop) (h : ∀ s, I s → b s = b' s) (hp : ∀ s s', I s → b s = some (.next s') → I s') : ∀ (fuel : Nat) (s : σ), I s → iter b fuel s = iter b' fuel s
  | 0, _, _ => rfl
  | fuel + 1, s, hI => by
    simp only [iter, ← h s hI]
    cases hb : b s with
    | none => rfl
    | some o =>
      cases o with
      | next s' => exact iter_congr I h hp fuel s' (hp s s' hI hb)
      | brk t => rfl
      | ret r => rfl

/-- a counting loop that turns back with one value only -/
theorem count_two {τ ρ : Type} {n : Nat} {body : Int → Option (Rd Int τ ρ)} {fuel : Nat} {t : τ} {v : ρ} (hl : n ≤ maxLen) (hf : 18446744073709551616 ≤ fuel)
    (step : ∀ (i : Nat), i < n → body i = some (.next (w64 (i + 1))) ∨ body i = some (.ret v)) (last : body n = some (.brk t)) : iter body fuel 0 = some (.inl t) ∨ iter body fuel 0 = some (.inr v) := by
  have hm : maxLen = 9223372036854775807 := rfl
  obtain ⟨o, h2, h3⟩ := iter_count (body := body) (fun i s => s = (i : Int)) n (fun o => o = .inl t ∨ o = .inr v) (by
    rintro i s hi rfl
    rcases step i hi with h | h
    · exact .inl ⟨_, h, by rw [i64_small (by omega) (by omega)]; simp⟩
    · exact .inr (.inl ⟨_, h, .inr rfl⟩)) (by
    rintro s rfl
    exact .inr ⟨_, last, .inl rfl⟩) (fuel := fuel) (i := 0) (s := 0) (Nat.zero_le _) (by omega) rfl
  rcases h3 with rfl | rfl
  · exact .inl h2
  · exact .inr h2

/-- a counting loop that asks each element -/
theorem all_loop {α τ ρ : Type} {xs : List α} {body : Int → Option (Rd Int τ ρ)} {fuel : Nat} {t : τ} {p : α → Bool} {g : Int → ρ} (hl : xs.length ≤ maxLen) (hf : 18446744073709551616 ≤ fuel)
    (step : ∀ (i : Nat) (x : α), xs[i]? = some x → body i = if p x = true then some (.ret (g i)) else some (.next (w64 (i + 1)))) (last : body xs.length = some (.brk t)) :
    (xs.any p = false ∧ iter body fuel 0 = some (.inl t)) ∨ (xs.any p = true ∧ ∃ i : Nat, iter body fuel 0 = some (.inr (g i))) := by
  have hm : maxLen = 9223372036854775807 := rfl
  obtain ⟨o, h2, h3⟩ := iter_count (body := body) (fun i s => s = (i : Int) ∧ (xs.take i).any p = false) xs.length (fun o => (xs.any p = false ∧ o = .inl t) ∨ (xs.any p = true ∧ ∃ i : Nat, o = .inr (g i))) (by
    rintro i s hi ⟨rfl, ha⟩
    obtain ⟨x, hx⟩ := at_lt hi
    have hs := step i x hx
    cases hp : p x with
    | true =>
      rw [hp, if_pos rfl] at hs
      exact .inr (.inl ⟨_, hs, .inr ⟨List.any_eq_true.2 ⟨x, List.mem_of_getElem? hx, hp⟩, i, rfl⟩⟩)
    | false =>
      rw [hp, if_neg (by simp)] at hs
      refine .inl ⟨_, hs, by rw [i64_small (by omega) (by omega)]; simp, ?_⟩
      rw [List.take_add_one, hx, List.any_append, ha]
      simp [hp]) (by
    rintro s ⟨rfl, ha⟩
    rw [List.take_length] at ha
    exact .inr ⟨_, last, .inl ⟨ha, rfl⟩⟩) (fuel := fuel) (i := 0) (s := 0) (Nat.zero_le _) (by omega) ⟨rfl, by simp⟩
  rcases h3 with ⟨h3, rfl⟩ | ⟨h3, i, rfl⟩
  · exact .inl ⟨h3, h2⟩
  · exact .inr ⟨h3, i, h2⟩

section
variable {fuel : Nat} {x : D.Channel}

theorem flight_same {p : D.Packet} (h0 : 0 ≤ x.Next) (h1 : x.Next ≤ x.Messages.length) (hl : x.Messages.length ≤ 1048576) : m_spec_l28Flight fuel x p = m_impl_Channel_validPacket fuel x p ∧ ∃ r, m_impl_Channel_validPacket fuel x p = some r := by
  simp only [m_spec_l28Flight, m_impl_Channel_validPacket, m_spec_l00In]
  rw [i64_small (show -9223372036854775808 ≤ x.Next - 1 by omega) (by omega)]
  cases p.Ack with
  | true =>
    by_cases a : p.Number ≥ 0 <;> by_cases b : p.Number ≤ x.Expected <;> simp [a, b]
  | false =>
    by_cases a : p.Number ≥ 0
    · by_cases b : p.Number < x.Next
      · obtain ⟨m, hm⟩ := at_lt (xs := x.Messages) (i := p.Number.toNat) (by omega)
        have := idx_at hm
        rw [Int.toNat_of_nonneg a] at this
        simp [a, b, show p.Number ≤ x.Next - 1 by omega, this]
      · simp [a, b, show ¬ p.Number ≤ x.Next - 1 by omega]
    · simp [a]

theorem flights_same (hf : 18446744073709551616 ≤ fuel) (h0 : 0 ≤ x.Next) (h1 : x.Next ≤ x.Messages.length) (hl : x.Messages.length ≤ 1048576) (hF : x.Flight.length ≤ 1048576) :
    ∃ r, m_spec_l28Ok_j4 fuel x () = some r ∧ m_impl_ValidChannel_j3 fuel x () = some r := by
  have hs := fun p => flight_same (fuel := fuel) (p := p) h0 h1 hl
  have hb : ∀ p, m_spec_l28Flight fuel x p = some ((m_impl_Channel_validPacket fuel x p).getD false) := fun p => by
    obtain ⟨e, r, hr⟩ := hs p
    rw [e, hr]; rfl
  have hc : ∀ p, m_impl_Channel_validPacket fuel x p = some ((m_impl_Channel_validPacket fuel x p).getD false) := fun p => by
    obtain ⟨e, r, hr⟩ := hs p
    rw [hr]; rfl
  have hm : maxLen = 9223372036854775807 := rfl
  have A := all_loop (xs := x.Flight) (body := m_spec_l28Ok_b4 fuel x) (fuel := fuel) (t := ()) (p := fun p => !(m_impl_Channel_validPacket fuel x p).getD false) (g := fun _ => false) (by omega) hf (by
    intro i y hy
    have hi := (List.getElem?_eq_some_iff.1 hy).1
    simp only [m_spec_l28Ok_b4, idx_at hy, lt_t (show (i : Int) < x.Flight.length by omega), if_true, Option.bind_some, hb]) (by simp [m_spec_l28Ok_b4])
  have B := all_loop (xs := x.Flight) (body := m_slices_IndexFunc_impl_Packet_impl_Packet_b1 fuel x.Flight (fun y0 => m_impl_ValidChannel_c2 fuel y0 x)) (fuel := fuel) (t := ()) (p := fun p => !(m_impl_Channel_validPacket fuel x p).getD false) (g := fun i => i) (by omega) hf (by
    intro i y hy
    have hi := (List.getElem?_eq_some_iff.1 hy).1
    simp only [m_slices_IndexFunc_impl_Packet_impl_Packet_b1, m_impl_ValidChannel_c2, idx_at hy, lt_t (show (i : Int) < x.Flight.length by omega), if_true, Option.bind_some]
    rw [hc y]
    simp only [Option.bind_some, Option.getD_some]) (by simp [m_slices_IndexFunc_impl_Packet_impl_Packet_b1])
  simp only [m_spec_l28Ok_j4, m_impl_ValidChannel_j3, m_slices_ContainsFunc_impl_Packet_impl_Packet, m_slices_IndexFunc_impl_Packet_impl_Packet]
  rcases A with ⟨a1, a2⟩ | ⟨a1, i, a2⟩ <;> rcases B with ⟨b1, b2⟩ | ⟨b1, j, b2⟩
  · refine ⟨true, ?_, ?_⟩
    · rw [a2]; rfl
    · rw [b2]; rfl
  · rw [a1] at b1; cases b1
  · rw [a1] at b1; cases b1
  · refine ⟨false, ?_, ?_⟩
    · rw [a2]; rfl
    · rw [b2]
      show some (!decide ((j : Int) ≥ 0)) = some false
      simp

theorem early_same (hf : 18446744073709551616 ≤ fuel) (h0 : 0 ≤ x.Next) (h1 : x.Next ≤ x.Messages.length) (hl : x.Messages.length ≤ 1048576) (hF : x.Flight.length ≤ 1048576) (hE : x.Early.length ≤ 1048576) :
    ∃ r, m_spec_l28Ok_j3 fuel x () = some r ∧ m_impl_ValidChannel_j2 fuel x false = some r := by
  have hs := fun p => flight_same (fuel := fuel) (p := p) h0 h1 hl
  have hb : m_spec_l28Ok_b3 fuel x = m_impl_ValidChannel_b1 fuel x := by
    funext s
    simp only [m_spec_l28Ok_b3, m_impl_ValidChannel_b1, fun p => (hs p).1]
    rfl
  have A : iter (m_impl_ValidChannel_b1 fuel x) fuel (x.Expected, 0) = some (.inl ()) ∨ iter (m_impl_ValidChannel_b1 fuel x) fuel (x.Expected, 0) = some (.inr false) := by
    have J : ∀ (s : Int × Int) (y : D.Packet) (b : Bool), m_impl_ValidChannel_j4 fuel s y b = some (.ret false) ∨ ∃ l, m_impl_ValidChannel_j4 fuel s y b = some (.next (l, w64 (s.2 + 1))) := fun s y b => by
      unfold m_impl_ValidChannel_j4
      cases b
      · exact .inr ⟨_, rfl⟩
      · exact .inl rfl
    obtain ⟨o, h2, h3⟩ := iter_count (body := m_impl_ValidChannel_b1 fuel x) (fun i s => s.2 = (i : Int)) x.Early.length (fun o => o = .inl () ∨ o = .inr false) (by
      rintro i ⟨l, s⟩ hi h
      dsimp only at h
      subst h
      obtain ⟨y, hy⟩ := at_lt hi
      have K : m_impl_ValidChannel_b1 fuel x (l, (i : Int)) = some (.ret false) ∨ ∃ l', m_impl_ValidChannel_b1 fuel x (l, (i : Int)) = some (.next (l', w64 (i + 1))) := by
        simp only [m_impl_ValidChannel_b1, idx_at hy, lt_t (show (i : Int) < x.Early.length by omega), if_true, Option.bind_some]
        split
        · exact J _ _ _
        · split
          · exact J _ _ _
          · obtain ⟨_, r, hr⟩ := hs y
            rw [hr, Option.bind_some]
            exact J _ _ _
      rcases K with h | ⟨l', h⟩
      · exact .inr (.inl ⟨_, h, .inr rfl⟩)
      · exact .inl ⟨_, h, by show w64 _ = _; rw [i64_small (by omega) (by omega)]; simp⟩) (by
      rintro ⟨l, s⟩ h
      dsimp only at h
      subst h
      exact .inr ⟨(), by simp [m_impl_ValidChannel_b1], .inl rfl⟩) (fuel := fuel) (i := 0) (s := (x.Expected, 0)) (Nat.zero_le _) (by omega) rfl
    rcases h3 with rfl | rfl
    · exact .inl h2
    · exact .inr h2
  simp only [m_spec_l28Ok_j3, m_impl_ValidChannel_j2, hb, Bool.false_eq_true, if_false]
  rcases A with h | h
  · rw [h]
    exact flights_same hf h0 h1 hl hF
  · rw [h]
    exact ⟨false, rfl, rfl⟩

theorem delivered_same (hf : 18446744073709551616 ≤ fuel) (h0 : 0 ≤ x.Expected) (h1 : x.Expected ≤ x.Messages.length) (he : (x.Delivered.length : Int) = x.Expected) (hD : x.Delivered.length ≤ 1048576) :
    ∃ r, (iter (m_spec_l28Ok_b2 fuel x) fuel 0 = some (.inl ()) ∧ r = true ∨ iter (m_spec_l28Ok_b2 fuel x) fuel 0 = some (.inr false) ∧ r = false) ∧ m_slices_Equal_string_string fuel x.Delivered ((x.Messages.take x.Expected.toNat).drop 0) = some r := by
  have hlen : ((x.Messages.take x.Expected.toNat).drop 0).length = x.Delivered.length := by simp; omega
  have hc : iter (m_slices_Equal_string_string_b1 fuel x.Delivered ((x.Messages.take x.Expected.toNat).drop 0)) fuel 0 = iter (m_spec_l28Ok_b2 fuel x) fuel 0 := by
    refine iter_congr (fun s => 0 ≤ s) (fun s hs => ?_) (fun s s' hs hb => ?_) fuel 0 (Int.le_refl _)
    · simp only [m_slices_Equal_string_string_b1, m_spec_l28Ok_b2]
      by_cases h : s < x.Delivered.length
      · have : idx ((x.Messages.take x.Expected.toNat).drop 0) s = idx x.Messages s := by
          simp only [idx, hs, if_true, List.drop_zero]
          rw [List.getElem?_take, if_pos (by omega)]
        simp only [lt_t h, if_true, this]
      · simp only [lt_f h, if_false]
    · simp only [m_slices_Equal_string_string_b1] at hb
      by_cases h : s < x.Delivered.length
      · simp only [lt_t h, if_true] at hb
        obtain ⟨a, _, hb⟩ := bind_some hb
        obtain ⟨b, _, hb⟩ := bind_some hb
        split at hb
        · cases hb
        · cases hb
          rw [i64_small (by omega) (by omega)]; omega
      · simp only [lt_f h, if_false] at hb
        cases hb
  have hm : maxLen = 9223372036854775807 := rfl
  unfold m_slices_Equal_string_string
  rw [hlen, if_neg (by simp), hc]
  rcases count_two (n := x.Delivered.length) (body := m_spec_l28Ok_b2 fuel x) (t := ()) (v := false) (by omega) hf (by
    intro i hi
    obtain ⟨a, ha⟩ := at_lt hi
    obtain ⟨b, hb⟩ := at_lt (xs := x.Messages) (i := i) (by omega)
    simp only [m_spec_l28Ok_b2, idx_at ha, idx_at hb, Option.bind_some, lt_t (show (i : Int) < x.Delivered.length by omega), if_true]
    split
    · exact .inr rfl
    · exact .inl rfl) (by simp [m_spec_l28Ok_b2]) with h | h
  · exact ⟨true, .inl ⟨h, rfl⟩, by rw [h]; rfl⟩
  · exact ⟨false, .inr ⟨h, rfl⟩, by rw [h]; rfl⟩

theorem same_ValidChannel (hf : 18446744073709551616 ≤ fuel) (hw : x.wf) (hs : x.sz ≤ 1048576) : ∃ r, m_spec_ValidChannel fuel x = some r ∧ m_impl_ValidChannel fuel x = some r := by
  obtain ⟨w1, w2, w3, w4, w5, w6, w7, w8, _⟩ := hw
  unfold D.Channel.sz at hs
  have l1 : x.Messages.length ≤ 1048576 := szL_len (f := ByteArray.size) (by omega)
  have l2 : x.Early.length ≤ 1048576 := szL_len (f := D.Packet.sz) (by omega)
  have l3 : x.Delivered.length ≤ 1048576 := szL_len (f := ByteArray.size) (by omega)
  have l4 : x.Flight.length ≤ 1048576 := szL_len (f := D.Packet.sz) (by omega)
  have hm : maxLen = 9223372036854775807 := rfl
  have A := all_loop (xs := x.Messages) (body := m_spec_l28Ok_b1 fuel x) (fuel := fuel) (t := ()) (p := fun y => decide ((y.size : Int) > 40)) (g := fun _ => false) (by omega) hf (by
    intro i y hy
    have hi := (List.getElem?_eq_some_iff.1 hy).1
    simp only [m_spec_l28Ok_b1, idx_at hy, lt_t (show (i : Int) < x.Messages.length by omega), if_true, Option.bind_some]) (by simp [m_spec_l28Ok_b1])
  have B := all_loop (xs := x.Messages) (body := m_slices_IndexFunc_string_string_b1 fuel x.Messages (fun y0 => m_impl_ValidChannel_c1 fuel y0)) (fuel := fuel) (t := ()) (p := fun y => decide ((y.size : Int) > 40)) (g := fun i => i) (by omega) hf (by
    intro i y hy
    have hi := (List.getElem?_eq_some_iff.1 hy).1
    simp only [m_slices_IndexFunc_string_string_b1, m_impl_ValidChannel_c1, idx_at hy, lt_t (show (i : Int) < x.Messages.length by omega), if_true, Option.bind_some]) (by simp [m_slices_IndexFunc_string_string_b1])
  have C : m_slices_ContainsFunc_string_string fuel x.Messages (fun y0 => m_impl_ValidChannel_c1 fuel y0) = some (x.Messages.any fun y => decide ((y.size : Int) > 40)) := by
    simp only [m_slices_ContainsFunc_string_string, m_slices_IndexFunc_string_string]
    rcases B with ⟨b1, b2⟩ | ⟨b1, j, b2⟩
    · rw [b2, b1]; rfl
    · rw [b2, b1]
      show some (decide ((j : Int) ≥ 0)) = some true
      simp
  have t1 : m_impl_ValidChannel_j1 fuel x true = some false := rfl
  have t2 : m_impl_ValidChannel_j2 fuel x true = some false := rfl
  have t3 : m_spec_l28Ok_j1 fuel x true = some false := rfl
  have hN : m_impl_Channel_numbersOk fuel x = some (decide (0 ≤ x.Base ∧ x.Base ≤ x.Expected ∧ x.Expected ≤ x.Next ∧ x.Next ≤ x.Messages.length ∧ w64 (x.Next - x.Base) ≤ x.Window)) := by
    unfold m_impl_Channel_numbersOk
    by_cases a : x.Base ≥ 0 <;> by_cases b : x.Base ≤ x.Expected <;> by_cases c : x.Expected ≤ x.Next <;> by_cases d : x.Next ≤ x.Messages.length <;> simp [a, b, c, d]
    all_goals omega
  by_cases hA : (1 ≤ x.Window ∧ x.Window ≤ 8) ∧ x.Messages.length ≤ 30 ∧ (0 ≤ x.Base ∧ x.Base ≤ x.Expected ∧ x.Expected ≤ x.Next ∧ x.Next ≤ x.Messages.length ∧ w64 (x.Next - x.Base) ≤ x.Window) ∧ x.Flight.length ≤ 60
  · obtain ⟨⟨a1, a2⟩, a3, a4, a5⟩ := hA
    have e1 : m_spec_ValidChannel fuel x = m_spec_l28Ok_j1 fuel x false := by
      obtain ⟨b1, b2, b3, b4, b5⟩ := a4
      have q : (m_spec_l28Ok_j1 fuel x false).bind (fun r18 => some r18) = m_spec_l28Ok_j1 fuel x false := by cases m_spec_l28Ok_j1 fuel x false <;> rfl
      simp only [m_spec_ValidChannel, m_spec_l28Ok, m_spec_l00In]
      simp [a1, a2, a3, b1, b2, b3, b4, b5, a5, show ¬ (30 : Int) < x.Messages.length by omega, show x.Base ≤ x.Messages.length by omega, show x.Base ≤ x.Next by omega, show ¬ x.Window < w64 (x.Next - x.Base) by omega, show ¬ (60 : Int) < x.Flight.length by omega, q]
    have e2 : m_impl_ValidChannel fuel x = m_impl_ValidChannel_j1 fuel x (x.Messages.any fun y => decide ((y.size : Int) > 40)) := by
      simp only [m_impl_ValidChannel, C, Option.bind_some]
      simp [show ¬ x.Window < 1 by omega, show ¬ 8 < x.Window by omega, show ¬ (30 : Int) < x.Messages.length by omega]
    rw [e1, e2]
    unfold m_spec_l28Ok_j1
    rw [if_neg (by simp)]
    rcases A with ⟨c1, c2⟩ | ⟨c1, i, c2⟩
    · rw [c1, c2]
      unfold m_impl_ValidChannel_j1
      rw [if_neg Bool.false_ne_true, hN.trans (congrArg some (decide_eq_true a4)), Option.bind_some, Option.bind_some, if_neg (by decide : ¬ (!true) = true), if_pos (by simp; omega)]
      show ∃ r, m_spec_l28Ok_j2 fuel x () = some r ∧ _
      unfold m_spec_l28Ok_j2
      by_cases hD : (x.Delivered.length : Int) = x.Expected
      · rw [if_neg (by simp [hD])]
        obtain ⟨r, h1, h2⟩ := delivered_same (x := x) hf (by omega) (by omega) hD l3
        rw [h2, Option.bind_some]
        rcases h1 with ⟨h1, rfl⟩ | ⟨h1, rfl⟩
        · rw [h1, if_neg (by simp), show decide ((x.Flight.length : Int) > 60) = false by simp; omega]
          exact early_same hf (by omega) a4.2.2.2.1 l1 l4 l2
        · rw [h1]
          exact ⟨false, rfl, rfl⟩
      · rw [if_pos (by simpa using hD)]
        have : m_slices_Equal_string_string fuel x.Delivered ((x.Messages.take x.Expected.toNat).drop 0) = some false := by
          unfold m_slices_Equal_string_string
          rw [if_pos (by simp; omega)]
        rw [this, Option.bind_some]
        exact ⟨false, rfl, rfl⟩
    · rw [c1, c2]
      exact ⟨false, rfl, rfl⟩
  · have e1 : m_spec_ValidChannel fuel x = some false := by
      have q : m_spec_l28Ok fuel x = some false := by
        simp only [m_spec_l28Ok, m_spec_l00In, t3]
        by_cases c1 : x.Window ≥ 1
        · by_cases c2 : x.Window ≤ 8
          · by_cases c3 : (x.Messages.length : Int) > 30
            · simp [c1, c2, c3]
            · by_cases c4 : x.Base ≥ 0
              · by_cases c5 : x.Base ≤ x.Messages.length
                · by_cases c6 : x.Next ≥ x.Base
                  · by_cases c7 : x.Next ≤ x.Messages.length
                    · by_cases c8 : w64 (x.Next - x.Base) > x.Window
                      · simp [c1, c2, c3, c4, c5, c6, c7, c8]
                      · by_cases c9 : x.Expected ≥ x.Base
                        · by_cases c10 : x.Expected ≤ x.Next
                          · have c11 : (x.Flight.length : Int) > 60 := by omega
                            simp [c1, c2, c3, c4, c5, c6, c7, c8, c9, c10, c11, t3]
                          · simp [c1, c2, c3, c4, c5, c6, c7, c8, c9, c10]
                        · simp [c1, c2, c3, c4, c5, c6, c7, c8, c9]
                    · simp [c1, c2, c3, c4, c5, c6, c7]
                  · simp [c1, c2, c3, c4, c5, c6]
                · simp [c1, c2, c3, c4, c5]
              · simp [c1, c2, c3, c4]
          · simp [c1, c2]
        · simp [c1]
      simp only [m_spec_ValidChannel, q, Option.bind_some]
    have e2 : m_impl_ValidChannel fuel x = some false := by
      simp only [m_impl_ValidChannel, C, Option.bind_some, t1]
      by_cases c1 : x.Window < 1
      · simp [c1]
      · by_cases c2 : x.Window > 8
        · simp [c1, c2]
        · by_cases c3 : (x.Messages.length : Int) > 30
          · simp [c1, c2, c3]
          · rw [if_neg (by simpa using c1), if_neg (by simpa using c2), if_neg (by simpa using c3)]
            cases x.Messages.any fun y => decide ((y.size : Int) > 40) with
            | true => exact t1
            | false =>
              unfold m_impl_ValidChannel_j1
              rw [if_neg Bool.false_ne_true]
              by_cases c4 : 0 ≤ x.Base ∧ x.Base ≤ x.Expected ∧ x.Expected ≤ x.Next ∧ x.Next ≤ x.Messages.length ∧ w64 (x.Next - x.Base) ≤ x.Window
              · rw [hN.trans (congrArg some (decide_eq_true c4)), Option.bind_some, if_neg (by decide : ¬ (!true) = true), if_pos (by simp; omega), show decide ((x.Flight.length : Int) > 60) = true by simp; omega, t2]
                have : ∃ r, m_slices_Equal_string_string fuel x.Delivered ((x.Messages.take x.Expected.toNat).drop 0) = some r := by
                  by_cases hD : (x.Delivered.length : Int) = x.Expected
                  · obtain ⟨r, _, h2⟩ := delivered_same (x := x) hf (by omega) (by omega) hD l3
                    exact ⟨r, h2⟩
                  · refine ⟨false, ?_⟩
                    unfold m_slices_Equal_string_string
                    rw [if_pos (by simp; omega)]
                obtain ⟨r, hr⟩ := this
                rw [hr, Option.bind_some]
                cases r <;> rfl
              · rw [hN.trans (congrArg some (decide_eq_false c4)), Option.bind_some, if_pos (by decide : (!false) = true), t2]
    exact ⟨false, e1, e2⟩
end

theorem ok_two {fuel : Nat} {x : D.Channel} (hf : 18446744073709551616 ≤ fuel) (hw : x.wf) (hs : x.sz ≤ 1048576) : ∃ r, m_spec_l28Ok fuel x = some r ∧ m_impl_ValidChannel fuel x = some r := by
  obtain ⟨r, h1, h2⟩ := same_ValidChannel hf hw hs
  refine ⟨r, ?_, h2⟩
  unfold m_spec_ValidChannel at h1
  cases h : m_spec_l28Ok fuel x with
  | none => rw [h] at h1; cases h1
  | some b => rw [h] at h1; cases h1; rfl

/-- a loop whose rounds turn back with false alone -/
theorem iter_ret_false {σ τ : Type} {b : σ → Option (Rd σ τ Bool)} (h : ∀ s r, b s = some (.ret r) → r = false) : ∀ (fuel : Nat) (s : σ) (r : Bool), iter b fuel s = some (.inr r) → r = false
  | 0, _, _, e => by simp [iter] at e
  | fuel + 1, s, r, e => by
    unfold iter at e
    cases hb : b s with
    | none => rw [hb] at e; cases e
    | some o =>
      rw [hb] at e
      cases o with
      | next s' => exact iter_ret_false h fuel s' r e
      | brk t => cases e
      | ret q => cases e; exact h s r hb

theorem l00In_eq {fuel : Nat} (a b c : Int) : m_spec_l00In fuel a b c = some (decide (b ≤ a ∧ a ≤ c)) := by
  unfold m_spec_l00In
  by_cases h : b ≤ a <;> simp [h]

/-- packets whose numbers go up, all beyond l -/
def asc : Int → List D.Packet → Prop
  | _, [] => True
  | l, p :: ps => l < p.Number ∧ asc p.Number ps

theorem early_asc {fuel0 : Nat} {x : D.Channel} (hl : x.Early.length ≤ 1048576) : ∀ (fuel : Nat) (i : Nat) (l : Int), i ≤ x.Early.length → iter (m_spec_l28Ok_b3 fuel0 x) fuel (l, (i : Int)) = some (.inl ()) → asc l (x.Early.drop i)
  | 0, i, l, _, h => by simp [iter] at h
  | fuel + 1, i, l, hi, h => by
    unfold iter m_spec_l28Ok_b3 at h
    rcases Nat.lt_or_ge i x.Early.length with h1 | h1
    · obtain ⟨p, hp⟩ := at_lt h1
      have hd : x.Early.drop i = p :: x.Early.drop (i + 1) := by
        have h2 := (List.getElem?_eq_some_iff.1 hp).2
        rw [← h2, ← List.drop_eq_getElem_cons h1]
      dsimp only at h
      rw [if_pos (decide_eq_true (by omega)), idx_at hp, Option.bind_some] at h
      cases ha : p.Ack with
      | true => rw [ha, if_pos rfl] at h; cases h
      | false =>
        rw [ha, if_neg Bool.false_ne_true] at h
        by_cases hn : p.Number ≤ l
        · rw [if_pos (decide_eq_true hn)] at h; cases h
        · rw [if_neg (by simpa using hn)] at h
          cases hf : m_spec_l28Flight fuel0 x p with
          | none => rw [hf] at h; cases h
          | some b =>
            rw [hf, Option.bind_some] at h
            cases b with
            | false => cases h
            | true =>
              have h3 : iter (m_spec_l28Ok_b3 fuel0 x) fuel (p.Number, w64 ((i : Int) + 1)) = some (.inl ()) := h
              rw [i64_small (by omega) (by omega)] at h3
              rw [hd]
              exact ⟨by omega, early_asc hl fuel (i + 1) p.Number h1 h3⟩
    · rw [List.drop_eq_nil_of_le h1]
      trivial

theorem ok_facts {fuel : Nat} {x : D.Channel} (hl : x.Early.length ≤ 1048576) (h : m_spec_l28Ok fuel x = some true) :
    (1 ≤ x.Window ∧ x.Window ≤ 8) ∧ 0 ≤ x.Base ∧ x.Base ≤ x.Expected ∧ x.Expected ≤ x.Next ∧ x.Next ≤ x.Messages.length ∧ x.Messages.length ≤ 30 ∧ x.Next - x.Base ≤ 30 ∧ x.Flight.length ≤ 60 ∧ asc x.Expected x.Early := by
  have t : m_spec_l28Ok_j1 fuel x true = some false := rfl
  unfold m_spec_l28Ok at h
  simp only [l00In_eq, Option.bind_some, t] at h
  by_cases c1 : 1 ≤ x.Window ∧ x.Window ≤ 8
  · rw [decide_eq_true c1, if_neg (by simp)] at h
    by_cases c2 : (x.Messages.length : Int) > 30
    · rw [if_pos (decide_eq_true c2)] at h; cases h
    · rw [if_neg (by simpa using c2)] at h
      by_cases c3 : 0 ≤ x.Base ∧ x.Base ≤ (x.Messages.length : Int)
      · rw [decide_eq_true c3, if_neg (by simp)] at h
        by_cases c4 : x.Base ≤ x.Next ∧ x.Next ≤ (x.Messages.length : Int)
        · rw [decide_eq_true c4, if_neg (by simp)] at h
          by_cases c5 : w64 (x.Next - x.Base) > x.Window
          · rw [if_pos (decide_eq_true c5)] at h; cases h
          · rw [if_neg (by simpa using c5)] at h
            by_cases c6 : x.Base ≤ x.Expected ∧ x.Expected ≤ x.Next
            · rw [decide_eq_true c6, if_neg (by simp)] at h
              by_cases c7 : (x.Flight.length : Int) > 60
              · rw [decide_eq_true c7, t] at h; cases h
              · rw [decide_eq_false c7] at h
                refine ⟨c1, c3.1, c6.1, c6.2, c4.2, by omega, by omega, by omega, ?_⟩
                unfold m_spec_l28Ok_j1 at h
                rw [if_neg Bool.false_ne_true] at h
                obtain ⟨o, h1, h2⟩ := bind_some h
                cases o with
                | inr b =>
                  have hb : b = true := by cases h2; rfl
                  subst hb
                  exact absurd h1 (by
                    intro h1
                    have := iter_ret_false (b := m_spec_l28Ok_b1 fuel x) (fun s r hr => by
                      unfold m_spec_l28Ok_b1 at hr
                      split at hr
                      · obtain ⟨y, _, hr⟩ := bind_some hr
                        split at hr <;> cases hr <;> rfl
                      · cases hr) fuel 0 true h1
                    cases this)
                | inl u =>
                  have h3 : m_spec_l28Ok_j2 fuel x () = some true := h2
                  unfold m_spec_l28Ok_j2 at h3
                  split at h3
                  · cases h3
                  · obtain ⟨o, h4, h5⟩ := bind_some h3
                    cases o with
                    | inr b =>
                      have hb : b = true := by cases h5; rfl
                      subst hb
                      exact absurd h4 (by
                        intro h4
                        have := iter_ret_false (b := m_spec_l28Ok_b2 fuel x) (fun s r hr => by
                          unfold m_spec_l28Ok_b2 at hr
                          split at hr
                          · obtain ⟨y, _, hr⟩ := bind_some hr
                            obtain ⟨z, _, hr⟩ := bind_some hr
                            split at hr <;> cases hr <;> rfl
                          · cases hr) fuel 0 true h4
                        cases this)
                    | inl u =>
                      have h6 : m_spec_l28Ok_j3 fuel x () = some true := h5
                      unfold m_spec_l28Ok_j3 at h6
                      obtain ⟨o, h7, h8⟩ := bind_some h6
                      cases o with
                      | inr b =>
                        have hb : b = true := by cases h8; rfl
                        subst hb
                        exact absurd h7 (by
                          intro h7
                          have := iter_ret_false (b := m_spec_l28Ok_b3 fuel x) (fun s r hr => by
                            unfold m_spec_l28Ok_b3 m_spec_l28Ok_j6 at hr
                            split at hr
                            · obtain ⟨y, _, hr⟩ := bind_some hr
                              split at hr
                              · simp at hr; exact hr
                              · split at hr
                                · simp at hr; exact hr
                                · obtain ⟨z, _, hr⟩ := bind_some hr
                                  split at hr <;> cases hr <;> rfl
                            · cases hr) fuel (x.Expected, 0) true h7
                          cases this)
                      | inl u => exact early_asc (i := 0) hl fuel x.Expected (Nat.zero_le _) h7
            · rw [decide_eq_false c6, if_pos (by decide : (!false) = true)] at h; cases h
        · rw [decide_eq_false c4, if_pos (by decide : (!false) = true)] at h; cases h
      · rw [decide_eq_false c3, if_pos (by decide : (!false) = true)] at h; cases h
  · rw [decide_eq_false c1, if_pos (by decide : (!false) = true)] at h; cases h
end Go.E
