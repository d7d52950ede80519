/- NewChannel: the plain law. Conditions: none but the arguments' own size. -/
import Derived.Test.YtlgkoadccodcaaaMarksN
import Derived.Test.YtlgkoadccodcaaaOkChannelN
namespace Go.E
open Go.RowKit Go.Proofs
set_option linter.unusedSimpArgs false
set_option linter.unusedVariables false

theorem same_NewChannel {fuel : Nat} {x : List ByteArray} {n : Int} (hf : 18446744073709551616 ≤ fuel) (hw : WfL (fun s : ByteArray => s.size ≤ maxLen) x) (hn : I64 n) (hs : szL ByteArray.size x ≤ 1048576) :
    ∃ r : D.Channel × Int, m_spec_NewChannel fuel x n = some r ∧ m_impl_NewChannel fuel x n = some r ∧ r.1.sz ≤ 1048576 := by
  have hz : (⟨n, x, 0, 0, 0, [], [], []⟩ : D.Channel).sz ≤ 1048576 := by
    unfold D.Channel.sz szL at *
    simp only [sumL, List.length_nil]
    omega
  have hwf : (⟨n, x, 0, 0, 0, [], [], []⟩ : D.Channel).wf := by
    have z0 : I64 0 := by constructor <;> decide
    have e1 : ∀ {α : Type} {p : α → Prop}, WfL p [] := ⟨Nat.zero_le _, by simp⟩
    exact ⟨hn, hw, z0, z0, z0, e1, e1, e1, trivial⟩
  obtain ⟨b, h1, h2⟩ := ok_two hf hwf hz
  have hl := szL_len hs
  have hc : m_slices_Clone_string_string fuel x = some x := by
    unfold m_slices_Clone_string_string
    rw [if_pos (by simp; omega)]
    simp
  have ho : m_spec_l28Own fuel ⟨n, x, 0, 0, 0, [], [], []⟩ = some ⟨n, x, 0, 0, 0, [], [], []⟩ := by
    unfold m_spec_l28Own
    simp
    omega
  simp only [m_spec_NewChannel, m_impl_NewChannel, hc, h1, h2, ho, Option.bind_some]
  cases b with
  | true => exact ⟨(⟨n, x, 0, 0, 0, [], [], []⟩, 0), rfl, rfl, hz⟩
  | false => exact ⟨(⟨0, [], 0, 0, 0, [], [], []⟩, 2), rfl, rfl, by unfold D.Channel.sz szL; simp [sumL]⟩

theorem lawNewChannel {x0 : (List ByteArray)} {x1 : Int} (h0 : (WfL (fun s => s.size ≤ maxLen)) x0) (h1 : I64 x1) : ∃ fuel, m_laws_FnExactNewChannel fuel x0 x1 = some true := by
  obtain ⟨fuel, hf⟩ : ∃ n : Nat, 18446744073709551616 ≤ n := ⟨_, Nat.le_refl _⟩
  refine ⟨fuel, ?_⟩
  unfold m_laws_FnExactNewChannel
  obtain ⟨r0, e0, s0⟩ := szStringS_pure (l := (1048576 : Int)) hf h0 (by decide) (by omega)
  rw [e0, Option.bind_some]
  rcases s0 with s0 | ⟨s0, t0⟩
  · rw [if_pos (by simp [s0])]
  rw [if_neg (by simp [s0])]
  have z0 : szL ByteArray.size x0 ≤ 1048576 := by omega
  obtain ⟨r, a0, a1, b0⟩ := same_NewChannel hf h0 h1 z0
  have m0 := fun {β : Type} (g : _ → Option β) => bind_of (g := g) a0
  have m1 := fun {β : Type} (g : _ → Option β) => bind_of (g := g) a1
  have m2 := fun {β : Type} (g : _ → Option β) => bind_of (g := g) (toStringS_pure hf z0)
  have m3 := fun {β : Type} (g : _ → Option β) => bind_of (g := g) (eqStringS_pure hf z0)
  have m4 := fun {β : Type} (g : _ → Option β) (k : Int) (h0 : 0 ≤ k) (h1 : k + (ctStringS x0 : Nat) ≤ 2147483648) => bind_of (g := g) (markStringS_pure hf z0 h0 h1)
  have c0 := ctStringS_le (xs := x0)
  have m5 := fun {β : Type} (g : _ → Option β) => bind_of (g := g) (eqChannel_pure hf b0)
  have m6 := fun {β : Type} (g : _ → Option β) (k : Int) (h0 : 0 ≤ k) (h1 : k + (ctChannel r.1 : Nat) ≤ 2147483648) => bind_of (g := g) (markChannel_pure hf b0 h0 h1)
  have m7 := fun {β : Type} (g : _ → Option β) (k : Int) (h0 : 0 ≤ k) (h1 : k + (ctChannel r.1 : Nat) ≤ 2147483648) => bind_of (g := g) (heldChannel_pure hf b0 h0 h1)
  have d0 := ctChannel_le (x := r.1)
  simp (disch := omega) only [↓reduceIte, ↓m0, ↓m1, ↓m2, ↓m3, ↓m4, ↓m5, ↓m6, ↓m7, lt_f, Bool.not_true, Bool.false_eq_true, bne_self_eq_false, mkChannel_eta]
  simp (disch := omega) only [↓reduceIte, ↓m_laws_FnExactNewChannel_j1, ↓m0, ↓m1, ↓m2, ↓m3, ↓m4, ↓m5, ↓m6, ↓m7, lt_f, Bool.not_true, Bool.false_eq_true, bne_self_eq_false, mkChannel_eta]
  simp (disch := omega) only [↓reduceIte, ↓m_laws_FnExactNewChannel_j2, ↓m0, ↓m1, ↓m2, ↓m3, ↓m4, ↓m5, ↓m6, ↓m7, lt_f, Bool.not_true, Bool.false_eq_true, bne_self_eq_false, mkChannel_eta]
  simp (disch := omega) only [↓reduceIte, ↓m_laws_FnExactNewChannel_j3, ↓m0, ↓m1, ↓m2, ↓m3, ↓m4, ↓m5, ↓m6, ↓m7, lt_f, Bool.not_true, Bool.false_eq_true, bne_self_eq_false, mkChannel_eta]
end Go.E
