/- SameChannel: the plain law, and the statement. Conditions: none. -/
import Derived.Test.YtlepmbkfpfnnfaaSizes
import Derived.Test.YtlepmbkfpfnnfaaRows
import Derived.WalkKit
import Derived.ProofKit
import Derived.OpenShut
import Derived.ShutString
import Derived.ChangeOld
import Derived.Below
import Derived.Carry
namespace Go.E
open Go.RowKit Go.Proofs
set_option linter.unusedSimpArgs false
set_option linter.unusedVariables false

theorem sameTexts_total {fuel : Nat} {x y : List ByteArray} (hf : 18446744073709551616 ≤ fuel) (hs : szL ByteArray.size x ≤ 1048576) : ∃ r, m_spec_l28SameTexts fuel x y = some r := by
  have hl := szL_len hs
  unfold m_spec_l28SameTexts
  by_cases he : x.length = y.length
  · rw [if_neg (by simp [he])]
    refine count_total (n := x.length) (by unfold maxLen; omega) hf (fun t => ⟨_, rfl⟩) ?_ ⟨_, by simp [m_spec_l28SameTexts_b1]; rfl⟩
    intro i hi
    obtain ⟨a, ha⟩ := at_lt hi
    obtain ⟨b, hb⟩ := at_lt (he ▸ hi : i < y.length)
    simp only [m_spec_l28SameTexts_b1, idx_at ha, idx_at hb, Option.bind_some, lt_t (show (i : Int) < x.length by omega), if_true]
    split
    · exact .inr (.inl ⟨_, rfl⟩)
    · exact .inl rfl
  · rw [if_pos (by simp; omega)]; exact ⟨_, rfl⟩

theorem samePackets_total {fuel : Nat} {x y : List D.Packet} (hf : 18446744073709551616 ≤ fuel) (hs : szL D.Packet.sz x ≤ 1048576) : ∃ r, m_spec_l28SamePackets fuel x y = some r := by
  have hl := szL_len hs
  unfold m_spec_l28SamePackets
  by_cases he : x.length = y.length
  · rw [if_neg (by simp [he])]
    refine count_total (n := x.length) (by unfold maxLen; omega) hf (fun t => ⟨_, rfl⟩) ?_ ⟨_, by simp [m_spec_l28SamePackets_b1]; rfl⟩
    intro i hi
    obtain ⟨a, ha⟩ := at_lt hi
    obtain ⟨b, hb⟩ := at_lt (he ▸ hi : i < y.length)
    simp only [m_spec_l28SamePackets_b1, idx_at ha, idx_at hb, Option.bind_some, lt_t (show (i : Int) < x.length by omega), if_true]
    split
    · exact .inr (.inl ⟨_, rfl⟩)
    · exact .inl rfl
  · rw [if_pos (by simp; omega)]; exact ⟨_, rfl⟩

theorem same_SameChannel {fuel : Nat} {x y : D.Channel} (hf : 18446744073709551616 ≤ fuel) (hs : x.sz ≤ 1048576) : ∃ r, m_spec_SameChannel fuel x y = some r ∧ m_impl_SameChannel fuel x y = some r := by
  unfold D.Channel.sz at hs
  have e1 : ∀ a b, m_slices_Equal_string_string fuel a b = m_spec_l28SameTexts fuel a b := fun _ _ => rfl
  have e2 : ∀ a b, m_slices_Equal_impl_Packet_impl_Packet fuel a b = m_spec_l28SamePackets fuel a b := fun _ _ => rfl
  obtain ⟨r1, h1⟩ := sameTexts_total (y := y.Messages) hf (show szL ByteArray.size x.Messages ≤ 1048576 by omega)
  obtain ⟨r2, h2⟩ := sameTexts_total (y := y.Delivered) hf (show szL ByteArray.size x.Delivered ≤ 1048576 by omega)
  obtain ⟨r3, h3⟩ := samePackets_total (y := y.Early) hf (show szL D.Packet.sz x.Early ≤ 1048576 by omega)
  obtain ⟨r4, h4⟩ := samePackets_total (y := y.Flight) hf (show szL D.Packet.sz x.Flight ≤ 1048576 by omega)
  simp only [m_spec_SameChannel, m_impl_SameChannel, e1, e2, h1, h2, h3, h4, Option.bind_some]
  cases (x.Window == y.Window) <;> cases (x.Base == y.Base) <;> cases (x.Next == y.Next) <;> cases (x.Expected == y.Expected) <;> cases r1 <;> cases r2 <;> cases r3 <;> cases r4 <;> simp

theorem law3 {x y : D.Channel} (h0 : x.wf) (h1 : y.wf) : ∃ fuel, m_laws_FnExactSameChannel fuel x y = some true := by
  obtain ⟨fuel, hf⟩ : ∃ n : Nat, 18446744073709551616 ≤ n := ⟨_, Nat.le_refl _⟩
  refine ⟨fuel, ?_⟩
  unfold m_laws_FnExactSameChannel
  obtain ⟨r, e1, h3⟩ := szChannel_pure hf h0 (show (0 : Int) ≤ 1048576 by decide) (Int.le_refl _)
  rw [e1, Option.bind_some]
  rcases h3 with h3 | ⟨h3, h4⟩
  · rw [if_pos (by simp [h3])]
  rw [if_neg (by simp [h3])]
  obtain ⟨r', e2, h5⟩ := szChannel_pure hf h1 h3 (by omega)
  rw [e2, Option.bind_some]
  rcases h5 with h5 | ⟨h5, h6⟩
  · rw [if_pos (by simp [h5])]
  rw [if_neg (by simp [h5])]
  obtain ⟨q, e3, e4⟩ := same_SameChannel (y := y) hf (show x.sz ≤ 1048576 by omega)
  simp only [toChannel_pure hf (show x.sz ≤ 1048576 by omega), toChannel_pure hf (show y.sz ≤ 1048576 by omega), Option.bind_some, e3, e4, eqChannel_pure hf (show x.sz ≤ 1048576 by omega), eqChannel_pure hf (show y.sz ≤ 1048576 by omega)]
  simp
end Go.E

namespace Go.Proofs.Ytlepmbkfpfnnfaa.sameChannel
open Go.ChangeShapes Go.WideShapes Go.ChangeAt Go.RowKit Go.E
set_option linter.unusedVariables false

theorem own : ownKnob Try.prog.godebug = none := by kernel_rfl
theorem laidOut : laidOutB Try.prog = true := by kernel_rfl

set_option maxRecDepth 100000 in
theorem lifted (os : Os) (started : os.Started) (H : Type) (enc : TypeId × Value → H) :
    ReturnsInHanded {} Try.checked os 3 .any (Rows.fnExactSameChannelSpec.pre6 enc Try.prog Try.f3 Rows.fnExactSameChannelRow.domain false) (Rows.fnExactSameChannelSpec.post enc Try.prog Try.f3 false true false false) := by
  refine returnsInHanded_of_change (C := Try.checked) own started (by kernel_rfl) Try.func3
    (ChangeSpec.witness6 (enc := enc) (C := Try.checked) false ⟨#[], #[.agg #[.int .i64 0, .slice none 0 0, .int .i64 0, .int .i64 0, .int .i64 0, .slice none 0 0, .slice none 0 0, .slice none 0 0], .agg #[.int .i64 0, .slice none 0 0, .int .i64 0, .int .i64 0, .int .i64 0, .slice none 0 0, .slice none 0 0, .slice none 0 0]], []⟩ 8 (by kernel_rfl) (by kernel_rfl) (by kernel_rfl) (by kernel_rfl)) ?_
  intro W base args ds gs before hval0 hW hcnd _
  have hval : ∀ (j : Nat) t v, Try.f3.params[j]? = some t → args[j]? = some v → Value.okWide Try.prog W .any base t v := hval0
  have hW' := hW
  obtain ⟨p, q, hA0, hV, rfl, hfz, hnd⟩ := hW
  have hA : DataW.TrodAll enc Try.prog W 0 (fun _ => true) true Try.f3.params.toList args.toList ds p := hA0
  rw [Try.params3] at hA hval
  obtain ⟨v0, vs0, d0, ds0, p0, q0, hargs, rfl, rfl, h0, r0⟩ := trodAll_cons hA
  obtain ⟨v1, vs1, d1, ds1, p1, q1, rfl, rfl, rfl, h1, r1⟩ := trodAll_cons r0
  obtain ⟨rfl, rfl, rfl⟩ := trodAll_nil r1
  obtain rfl : args = #[v0, v1] := by cases args; simp_all
  obtain ⟨rfl, rfl⟩ := trodVars_none hV
  have k0 := h0
  have k1 := h1
  have lt0 : ∀ x ∈ p0, x.block < W.heap.size := by obtain ⟨m, hm⟩ := k0; exact DataW.trod_lt m _ _ _ hm
  have lt1 : ∀ x ∈ p1, x.block < W.heap.size := by obtain ⟨m, hm⟩ := k1; exact DataW.trod_lt m _ _ _ hm
  obtain ⟨c0, x0, rfl, g0, w0⟩ := arg_struct Try.underlying25 opens25 (hval 0 25 v0 rfl rfl) h0
  obtain ⟨c1, x1, rfl, g1, w1⟩ := arg_struct Try.underlying25 opens25 (hval 1 25 v1 rfl rfl) h1
  clear hA0 hval0
  obtain ⟨fuel, hm⟩ := law3 w0 w1
  refine (laws_FnExactSameChannel_ok g0 g1 hm).mono ?_
  intro e W' hq
  obtain ⟨v, rfl, rfl, hS⟩ := Ret.out hq
  have bel : Below W.heap.size W W' := hS.ext
  exact ⟨_, rfl, _, _, _, [], _, [], hW', trodAll_mk1 (shut_bool Try.underlying4 _), (trodAll_cons_mk (Below.trod laidOut (by kernel_rfl) (of_decide_eq_true (by kernel_rfl)) k0 bel lt0) (trodAll_cons_mk (Below.trod laidOut (by kernel_rfl) (of_decide_eq_true (by kernel_rfl)) k1 bel lt1) trodAll_mk0)), rfl, bel.frame _, fun h => by cases h⟩

theorem over : Rows.fnExactSameChannelRow.holds Try.pinned (OpenSpec.ofChange Rows.fnExactSameChannelSpec) :=
  OpenClaim.holds_of_wide 3 Try.f3 rfl rfl rfl rfl rfl rfl rfl ⟨rfl, rfl, rfl, rfl, rfl⟩ rfl rfl rfl rfl rfl (by kernel_rfl) Try.func3 (by kernel_rfl)
    (of_decide_eq_true (by kernel_rfl)) (by unfold Func.isWrapper; first | (rw [if_pos (by decide +kernel)]; kernel_rfl) | (rw [if_neg (by decide +kernel)]; exact ⟨rfl, rfl⟩))
    (fun os started H enc _ => lifted os started H enc)

theorem proved : Rows.FnExactSameChannelSaid := over
#print axioms proved
end Go.Proofs.Ytlepmbkfpfnnfaa.sameChannel
