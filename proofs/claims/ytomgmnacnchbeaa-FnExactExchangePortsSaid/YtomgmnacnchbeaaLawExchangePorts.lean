/- ExchangePorts: the plain law. Conditions: none but the arguments' own size. -/
import Derived.Test.YtomgmnacnchbeaaMarksX
import Derived.Test.YtomgmnacnchbeaaNetOps
namespace Go.E
open Go.RowKit Go.Proofs
set_option linter.unusedSimpArgs false
set_option linter.unusedVariables false

theorem net_sz {x : D.Net} (h : x.sz ≤ 1048576) : x.Agents.length ≤ 1048576 ∧ sumL (fun a : D.Agent => a.Ports.length) x.Agents ≤ 1048576 ∧ ∀ a, a ∈ x.Agents → a.Data.length ≤ maxLen ∧ a.Ports.length ≤ maxLen := by
  have hm : maxLen = 9223372036854775807 := rfl
  unfold D.Net.sz szL at h
  have h1 : ∀ xs : List D.Agent, sumL (fun a : D.Agent => a.Ports.length) xs ≤ sumL D.Agent.sz xs := by
    intro xs
    induction xs with
    | nil => exact Nat.le_refl _
    | cons y ys ih => unfold sumL; have : y.Ports.length ≤ y.sz := by unfold D.Agent.sz; omega
                      omega
  refine ⟨by omega, Nat.le_trans (h1 _) (by omega), fun a ha => ?_⟩
  have := sumL_mem (f := D.Agent.sz) ha
  have h9 : a.sz = a.Data.length + (a.Ports.length + 0) := rfl
  omega
theorem own_agent {a : D.Agent} {fuel : Nat} (h1 : a.Data.length ≤ 1048576) (h2 : a.Ports.length ≤ 1048576) : m_spec_l11OwnAgent fuel a = some a := by
  unfold m_spec_l11OwnAgent m_spec_l00Own
  rw [if_pos (by simp; omega), Option.bind_some, if_pos (by simp; omega)]
  simp
theorem copy_agent {a : D.Agent} {fuel : Nat} (h1 : a.Data.length ≤ 1048576) (h2 : a.Ports.length ≤ 1048576) : m_impl_copyAgent fuel a = some a := by
  unfold m_impl_copyAgent m_slices_Clone_int64_int64 m_slices_Clone_impl_Port_impl_Port
  rw [if_pos (by simp; omega), Option.bind_some, if_pos (by simp; omega)]
  simp
theorem agent_sz {x : D.Net} (h : x.sz ≤ 1048576) {a : D.Agent} (ha : a ∈ x.Agents) : a.Data.length ≤ 1048576 ∧ a.Ports.length ≤ 1048576 := by
  unfold D.Net.sz szL at h
  have := sumL_mem (f := D.Agent.sz) ha
  have h9 : a.sz = a.Data.length + (a.Ports.length + 0) := rfl
  omega
theorem own_net {x : D.Net} {fuel : Nat} (hf : 18446744073709551616 ≤ fuel) (h : x.sz ≤ 1048576) : m_spec_l11Own fuel x = some x := by
  have hl := (net_sz h).1
  unfold m_spec_l11Own
  rw [mapLoop (xs := x.Agents) (g := fun a => a) hl hf (fun i a s ha hs => by
    have hil := (List.getElem?_eq_some_iff.1 ha).1
    obtain ⟨z1, z2⟩ := agent_sz h (List.mem_of_getElem? ha)
    unfold m_spec_l11Own_b1
    rw [if_pos (by simpa using hil), idx_at ha, Option.bind_some, own_agent z1 z2, Option.bind_some, if_pos (by simp; omega)]) (fun s => by unfold m_spec_l11Own_b1; rw [if_neg (by simp)])]
  simp [aft, m_spec_l11Own_j1]
theorem copy_net {x : D.Net} {fuel : Nat} (hf : 18446744073709551616 ≤ fuel) (h : x.sz ≤ 1048576) : m_impl_copyNet fuel x = some x := by
  have hl := (net_sz h).1
  unfold m_impl_copyNet
  rw [if_pos (by simp; omega), mapLoop (xs := x.Agents) (g := fun a => a) hl hf (fun i a s ha hs => by
    have hil := (List.getElem?_eq_some_iff.1 ha).1
    obtain ⟨z1, z2⟩ := agent_sz h (List.mem_of_getElem? ha)
    unfold m_impl_copyNet_b1
    rw [if_pos (by simpa using hil), idx_at ha, Option.bind_some, copy_agent z1 z2, Option.bind_some, if_pos (by simp; omega)]) (fun s => by unfold m_impl_copyNet_b1; rw [if_neg (by simp)])]
  simp [aft, m_impl_copyNet_j1]
theorem link_eq {n : D.Net} {p q : D.Port} {fuel : Nat} : m_impl_Net_link fuel n p q = linkN n p q := by
  unfold m_impl_Net_link linkN setPort
  cases idx n.Agents p.Agent with
  | none => rfl
  | some a =>
    simp only [Option.bind_some]
    split
    · simp only [Option.bind_some]
    · rfl
theorem link_spec {n : D.Net} {p q : D.Port} {fuel : Nat} : m_spec_l11Link fuel n p q = linkN n p q := link_eq (fuel := fuel)
theorem peer_spec {n : D.Net} {p : D.Port} {fuel : Nat} : m_spec_l11Peer fuel n p = portAt n p := peer_impl (fuel := fuel)
theorem sz_shp {n m : D.Net} (h : m.Agents.map shp = n.Agents.map shp) : m.sz = n.sz := by
  unfold D.Net.sz szL
  have h1 : m.Agents.length = n.Agents.length := by simpa using congrArg List.length h
  have h2 : sumL D.Agent.sz m.Agents = sumL D.Agent.sz n.Agents := shp_sum h (fun x => x.2.2.2.1.length + (x.2.2.2.2 + 0))
  omega
/-- the answer of both sides -/
theorem same_ExchangePorts {fuel : Nat} {x : D.Net} {p q : D.Port} (hf : 18446744073709551616 ≤ fuel) (h0 : D.Net.wf x) (h1 : D.Port.wf p) (h2 : D.Port.wf q) (hs : x.sz ≤ 1048576) :
    ∃ r : D.Net × Int, m_spec_ExchangePorts fuel x p q = some r ∧ m_impl_ExchangePorts fuel x p q = some r ∧ r.1.sz ≤ 1048576 := by
  obtain ⟨z1, z2, z3⟩ := net_sz hs
  have ze : (⟨[]⟩ : D.Net).sz ≤ 1048576 := by unfold D.Net.sz szL; simp [sumL]
  have hm : maxLen = 9223372036854775807 := rfl
  unfold m_spec_ExchangePorts m_impl_ExchangePorts
  rw [net_spec hf z1 z3, net_impl hf z1 z2 z3, Option.bind_some, Option.bind_some, hasPort_spec (by omega) (fun a ha => (z3 a ha).2), hasPort_spec (by omega) (fun a ha => (z3 a ha).2), hasPort_impl, hasPort_impl]
  cases hn : netN x with
  | false => exact ⟨_, rfl, rfl, ze⟩
  | true =>
    rw [if_neg (by simp), if_neg (by simp)]
    simp only [Option.bind_some]
    have bad : ∃ r : D.Net × Int, m_spec_ExchangePorts_j1 fuel x p q true = some r ∧ m_impl_ExchangePorts_j1 fuel x p q true = some r ∧ r.1.sz ≤ 1048576 := ⟨_, rfl, rfl, ze⟩
    cases hp : hasN x.Agents p with
    | false => exact bad
    | true =>
      rw [if_neg (by simp), if_neg (by simp)]
      cases hq : hasN x.Agents q with
      | false => exact bad
      | true =>
        obtain ⟨a, ha⟩ := has_port hp
        obtain ⟨b, hb⟩ := has_port hq
        have na := net_peer hn hp ha
        have nb := net_peer hn hq hb
        obtain ⟨m1, c1, c2, _⟩ := linkN_ok hp nb.2.1
        obtain ⟨m2, d1, d2, _⟩ := linkN_ok (n := m1) (p := q) (q := a) (by rw [shp_has c2]; exact hq) (by rw [shp_has c2]; exact na.2.1)
        unfold m_spec_ExchangePorts_j1 m_impl_ExchangePorts_j1
        rw [if_neg (by simp), if_neg (by simp), own_net hf hs, copy_net hf hs, Option.bind_some, Option.bind_some]
        simp only [peer_spec, peer_impl, ha, hb, Option.bind_some]
        unfold m_impl_ExchangePorts_j2
        have key : ∀ t : Bool, ∃ r : D.Net × Int, m_spec_ExchangePorts_j2 fuel p q x a b t = some r ∧ m_impl_ExchangePorts_j3 fuel p q x ((a.Agent, a.Slot), (b.Agent, b.Slot)) t = some r ∧ r.1.sz ≤ 1048576 := fun t => by
          unfold m_spec_ExchangePorts_j2 m_impl_ExchangePorts_j3
          cases t with
          | false => exact ⟨_, rfl, rfl, hs⟩
          | true =>
            rw [if_pos rfl, if_pos rfl]
            simp only [link_spec, link_eq]
            have c1' : linkN ⟨x.Agents⟩ p b = some m1 := c1
            have d1' : linkN ⟨m1.Agents⟩ q a = some m2 := d1
            rw [c1', Option.bind_some, d1', Option.bind_some]
            refine ⟨_, rfl, ?_, ?_⟩
            · simp only [Option.bind_some]
              rw [show (⟨a.Agent, a.Slot⟩ : D.Port) = a from rfl, d1']
              rfl
            · show D.Net.sz m2 ≤ _
              rw [sz_shp (d2.trans c2)]; exact hs
        split
        · exact key _
        · exact key _

theorem lawExchangePorts {x0 : D.Net} {x1 : D.Port} {x2 : D.Port} (h0 : D.Net.wf x0) (h1 : D.Port.wf x1) (h2 : D.Port.wf x2) : ∃ fuel, m_laws_FnExactExchangePorts fuel x0 x1 x2 = some true := by
  obtain ⟨fuel, hf⟩ : ∃ n : Nat, 18446744073709551616 ≤ n := ⟨_, Nat.le_refl _⟩
  refine ⟨fuel, ?_⟩
  unfold m_laws_FnExactExchangePorts
  obtain ⟨r0, e0, s0⟩ := szNet_pure (l := (1048576 : Int)) hf h0 (by decide) (by omega)
  rw [e0, Option.bind_some]
  rcases s0 with s0 | ⟨s0, t0⟩
  · rw [if_pos (by simp [s0])]
  rw [if_neg (by simp [s0])]
  have z0 : D.Net.sz x0 ≤ 1048576 := by omega
  obtain ⟨r, a0, a1, b0⟩ := same_ExchangePorts hf h0 h1 h2 z0
  have m0 := fun {β : Type} (g : _ → Option β) => bind_of (g := g) a0
  have m1 := fun {β : Type} (g : _ → Option β) => bind_of (g := g) a1
  have m2 := fun {β : Type} (g : _ → Option β) => bind_of (g := g) (toNet_pure hf z0)
  have m3 := fun {β : Type} (g : _ → Option β) => bind_of (g := g) (eqNet_pure hf z0)
  have m4 := fun {β : Type} (g : _ → Option β) (k : Int) (h0 : 0 ≤ k) (h1 : k + (ctNet x0 : Nat) ≤ 2147483648) => bind_of (g := g) (markNet_pure hf z0 h0 h1)
  have c0 := ctNet_le (x := x0)
  have m5 := fun {β : Type} (g : _ → Option β) => bind_of (g := g) (toPort_pure hf (x := x1) (Nat.zero_le _))
  have m6 := fun {β : Type} (g : _ → Option β) => bind_of (g := g) (eqPort_pure hf (x := x1) (Nat.zero_le _))
  have m7 := fun {β : Type} (g : _ → Option β) => bind_of (g := g) (toPort_pure hf (x := x2) (Nat.zero_le _))
  have m8 := fun {β : Type} (g : _ → Option β) => bind_of (g := g) (eqPort_pure hf (x := x2) (Nat.zero_le _))
  have m9 := fun {β : Type} (g : _ → Option β) => bind_of (g := g) (eqNet_pure hf b0)
  have m10 := fun {β : Type} (g : _ → Option β) (k : Int) (h0 : 0 ≤ k) (h1 : k + (ctNet r.1 : Nat) ≤ 2147483648) => bind_of (g := g) (markNet_pure hf b0 h0 h1)
  have m11 := fun {β : Type} (g : _ → Option β) (k : Int) (h0 : 0 ≤ k) (h1 : k + (ctNet r.1 : Nat) ≤ 2147483648) => bind_of (g := g) (heldNet_pure hf b0 h0 h1)
  have d0 := ctNet_le (x := r.1)
  simp (disch := omega) only [↓reduceIte, ↓m0, ↓m1, ↓m2, ↓m3, ↓m4, ↓m5, ↓m6, ↓m7, ↓m8, ↓m9, ↓m10, ↓m11, lt_f, Bool.not_true, Bool.false_eq_true, bne_self_eq_false, mkNet_eta]
  simp (disch := omega) only [↓reduceIte, ↓m_laws_FnExactExchangePorts_j1, ↓m0, ↓m1, ↓m2, ↓m3, ↓m4, ↓m5, ↓m6, ↓m7, ↓m8, ↓m9, ↓m10, ↓m11, lt_f, Bool.not_true, Bool.false_eq_true, bne_self_eq_false, mkNet_eta]
  simp (disch := omega) only [↓reduceIte, ↓m_laws_FnExactExchangePorts_j2, ↓m0, ↓m1, ↓m2, ↓m3, ↓m4, ↓m5, ↓m6, ↓m7, ↓m8, ↓m9, ↓m10, ↓m11, lt_f, Bool.not_true, Bool.false_eq_true, bne_self_eq_false, mkNet_eta]
  simp (disch := omega) only [↓reduceIte, ↓m_laws_FnExactExchangePorts_j3, ↓m0, ↓m1, ↓m2, ↓m3, ↓m4, ↓m5, ↓m6, ↓m7, ↓m8, ↓m9, ↓m10, ↓m11, lt_f, Bool.not_true, Bool.false_eq_true, bne_self_eq_false, mkNet_eta]
  simp (disch := omega) only [↓reduceIte, ↓m_laws_FnExactExchangePorts_j4, ↓m0, ↓m1, ↓m2, ↓m3, ↓m4, ↓m5, ↓m6, ↓m7, ↓m8, ↓m9, ↓m10, ↓m11, lt_f, Bool.not_true, Bool.false_eq_true, bne_self_eq_false, mkNet_eta]
  simp (disch := omega) only [↓reduceIte, ↓m_laws_FnExactExchangePorts_j5, ↓m0, ↓m1, ↓m2, ↓m3, ↓m4, ↓m5, ↓m6, ↓m7, ↓m8, ↓m9, ↓m10, ↓m11, lt_f, Bool.not_true, Bool.false_eq_true, bne_self_eq_false, mkNet_eta]
  simp (disch := omega) only [↓reduceIte, ↓m_laws_FnExactExchangePorts_j6, ↓m0, ↓m1, ↓m2, ↓m3, ↓m4, ↓m5, ↓m6, ↓m7, ↓m8, ↓m9, ↓m10, ↓m11, lt_f, Bool.not_true, Bool.false_eq_true, bne_self_eq_false, mkNet_eta]
end Go.E
