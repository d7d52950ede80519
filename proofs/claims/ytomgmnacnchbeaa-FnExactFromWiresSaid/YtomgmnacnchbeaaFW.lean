/- Models of functions and proofs that the code runs as they say (written by program). Conditions: the model gives a value. -/
import Derived.Test.YtomgmnacnchbeaaFN
namespace Go.E
open Go.RowKit Go.Proofs
set_option linter.unusedVariables false
set_option linter.unusedSimpArgs false
set_option maxHeartbeats 2000000

theorem enters120 : Enters Try.prog 120 := ⟨_, _, Try.func120, rfl, by kernel_rfl⟩
def m_laws_szInt64S (fuel : Nat) (x0 : (List Int)) (x1 : Int) : Option (Int) := (if (decide ((w64 (x1 - (x0.length : Int))) < 0)) = true then some (-1) else some (w64 (x1 - (x0.length : Int))))

set_option maxRecDepth 100000 in
theorem laws_szInt64S_ok {W w : World} (hE : Ext W w) {A0_ : Option Addr} {k0_ : Nat} {x0 : (List Int)} {x1 : Int} (h0_ : ty103.ro W [.slice A0_ x0.length k0_] x0) {fuel : Nat} {r : Int} (hm : m_laws_szInt64S fuel x0 x1 = some r) :
    Calls Try.prog 120 ⟨[.slice A0_ x0.length k0_, .int .i64 x1]⟩ w (Ret fun v w8 => v = .int .i64 r ∧ St w w8 []) := by
  refine Calls.into Try.func120 rfl 12 rfl rfl _ rfl ?_
  unfold m_laws_szInt64S at hm
  have hS := St.start w
  refine WP.seq ?_
  refine WP.region ?_
  refine RW.run ttok 1 rfl ?_
  refine RW.nil ?_
  refine WP.seq ?_
  refine WP.region ?_
  refine RW.run ttok 5 rfl ?_
  refine RW.nil ?_
  refine WP.seq ?_
  refine WP.seq ?_
  refine WP.region ?_
  refine RW.run ttok 2 rfl ?_
  refine RW.nil ?_
  refine WP.cond (decide ((w64 (x1 - (x0.length : Int))) < 0)) rfl (fun hc => ?_) (fun hc => ?_)
  · skip
    rw [if_pos hc] at hm
    refine WP.seq ?_
    refine WP.region ?_
    refine RW.run ttok 1 rfl ?_
    refine RW.nil ?_
    refine WP.ret ?_
    cases hm
    exact ⟨_, .cons (.tmp rfl) .nil, rfl, hS⟩
  · skip
    rw [if_neg (not_t hc)] at hm
    refine WP.skip ?_
    refine WP.seq ?_
    refine WP.region ?_
    refine RW.run ttok 2 rfl ?_
    refine RW.nil ?_
    refine WP.ret ?_
    cases hm
    exact ⟨_, .cons (.tmp rfl) .nil, rfl, hS⟩

theorem enters121 : Enters Try.prog 121 := ⟨_, _, Try.func121, rfl, by kernel_rfl⟩
def m_laws_szPortS (fuel : Nat) (x0 : (List D.Port)) (x1 : Int) : Option (Int) := (if (decide ((w64 (x1 - (x0.length : Int))) < 0)) = true then some (-1) else some (w64 (x1 - (x0.length : Int))))

set_option maxRecDepth 100000 in
theorem laws_szPortS_ok {W w : World} (hE : Ext W w) {A0_ : Option Addr} {k0_ : Nat} {x0 : (List D.Port)} {x1 : Int} (h0_ : ty104.ro W [.slice A0_ x0.length k0_] x0) {fuel : Nat} {r : Int} (hm : m_laws_szPortS fuel x0 x1 = some r) :
    Calls Try.prog 121 ⟨[.slice A0_ x0.length k0_, .int .i64 x1]⟩ w (Ret fun v w8 => v = .int .i64 r ∧ St w w8 []) := by
  refine Calls.into Try.func121 rfl 12 rfl rfl _ rfl ?_
  unfold m_laws_szPortS at hm
  have hS := St.start w
  refine WP.seq ?_
  refine WP.region ?_
  refine RW.run ttok 1 rfl ?_
  refine RW.nil ?_
  refine WP.seq ?_
  refine WP.region ?_
  refine RW.run ttok 5 rfl ?_
  refine RW.nil ?_
  refine WP.seq ?_
  refine WP.seq ?_
  refine WP.region ?_
  refine RW.run ttok 2 rfl ?_
  refine RW.nil ?_
  refine WP.cond (decide ((w64 (x1 - (x0.length : Int))) < 0)) rfl (fun hc => ?_) (fun hc => ?_)
  · skip
    rw [if_pos hc] at hm
    refine WP.seq ?_
    refine WP.region ?_
    refine RW.run ttok 1 rfl ?_
    refine RW.nil ?_
    refine WP.ret ?_
    cases hm
    exact ⟨_, .cons (.tmp rfl) .nil, rfl, hS⟩
  · skip
    rw [if_neg (not_t hc)] at hm
    refine WP.skip ?_
    refine WP.seq ?_
    refine WP.region ?_
    refine RW.run ttok 2 rfl ?_
    refine RW.nil ?_
    refine WP.ret ?_
    cases hm
    exact ⟨_, .cons (.tmp rfl) .nil, rfl, hS⟩

theorem enters59 : Enters Try.prog 59 := ⟨_, _, Try.func59, rfl, by kernel_rfl⟩
def m_laws_szAgent (fuel : Nat) (x0 : D.Agent) (x1 : Int) : Option (Int) := ((m_laws_szInt64S fuel x0.Data x1).bind fun r14 => (if (decide (r14 < 0)) = true then some (-1) else ((m_laws_szPortS fuel x0.Ports r14).bind fun r21 => (if (decide (r21 < 0)) = true then some (-1) else some r21))))

set_option maxRecDepth 100000 in
theorem laws_szAgent_ok {W w : World} (hE : Ext W w) {c0_ : List Value} {x0 : D.Agent} {x1 : Int} (h0_ : ty106.ro W c0_ x0) {fuel : Nat} {r : Int} (hm : m_laws_szAgent fuel x0 x1 = some r) :
    Calls Try.prog 59 ⟨[.agg ⟨c0_⟩, .int .i64 x1]⟩ w (Ret fun v w8 => v = .int .i64 r ∧ St w w8 []) := by
  obtain ⟨A1, k2, A4, k5, e7, h3, h6⟩ := ty106_open h0_; subst e7
  refine Calls.into Try.func59 rfl 18 rfl rfl _ rfl ?_
  unfold m_laws_szAgent at hm
  have hS := St.start w
  refine WP.seq ?_
  refine WP.region ?_
  refine RW.new ttok hS rfl rfl rfl rfl (fun g10 w11 e12 hS13 => ?_)
  refine RW.run ttok 1 rfl ?_
  refine RW.nil ?_
  refine WP.seq ?_
  refine WP.region ?_
  refine RW.run ttok 1 rfl ?_
  refine RW.load1 ttok rfl rfl rfl rfl rfl ((hS13.bring 0 rfl).box) 3 rfl rfl rfl rfl ?_
  refine RW.run ttok 1 rfl ?_
  obtain ⟨r14, hx15, hm⟩ := bind_some hm
  refine RW.call rfl rfl rfl enters120 (laws_szInt64S_ok (hE.trans hS13.ext) h3 hx15) (fun v16 w17 hR18 => ?_)
  obtain ⟨rfl, hR19⟩ := hR18
  have hS20 := hS13.join hR19
  refine RW.run ttok 1 rfl ?_
  refine RW.nil ?_
  refine WP.seq ?_
  refine WP.seq ?_
  refine WP.region ?_
  refine RW.run ttok 2 rfl ?_
  refine RW.nil ?_
  refine WP.cond (decide (r14 < 0)) rfl (fun hc => ?_) (fun hc => ?_)
  · skip
    rw [if_pos hc] at hm
    refine WP.seq ?_
    refine WP.region ?_
    refine RW.run ttok 1 rfl ?_
    refine RW.nil ?_
    refine WP.ret ?_
    cases hm
    exact ⟨_, .cons (.tmp rfl) .nil, rfl, (hS20.taken 0)⟩
  · skip
    rw [if_neg (not_t hc)] at hm
    refine WP.skip ?_
    refine WP.seq ?_
    refine WP.region ?_
    refine RW.run ttok 1 rfl ?_
    refine RW.load1 ttok rfl rfl rfl rfl rfl ((hS20.bring 0 rfl).box) 4 rfl rfl rfl rfl ?_
    refine RW.run ttok 1 rfl ?_
    obtain ⟨r21, hx22, hm⟩ := bind_some hm
    refine RW.call rfl rfl rfl enters121 (laws_szPortS_ok (hE.trans hS20.ext) h6 hx22) (fun v23 w24 hR25 => ?_)
    obtain ⟨rfl, hR26⟩ := hR25
    have hS27 := hS20.join hR26
    refine RW.run ttok 1 rfl ?_
    refine RW.nil ?_
    refine WP.seq ?_
    refine WP.seq ?_
    refine WP.region ?_
    refine RW.run ttok 2 rfl ?_
    refine RW.nil ?_
    refine WP.cond (decide (r21 < 0)) rfl (fun hc => ?_) (fun hc => ?_)
    · skip
      rw [if_pos hc] at hm
      refine WP.seq ?_
      refine WP.region ?_
      refine RW.run ttok 1 rfl ?_
      refine RW.nil ?_
      refine WP.ret ?_
      cases hm
      exact ⟨_, .cons (.tmp rfl) .nil, rfl, (hS27.taken 0)⟩
    · skip
      rw [if_neg (not_t hc)] at hm
      refine WP.skip ?_
      refine WP.seq ?_
      refine WP.region ?_
      refine RW.run ttok 2 rfl ?_
      refine RW.nil ?_
      refine WP.ret ?_
      cases hm
      exact ⟨_, .cons (.tmp rfl) .nil, rfl, (hS27.taken 0)⟩

theorem enters20 : Enters Try.prog 20 := ⟨_, _, Try.func20, rfl, by kernel_rfl⟩
def m_laws_szAgentS_j1 (fuel : Nat) (t2 : Int) : Option Int := some t2
def m_laws_szAgentS_b1 (fuel : Nat) (x0 : (List D.Agent)) (s1 : Int × Int) : Option (Rd (Int × Int) (Int) (Int)) := (if (decide (s1.2 < (x0.length : Int))) = true then ((idx x0 s1.2).bind fun x19 => ((m_laws_szAgent fuel x19 s1.1).bind fun r32 => (if (decide (r32 < 0)) = true then some (.ret (-1)) else some (.next (r32, w64 (s1.2 + 1)))))) else some (.brk s1.1))
def m_laws_szAgentS (fuel : Nat) (x0 : (List D.Agent)) (x1 : Int) : Option (Int) := (if (decide ((w64 (x1 - (x0.length : Int))) < 0)) = true then some (-1) else ((iter (m_laws_szAgentS_b1 fuel x0) fuel (w64 (x1 - (x0.length : Int)), 0)).bind fun o => aft o (m_laws_szAgentS_j1 fuel)))

set_option maxRecDepth 100000 in
theorem laws_szAgentS_ok {W w : World} (hE : Ext W w) {A0_ : Option Addr} {k0_ : Nat} {x0 : (List D.Agent)} {x1 : Int} (h0_ : ty22.ro W [.slice A0_ x0.length k0_] x0) {fuel : Nat} {r : Int} (hm : m_laws_szAgentS fuel x0 x1 = some r) :
    Calls Try.prog 20 ⟨[.slice A0_ x0.length k0_, .int .i64 x1]⟩ w (Ret fun v w8 => v = .int .i64 r ∧ St w w8 []) := by
  refine Calls.into Try.func20 rfl 27 rfl rfl _ rfl ?_
  unfold m_laws_szAgentS at hm
  have hS := St.start w
  refine WP.seq ?_
  refine WP.region ?_
  refine RW.run ttok 1 rfl ?_
  refine RW.nil ?_
  refine WP.seq ?_
  refine WP.region ?_
  refine RW.run ttok 5 rfl ?_
  refine RW.nil ?_
  refine WP.seq ?_
  refine WP.seq ?_
  refine WP.region ?_
  refine RW.run ttok 2 rfl ?_
  refine RW.nil ?_
  refine WP.cond (decide ((w64 (x1 - (x0.length : Int))) < 0)) rfl (fun hc => ?_) (fun hc => ?_)
  · skip
    rw [if_pos hc] at hm
    refine WP.seq ?_
    refine WP.region ?_
    refine RW.run ttok 1 rfl ?_
    refine RW.nil ?_
    refine WP.ret ?_
    cases hm
    exact ⟨_, .cons (.tmp rfl) .nil, rfl, hS⟩
  · skip
    rw [if_neg (not_t hc)] at hm
    refine WP.skip ?_
    refine WP.seq ?_
    refine WP.seq ?_
    refine WP.region ?_
    refine RW.run ttok 1 rfl ?_
    refine RW.nil ?_
    obtain ⟨o10, hl11, hm⟩ := bind_some hm
    refine WP.cut (fun (t2 : Int) F w9 => o10 = .inl t2 ∧ Ext w w9 ∧ St w w9 [] ∧ F = [(1, .int .i64 t2)]) ?_ ?_
    · skip
      rintro t2 F w7 ⟨ho13, hE6, hS12, rfl⟩
      subst ho13
      rw [aft_inl] at hm
      unfold m_laws_szAgentS_j1 at hm
      refine WP.seq ?_
      refine WP.region ?_
      refine RW.run ttok 2 rfl ?_
      refine RW.nil ?_
      refine WP.ret ?_
      cases hm
      exact ⟨_, .cons (.tmp rfl) .nil, rfl, hS12⟩
    · skip
      refine WP.block ?_
      refine WP.weak [(0, .slice A0_ x0.length k0_), (1, .int .i64 (w64 (x1 - (x0.length : Int)))), (5, .int .i64 0)] ⟨rfl, rfl, rfl, trivial⟩ ?_
      refine WP.iter (fun (s1 : Int × Int) F w9 => Ext w w9 ∧ St w w9 [] ∧ F = [(0, .slice A0_ x0.length k0_), (1, .int .i64 s1.1), (5, .int .i64 s1.2)]) _ hl11 ⟨(Ext.refl _), hS, rfl⟩ ?_
      rintro s1 F w18 _ o16 ⟨hE5, hS17, rfl⟩ hb14 ho15
      unfold m_laws_szAgentS_b1 at hb14
      refine WP.seq ?_
      refine WP.seq ?_
      refine WP.region ?_
      refine RW.run ttok 4 rfl ?_
      refine RW.nil ?_
      refine WP.cond (decide (s1.2 < (x0.length : Int))) rfl (fun hc => ?_) (fun hc => ?_)
      · skip
        rw [if_pos hc] at hb14
        refine WP.skip ?_
        refine WP.seq ?_
        refine WP.block ?_
        refine WP.seq ?_
        refine WP.region ?_
        refine RW.run ttok 2 rfl ?_
        obtain ⟨x19, hx20, hb14⟩ := bind_some hb14
        refine RW.idx ttok (hE.trans hS17.ext) rfl rfl rfl rfl rfl rfl (by decide) rfl rfl h0_ (idx_some hx20).1 (idx_some hx20).2 rfl rfl (fun p21 es22 ha23 hr24 => ?_)
        obtain ⟨A25, k26, A28, k29, e31, h27, h30⟩ := ty106_open hr24; subst e31
        refine RW.loadN ttok rfl rfl rfl rfl rfl (At.ext (hE.trans hS17.ext) ha23) rfl rfl rfl ?_
        refine RW.run ttok 1 rfl ?_
        obtain ⟨r32, hx33, hb14⟩ := bind_some hb14
        refine RW.call rfl rfl rfl enters59 (laws_szAgent_ok (hE.trans hS17.ext) hr24 hx33) (fun v34 w35 hR36 => ?_)
        obtain ⟨rfl, hR37⟩ := hR36
        have hS38 := hS17.join hR37
        refine RW.run ttok 1 rfl ?_
        refine RW.nil ?_
        refine WP.seq ?_
        refine WP.region ?_
        refine RW.run ttok 2 rfl ?_
        refine RW.nil ?_
        refine WP.cond (decide (r32 < 0)) rfl (fun hc => ?_) (fun hc => ?_)
        · skip
          rw [if_pos hc] at hb14
          refine WP.seq ?_
          refine WP.region ?_
          refine RW.run ttok 1 rfl ?_
          refine RW.nil ?_
          refine WP.ret ?_
          cases hb14
          cases ho15
          have hm : some _ = some _ := hm
          cases hm
          exact ⟨_, .cons (.tmp rfl) .nil, rfl, hS38⟩
        · skip
          rw [if_neg (not_t hc)] at hb14
          refine WP.skip ?_
          refine WP.region ?_
          refine RW.run ttok 3 rfl ?_
          refine RW.nil ?_
          cases hb14
          exact ⟨_, [(0, .slice A0_ x0.length k0_), (1, .int .i64 r32), (5, .int .i64 (w64 (s1.2 + 1)))], ⟨rfl, rfl, rfl, trivial⟩, rfl, (hE5.trans hR37.ext), hS38, rfl⟩
      · skip
        rw [if_neg (not_t hc)] at hb14
        refine WP.exit ?_
        cases hb14
        exact ⟨_, [(1, .int .i64 s1.1)], ⟨rfl, trivial⟩, ho15, hE5, hS17, rfl⟩

theorem enters21 : Enters Try.prog 21 := ⟨_, _, Try.func21, rfl, by kernel_rfl⟩
def m_laws_szWireS (fuel : Nat) (x0 : (List D.Wire)) (x1 : Int) : Option (Int) := (if (decide ((w64 (x1 - (x0.length : Int))) < 0)) = true then some (-1) else some (w64 (x1 - (x0.length : Int))))

set_option maxRecDepth 100000 in
theorem laws_szWireS_ok {W w : World} (hE : Ext W w) {A0_ : Option Addr} {k0_ : Nat} {x0 : (List D.Wire)} {x1 : Int} (h0_ : ty42.ro W [.slice A0_ x0.length k0_] x0) {fuel : Nat} {r : Int} (hm : m_laws_szWireS fuel x0 x1 = some r) :
    Calls Try.prog 21 ⟨[.slice A0_ x0.length k0_, .int .i64 x1]⟩ w (Ret fun v w8 => v = .int .i64 r ∧ St w w8 []) := by
  refine Calls.into Try.func21 rfl 12 rfl rfl _ rfl ?_
  unfold m_laws_szWireS at hm
  have hS := St.start w
  refine WP.seq ?_
  refine WP.region ?_
  refine RW.run ttok 1 rfl ?_
  refine RW.nil ?_
  refine WP.seq ?_
  refine WP.region ?_
  refine RW.run ttok 5 rfl ?_
  refine RW.nil ?_
  refine WP.seq ?_
  refine WP.seq ?_
  refine WP.region ?_
  refine RW.run ttok 2 rfl ?_
  refine RW.nil ?_
  refine WP.cond (decide ((w64 (x1 - (x0.length : Int))) < 0)) rfl (fun hc => ?_) (fun hc => ?_)
  · skip
    rw [if_pos hc] at hm
    refine WP.seq ?_
    refine WP.region ?_
    refine RW.run ttok 1 rfl ?_
    refine RW.nil ?_
    refine WP.ret ?_
    cases hm
    exact ⟨_, .cons (.tmp rfl) .nil, rfl, hS⟩
  · skip
    rw [if_neg (not_t hc)] at hm
    refine WP.skip ?_
    refine WP.seq ?_
    refine WP.region ?_
    refine RW.run ttok 2 rfl ?_
    refine RW.nil ?_
    refine WP.ret ?_
    cases hm
    exact ⟨_, .cons (.tmp rfl) .nil, rfl, hS⟩

theorem enters123 : Enters Try.prog 123 := ⟨_, _, Try.func123, rfl, by kernel_rfl⟩
def m_laws_toInt64S_j1 (fuel : Nat) (t11 : (List Int)) : Option (List Int) := some t11
def m_laws_toInt64S_b1 (fuel : Nat) (x0 : (List Int)) (s10 : Int × (List Int)) : Option (Rd (Int × (List Int)) ((List Int)) ((List Int))) := (if (decide (s10.1 < (x0.length : Int))) = true then ((idx x0 s10.1).bind fun x25 => (if decide (0 ≤ s10.1 ∧ s10.1.toNat < s10.2.length) = true then some (.next (w64 (s10.1 + 1), (s10.2.set s10.1.toNat x25))) else none)) else some (.brk s10.2))
def m_laws_toInt64S (fuel : Nat) (x0 : (List Int)) : Option ((List Int)) := (if decide (0 ≤ (x0.length : Int) ∧ (x0.length : Int) ≤ 4294967296) = true then ((iter (m_laws_toInt64S_b1 fuel x0) fuel (0, (List.replicate (x0.length : Int).toNat (0 : Int)))).bind fun o => aft o (m_laws_toInt64S_j1 fuel)) else none)

set_option maxRecDepth 100000 in
theorem laws_toInt64S_ok {W w : World} (hE : Ext W w) {A0_ : Option Addr} {k0_ : Nat} {x0 : (List Int)} (h0_ : ty103.ro W [.slice A0_ x0.length k0_] x0) {fuel : Nat} {r : (List Int)} (hm : m_laws_toInt64S fuel x0 = some r) :
    Calls Try.prog 123 ⟨[.slice A0_ x0.length k0_]⟩ w (Ret fun v w8 => ∃ A0 k0, v = .slice A0 r.length k0 ∧ St w w8 [Own ty103 [.slice A0 r.length k0] r]) := by
  refine Calls.into Try.func123 rfl 22 rfl rfl _ rfl ?_
  unfold m_laws_toInt64S at hm
  have hS := St.start w
  refine WP.seq ?_
  refine WP.region ?_
  refine RW.run ttok 1 rfl ?_
  refine RW.nil ?_
  refine WP.seq ?_
  refine WP.region ?_
  refine RW.run ttok 2 rfl ?_
  by_cases hk1 : decide (0 ≤ (x0.length : Int) ∧ (x0.length : Int) ≤ 4294967296) = true
  case neg => rw [if_neg hk1] at hm; cases hm
  rw [if_pos hk1] at hm
  have hz7 := of_decide_eq_true hk1
  refine RW.make (U := tInt) ttok (0 : Int) hS rfl rfl rfl rfl rfl rfl rfl rfl hz7.1 (by have := hz7.2; show _ * (8 : Int) ≤ _; omega) (by have := hz7.2; simp only [maxLen]; omega) (fun _ => ⟨rfl, rfl⟩) rfl rfl (fun A2 k3 w4 e5 hS6 => ?_)
  refine RW.run ttok 1 rfl ?_
  refine RW.nil ?_
  refine WP.seq ?_
  refine WP.seq ?_
  refine WP.region ?_
  refine RW.run ttok 1 rfl ?_
  refine RW.nil ?_
  obtain ⟨o14, hl15, hm⟩ := bind_some hm
  refine WP.cut (fun (t11 : (List Int)) F w9 => o14 = .inl t11 ∧ St w w9 [Own ty103 [.slice A2 (List.replicate (x0.length : Int).toNat (0 : Int)).length k3] t11] ∧ F = [(3, .slice A2 (List.replicate (x0.length : Int).toNat (0 : Int)).length k3)]) ?_ ?_
  · skip
    rintro t11 F w13 ⟨ho17, hS16, rfl⟩
    subst ho17
    rw [aft_inl] at hm
    unfold m_laws_toInt64S_j1 at hm
    refine WP.seq ?_
    refine WP.region ?_
    refine RW.run ttok 2 rfl ?_
    refine RW.nil ?_
    refine WP.ret ?_
    cases hm
    have hn18 := (hS16.bring 0 rfl).lenEq
    have hS19 := (hS16.bring 0 rfl).reLen hn18
    exact ⟨_, .cons (.tmp rfl) .nil, A2, k3, (by first | (simp only [hn18]; done) | (simp only [hn18]; rfl)), hS19⟩
  · skip
    refine WP.block ?_
    refine WP.weak [(0, .slice A0_ x0.length k0_), (3, .slice A2 (List.replicate (x0.length : Int).toNat (0 : Int)).length k3), (4, .int .i64 0)] ⟨rfl, rfl, rfl, trivial⟩ ?_
    refine WP.iter (fun (s10 : Int × (List Int)) F w9 => St w w9 [Own ty103 [.slice A2 (List.replicate (x0.length : Int).toNat (0 : Int)).length k3] s10.2] ∧ F = [(0, .slice A0_ x0.length k0_), (3, .slice A2 (List.replicate (x0.length : Int).toNat (0 : Int)).length k3), (4, .int .i64 s10.1)]) _ hl15 ⟨hS6, rfl⟩ ?_
    rintro s10 F w24 _ o22 ⟨hS23, rfl⟩ hb20 ho21
    unfold m_laws_toInt64S_b1 at hb20
    refine WP.seq ?_
    refine WP.seq ?_
    refine WP.region ?_
    refine RW.run ttok 4 rfl ?_
    refine RW.nil ?_
    refine WP.cond (decide (s10.1 < (x0.length : Int))) rfl (fun hc => ?_) (fun hc => ?_)
    · skip
      rw [if_pos hc] at hb20
      refine WP.skip ?_
      refine WP.seq ?_
      refine WP.block ?_
      refine WP.region ?_
      refine RW.run ttok 4 rfl ?_
      obtain ⟨x25, hx26, hb20⟩ := bind_some hb20
      refine RW.idx ttok (hE.trans hS23.ext) rfl rfl rfl rfl rfl rfl (by decide) rfl rfl h0_ (idx_some hx26).1 (idx_some hx26).2 rfl rfl (fun p27 es28 ha29 hr30 => ?_)
      cases hr30
      refine RW.load1 ttok rfl rfl rfl rfl rfl (At.ext (hE.trans hS23.ext) ha29) 0 rfl rfl rfl rfl ?_
      have hS31 := hS23.bring 0 rfl
      by_cases hk32 : decide (0 ≤ s10.1 ∧ s10.1.toNat < s10.2.length) = true
      case neg => rw [if_neg hk32] at hb20; cases hb20
      rw [if_pos hk32] at hb20
      have hb33 := of_decide_eq_true hk32
      refine RW.idxOwnN ttok hS31 rfl rfl rfl rfl rfl rfl rfl rfl hb33.1 hb33.2 rfl rfl (fun q34 hq35 => ?_)
      have hS36 := hS31.flat (T := tInt) (cs := [.int .i64 x25]) (x := x25) ⟨rfl, rfl⟩
      have hS37 := hS36.bring 1 rfl
      refine RW.storeElN ttok hS37 rfl rfl rfl rfl rfl rfl hb33.2 hq35 rfl rfl (fun w38 hS39 => ?_)
      refine RW.nil ?_
      refine WP.region ?_
      refine RW.run ttok 3 rfl ?_
      refine RW.nil ?_
      cases hb20
      exact ⟨_, [(0, .slice A0_ x0.length k0_), (3, .slice A2 (List.replicate (x0.length : Int).toNat (0 : Int)).length k3), (4, .int .i64 (w64 (s10.1 + 1)))], ⟨rfl, rfl, rfl, trivial⟩, rfl, hS39, rfl⟩
    · skip
      rw [if_neg (not_t hc)] at hb20
      refine WP.exit ?_
      cases hb20
      exact ⟨_, [(3, .slice A2 (List.replicate (x0.length : Int).toNat (0 : Int)).length k3)], ⟨rfl, trivial⟩, ho21, hS23, rfl⟩

theorem enters16 : Enters Try.prog 16 := ⟨_, _, Try.func16, rfl, by kernel_rfl⟩
def m_laws_toPort (fuel : Nat) (x0 : D.Port) : Option (D.Port) := some (⟨x0.Agent, x0.Slot⟩ : D.Port)

set_option maxRecDepth 100000 in
theorem laws_toPort_ok {W w : World} (hE : Ext W w) {c0_ : List Value} {x0 : D.Port} (h0_ : ty35.ro W c0_ x0) {fuel : Nat} {r : D.Port} (hm : m_laws_toPort fuel x0 = some r) :
    Calls Try.prog 16 ⟨[.agg ⟨c0_⟩]⟩ w (Ret fun v w8 => v = .agg ⟨[.int .i64 r.Agent, .int .i64 r.Slot]⟩ ∧ St w w8 []) := by
  have e1 := ty35_open h0_; subst e1
  refine Calls.into Try.func16 rfl 11 rfl rfl _ rfl ?_
  unfold m_laws_toPort at hm
  have hS := St.start w
  refine WP.seq ?_
  refine WP.region ?_
  refine RW.new ttok hS rfl rfl rfl rfl (fun g2 w3 e4 hS5 => ?_)
  refine RW.new ttok hS5 rfl rfl rfl rfl (fun g6 w7 e10 hS11 => ?_)
  refine RW.nil ?_
  refine WP.seq ?_
  refine WP.region ?_
  refine RW.new ttok hS11 rfl rfl rfl rfl (fun g12 w13 e14 hS15 => ?_)
  refine RW.nil ?_
  refine WP.seq ?_
  refine WP.region ?_
  refine RW.run ttok 1 rfl ?_
  refine RW.load1 ttok rfl rfl rfl rfl rfl ((hS15.bring 2 rfl).box) 0 rfl rfl rfl rfl ?_
  refine RW.run ttok 1 rfl ?_
  have hS16 := hS15.bring 0 rfl
  refine RW.store ttok (A := []) hS16 rfl rfl rfl rfl rfl 0 rfl rfl rfl rfl rfl (fun w17 hS18 => ?_)
  refine RW.nil ?_
  refine WP.seq ?_
  refine WP.region ?_
  refine RW.run ttok 1 rfl ?_
  refine RW.load1 ttok rfl rfl rfl rfl rfl ((hS18.bring 2 rfl).box) 1 rfl rfl rfl rfl ?_
  refine RW.run ttok 1 rfl ?_
  have hS19 := hS18.bring 0 rfl
  refine RW.store ttok (A := []) hS19 rfl rfl rfl rfl rfl 1 rfl rfl rfl rfl rfl (fun w20 hS21 => ?_)
  refine RW.nil ?_
  refine WP.seq ?_
  refine WP.region ?_
  refine RW.loadN ttok rfl rfl rfl rfl rfl ((hS21.bring 0 rfl).box) rfl rfl rfl ?_
  have hS22 := hS21.bring 1 rfl
  refine RW.store ttok (A := []) hS22 rfl rfl rfl rfl rfl 0 rfl rfl rfl rfl rfl (fun w23 hS24 => ?_)
  refine RW.nil ?_
  refine WP.ret ?_
  cases hm
  exact ⟨_, .cons (ResIs.agg ttok rfl rfl rfl ((hS24.bring 0 rfl).box) rfl) .nil, rfl, (hS24.taken 0)⟩

theorem enters124 : Enters Try.prog 124 := ⟨_, _, Try.func124, rfl, by kernel_rfl⟩
def m_laws_toPortS_j1 (fuel : Nat) (t11 : (List D.Port)) : Option (List D.Port) := some t11
def m_laws_toPortS_b1 (fuel : Nat) (x0 : (List D.Port)) (s10 : Int × (List D.Port)) : Option (Rd (Int × (List D.Port)) ((List D.Port)) ((List D.Port))) := (if (decide (s10.1 < (x0.length : Int))) = true then ((idx x0 s10.1).bind fun x25 => ((m_laws_toPort fuel x25).bind fun r32 => (if decide (0 ≤ s10.1 ∧ s10.1.toNat < s10.2.length) = true then some (.next (w64 (s10.1 + 1), (s10.2.set s10.1.toNat r32))) else none))) else some (.brk s10.2))
def m_laws_toPortS (fuel : Nat) (x0 : (List D.Port)) : Option ((List D.Port)) := (if decide (0 ≤ (x0.length : Int) ∧ (x0.length : Int) ≤ 4294967296) = true then ((iter (m_laws_toPortS_b1 fuel x0) fuel (0, (List.replicate (x0.length : Int).toNat (⟨(0 : Int), (0 : Int)⟩ : D.Port)))).bind fun o => aft o (m_laws_toPortS_j1 fuel)) else none)

set_option maxRecDepth 100000 in
theorem laws_toPortS_ok {W w : World} (hE : Ext W w) {A0_ : Option Addr} {k0_ : Nat} {x0 : (List D.Port)} (h0_ : ty104.ro W [.slice A0_ x0.length k0_] x0) {fuel : Nat} {r : (List D.Port)} (hm : m_laws_toPortS fuel x0 = some r) :
    Calls Try.prog 124 ⟨[.slice A0_ x0.length k0_]⟩ w (Ret fun v w8 => ∃ A0 k0, v = .slice A0 r.length k0 ∧ St w w8 [Own ty110 [.slice A0 r.length k0] r]) := by
  refine Calls.into Try.func124 rfl 23 rfl rfl _ rfl ?_
  unfold m_laws_toPortS at hm
  have hS := St.start w
  refine WP.seq ?_
  refine WP.region ?_
  refine RW.run ttok 1 rfl ?_
  refine RW.nil ?_
  refine WP.seq ?_
  refine WP.region ?_
  refine RW.run ttok 2 rfl ?_
  by_cases hk1 : decide (0 ≤ (x0.length : Int) ∧ (x0.length : Int) ≤ 4294967296) = true
  case neg => rw [if_neg hk1] at hm; cases hm
  rw [if_pos hk1] at hm
  have hz7 := of_decide_eq_true hk1
  refine RW.make (U := ty38) ttok (⟨(0 : Int), (0 : Int)⟩ : D.Port) hS rfl rfl rfl rfl rfl rfl rfl rfl hz7.1 (by have := hz7.2; show _ * (16 : Int) ≤ _; omega) (by have := hz7.2; simp only [maxLen]; omega) (fun _ => (ty38_ownI (c := (⟨(0 : Int), (0 : Int)⟩ : D.Port)) rfl)) rfl rfl (fun A2 k3 w4 e5 hS6 => ?_)
  refine RW.run ttok 1 rfl ?_
  refine RW.nil ?_
  refine WP.seq ?_
  refine WP.seq ?_
  refine WP.region ?_
  refine RW.run ttok 1 rfl ?_
  refine RW.nil ?_
  obtain ⟨o14, hl15, hm⟩ := bind_some hm
  refine WP.cut (fun (t11 : (List D.Port)) F w9 => o14 = .inl t11 ∧ St w w9 [Own ty110 [.slice A2 (List.replicate (x0.length : Int).toNat (⟨(0 : Int), (0 : Int)⟩ : D.Port)).length k3] t11] ∧ F = [(3, .slice A2 (List.replicate (x0.length : Int).toNat (⟨(0 : Int), (0 : Int)⟩ : D.Port)).length k3)]) ?_ ?_
  · skip
    rintro t11 F w13 ⟨ho17, hS16, rfl⟩
    subst ho17
    rw [aft_inl] at hm
    unfold m_laws_toPortS_j1 at hm
    refine WP.seq ?_
    refine WP.region ?_
    refine RW.run ttok 2 rfl ?_
    refine RW.nil ?_
    refine WP.ret ?_
    cases hm
    have hn18 := (hS16.bring 0 rfl).lenEq
    have hS19 := (hS16.bring 0 rfl).reLen hn18
    exact ⟨_, .cons (.tmp rfl) .nil, A2, k3, (by first | (simp only [hn18]; done) | (simp only [hn18]; rfl)), hS19⟩
  · skip
    refine WP.block ?_
    refine WP.weak [(0, .slice A0_ x0.length k0_), (3, .slice A2 (List.replicate (x0.length : Int).toNat (⟨(0 : Int), (0 : Int)⟩ : D.Port)).length k3), (4, .int .i64 0)] ⟨rfl, rfl, rfl, trivial⟩ ?_
    refine WP.iter (fun (s10 : Int × (List D.Port)) F w9 => St w w9 [Own ty110 [.slice A2 (List.replicate (x0.length : Int).toNat (⟨(0 : Int), (0 : Int)⟩ : D.Port)).length k3] s10.2] ∧ F = [(0, .slice A0_ x0.length k0_), (3, .slice A2 (List.replicate (x0.length : Int).toNat (⟨(0 : Int), (0 : Int)⟩ : D.Port)).length k3), (4, .int .i64 s10.1)]) _ hl15 ⟨hS6, rfl⟩ ?_
    rintro s10 F w24 _ o22 ⟨hS23, rfl⟩ hb20 ho21
    unfold m_laws_toPortS_b1 at hb20
    refine WP.seq ?_
    refine WP.seq ?_
    refine WP.region ?_
    refine RW.run ttok 4 rfl ?_
    refine RW.nil ?_
    refine WP.cond (decide (s10.1 < (x0.length : Int))) rfl (fun hc => ?_) (fun hc => ?_)
    · skip
      rw [if_pos hc] at hb20
      refine WP.skip ?_
      refine WP.seq ?_
      refine WP.block ?_
      refine WP.region ?_
      refine RW.run ttok 4 rfl ?_
      obtain ⟨x25, hx26, hb20⟩ := bind_some hb20
      refine RW.idx ttok (hE.trans hS23.ext) rfl rfl rfl rfl rfl rfl (by decide) rfl rfl h0_ (idx_some hx26).1 (idx_some hx26).2 rfl rfl (fun p27 es28 ha29 hr30 => ?_)
      have e31 := ty35_open hr30; subst e31
      refine RW.loadN ttok rfl rfl rfl rfl rfl (At.ext (hE.trans hS23.ext) ha29) rfl rfl rfl ?_
      obtain ⟨r32, hx33, hb20⟩ := bind_some hb20
      refine RW.call rfl rfl rfl enters16 (laws_toPort_ok (hE.trans hS23.ext) hr30 hx33) (fun v34 w35 hR36 => ?_)
      obtain ⟨rfl, hR37⟩ := hR36
      have hS38 := hS23.join hR37
      have hS39 := hS38.bring 0 rfl
      by_cases hk40 : decide (0 ≤ s10.1 ∧ s10.1.toNat < s10.2.length) = true
      case neg => rw [if_neg hk40] at hb20; cases hb20
      rw [if_pos hk40] at hb20
      have hb41 := of_decide_eq_true hk40
      refine RW.idxOwnN ttok hS39 rfl rfl rfl rfl rfl rfl rfl rfl hb41.1 hb41.2 rfl rfl (fun q42 hq43 => ?_)
      have hS44 := ty38_shutS (c := r32) (B := _) hS39
      have hS45 := hS44.bring 1 rfl
      refine RW.storeElN ttok hS45 rfl rfl rfl rfl rfl rfl hb41.2 hq43 rfl rfl (fun w46 hS47 => ?_)
      refine RW.nil ?_
      refine WP.region ?_
      refine RW.run ttok 3 rfl ?_
      refine RW.nil ?_
      cases hb20
      exact ⟨_, [(0, .slice A0_ x0.length k0_), (3, .slice A2 (List.replicate (x0.length : Int).toNat (⟨(0 : Int), (0 : Int)⟩ : D.Port)).length k3), (4, .int .i64 (w64 (s10.1 + 1)))], ⟨rfl, rfl, rfl, trivial⟩, rfl, hS47, rfl⟩
    · skip
      rw [if_neg (not_t hc)] at hb20
      refine WP.exit ?_
      cases hb20
      exact ⟨_, [(3, .slice A2 (List.replicate (x0.length : Int).toNat (⟨(0 : Int), (0 : Int)⟩ : D.Port)).length k3)], ⟨rfl, trivial⟩, ho21, hS23, rfl⟩

theorem enters61 : Enters Try.prog 61 := ⟨_, _, Try.func61, rfl, by kernel_rfl⟩
def m_laws_toAgent (fuel : Nat) (x0 : D.Agent) : Option (D.Agent) := ((m_laws_toInt64S fuel x0.Data).bind fun r31 => ((m_laws_toPortS fuel x0.Ports).bind fun r43 => some (⟨x0.Kind, x0.Level, x0.Value, r31, r43⟩ : D.Agent)))

set_option maxRecDepth 100000 in
theorem laws_toAgent_ok {W w : World} (hE : Ext W w) {c0_ : List Value} {x0 : D.Agent} (h0_ : ty106.ro W c0_ x0) {fuel : Nat} {r : D.Agent} (hm : m_laws_toAgent fuel x0 = some r) :
    Calls Try.prog 61 ⟨[.agg ⟨c0_⟩]⟩ w (Ret fun v w8 => ∃ A0 k0 A1 k1, v = .agg ⟨[.int .i64 r.Kind, .int .i64 r.Level, .int .i64 r.Value, .slice A0 r.Data.length k0, .slice A1 r.Ports.length k1]⟩ ∧ St w w8 [Own ty103 [.slice A0 r.Data.length k0] r.Data, Own ty110 [.slice A1 r.Ports.length k1] r.Ports]) := by
  obtain ⟨A1, k2, A4, k5, e7, h3, h6⟩ := ty106_open h0_; subst e7
  refine Calls.into Try.func61 rfl 22 rfl rfl _ rfl ?_
  unfold m_laws_toAgent at hm
  have hS := St.start w
  refine WP.seq ?_
  refine WP.region ?_
  refine RW.new ttok hS rfl rfl rfl rfl (fun g10 w11 e12 hS13 => ?_)
  refine RW.new ttok hS13 rfl rfl rfl rfl (fun g14 w15 e16 hS17 => ?_)
  refine RW.nil ?_
  refine WP.seq ?_
  refine WP.region ?_
  refine RW.new ttok hS17 rfl rfl rfl rfl (fun g18 w19 e20 hS21 => ?_)
  refine RW.nil ?_
  refine WP.seq ?_
  refine WP.region ?_
  refine RW.run ttok 1 rfl ?_
  refine RW.load1 ttok rfl rfl rfl rfl rfl ((hS21.bring 2 rfl).box) 0 rfl rfl rfl rfl ?_
  refine RW.run ttok 1 rfl ?_
  have hS22 := hS21.bring 0 rfl
  refine RW.store ttok (A := []) hS22 rfl rfl rfl rfl rfl 0 rfl rfl rfl rfl rfl (fun w23 hS24 => ?_)
  refine RW.nil ?_
  refine WP.seq ?_
  refine WP.region ?_
  refine RW.run ttok 1 rfl ?_
  refine RW.load1 ttok rfl rfl rfl rfl rfl ((hS24.bring 2 rfl).box) 1 rfl rfl rfl rfl ?_
  refine RW.run ttok 1 rfl ?_
  have hS25 := hS24.bring 0 rfl
  refine RW.store ttok (A := []) hS25 rfl rfl rfl rfl rfl 1 rfl rfl rfl rfl rfl (fun w26 hS27 => ?_)
  refine RW.nil ?_
  refine WP.seq ?_
  refine WP.region ?_
  refine RW.run ttok 1 rfl ?_
  refine RW.load1 ttok rfl rfl rfl rfl rfl ((hS27.bring 2 rfl).box) 2 rfl rfl rfl rfl ?_
  refine RW.run ttok 1 rfl ?_
  have hS28 := hS27.bring 0 rfl
  refine RW.store ttok (A := []) hS28 rfl rfl rfl rfl rfl 2 rfl rfl rfl rfl rfl (fun w29 hS30 => ?_)
  refine RW.nil ?_
  refine WP.seq ?_
  refine WP.region ?_
  refine RW.run ttok 1 rfl ?_
  refine RW.load1 ttok rfl rfl rfl rfl rfl ((hS30.bring 2 rfl).box) 3 rfl rfl rfl rfl ?_
  obtain ⟨r31, hx32, hm⟩ := bind_some hm
  refine RW.call rfl rfl rfl enters123 (laws_toInt64S_ok (hE.trans hS30.ext) h3 hx32) (fun v33 w34 hR35 => ?_)
  obtain ⟨A36, k37, rfl, hR38⟩ := hR35
  have hS39 := hS30.join hR38
  refine RW.run ttok 1 rfl ?_
  have hS40 := hS39.bring 1 rfl
  refine RW.store ttok (A := []) hS40 rfl rfl rfl rfl rfl 3 rfl rfl rfl rfl rfl (fun w41 hS42 => ?_)
  refine RW.nil ?_
  refine WP.seq ?_
  refine WP.region ?_
  refine RW.run ttok 1 rfl ?_
  refine RW.load1 ttok rfl rfl rfl rfl rfl ((hS42.bring 3 rfl).box) 4 rfl rfl rfl rfl ?_
  obtain ⟨r43, hx44, hm⟩ := bind_some hm
  refine RW.call rfl rfl rfl enters124 (laws_toPortS_ok (hE.trans hS42.ext) h6 hx44) (fun v45 w46 hR47 => ?_)
  obtain ⟨A48, k49, rfl, hR50⟩ := hR47
  have hS51 := hS42.join hR50
  refine RW.run ttok 1 rfl ?_
  have hS52 := hS51.bring 1 rfl
  refine RW.store ttok (A := []) hS52 rfl rfl rfl rfl rfl 4 rfl rfl rfl rfl rfl (fun w53 hS54 => ?_)
  refine RW.nil ?_
  refine WP.seq ?_
  refine WP.region ?_
  refine RW.loadN ttok rfl rfl rfl rfl rfl ((hS54.bring 0 rfl).box) rfl rfl rfl ?_
  have hS55 := hS54.bring 3 rfl
  refine RW.store ttok (A := []) hS55 rfl rfl rfl rfl rfl 0 rfl rfl rfl rfl rfl (fun w56 hS57 => ?_)
  refine RW.nil ?_
  refine WP.ret ?_
  cases hm
  exact ⟨_, .cons (ResIs.agg ttok rfl rfl rfl ((hS57.bring 0 rfl).box) rfl) .nil, A36, k37, A48, k49, rfl, (((hS57.bring 2 rfl).bring 3 rfl).taken 2)⟩

theorem enters23 : Enters Try.prog 23 := ⟨_, _, Try.func23, rfl, by kernel_rfl⟩
def m_laws_toAgentS_j1 (fuel : Nat) (t11 : (List D.Agent)) : Option (List D.Agent) := some t11
def m_laws_toAgentS_b1 (fuel : Nat) (x0 : (List D.Agent)) (s10 : Int × (List D.Agent)) : Option (Rd (Int × (List D.Agent)) ((List D.Agent)) ((List D.Agent))) := (if (decide (s10.1 < (x0.length : Int))) = true then ((idx x0 s10.1).bind fun x25 => ((m_laws_toAgent fuel x25).bind fun r38 => (if decide (0 ≤ s10.1 ∧ s10.1.toNat < s10.2.length) = true then some (.next (w64 (s10.1 + 1), (s10.2.set s10.1.toNat r38))) else none))) else some (.brk s10.2))
def m_laws_toAgentS (fuel : Nat) (x0 : (List D.Agent)) : Option ((List D.Agent)) := (if decide (0 ≤ (x0.length : Int) ∧ (x0.length : Int) ≤ 4294967296) = true then ((iter (m_laws_toAgentS_b1 fuel x0) fuel (0, (List.replicate (x0.length : Int).toNat (⟨(0 : Int), (0 : Int), (0 : Int), ([] : (List Int)), ([] : (List D.Port))⟩ : D.Agent)))).bind fun o => aft o (m_laws_toAgentS_j1 fuel)) else none)

set_option maxRecDepth 100000 in
theorem laws_toAgentS_ok {W w : World} (hE : Ext W w) {A0_ : Option Addr} {k0_ : Nat} {x0 : (List D.Agent)} (h0_ : ty22.ro W [.slice A0_ x0.length k0_] x0) {fuel : Nat} {r : (List D.Agent)} (hm : m_laws_toAgentS fuel x0 = some r) :
    Calls Try.prog 23 ⟨[.slice A0_ x0.length k0_]⟩ w (Ret fun v w8 => ∃ A0 k0, v = .slice A0 r.length k0 ∧ St w w8 [Own ty28 [.slice A0 r.length k0] r]) := by
  refine Calls.into Try.func23 rfl 23 rfl rfl _ rfl ?_
  unfold m_laws_toAgentS at hm
  have hS := St.start w
  refine WP.seq ?_
  refine WP.region ?_
  refine RW.run ttok 1 rfl ?_
  refine RW.nil ?_
  refine WP.seq ?_
  refine WP.region ?_
  refine RW.run ttok 2 rfl ?_
  by_cases hk1 : decide (0 ≤ (x0.length : Int) ∧ (x0.length : Int) ≤ 4294967296) = true
  case neg => rw [if_neg hk1] at hm; cases hm
  rw [if_pos hk1] at hm
  have hz7 := of_decide_eq_true hk1
  refine RW.make (U := ty112) ttok (⟨(0 : Int), (0 : Int), (0 : Int), ([] : (List Int)), ([] : (List D.Port))⟩ : D.Agent) hS rfl rfl rfl rfl rfl rfl rfl rfl hz7.1 (by have := hz7.2; show _ * (72 : Int) ≤ _; omega) (by have := hz7.2; simp only [maxLen]; omega) (fun _ => (ty112_ownI (c := (⟨(0 : Int), (0 : Int), (0 : Int), ([] : (List Int)), ([] : (List D.Port))⟩ : D.Agent)) ⟨[], [], rfl, (slNilOwn tInt 2 _), ⟨[], [], rfl, (slNilOwn ty38 38 _), rfl⟩⟩)) rfl rfl (fun A2 k3 w4 e5 hS6 => ?_)
  refine RW.run ttok 1 rfl ?_
  refine RW.nil ?_
  refine WP.seq ?_
  refine WP.seq ?_
  refine WP.region ?_
  refine RW.run ttok 1 rfl ?_
  refine RW.nil ?_
  obtain ⟨o14, hl15, hm⟩ := bind_some hm
  refine WP.cut (fun (t11 : (List D.Agent)) F w9 => o14 = .inl t11 ∧ St w w9 [Own ty28 [.slice A2 (List.replicate (x0.length : Int).toNat (⟨(0 : Int), (0 : Int), (0 : Int), ([] : (List Int)), ([] : (List D.Port))⟩ : D.Agent)).length k3] t11] ∧ F = [(3, .slice A2 (List.replicate (x0.length : Int).toNat (⟨(0 : Int), (0 : Int), (0 : Int), ([] : (List Int)), ([] : (List D.Port))⟩ : D.Agent)).length k3)]) ?_ ?_
  · skip
    rintro t11 F w13 ⟨ho17, hS16, rfl⟩
    subst ho17
    rw [aft_inl] at hm
    unfold m_laws_toAgentS_j1 at hm
    refine WP.seq ?_
    refine WP.region ?_
    refine RW.run ttok 2 rfl ?_
    refine RW.nil ?_
    refine WP.ret ?_
    cases hm
    have hn18 := (hS16.bring 0 rfl).lenEq
    have hS19 := (hS16.bring 0 rfl).reLen hn18
    exact ⟨_, .cons (.tmp rfl) .nil, A2, k3, (by first | (simp only [hn18]; done) | (simp only [hn18]; rfl)), hS19⟩
  · skip
    refine WP.block ?_
    refine WP.weak [(0, .slice A0_ x0.length k0_), (3, .slice A2 (List.replicate (x0.length : Int).toNat (⟨(0 : Int), (0 : Int), (0 : Int), ([] : (List Int)), ([] : (List D.Port))⟩ : D.Agent)).length k3), (4, .int .i64 0)] ⟨rfl, rfl, rfl, trivial⟩ ?_
    refine WP.iter (fun (s10 : Int × (List D.Agent)) F w9 => St w w9 [Own ty28 [.slice A2 (List.replicate (x0.length : Int).toNat (⟨(0 : Int), (0 : Int), (0 : Int), ([] : (List Int)), ([] : (List D.Port))⟩ : D.Agent)).length k3] s10.2] ∧ F = [(0, .slice A0_ x0.length k0_), (3, .slice A2 (List.replicate (x0.length : Int).toNat (⟨(0 : Int), (0 : Int), (0 : Int), ([] : (List Int)), ([] : (List D.Port))⟩ : D.Agent)).length k3), (4, .int .i64 s10.1)]) _ hl15 ⟨hS6, rfl⟩ ?_
    rintro s10 F w24 _ o22 ⟨hS23, rfl⟩ hb20 ho21
    unfold m_laws_toAgentS_b1 at hb20
    refine WP.seq ?_
    refine WP.seq ?_
    refine WP.region ?_
    refine RW.run ttok 4 rfl ?_
    refine RW.nil ?_
    refine WP.cond (decide (s10.1 < (x0.length : Int))) rfl (fun hc => ?_) (fun hc => ?_)
    · skip
      rw [if_pos hc] at hb20
      refine WP.skip ?_
      refine WP.seq ?_
      refine WP.block ?_
      refine WP.region ?_
      refine RW.run ttok 4 rfl ?_
      obtain ⟨x25, hx26, hb20⟩ := bind_some hb20
      refine RW.idx ttok (hE.trans hS23.ext) rfl rfl rfl rfl rfl rfl (by decide) rfl rfl h0_ (idx_some hx26).1 (idx_some hx26).2 rfl rfl (fun p27 es28 ha29 hr30 => ?_)
      obtain ⟨A31, k32, A34, k35, e37, h33, h36⟩ := ty106_open hr30; subst e37
      refine RW.loadN ttok rfl rfl rfl rfl rfl (At.ext (hE.trans hS23.ext) ha29) rfl rfl rfl ?_
      obtain ⟨r38, hx39, hb20⟩ := bind_some hb20
      refine RW.call rfl rfl rfl enters61 (laws_toAgent_ok (hE.trans hS23.ext) hr30 hx39) (fun v40 w41 hR42 => ?_)
      obtain ⟨A43, k44, A45, k46, rfl, hR47⟩ := hR42
      have hS48 := hS23.join hR47
      have hS49 := hS48.bring 2 rfl
      by_cases hk50 : decide (0 ≤ s10.1 ∧ s10.1.toNat < s10.2.length) = true
      case neg => rw [if_neg hk50] at hb20; cases hb20
      rw [if_pos hk50] at hb20
      have hb51 := of_decide_eq_true hk50
      refine RW.idxOwnN ttok hS49 rfl rfl rfl rfl rfl rfl rfl rfl hb51.1 hb51.2 rfl rfl (fun q52 hq53 => ?_)
      have hS54 := hS49.bring 2 rfl
      have hS55 := hS54.bring 2 rfl
      have hS56 := ty112_shutS (c := r38) (B := _) hS55
      have hS57 := hS56.bring 1 rfl
      refine RW.storeElN ttok hS57 rfl rfl rfl rfl rfl rfl hb51.2 hq53 rfl rfl (fun w58 hS59 => ?_)
      refine RW.nil ?_
      refine WP.region ?_
      refine RW.run ttok 3 rfl ?_
      refine RW.nil ?_
      cases hb20
      exact ⟨_, [(0, .slice A0_ x0.length k0_), (3, .slice A2 (List.replicate (x0.length : Int).toNat (⟨(0 : Int), (0 : Int), (0 : Int), ([] : (List Int)), ([] : (List D.Port))⟩ : D.Agent)).length k3), (4, .int .i64 (w64 (s10.1 + 1)))], ⟨rfl, rfl, rfl, trivial⟩, rfl, hS59, rfl⟩
    · skip
      rw [if_neg (not_t hc)] at hb20
      refine WP.exit ?_
      cases hb20
      exact ⟨_, [(3, .slice A2 (List.replicate (x0.length : Int).toNat (⟨(0 : Int), (0 : Int), (0 : Int), ([] : (List Int)), ([] : (List D.Port))⟩ : D.Agent)).length k3)], ⟨rfl, trivial⟩, ho21, hS23, rfl⟩

theorem enters62 : Enters Try.prog 62 := ⟨_, _, Try.func62, rfl, by kernel_rfl⟩
def m_laws_toWire (fuel : Nat) (x0 : D.Wire) : Option (D.Wire) := ((m_laws_toPort fuel x0.A).bind fun r16 => ((m_laws_toPort fuel x0.B).bind fun r26 => some (⟨(⟨r16.Agent, r16.Slot⟩ : D.Port), (⟨r26.Agent, r26.Slot⟩ : D.Port)⟩ : D.Wire)))

set_option maxRecDepth 100000 in
theorem laws_toWire_ok {W w : World} (hE : Ext W w) {c0_ : List Value} {x0 : D.Wire} (h0_ : ty116.ro W c0_ x0) {fuel : Nat} {r : D.Wire} (hm : m_laws_toWire fuel x0 = some r) :
    Calls Try.prog 62 ⟨[.agg ⟨c0_⟩]⟩ w (Ret fun v w8 => v = .agg ⟨[.int .i64 r.A.Agent, .int .i64 r.A.Slot, .int .i64 r.B.Agent, .int .i64 r.B.Slot]⟩ ∧ St w w8 []) := by
  have e1 := ty116_open h0_; subst e1
  refine Calls.into Try.func62 rfl 13 rfl rfl _ rfl ?_
  unfold m_laws_toWire at hm
  have hS := St.start w
  refine WP.seq ?_
  refine WP.region ?_
  refine RW.new ttok hS rfl rfl rfl rfl (fun g2 w3 e4 hS5 => ?_)
  refine RW.new ttok hS5 rfl rfl rfl rfl (fun g6 w7 e10 hS11 => ?_)
  refine RW.nil ?_
  refine WP.seq ?_
  refine WP.region ?_
  refine RW.new ttok hS11 rfl rfl rfl rfl (fun g12 w13 e14 hS15 => ?_)
  refine RW.nil ?_
  refine WP.seq ?_
  refine WP.region ?_
  refine RW.run ttok 1 rfl ?_
  refine RW.loadN ttok rfl rfl rfl rfl rfl (At.sub ((hS15.bring 2 rfl).box) 0 2) rfl rfl rfl ?_
  obtain ⟨r16, hx17, hm⟩ := bind_some hm
  refine RW.call rfl rfl rfl enters16 (laws_toPort_ok (hE.trans hS15.ext) (ty35_shut x0.A) hx17) (fun v18 w19 hR20 => ?_)
  obtain ⟨rfl, hR21⟩ := hR20
  have hS22 := hS15.join hR21
  refine RW.run ttok 1 rfl ?_
  have hS23 := hS22.bring 0 rfl
  refine RW.store ttok (A := []) hS23 rfl rfl rfl rfl rfl 0 rfl rfl rfl rfl rfl (fun w24 hS25 => ?_)
  refine RW.nil ?_
  refine WP.seq ?_
  refine WP.region ?_
  refine RW.run ttok 1 rfl ?_
  refine RW.loadN ttok rfl rfl rfl rfl rfl (At.sub ((hS25.bring 2 rfl).box) 2 2) rfl rfl rfl ?_
  obtain ⟨r26, hx27, hm⟩ := bind_some hm
  refine RW.call rfl rfl rfl enters16 (laws_toPort_ok (hE.trans hS25.ext) (ty35_shut x0.B) hx27) (fun v28 w29 hR30 => ?_)
  obtain ⟨rfl, hR31⟩ := hR30
  have hS32 := hS25.join hR31
  refine RW.run ttok 1 rfl ?_
  have hS33 := hS32.bring 0 rfl
  refine RW.store ttok (A := []) hS33 rfl rfl rfl rfl rfl 2 rfl rfl rfl rfl rfl (fun w34 hS35 => ?_)
  refine RW.nil ?_
  refine WP.seq ?_
  refine WP.region ?_
  refine RW.loadN ttok rfl rfl rfl rfl rfl ((hS35.bring 0 rfl).box) rfl rfl rfl ?_
  have hS36 := hS35.bring 1 rfl
  refine RW.store ttok (A := []) hS36 rfl rfl rfl rfl rfl 0 rfl rfl rfl rfl rfl (fun w37 hS38 => ?_)
  refine RW.nil ?_
  refine WP.ret ?_
  cases hm
  exact ⟨_, .cons (ResIs.agg ttok rfl rfl rfl ((hS38.bring 0 rfl).box) rfl) .nil, rfl, (hS38.taken 0)⟩

theorem enters24 : Enters Try.prog 24 := ⟨_, _, Try.func24, rfl, by kernel_rfl⟩
def m_laws_toWireS_j1 (fuel : Nat) (t11 : (List D.Wire)) : Option (List D.Wire) := some t11
def m_laws_toWireS_b1 (fuel : Nat) (x0 : (List D.Wire)) (s10 : Int × (List D.Wire)) : Option (Rd (Int × (List D.Wire)) ((List D.Wire)) ((List D.Wire))) := (if (decide (s10.1 < (x0.length : Int))) = true then ((idx x0 s10.1).bind fun x25 => ((m_laws_toWire fuel x25).bind fun r32 => (if decide (0 ≤ s10.1 ∧ s10.1.toNat < s10.2.length) = true then some (.next (w64 (s10.1 + 1), (s10.2.set s10.1.toNat r32))) else none))) else some (.brk s10.2))
def m_laws_toWireS (fuel : Nat) (x0 : (List D.Wire)) : Option ((List D.Wire)) := (if decide (0 ≤ (x0.length : Int) ∧ (x0.length : Int) ≤ 4294967296) = true then ((iter (m_laws_toWireS_b1 fuel x0) fuel (0, (List.replicate (x0.length : Int).toNat (⟨(⟨(0 : Int), (0 : Int)⟩ : D.Port), (⟨(0 : Int), (0 : Int)⟩ : D.Port)⟩ : D.Wire)))).bind fun o => aft o (m_laws_toWireS_j1 fuel)) else none)

set_option maxRecDepth 100000 in
theorem laws_toWireS_ok {W w : World} (hE : Ext W w) {A0_ : Option Addr} {k0_ : Nat} {x0 : (List D.Wire)} (h0_ : ty42.ro W [.slice A0_ x0.length k0_] x0) {fuel : Nat} {r : (List D.Wire)} (hm : m_laws_toWireS fuel x0 = some r) :
    Calls Try.prog 24 ⟨[.slice A0_ x0.length k0_]⟩ w (Ret fun v w8 => ∃ A0 k0, v = .slice A0 r.length k0 ∧ St w w8 [Own ty47 [.slice A0 r.length k0] r]) := by
  refine Calls.into Try.func24 rfl 23 rfl rfl _ rfl ?_
  unfold m_laws_toWireS at hm
  have hS := St.start w
  refine WP.seq ?_
  refine WP.region ?_
  refine RW.run ttok 1 rfl ?_
  refine RW.nil ?_
  refine WP.seq ?_
  refine WP.region ?_
  refine RW.run ttok 2 rfl ?_
  by_cases hk1 : decide (0 ≤ (x0.length : Int) ∧ (x0.length : Int) ≤ 4294967296) = true
  case neg => rw [if_neg hk1] at hm; cases hm
  rw [if_pos hk1] at hm
  have hz7 := of_decide_eq_true hk1
  refine RW.make (U := ty109) ttok (⟨(⟨(0 : Int), (0 : Int)⟩ : D.Port), (⟨(0 : Int), (0 : Int)⟩ : D.Port)⟩ : D.Wire) hS rfl rfl rfl rfl rfl rfl rfl rfl hz7.1 (by have := hz7.2; show _ * (32 : Int) ≤ _; omega) (by have := hz7.2; simp only [maxLen]; omega) (fun _ => (ty109_ownI (c := (⟨(⟨(0 : Int), (0 : Int)⟩ : D.Port), (⟨(0 : Int), (0 : Int)⟩ : D.Port)⟩ : D.Wire)) rfl)) rfl rfl (fun A2 k3 w4 e5 hS6 => ?_)
  refine RW.run ttok 1 rfl ?_
  refine RW.nil ?_
  refine WP.seq ?_
  refine WP.seq ?_
  refine WP.region ?_
  refine RW.run ttok 1 rfl ?_
  refine RW.nil ?_
  obtain ⟨o14, hl15, hm⟩ := bind_some hm
  refine WP.cut (fun (t11 : (List D.Wire)) F w9 => o14 = .inl t11 ∧ St w w9 [Own ty47 [.slice A2 (List.replicate (x0.length : Int).toNat (⟨(⟨(0 : Int), (0 : Int)⟩ : D.Port), (⟨(0 : Int), (0 : Int)⟩ : D.Port)⟩ : D.Wire)).length k3] t11] ∧ F = [(3, .slice A2 (List.replicate (x0.length : Int).toNat (⟨(⟨(0 : Int), (0 : Int)⟩ : D.Port), (⟨(0 : Int), (0 : Int)⟩ : D.Port)⟩ : D.Wire)).length k3)]) ?_ ?_
  · skip
    rintro t11 F w13 ⟨ho17, hS16, rfl⟩
    subst ho17
    rw [aft_inl] at hm
    unfold m_laws_toWireS_j1 at hm
    refine WP.seq ?_
    refine WP.region ?_
    refine RW.run ttok 2 rfl ?_
    refine RW.nil ?_
    refine WP.ret ?_
    cases hm
    have hn18 := (hS16.bring 0 rfl).lenEq
    have hS19 := (hS16.bring 0 rfl).reLen hn18
    exact ⟨_, .cons (.tmp rfl) .nil, A2, k3, (by first | (simp only [hn18]; done) | (simp only [hn18]; rfl)), hS19⟩
  · skip
    refine WP.block ?_
    refine WP.weak [(0, .slice A0_ x0.length k0_), (3, .slice A2 (List.replicate (x0.length : Int).toNat (⟨(⟨(0 : Int), (0 : Int)⟩ : D.Port), (⟨(0 : Int), (0 : Int)⟩ : D.Port)⟩ : D.Wire)).length k3), (4, .int .i64 0)] ⟨rfl, rfl, rfl, trivial⟩ ?_
    refine WP.iter (fun (s10 : Int × (List D.Wire)) F w9 => St w w9 [Own ty47 [.slice A2 (List.replicate (x0.length : Int).toNat (⟨(⟨(0 : Int), (0 : Int)⟩ : D.Port), (⟨(0 : Int), (0 : Int)⟩ : D.Port)⟩ : D.Wire)).length k3] s10.2] ∧ F = [(0, .slice A0_ x0.length k0_), (3, .slice A2 (List.replicate (x0.length : Int).toNat (⟨(⟨(0 : Int), (0 : Int)⟩ : D.Port), (⟨(0 : Int), (0 : Int)⟩ : D.Port)⟩ : D.Wire)).length k3), (4, .int .i64 s10.1)]) _ hl15 ⟨hS6, rfl⟩ ?_
    rintro s10 F w24 _ o22 ⟨hS23, rfl⟩ hb20 ho21
    unfold m_laws_toWireS_b1 at hb20
    refine WP.seq ?_
    refine WP.seq ?_
    refine WP.region ?_
    refine RW.run ttok 4 rfl ?_
    refine RW.nil ?_
    refine WP.cond (decide (s10.1 < (x0.length : Int))) rfl (fun hc => ?_) (fun hc => ?_)
    · skip
      rw [if_pos hc] at hb20
      refine WP.skip ?_
      refine WP.seq ?_
      refine WP.block ?_
      refine WP.region ?_
      refine RW.run ttok 4 rfl ?_
      obtain ⟨x25, hx26, hb20⟩ := bind_some hb20
      refine RW.idx ttok (hE.trans hS23.ext) rfl rfl rfl rfl rfl rfl (by decide) rfl rfl h0_ (idx_some hx26).1 (idx_some hx26).2 rfl rfl (fun p27 es28 ha29 hr30 => ?_)
      have e31 := ty116_open hr30; subst e31
      refine RW.loadN ttok rfl rfl rfl rfl rfl (At.ext (hE.trans hS23.ext) ha29) rfl rfl rfl ?_
      obtain ⟨r32, hx33, hb20⟩ := bind_some hb20
      refine RW.call rfl rfl rfl enters62 (laws_toWire_ok (hE.trans hS23.ext) hr30 hx33) (fun v34 w35 hR36 => ?_)
      obtain ⟨rfl, hR37⟩ := hR36
      have hS38 := hS23.join hR37
      have hS39 := hS38.bring 0 rfl
      by_cases hk40 : decide (0 ≤ s10.1 ∧ s10.1.toNat < s10.2.length) = true
      case neg => rw [if_neg hk40] at hb20; cases hb20
      rw [if_pos hk40] at hb20
      have hb41 := of_decide_eq_true hk40
      refine RW.idxOwnN ttok hS39 rfl rfl rfl rfl rfl rfl rfl rfl hb41.1 hb41.2 rfl rfl (fun q42 hq43 => ?_)
      have hS44 := ty109_shutS (c := r32) (B := _) hS39
      have hS45 := hS44.bring 1 rfl
      refine RW.storeElN ttok hS45 rfl rfl rfl rfl rfl rfl hb41.2 hq43 rfl rfl (fun w46 hS47 => ?_)
      refine RW.nil ?_
      refine WP.region ?_
      refine RW.run ttok 3 rfl ?_
      refine RW.nil ?_
      cases hb20
      exact ⟨_, [(0, .slice A0_ x0.length k0_), (3, .slice A2 (List.replicate (x0.length : Int).toNat (⟨(⟨(0 : Int), (0 : Int)⟩ : D.Port), (⟨(0 : Int), (0 : Int)⟩ : D.Port)⟩ : D.Wire)).length k3), (4, .int .i64 (w64 (s10.1 + 1)))], ⟨rfl, rfl, rfl, trivial⟩, rfl, hS47, rfl⟩
    · skip
      rw [if_neg (not_t hc)] at hb20
      refine WP.exit ?_
      cases hb20
      exact ⟨_, [(3, .slice A2 (List.replicate (x0.length : Int).toNat (⟨(⟨(0 : Int), (0 : Int)⟩ : D.Port), (⟨(0 : Int), (0 : Int)⟩ : D.Port)⟩ : D.Wire)).length k3)], ⟨rfl, trivial⟩, ho21, hS23, rfl⟩

theorem enters22 : Enters Try.prog 22 := ⟨_, _, Try.func22, rfl, by kernel_rfl⟩
def m_spec_FromWires_j3 (fuel : Nat) (t69 : (List D.Agent)) : Option (D.Net × Int) := ((m_spec_l11Ok fuel (⟨t69⟩ : D.Net)).bind fun r82 => (if (!r82) = true then some ((⟨[]⟩ : D.Net), 5) else some ((⟨t69⟩ : D.Net), 0)))
def m_spec_FromWires_j4 (fuel : Nat) (s68 : Int × (List D.Agent)) (x104 : D.Wire) (x118 : D.Wire) (t132 : Bool) : Option (Rd (Int × (List D.Agent)) ((List D.Agent)) (D.Net × Int)) := (if t132 = true then some (.ret ((⟨[]⟩ : D.Net), 5)) else ((m_spec_l11Link fuel (⟨s68.2⟩ : D.Net) x104.A x118.B).bind fun r141 => some (.next (w64 (s68.1 + 1), r141.Agents))))
def m_spec_FromWires_b3 (fuel : Nat) (x1 : (List D.Wire)) (s68 : Int × (List D.Agent)) : Option (Rd (Int × (List D.Agent)) ((List D.Agent)) (D.Net × Int)) := (if (decide (s68.1 < (x1.length : Int))) = true then ((idx x1 s68.1).bind fun x104 => ((idx x1 s68.1).bind fun x118 => (if (((x104.A.Agent : Int) == x118.B.Agent) && (((x104.A.Slot : Int) == x118.B.Slot) && true)) = true then m_spec_FromWires_j4 fuel s68 x104 x118 true else ((m_spec_l11Peer fuel (⟨s68.2⟩ : D.Net) x104.A).bind fun r152 => (if (!(((r152.Agent : Int) == (-1)) && (((r152.Slot : Int) == 0) && true))) = true then m_spec_FromWires_j4 fuel s68 x104 x118 true else ((m_spec_l11Peer fuel (⟨s68.2⟩ : D.Net) x118.B).bind fun r160 => m_spec_FromWires_j4 fuel s68 x104 x118 (!(((r160.Agent : Int) == (-1)) && (((r160.Slot : Int) == 0) && true))))))))) else some (.brk s68.2))
def m_spec_FromWires_j2 (fuel : Nat) (x1 : (List D.Wire)) (t60 : (List D.Agent)) : Option (D.Net × Int) := ((iter (m_spec_FromWires_b3 fuel x1) fuel (0, t60)).bind fun o => aft o (m_spec_FromWires_j3 fuel))
def m_spec_FromWires_j5 (fuel : Nat) (s59 : Int × (List D.Agent)) (t173 : (List D.Agent)) : Option (Rd (Int × (List D.Agent)) ((List D.Agent)) (D.Net × Int)) := some (.next (w64 (s59.1 + 1), t173))
def m_spec_FromWires_b4 (fuel : Nat) (s59 : Int × (List D.Agent)) (s172 : Int × (List D.Agent)) : Option (Rd (Int × (List D.Agent)) ((List D.Agent)) (Rd (Int × (List D.Agent)) ((List D.Agent)) (D.Net × Int))) := ((idx s172.2 s59.1).bind fun x185 => (if (decide (s172.1 < (x185.Ports.length : Int))) = true then ((idx s172.2 s59.1).bind fun x201 => (if decide (0 ≤ s172.1 ∧ s172.1.toNat < x201.Ports.length) = true then some (.next (w64 (s172.1 + 1), (s172.2.set s59.1.toNat (⟨x201.Kind, x201.Level, x201.Value, x201.Data, (x201.Ports.set s172.1.toNat (⟨(-1), 0⟩ : D.Port))⟩ : D.Agent)))) else none)) else some (.brk s172.2)))
def m_spec_FromWires_b2 (fuel : Nat) (r36 : D.Net) (s59 : Int × (List D.Agent)) : Option (Rd (Int × (List D.Agent)) ((List D.Agent)) (D.Net × Int)) := (if (decide (s59.1 < (r36.Agents.length : Int))) = true then ((iter (m_spec_FromWires_b4 fuel s59) fuel (0, s59.2)).bind fun o => aft o (m_spec_FromWires_j5 fuel s59)) else some (.brk s59.2))
def m_spec_FromWires_j1 (fuel : Nat) (x0 : (List D.Agent)) (x1 : (List D.Wire)) (t19 : Unit) : Option (D.Net × Int) := ((m_spec_l11Own fuel (⟨x0⟩ : D.Net)).bind fun r36 => ((iter (m_spec_FromWires_b2 fuel r36) fuel (0, r36.Agents)).bind fun o => aft o (m_spec_FromWires_j2 fuel x1)))
def m_spec_FromWires_j6 (fuel : Nat) (s18 : Int) (t237 : Bool) : Option (Rd (Int) (Unit) (D.Net × Int)) := (if t237 = true then some (.ret ((⟨[]⟩ : D.Net), 2)) else some (.next (w64 (s18 + 1))))
def m_spec_FromWires_b1 (fuel : Nat) (x0 : (List D.Agent)) (x1 : (List D.Wire)) (s18 : Int) : Option (Rd (Int) (Unit) (D.Net × Int)) := (if (decide (s18 < (x1.length : Int))) = true then ((idx x1 s18).bind fun x246 => ((m_spec_l11Port fuel x0 x246.A).bind fun r253 => (if (!r253) = true then m_spec_FromWires_j6 fuel s18 true else ((idx x1 s18).bind fun x261 => ((m_spec_l11Port fuel x0 x261.B).bind fun r268 => m_spec_FromWires_j6 fuel s18 (!r268)))))) else some (.brk ()))
def m_spec_FromWires (fuel : Nat) (x0 : (List D.Agent)) (x1 : (List D.Wire)) : Option (D.Net × Int) := ((m_spec_l11Agents fuel x0).bind fun r5 => (if (!r5) = true then some ((⟨[]⟩ : D.Net), 1) else ((iter (m_spec_FromWires_b1 fuel x0 x1) fuel 0).bind fun o => aft o (m_spec_FromWires_j1 fuel x0 x1))))

set_option maxRecDepth 100000 in
theorem spec_FromWires_ok {W w : World} (hE : Ext W w) {A0_ : Option Addr} {k0_ : Nat} {x0 : (List D.Agent)} {A1_ : Option Addr} {k1_ : Nat} {x1 : (List D.Wire)} (h0_ : ty28.ro W [.slice A0_ x0.length k0_] x0) (h1_ : ty47.ro W [.slice A1_ x1.length k1_] x1) {fuel : Nat} {r : D.Net × Int} (hm : m_spec_FromWires fuel x0 x1 = some r) :
    Calls Try.prog 22 ⟨[.slice A0_ x0.length k0_, .slice A1_ x1.length k1_]⟩ w (Ret fun v w8 => ∃ A0 k0, v = .tuple ⟨[.agg ⟨[.slice A0 r.1.Agents.length k0]⟩, .int .i64 r.2]⟩ ∧ St w w8 [Own ty28 [.slice A0 r.1.Agents.length k0] r.1.Agents]) := by
  refine Calls.into Try.func22 rfl 114 rfl rfl _ rfl ?_
  unfold m_spec_FromWires at hm
  have hS := St.start w
  refine WP.seq ?_
  refine WP.region ?_
  refine RW.new ttok hS rfl rfl rfl rfl (fun g1 w2 e3 hS4 => ?_)
  refine RW.run ttok 1 rfl ?_
  refine RW.nil ?_
  refine WP.seq ?_
  refine WP.seq ?_
  refine WP.region ?_
  refine RW.run ttok 1 rfl ?_
  obtain ⟨r5, hx6, hm⟩ := bind_some hm
  refine RW.call rfl rfl rfl enters60 (spec_l11Agents_ok (hE.trans hS4.ext) h0_ hx6) (fun v7 w10 hR11 => ?_)
  obtain ⟨rfl, hR12⟩ := hR11
  have hS13 := hS4.join hR12
  refine RW.run ttok 1 rfl ?_
  refine RW.nil ?_
  refine WP.cond (!r5) rfl (fun hc => ?_) (fun hc => ?_)
  · skip
    rw [if_pos hc] at hm
    refine WP.seq ?_
    refine WP.region ?_
    refine RW.quiet rfl (Quiet.build ttok rfl rfl rfl rfl rfl) rfl rfl ?_
    have hS14 := hS13.bring 0 rfl
    refine RW.store ttok (A := []) hS14 rfl rfl rfl rfl rfl 0 rfl rfl rfl rfl rfl (fun w15 hS16 => ?_)
    refine RW.run ttok 1 rfl ?_
    refine RW.nil ?_
    refine WP.ret ?_
    cases hm
    have hS17 := hS16.nilSl ty112 112
    exact ⟨_, .cons (ResIs.agg ttok rfl rfl rfl ((hS16.bring 0 rfl).box) rfl) (.cons (.tmp rfl) .nil), none, 0, rfl, (hS17.taken 1)⟩
  · skip
    rw [if_neg (not_t hc)] at hm
    refine WP.skip ?_
    refine WP.seq ?_
    refine WP.seq ?_
    refine WP.region ?_
    refine RW.run ttok 1 rfl ?_
    refine RW.nil ?_
    obtain ⟨o25, hl26, hm⟩ := bind_some hm
    refine WP.cut (fun (t19 : Unit) F w9 => o25 = .inl t19 ∧ Ext w10 w9 ∧ St w w9 [Box g1 [.slice none 0 0] 30] ∧ F = [(0, .slice A0_ x0.length k0_), (1, .slice A1_ x1.length k1_), (4, .pointer (some ⟨g1, 0, none⟩))]) ?_ ?_
    · skip
      rintro t19 F w24 ⟨ho28, hE23, hS27, rfl⟩
      subst ho28
      rw [aft_inl] at hm
      unfold m_spec_FromWires_j1 at hm
      refine WP.seq ?_
      refine WP.region ?_
      refine RW.run ttok 1 rfl ?_
      refine RW.quiet rfl (Quiet.build ttok rfl rfl rfl rfl rfl) rfl rfl ?_
      refine RW.new ttok hS27 rfl rfl rfl rfl (fun g29 w30 e31 hS32 => ?_)
      have hS33 := hS32.bring 0 rfl
      refine RW.store ttok (A := []) hS33 rfl rfl rfl rfl rfl 0 rfl rfl rfl rfl rfl (fun w34 hS35 => ?_)
      refine RW.nil ?_
      refine WP.seq ?_
      refine WP.region ?_
      obtain ⟨r36, hx37, hm⟩ := bind_some hm
      refine RW.call rfl rfl rfl enters51 (spec_l11Own_ok (Ext.refl _) (ty30_shut (⟨x0⟩ : D.Net) (ty28.ext (hE.trans hS35.ext) h0_)) ((hS35.bring 0 rfl).box) hx37) (fun v38 w39 hR40 => ?_)
      obtain ⟨A41, k42, rfl, hR43⟩ := hR40
      have hS44 := hS35.join hR43
      refine RW.new ttok hS44 rfl rfl rfl rfl (fun g45 w46 e47 hS48 => ?_)
      have hS49 := hS48.bring 0 rfl
      refine RW.store ttok (A := []) hS49 rfl rfl rfl rfl rfl 0 rfl rfl rfl rfl rfl (fun w50 hS51 => ?_)
      refine RW.nil ?_
      refine WP.seq ?_
      refine WP.region ?_
      refine RW.quiet rfl (Quiet.build ttok rfl rfl rfl rfl rfl) rfl rfl ?_
      refine RW.new ttok hS51 rfl rfl rfl rfl (fun g52 w53 e54 hS55 => ?_)
      have hS56 := hS55.bring 0 rfl
      refine RW.store ttok (A := []) hS56 rfl rfl rfl rfl rfl 0 rfl rfl rfl rfl rfl (fun w57 hS58 => ?_)
      refine RW.nil ?_
      refine WP.seq ?_
      refine WP.seq ?_
      refine WP.region ?_
      refine RW.run ttok 1 rfl ?_
      refine RW.nil ?_
      obtain ⟨o63, hl65, hm⟩ := bind_some hm
      refine WP.cut (fun (t60 : (List D.Agent)) F w9 => o63 = .inl t60 ∧ St w w9 [Box g52 [.int .i64 (-1), .int .i64 0] 38, Box g45 [.slice A41 r36.Agents.length k42] 30, Own ty28 [.slice A41 r36.Agents.length k42] t60, Box g29 [.slice A0_ x0.length k0_] 30, Box g1 [.slice none 0 0] 30] ∧ F = [(1, .slice A1_ x1.length k1_), (4, .pointer (some ⟨g1, 0, none⟩)), (8, .pointer (some ⟨g45, 0, none⟩)), (9, .pointer (some ⟨g52, 0, none⟩))]) ?_ ?_
      · skip
        rintro t60 F w62 ⟨ho67, hS66, rfl⟩
        subst ho67
        rw [aft_inl] at hm
        unfold m_spec_FromWires_j2 at hm
        refine WP.seq ?_
        refine WP.seq ?_
        refine WP.region ?_
        refine RW.run ttok 1 rfl ?_
        refine RW.nil ?_
        obtain ⟨o78, hl79, hm⟩ := bind_some hm
        refine WP.cut (fun (t69 : (List D.Agent)) F w9 => ∃ A75 k76, o78 = .inl t69 ∧ St w w9 [Box g52 [.int .i64 (-1), .int .i64 0] 38, Box g45 [.slice A75 t69.length k76] 30, Own ty28 [.slice A75 t69.length k76] t69, Box g29 [.slice A0_ x0.length k0_] 30, Box g1 [.slice none 0 0] 30] ∧ F = [(4, .pointer (some ⟨g1, 0, none⟩)), (8, .pointer (some ⟨g45, 0, none⟩))]) ?_ ?_
        · skip
          rintro t69 F w77 ⟨A75, k76, ho81, hS80, rfl⟩
          subst ho81
          rw [aft_inl] at hm
          unfold m_spec_FromWires_j3 at hm
          refine WP.seq ?_
          refine WP.seq ?_
          refine WP.region ?_
          obtain ⟨r82, hx83, hm⟩ := bind_some hm
          refine RW.call rfl rfl rfl enters46 (spec_l11Ok_ok (Ext.refl _) (ty30_shut (⟨t69⟩ : D.Net) ((hS80.bring 2 rfl).own)) ((hS80.bring 1 rfl).box) hx83) (fun v84 w85 hR86 => ?_)
          obtain ⟨rfl, hR87⟩ := hR86
          have hS88 := hS80.join hR87
          refine RW.run ttok 1 rfl ?_
          refine RW.nil ?_
          refine WP.cond (!r82) rfl (fun hc => ?_) (fun hc => ?_)
          · skip
            rw [if_pos hc] at hm
            refine WP.seq ?_
            refine WP.region ?_
            refine RW.quiet rfl (Quiet.build ttok rfl rfl rfl rfl rfl) rfl rfl ?_
            have hS89 := hS88.bring 4 rfl
            refine RW.store ttok (A := []) hS89 rfl rfl rfl rfl rfl 0 rfl rfl rfl rfl rfl (fun w90 hS91 => ?_)
            refine RW.run ttok 1 rfl ?_
            refine RW.nil ?_
            refine WP.ret ?_
            cases hm
            have hS92 := hS91.nilSl ty112 112
            exact ⟨_, .cons (ResIs.agg ttok rfl rfl rfl ((hS91.bring 0 rfl).box) rfl) (.cons (.tmp rfl) .nil), none, 0, rfl, (hS92.taken 1)⟩
          · skip
            rw [if_neg (not_t hc)] at hm
            refine WP.skip ?_
            refine WP.seq ?_
            refine WP.region ?_
            refine RW.loadN ttok rfl rfl rfl rfl rfl ((hS88.bring 1 rfl).box) rfl rfl rfl ?_
            have hS93 := hS88.bring 4 rfl
            refine RW.store ttok (A := []) hS93 rfl rfl rfl rfl rfl 0 rfl rfl rfl rfl rfl (fun w94 hS95 => ?_)
            refine RW.run ttok 1 rfl ?_
            refine RW.nil ?_
            refine WP.ret ?_
            cases hm
            exact ⟨_, .cons (ResIs.agg ttok rfl rfl rfl ((hS95.bring 0 rfl).box) rfl) (.cons (.tmp rfl) .nil), A75, k76, rfl, ((hS95.bring 3 rfl).taken 1)⟩
        · skip
          refine WP.block ?_
          have hn96 := (hS66.bring 2 rfl).lenEq
          have hS97 := (hS66.bring 2 rfl).reLen hn96
          have hS98 := (hS97.bring 2 rfl).reBox (cs' := [.slice A41 t60.length k42]) (by show ([.slice A41 r36.Agents.length k42] : List Value) = [.slice A41 t60.length k42]; first | (simp only [hn96]; done) | (simp only [hn96]; rfl))
          refine WP.weak [(1, .slice A1_ x1.length k1_), (4, .pointer (some ⟨g1, 0, none⟩)), (8, .pointer (some ⟨g45, 0, none⟩)), (9, .pointer (some ⟨g52, 0, none⟩)), (12, .int .i64 0)] ⟨rfl, rfl, rfl, rfl, rfl, trivial⟩ ?_
          refine WP.iter (fun (s68 : Int × (List D.Agent)) F w9 => ∃ A73 k74, St w w9 [Box g52 [.int .i64 (-1), .int .i64 0] 38, Box g45 [.slice A73 s68.2.length k74] 30, Own ty28 [.slice A73 s68.2.length k74] s68.2, Box g29 [.slice A0_ x0.length k0_] 30, Box g1 [.slice none 0 0] 30] ∧ F = [(1, .slice A1_ x1.length k1_), (4, .pointer (some ⟨g1, 0, none⟩)), (8, .pointer (some ⟨g45, 0, none⟩)), (9, .pointer (some ⟨g52, 0, none⟩)), (12, .int .i64 s68.1)]) _ hl79 ⟨A41, k42, (((hS98.bring 1 rfl).bring 1 rfl).bring 2 rfl), rfl⟩ ?_
          rintro s68 F w103 _ o101 ⟨A73, k74, hS102, rfl⟩ hb99 ho100
          unfold m_spec_FromWires_b3 at hb99
          refine WP.seq ?_
          refine WP.seq ?_
          refine WP.region ?_
          refine RW.run ttok 4 rfl ?_
          refine RW.nil ?_
          refine WP.cond (decide (s68.1 < (x1.length : Int))) rfl (fun hc => ?_) (fun hc => ?_)
          · skip
            rw [if_pos hc] at hb99
            refine WP.skip ?_
            refine WP.seq ?_
            refine WP.block ?_
            refine WP.seq ?_
            refine WP.region ?_
            refine RW.run ttok 2 rfl ?_
            obtain ⟨x104, hx105, hb99⟩ := bind_some hb99
            refine RW.idx ttok (hE.trans hS102.ext) rfl rfl rfl rfl rfl rfl (by decide) rfl rfl h1_ (idx_some hx105).1 (idx_some hx105).2 rfl rfl (fun p106 es107 ha108 hr109 => ?_)
            have e110 := ty109_open hr109; subst e110
            refine RW.run ttok 1 rfl ?_
            refine RW.loadN ttok rfl rfl rfl rfl rfl (At.sub (At.ext (hE.trans hS102.ext) ha108) 0 2) rfl rfl rfl ?_
            refine RW.new ttok hS102 rfl rfl rfl rfl (fun g111 w112 e113 hS114 => ?_)
            have hS115 := hS114.bring 0 rfl
            refine RW.store ttok (A := []) hS115 rfl rfl rfl rfl rfl 0 rfl rfl rfl rfl rfl (fun w116 hS117 => ?_)
            refine RW.nil ?_
            refine WP.seq ?_
            refine WP.region ?_
            refine RW.run ttok 2 rfl ?_
            obtain ⟨x118, hx119, hb99⟩ := bind_some hb99
            refine RW.idx ttok (hE.trans hS117.ext) rfl rfl rfl rfl rfl rfl (by decide) rfl rfl h1_ (idx_some hx119).1 (idx_some hx119).2 rfl rfl (fun p120 es121 ha122 hr123 => ?_)
            have e124 := ty109_open hr123; subst e124
            refine RW.run ttok 1 rfl ?_
            refine RW.loadN ttok rfl rfl rfl rfl rfl (At.sub (At.ext (hE.trans hS117.ext) ha122) 2 2) rfl rfl rfl ?_
            refine RW.new ttok hS117 rfl rfl rfl rfl (fun g125 w126 e127 hS128 => ?_)
            have hS129 := hS128.bring 0 rfl
            refine RW.store ttok (A := []) hS129 rfl rfl rfl rfl rfl 0 rfl rfl rfl rfl rfl (fun w130 hS131 => ?_)
            refine RW.nil ?_
            refine WP.seq ?_
            refine WP.seq ?_
            refine WP.cut (fun (t132 : Bool) F w9 => m_spec_FromWires_j4 fuel s68 x104 x118 t132 = some o101 ∧ Ext w130 w9 ∧ St w w9 [Box g125 [.int .i64 x118.B.Agent, .int .i64 x118.B.Slot] 38, Box g111 [.int .i64 x104.A.Agent, .int .i64 x104.A.Slot] 38, Box g52 [.int .i64 (-1), .int .i64 0] 38, Box g45 [.slice A73 s68.2.length k74] 30, Own ty28 [.slice A73 s68.2.length k74] s68.2, Box g29 [.slice A0_ x0.length k0_] 30, Box g1 [.slice none 0 0] 30] ∧ F = [(1, .slice A1_ x1.length k1_), (4, .pointer (some ⟨g1, 0, none⟩)), (8, .pointer (some ⟨g45, 0, none⟩)), (9, .pointer (some ⟨g52, 0, none⟩)), (12, .int .i64 s68.1), (13, .pointer (some ⟨g111, 0, none⟩)), (14, .pointer (some ⟨g125, 0, none⟩)), (105, .bool t132)]) ?_ ?_
            · skip
              rintro t132 F w135 ⟨hb99, hE133, hS134, rfl⟩
              unfold m_spec_FromWires_j4 at hb99
              refine WP.cond t132 rfl (fun hc => ?_) (fun hc => ?_)
              · skip
                rw [if_pos hc] at hb99
                refine WP.seq ?_
                refine WP.region ?_
                refine RW.quiet rfl (Quiet.build ttok rfl rfl rfl rfl rfl) rfl rfl ?_
                have hS137 := hS134.bring 6 rfl
                refine RW.store ttok (A := []) hS137 rfl rfl rfl rfl rfl 0 rfl rfl rfl rfl rfl (fun w138 hS139 => ?_)
                refine RW.run ttok 1 rfl ?_
                refine RW.nil ?_
                refine WP.ret ?_
                cases hb99
                cases ho100
                have hm : some _ = some _ := hm
                cases hm
                have hS140 := hS139.nilSl ty112 112
                exact ⟨_, .cons (ResIs.agg ttok rfl rfl rfl ((hS139.bring 0 rfl).box) rfl) (.cons (.tmp rfl) .nil), none, 0, rfl, (hS140.taken 1)⟩
              · skip
                rw [if_neg (not_t hc)] at hb99
                refine WP.skip ?_
                refine WP.region ?_
                refine RW.loadN ttok rfl rfl rfl rfl rfl ((hS134.bring 1 rfl).box) rfl rfl rfl ?_
                refine RW.loadN ttok rfl rfl rfl rfl rfl ((hS134.bring 0 rfl).box) rfl rfl rfl ?_
                obtain ⟨r141, hx142, hb99⟩ := bind_some hb99
                refine RW.call rfl rfl rfl enters53 (spec_l11Link_ok (W := w) (RR := _) (x0 := (⟨s68.2⟩ : D.Net)) (x1 := x104.A) (x2 := x118.B) ((hS134.bring 4 rfl).bring 4 rfl) (ty38.ext hE (ty38_shut x104.A)) (ty38.ext hE (ty38_shut x118.B)) hx142) (fun v143 w144 hR145 => ?_)
                obtain ⟨A146, k147, rfl, hS148⟩ := hR145
                refine RW.nil ?_
                refine WP.region ?_
                refine RW.run ttok 3 rfl ?_
                refine RW.nil ?_
                cases hb99
                exact ⟨_, [(1, .slice A1_ x1.length k1_), (4, .pointer (some ⟨g1, 0, none⟩)), (8, .pointer (some ⟨g45, 0, none⟩)), (9, .pointer (some ⟨g52, 0, none⟩)), (12, .int .i64 (w64 (s68.1 + 1)))], ⟨rfl, rfl, rfl, rfl, rfl, trivial⟩, rfl, A146, k147, ((((((hS148.bring 6 rfl).bring 6 rfl).bring 3 rfl).bring 3 rfl).bring 6 rfl).taken 5), rfl⟩
            · skip
              refine WP.drawnM 0 mixed 15 (by kernel_rfl) (by kernel_rfl) [([], 32767), ([], 32767), ([0, 1], 32764), ([2], 32763), ([3], 32759), ([4, 3, 3], 32743), ([3], 32759), ([5, 6, 3], 32663), ([3, 7], 32631), ([8, 5], 32511), ([9], 32255), ([10, 9, 9], 31231), ([9], 32255), ([11, 12, 9], 26111), ([9, 13], 24063)] (by kernel_rfl) hS131.ext (fun hsk149 => ?_)
              have hS150 := hS131.step (Ext.draw _)
              refine DM.loadN ttok hsk149 0 1 (by kernel_rfl) (by kernel_rfl) (by kernel_rfl) (by kernel_rfl) rfl (by kernel_rfl) rfl rfl rfl rfl rfl ((hS131.bring 1 rfl).box) rfl rfl rfl ?_
              refine DM.loadN ttok hsk149 1 3 (by kernel_rfl) (by kernel_rfl) (by kernel_rfl) (by kernel_rfl) rfl (by kernel_rfl) rfl rfl rfl rfl rfl ((hS131.bring 0 rfl).box) rfl rfl rfl ?_
              refine DM.run (fuel := 11) ttok hsk149 [2, 3] 15 (by kernel_rfl) (by kernel_rfl) rfl ?_
              refine DM.weak [(1, .slice A1_ x1.length k1_), (4, .pointer (some ⟨g1, 0, none⟩)), (8, .pointer (some ⟨g45, 0, none⟩)), (9, .pointer (some ⟨g52, 0, none⟩)), (12, .int .i64 s68.1), (13, .pointer (some ⟨g111, 0, none⟩)), (14, .pointer (some ⟨g125, 0, none⟩)), (94, .bool (((x104.A.Agent : Int) == x118.B.Agent) && (((x104.A.Slot : Int) == x118.B.Slot) && true)))] ⟨rfl, rfl, rfl, rfl, rfl, rfl, rfl, rfl, trivial⟩ ?_
              by_cases hg151 : (((x104.A.Agent : Int) == x118.B.Agent) && (((x104.A.Slot : Int) == x118.B.Slot) && true)) = true
              · skip
                rw [if_pos hg151] at hb99
                refine DM.know 94 rfl (congrArg Value.bool hg151) ?_
                refine DM.run (fuel := 0) ttok hsk149 [4, 5, 6, 7, 8, 9, 10, 11, 12, 13, 14] 32767 (by kernel_rfl) (by kernel_rfl) rfl ?_
                refine DM.weak [(1, .slice A1_ x1.length k1_), (4, .pointer (some ⟨g1, 0, none⟩)), (8, .pointer (some ⟨g45, 0, none⟩)), (9, .pointer (some ⟨g52, 0, none⟩)), (12, .int .i64 s68.1), (13, .pointer (some ⟨g111, 0, none⟩)), (14, .pointer (some ⟨g125, 0, none⟩)), (105, .bool true)] ⟨rfl, rfl, rfl, rfl, rfl, rfl, rfl, rfl, trivial⟩ ?_
                refine DM.done hsk149 (by kernel_rfl) ?_
                exact ⟨true, [(1, .slice A1_ x1.length k1_), (4, .pointer (some ⟨g1, 0, none⟩)), (8, .pointer (some ⟨g45, 0, none⟩)), (9, .pointer (some ⟨g52, 0, none⟩)), (12, .int .i64 s68.1), (13, .pointer (some ⟨g111, 0, none⟩)), (14, .pointer (some ⟨g125, 0, none⟩)), (105, .bool true)], ⟨rfl, rfl, rfl, rfl, rfl, rfl, rfl, rfl, trivial⟩, hb99, (Ext.draw _), hS150, rfl⟩
              · skip
                rw [if_neg hg151] at hb99
                refine DM.know 94 rfl (congrArg Value.bool (Bool.eq_false_iff.2 hg151)) ?_
                refine DM.loadN ttok hsk149 4 31 (by kernel_rfl) (by kernel_rfl) (by kernel_rfl) (by kernel_rfl) rfl (by kernel_rfl) rfl rfl rfl rfl rfl ((hS131.bring 1 rfl).box) rfl rfl rfl ?_
                refine DM.loadN ttok hsk149 6 95 (by kernel_rfl) (by kernel_rfl) (by kernel_rfl) (by kernel_rfl) rfl (by kernel_rfl) rfl rfl rfl rfl rfl ((hS131.bring 2 rfl).box) rfl rfl rfl ?_
                obtain ⟨r152, hx153, hb99⟩ := bind_some hb99
                refine DM.one hsk149 5 (by kernel_rfl) (LM.call hsk149 127 (by kernel_rfl) (by kernel_rfl) rfl rfl rfl rfl enters52 (spec_l11Peer_ok (Ext.refl _) (ty30_shut (⟨s68.2⟩ : D.Net) ((hS150.bring 4 rfl).own)) ((hS150.bring 3 rfl).box) (ty38_shut x104.A) hx153) (fun v154 w155 hR156 => ?_))
                obtain ⟨rfl, hR157⟩ := hR156
                refine ⟨hR157.ext, ?_⟩
                have hS158 := hS150.join hR157
                refine DM.run (fuel := 5) ttok hsk149 [7, 8, 9] 1023 (by kernel_rfl) (by kernel_rfl) rfl ?_
                refine DM.weak [(1, .slice A1_ x1.length k1_), (4, .pointer (some ⟨g1, 0, none⟩)), (8, .pointer (some ⟨g45, 0, none⟩)), (9, .pointer (some ⟨g52, 0, none⟩)), (12, .int .i64 s68.1), (13, .pointer (some ⟨g111, 0, none⟩)), (14, .pointer (some ⟨g125, 0, none⟩)), (100, .bool (!(((r152.Agent : Int) == (-1)) && (((r152.Slot : Int) == 0) && true))))] ⟨rfl, rfl, rfl, rfl, rfl, rfl, rfl, rfl, trivial⟩ ?_
                by_cases hg159 : (!(((r152.Agent : Int) == (-1)) && (((r152.Slot : Int) == 0) && true))) = true
                · skip
                  rw [if_pos hg159] at hb99
                  refine DM.know 100 rfl (congrArg Value.bool hg159) ?_
                  refine DM.run (fuel := 0) ttok hsk149 [10, 11, 12, 13, 14] 32767 (by kernel_rfl) (by kernel_rfl) rfl ?_
                  refine DM.done hsk149 (by kernel_rfl) ?_
                  exact ⟨true, [(1, .slice A1_ x1.length k1_), (4, .pointer (some ⟨g1, 0, none⟩)), (8, .pointer (some ⟨g45, 0, none⟩)), (9, .pointer (some ⟨g52, 0, none⟩)), (12, .int .i64 s68.1), (13, .pointer (some ⟨g111, 0, none⟩)), (14, .pointer (some ⟨g125, 0, none⟩)), (105, .bool true)], ⟨rfl, rfl, rfl, rfl, rfl, rfl, rfl, rfl, trivial⟩, hb99, ((Ext.draw _).trans hR157.ext), hS158, rfl⟩
                · skip
                  rw [if_neg hg159] at hb99
                  refine DM.know 100 rfl (congrArg Value.bool (Bool.eq_false_iff.2 hg159)) ?_
                  refine DM.loadN ttok hsk149 10 2047 (by kernel_rfl) (by kernel_rfl) (by kernel_rfl) (by kernel_rfl) rfl (by kernel_rfl) rfl rfl rfl rfl rfl ((hS131.bring 0 rfl).box) rfl rfl rfl ?_
                  refine DM.loadN ttok hsk149 12 6143 (by kernel_rfl) (by kernel_rfl) (by kernel_rfl) (by kernel_rfl) rfl (by kernel_rfl) rfl rfl rfl rfl rfl ((hS131.bring 2 rfl).box) rfl rfl rfl ?_
                  obtain ⟨r160, hx161, hb99⟩ := bind_some hb99
                  refine DM.one hsk149 11 (by kernel_rfl) (LM.call hsk149 8191 (by kernel_rfl) (by kernel_rfl) rfl rfl rfl rfl enters52 (spec_l11Peer_ok (Ext.refl _) (ty30_shut (⟨s68.2⟩ : D.Net) ((hS158.bring 4 rfl).own)) ((hS158.bring 3 rfl).box) (ty38_shut x118.B) hx161) (fun v162 w163 hR164 => ?_))
                  obtain ⟨rfl, hR165⟩ := hR164
                  refine ⟨hR165.ext, ?_⟩
                  have hS166 := hS158.join hR165
                  refine DM.run (fuel := 0) ttok hsk149 [13, 14] 32767 (by kernel_rfl) (by kernel_rfl) rfl ?_
                  refine DM.done hsk149 (by kernel_rfl) ?_
                  exact ⟨!(((r160.Agent : Int) == (-1)) && (((r160.Slot : Int) == 0) && true)), [(1, .slice A1_ x1.length k1_), (4, .pointer (some ⟨g1, 0, none⟩)), (8, .pointer (some ⟨g45, 0, none⟩)), (9, .pointer (some ⟨g52, 0, none⟩)), (12, .int .i64 s68.1), (13, .pointer (some ⟨g111, 0, none⟩)), (14, .pointer (some ⟨g125, 0, none⟩)), (105, .bool (!(((r160.Agent : Int) == (-1)) && (((r160.Slot : Int) == 0) && true))))], ⟨rfl, rfl, rfl, rfl, rfl, rfl, rfl, rfl, trivial⟩, hb99, (((Ext.draw _).trans hR157.ext).trans hR165.ext), hS166, rfl⟩
          · skip
            rw [if_neg (not_t hc)] at hb99
            refine WP.exit ?_
            cases hb99
            exact ⟨_, [(4, .pointer (some ⟨g1, 0, none⟩)), (8, .pointer (some ⟨g45, 0, none⟩))], ⟨rfl, rfl, trivial⟩, A73, k74, ho100, hS102, rfl⟩
      · skip
        refine WP.block ?_
        refine WP.weak [(1, .slice A1_ x1.length k1_), (4, .pointer (some ⟨g1, 0, none⟩)), (8, .pointer (some ⟨g45, 0, none⟩)), (9, .pointer (some ⟨g52, 0, none⟩)), (10, .int .i64 0)] ⟨rfl, rfl, rfl, rfl, rfl, trivial⟩ ?_
        refine WP.iter (fun (s59 : Int × (List D.Agent)) F w9 => St w w9 [Box g52 [.int .i64 (-1), .int .i64 0] 38, Box g45 [.slice A41 r36.Agents.length k42] 30, Own ty28 [.slice A41 r36.Agents.length k42] s59.2, Box g29 [.slice A0_ x0.length k0_] 30, Box g1 [.slice none 0 0] 30] ∧ F = [(1, .slice A1_ x1.length k1_), (4, .pointer (some ⟨g1, 0, none⟩)), (8, .pointer (some ⟨g45, 0, none⟩)), (9, .pointer (some ⟨g52, 0, none⟩)), (10, .int .i64 s59.1)]) _ hl65 ⟨hS58, rfl⟩ ?_
        rintro s59 F w171 _ o169 ⟨hS170, rfl⟩ hb167 ho168
        unfold m_spec_FromWires_b2 at hb167
        refine WP.seq ?_
        refine WP.seq ?_
        refine WP.region ?_
        refine RW.run ttok 2 rfl ?_
        refine RW.load1 ttok rfl rfl rfl rfl rfl ((hS170.bring 1 rfl).box) 0 rfl rfl rfl rfl ?_
        refine RW.run ttok 2 rfl ?_
        refine RW.nil ?_
        refine WP.cond (decide (s59.1 < (r36.Agents.length : Int))) rfl (fun hc => ?_) (fun hc => ?_)
        · skip
          rw [if_pos hc] at hb167
          refine WP.skip ?_
          refine WP.seq ?_
          refine WP.block ?_
          refine WP.seq ?_
          refine WP.region ?_
          refine RW.run ttok 1 rfl ?_
          refine RW.nil ?_
          obtain ⟨o176, hl177, hb167⟩ := bind_some hb167
          refine WP.cut (fun (t173 : (List D.Agent)) F w9 => o176 = .inl t173 ∧ St w w9 [Box g52 [.int .i64 (-1), .int .i64 0] 38, Box g45 [.slice A41 r36.Agents.length k42] 30, Own ty28 [.slice A41 r36.Agents.length k42] t173, Box g29 [.slice A0_ x0.length k0_] 30, Box g1 [.slice none 0 0] 30] ∧ F = [(1, .slice A1_ x1.length k1_), (4, .pointer (some ⟨g1, 0, none⟩)), (8, .pointer (some ⟨g45, 0, none⟩)), (9, .pointer (some ⟨g52, 0, none⟩)), (10, .int .i64 s59.1)]) ?_ ?_
          · skip
            rintro t173 F w175 ⟨ho179, hS178, rfl⟩
            subst ho179
            rw [aft_inl] at hb167
            unfold m_spec_FromWires_j5 at hb167
            refine WP.region ?_
            refine RW.run ttok 3 rfl ?_
            refine RW.nil ?_
            cases hb167
            exact ⟨_, [(1, .slice A1_ x1.length k1_), (4, .pointer (some ⟨g1, 0, none⟩)), (8, .pointer (some ⟨g45, 0, none⟩)), (9, .pointer (some ⟨g52, 0, none⟩)), (10, .int .i64 (w64 (s59.1 + 1)))], ⟨rfl, rfl, rfl, rfl, rfl, trivial⟩, rfl, hS178, rfl⟩
          · skip
            refine WP.block ?_
            refine WP.weak [(1, .slice A1_ x1.length k1_), (4, .pointer (some ⟨g1, 0, none⟩)), (8, .pointer (some ⟨g45, 0, none⟩)), (9, .pointer (some ⟨g52, 0, none⟩)), (10, .int .i64 s59.1), (11, .int .i64 0)] ⟨rfl, rfl, rfl, rfl, rfl, rfl, trivial⟩ ?_
            refine WP.iter (fun (s172 : Int × (List D.Agent)) F w9 => St w w9 [Box g52 [.int .i64 (-1), .int .i64 0] 38, Box g45 [.slice A41 r36.Agents.length k42] 30, Own ty28 [.slice A41 r36.Agents.length k42] s172.2, Box g29 [.slice A0_ x0.length k0_] 30, Box g1 [.slice none 0 0] 30] ∧ F = [(1, .slice A1_ x1.length k1_), (4, .pointer (some ⟨g1, 0, none⟩)), (8, .pointer (some ⟨g45, 0, none⟩)), (9, .pointer (some ⟨g52, 0, none⟩)), (10, .int .i64 s59.1), (11, .int .i64 s172.1)]) _ hl177 ⟨hS170, rfl⟩ ?_
            rintro s172 F w184 _ o182 ⟨hS183, rfl⟩ hb180 ho181
            unfold m_spec_FromWires_b4 at hb180
            refine WP.seq ?_
            refine WP.seq ?_
            refine WP.region ?_
            refine RW.run ttok 2 rfl ?_
            refine RW.load1 ttok rfl rfl rfl rfl rfl ((hS183.bring 1 rfl).box) 0 rfl rfl rfl rfl ?_
            refine RW.run ttok 1 rfl ?_
            obtain ⟨x185, hx186, hb180⟩ := bind_some hb180
            refine RW.idx ttok (Ext.refl _) rfl rfl rfl rfl rfl rfl (by decide) rfl rfl ((hS183.bring 2 rfl).own) (idx_some hx186).1 (idx_some hx186).2 rfl rfl (fun p187 es188 ha189 hr190 => ?_)
            obtain ⟨A191, k192, A194, k195, e197, h193, h196⟩ := ty112_open hr190; subst e197
            refine RW.run ttok 1 rfl ?_
            refine RW.load1 ttok rfl rfl rfl rfl rfl ha189 4 rfl rfl rfl rfl ?_
            refine RW.run ttok 2 rfl ?_
            refine RW.nil ?_
            refine WP.cond (decide (s172.1 < (x185.Ports.length : Int))) rfl (fun hc => ?_) (fun hc => ?_)
            · skip
              rw [if_pos hc] at hb180
              refine WP.skip ?_
              refine WP.seq ?_
              refine WP.block ?_
              refine WP.drawnM 512 mixed 10 (by kernel_rfl) (by kernel_rfl) [([], 1023), ([0], 1022), ([], 1023), ([1, 2], 1017), ([3], 1015), ([4], 1007), ([], 1023), ([], 1023), ([5, 6, 0, 1, 2, 3, 4, 5, 6, 7], 927), ([8, 7, 0, 1, 2, 3, 4, 5, 6, 7], 639)] (by kernel_rfl) hS183.ext (fun hsk198 => ?_)
              have hS199 := hS183.step (Ext.draw _)
              refine DM.run (fuel := 7) ttok hsk198 [0, 2, 6] 69 (by kernel_rfl) (by kernel_rfl) rfl ?_
              refine DM.weak [(1, .slice A1_ x1.length k1_), (4, .pointer (some ⟨g1, 0, none⟩)), (8, .pointer (some ⟨g45, 0, none⟩)), (9, .pointer (some ⟨g52, 0, none⟩)), (10, .int .i64 s59.1), (11, .int .i64 s172.1), (66, .pointer (some ⟨g45, 0, none⟩)), (68, .int .i64 s59.1), (72, .int .i64 s172.1)] ⟨rfl, rfl, rfl, rfl, rfl, rfl, rfl, rfl, rfl, trivial⟩ ?_
              refine DM.load1 ttok hsk198 1 71 (by kernel_rfl) (by kernel_rfl) (by kernel_rfl) (by kernel_rfl) rfl (by kernel_rfl) rfl rfl rfl rfl rfl ((hS183.bring 1 rfl).box) 0 rfl rfl rfl rfl ?_
              have hS200 := hS183.bring 2 rfl
              obtain ⟨x201, hx202, hb180⟩ := bind_some hb180
              refine DM.focus ttok hS200 hsk198 3 79 (by kernel_rfl) (by kernel_rfl) rfl (by kernel_rfl) rfl rfl rfl rfl rfl rfl rfl rfl (idx_some hx202).1 (idx_some hx202).2 rfl rfl (fun q203 es204 hq205 hS206 => ?_)
              obtain ⟨A209, k210, A211, k212, e208, hS207⟩ := ty112_openS (hS206.bring 1 rfl); subst e208
              have hS213 := hS207.step (Ext.draw _)
              refine DM.run (fuel := 4) ttok hsk198 [4] 95 (by kernel_rfl) (by kernel_rfl) rfl ?_
              refine DM.load1 ttok hsk198 5 127 (by kernel_rfl) (by kernel_rfl) (by kernel_rfl) (by kernel_rfl) rfl (by kernel_rfl) rfl rfl rfl rfl rfl ((hS207.bring 2 rfl).hole_atN hq205) 4 rfl rfl rfl rfl ?_
              refine DM.loadN ttok hsk198 7 255 (by kernel_rfl) (by kernel_rfl) (by kernel_rfl) (by kernel_rfl) rfl (by kernel_rfl) rfl rfl rfl rfl rfl ((hS207.bring 3 rfl).box) rfl rfl rfl ?_
              have hS214 := hS213.bring 1 rfl
              by_cases hk215 : decide (0 ≤ s172.1 ∧ s172.1.toNat < x201.Ports.length) = true
              case neg => rw [if_neg hk215] at hb180; cases hb180
              rw [if_pos hk215] at hb180
              have hb216 := of_decide_eq_true hk215
              refine DM.idxOwnN ttok hS214 hsk198 8 511 (by kernel_rfl) (by kernel_rfl) rfl (by kernel_rfl) rfl rfl rfl rfl rfl rfl rfl rfl hb216.1 hb216.2 rfl rfl (fun q217 hq218 => ?_)
              have hS219 := ty38_shutS (c := (⟨(-1), 0⟩ : D.Port)) (B := _) hS213
              have hS220 := hS219.bring 2 rfl
              refine DM.one hsk198 9 (by kernel_rfl) (LM.storeElN ttok hS220 hsk198 1023 (by kernel_rfl) (by kernel_rfl) rfl rfl rfl rfl rfl rfl rfl hb216.2 hq218 rfl rfl (fun w221 hS222 => ?_))
              refine DM.done hsk198 (by kernel_rfl) ?_
              refine WP.region ?_
              refine RW.run ttok 3 rfl ?_
              refine RW.nil ?_
              have hn223 := (hS222.bring 0 rfl).lenEq
              have hS224 := (hS222.bring 0 rfl).reLen hn223
              have hS225 := (hS224.bring 2 rfl).reHole (es' := [.int .i64 x201.Kind, .int .i64 x201.Level, .int .i64 x201.Value, .slice A209 x201.Data.length k210, .slice A211 (x201.Ports.set s172.1.toNat (⟨(-1), 0⟩ : D.Port)).length k212]) (by show ([.int .i64 x201.Kind, .int .i64 x201.Level, .int .i64 x201.Value, .slice A209 x201.Data.length k210, .slice A211 x201.Ports.length k212] : List Value) = [.int .i64 x201.Kind, .int .i64 x201.Level, .int .i64 x201.Value, .slice A209 x201.Data.length k210, .slice A211 (x201.Ports.set s172.1.toNat (⟨(-1), 0⟩ : D.Port)).length k212]; first | (simp only [hn223]; done) | (simp only [hn223]; rfl))
              have h226 := (show ty110.ro _ [.slice A211 x201.Ports.length k212] (x201.Ports.set s172.1.toNat (⟨(-1), 0⟩ : D.Port)) from (Eq.symm hn223) ▸ ((hS225.bring 1 rfl).own))
              have hS227 := hS225.bring 1 rfl
              have hS228 := hS227.bring 2 rfl
              have hS229 := ty112_shutS (c := (⟨x201.Kind, x201.Level, x201.Value, x201.Data, (x201.Ports.set s172.1.toNat (⟨(-1), 0⟩ : D.Port))⟩ : D.Agent)) (B := _) hS228
              have hS230 := hS229.bring 1 rfl
              have hS231 := St.unfocusN hS230
              cases hb180
              exact ⟨_, [(1, .slice A1_ x1.length k1_), (4, .pointer (some ⟨g1, 0, none⟩)), (8, .pointer (some ⟨g45, 0, none⟩)), (9, .pointer (some ⟨g52, 0, none⟩)), (10, .int .i64 s59.1), (11, .int .i64 (w64 (s172.1 + 1)))], ⟨rfl, rfl, rfl, rfl, rfl, rfl, trivial⟩, rfl, (((hS231.bring 0 rfl).bring 2 rfl).bring 2 rfl), rfl⟩
            · skip
              rw [if_neg (not_t hc)] at hb180
              refine WP.exit ?_
              cases hb180
              exact ⟨_, [(1, .slice A1_ x1.length k1_), (4, .pointer (some ⟨g1, 0, none⟩)), (8, .pointer (some ⟨g45, 0, none⟩)), (9, .pointer (some ⟨g52, 0, none⟩)), (10, .int .i64 s59.1)], ⟨rfl, rfl, rfl, rfl, rfl, trivial⟩, ho181, hS183, rfl⟩
        · skip
          rw [if_neg (not_t hc)] at hb167
          refine WP.exit ?_
          cases hb167
          exact ⟨_, [(1, .slice A1_ x1.length k1_), (4, .pointer (some ⟨g1, 0, none⟩)), (8, .pointer (some ⟨g45, 0, none⟩)), (9, .pointer (some ⟨g52, 0, none⟩))], ⟨rfl, rfl, rfl, rfl, trivial⟩, ho168, hS170, rfl⟩
    · skip
      refine WP.block ?_
      refine WP.weak [(0, .slice A0_ x0.length k0_), (1, .slice A1_ x1.length k1_), (4, .pointer (some ⟨g1, 0, none⟩)), (6, .int .i64 0)] ⟨rfl, rfl, rfl, rfl, trivial⟩ ?_
      refine WP.iter (fun (s18 : Int) F w9 => Ext w10 w9 ∧ St w w9 [Box g1 [.slice none 0 0] 30] ∧ F = [(0, .slice A0_ x0.length k0_), (1, .slice A1_ x1.length k1_), (4, .pointer (some ⟨g1, 0, none⟩)), (6, .int .i64 s18)]) _ hl26 ⟨(Ext.refl _), hS13, rfl⟩ ?_
      rintro s18 F w236 _ o234 ⟨hE22, hS235, rfl⟩ hb232 ho233
      unfold m_spec_FromWires_b1 at hb232
      refine WP.seq ?_
      refine WP.seq ?_
      refine WP.region ?_
      refine RW.run ttok 4 rfl ?_
      refine RW.nil ?_
      refine WP.cond (decide (s18 < (x1.length : Int))) rfl (fun hc => ?_) (fun hc => ?_)
      · skip
        rw [if_pos hc] at hb232
        refine WP.skip ?_
        refine WP.seq ?_
        refine WP.block ?_
        refine WP.seq ?_
        refine WP.cut (fun (t237 : Bool) F w9 => m_spec_FromWires_j6 fuel s18 t237 = some o234 ∧ Ext w236 w9 ∧ St w w9 [Box g1 [.slice none 0 0] 30] ∧ F = [(0, .slice A0_ x0.length k0_), (1, .slice A1_ x1.length k1_), (4, .pointer (some ⟨g1, 0, none⟩)), (6, .int .i64 s18), (42, .bool t237)]) ?_ ?_
        · skip
          rintro t237 F w240 ⟨hb232, hE238, hS239, rfl⟩
          unfold m_spec_FromWires_j6 at hb232
          refine WP.cond t237 rfl (fun hc => ?_) (fun hc => ?_)
          · skip
            rw [if_pos hc] at hb232
            refine WP.seq ?_
            refine WP.region ?_
            refine RW.quiet rfl (Quiet.build ttok rfl rfl rfl rfl rfl) rfl rfl ?_
            have hS242 := hS239.bring 0 rfl
            refine RW.store ttok (A := []) hS242 rfl rfl rfl rfl rfl 0 rfl rfl rfl rfl rfl (fun w243 hS244 => ?_)
            refine RW.run ttok 1 rfl ?_
            refine RW.nil ?_
            refine WP.ret ?_
            cases hb232
            cases ho233
            have hm : some _ = some _ := hm
            cases hm
            have hS245 := hS244.nilSl ty112 112
            exact ⟨_, .cons (ResIs.agg ttok rfl rfl rfl ((hS244.bring 0 rfl).box) rfl) (.cons (.tmp rfl) .nil), none, 0, rfl, (hS245.taken 1)⟩
          · skip
            rw [if_neg (not_t hc)] at hb232
            refine WP.skip ?_
            refine WP.region ?_
            refine RW.run ttok 3 rfl ?_
            refine RW.nil ?_
            cases hb232
            exact ⟨_, [(0, .slice A0_ x0.length k0_), (1, .slice A1_ x1.length k1_), (4, .pointer (some ⟨g1, 0, none⟩)), (6, .int .i64 (w64 (s18 + 1)))], ⟨rfl, rfl, rfl, rfl, trivial⟩, rfl, (hE22.trans hE238), hS239, rfl⟩
        · skip
          refine WP.region ?_
          refine RW.run ttok 3 rfl ?_
          obtain ⟨x246, hx247, hb232⟩ := bind_some hb232
          refine RW.idx ttok (hE.trans hS235.ext) rfl rfl rfl rfl rfl rfl (by decide) rfl rfl h1_ (idx_some hx247).1 (idx_some hx247).2 rfl rfl (fun p248 es249 ha250 hr251 => ?_)
          have e252 := ty109_open hr251; subst e252
          refine RW.run ttok 1 rfl ?_
          refine RW.loadN ttok rfl rfl rfl rfl rfl (At.sub (At.ext (hE.trans hS235.ext) ha250) 0 2) rfl rfl rfl ?_
          obtain ⟨r253, hx254, hb232⟩ := bind_some hb232
          refine RW.call rfl rfl rfl enters50 (spec_l11Port_ok (hE.trans hS235.ext) h0_ (ty38_shut x246.A) hx254) (fun v255 w256 hR257 => ?_)
          obtain ⟨rfl, hR258⟩ := hR257
          have hS259 := hS235.join hR258
          refine RW.run ttok 2 rfl ?_
          by_cases hg260 : (!r253) = true
          · skip
            rw [if_pos hg260] at hb232
            refine RW.know 33 rfl (congrArg Value.bool hg260) ?_
            refine RW.run ttok 9 rfl ?_
            refine RW.nil ?_
            exact ⟨true, [(0, .slice A0_ x0.length k0_), (1, .slice A1_ x1.length k1_), (4, .pointer (some ⟨g1, 0, none⟩)), (6, .int .i64 s18), (42, .bool true)], ⟨rfl, rfl, rfl, rfl, rfl, trivial⟩, hb232, hR258.ext, hS259, rfl⟩
          · skip
            rw [if_neg hg260] at hb232
            refine RW.know 33 rfl (congrArg Value.bool (Bool.eq_false_iff.2 hg260)) ?_
            refine RW.run ttok 3 rfl ?_
            obtain ⟨x261, hx262, hb232⟩ := bind_some hb232
            refine RW.idx ttok (hE.trans hS259.ext) rfl rfl rfl rfl rfl rfl (by decide) rfl rfl h1_ (idx_some hx262).1 (idx_some hx262).2 rfl rfl (fun p263 es264 ha265 hr266 => ?_)
            have e267 := ty109_open hr266; subst e267
            refine RW.run ttok 1 rfl ?_
            refine RW.loadN ttok rfl rfl rfl rfl rfl (At.sub (At.ext (hE.trans hS259.ext) ha265) 2 2) rfl rfl rfl ?_
            obtain ⟨r268, hx269, hb232⟩ := bind_some hb232
            refine RW.call rfl rfl rfl enters50 (spec_l11Port_ok (hE.trans hS259.ext) h0_ (ty38_shut x261.B) hx269) (fun v270 w271 hR272 => ?_)
            obtain ⟨rfl, hR273⟩ := hR272
            have hS274 := hS259.join hR273
            refine RW.run ttok 2 rfl ?_
            refine RW.nil ?_
            exact ⟨!r268, [(0, .slice A0_ x0.length k0_), (1, .slice A1_ x1.length k1_), (4, .pointer (some ⟨g1, 0, none⟩)), (6, .int .i64 s18), (42, .bool (!r268))], ⟨rfl, rfl, rfl, rfl, rfl, trivial⟩, hb232, (hR258.ext.trans hR273.ext), hS274, rfl⟩
      · skip
        rw [if_neg (not_t hc)] at hb232
        refine WP.exit ?_
        cases hb232
        exact ⟨_, [(0, .slice A0_ x0.length k0_), (1, .slice A1_ x1.length k1_), (4, .pointer (some ⟨g1, 0, none⟩))], ⟨rfl, rfl, rfl, trivial⟩, ho233, hE22, hS235, rfl⟩

theorem enters126 : Enters Try.prog 126 := ⟨_, _, Try.func126, rfl, by kernel_rfl⟩
def m_slices_IndexFunc_impl_Wire_impl_Wire_j1 (fuel : Nat) (t2 : Unit) : Option Int := some (-1)
def m_slices_IndexFunc_impl_Wire_impl_Wire_b1 (fuel : Nat) (x0 : (List D.Wire)) (x1 : D.Wire → Option Bool) (s1 : Int) : Option (Rd (Int) (Unit) (Int)) := (if (decide (s1 < (x0.length : Int))) = true then ((idx x0 s1).bind fun x19 => ((x1 x19).bind fun r26 => (if r26 = true then some (.ret s1) else some (.next (w64 (s1 + 1)))))) else some (.brk ()))
def m_slices_IndexFunc_impl_Wire_impl_Wire (fuel : Nat) (x0 : (List D.Wire)) (x1 : D.Wire → Option Bool) : Option (Int) := ((iter (m_slices_IndexFunc_impl_Wire_impl_Wire_b1 fuel x0 x1) fuel 0).bind fun o => aft o (m_slices_IndexFunc_impl_Wire_impl_Wire_j1 fuel))

set_option maxRecDepth 100000 in
theorem slices_IndexFunc_impl_Wire_impl_Wire_ok {W w : World} (hE : Ext W w) {A0_ : Option Addr} {k0_ : Nat} {x0 : (List D.Wire)} {f1_ : Nat} {u1_ : List Value} {x1 : D.Wire → Option Bool} (h0_ : ty47.ro W [.slice A0_ x0.length k0_] x0) (h1_ : Enters Try.prog f1_ ∧ ∀ {w9 : World}, Ext W w9 → ∀ {cz0 : List Value} {z0 : D.Wire} {y9 : Bool}, ty109.ro w9 cz0 z0 → x1 z0 = some y9 → Calls Try.prog f1_ ⟨[.agg ⟨cz0⟩] ++ u1_⟩ w9 (Ret fun v w8 => v = .bool y9 ∧ St w9 w8 [])) {fuel : Nat} {r : Int} (hm : m_slices_IndexFunc_impl_Wire_impl_Wire fuel x0 x1 = some r) :
    Calls Try.prog 126 ⟨[.slice A0_ x0.length k0_, .func (.func f1_) #[] ⟨u1_⟩]⟩ w (Ret fun v w8 => v = .int .i64 r ∧ St w w8 []) := by
  refine Calls.into Try.func126 rfl 19 rfl rfl _ rfl ?_
  unfold m_slices_IndexFunc_impl_Wire_impl_Wire at hm
  have hS := St.start w
  refine WP.seq ?_
  refine WP.region ?_
  refine RW.run ttok 1 rfl ?_
  refine RW.nil ?_
  refine WP.seq ?_
  refine WP.seq ?_
  refine WP.region ?_
  refine RW.run ttok 3 rfl ?_
  refine RW.nil ?_
  obtain ⟨o10, hl11, hm⟩ := bind_some hm
  refine WP.cut (fun (t2 : Unit) F w9 => o10 = .inl t2 ∧ Ext w w9 ∧ St w w9 [] ∧ F = []) ?_ ?_
  · skip
    rintro t2 F w7 ⟨ho13, hE6, hS12, rfl⟩
    subst ho13
    rw [aft_inl] at hm
    unfold m_slices_IndexFunc_impl_Wire_impl_Wire_j1 at hm
    refine WP.seq ?_
    refine WP.region ?_
    refine RW.run ttok 1 rfl ?_
    refine RW.nil ?_
    refine WP.ret ?_
    cases hm
    exact ⟨_, .cons (.tmp rfl) .nil, rfl, hS12⟩
  · skip
    refine WP.block ?_
    refine WP.weak [(0, .slice A0_ x0.length k0_), (1, .func (.func f1_) #[] ⟨u1_⟩), (7, .int .i64 (x0.length : Int)), (8, .int .i64 0)] ⟨rfl, rfl, rfl, rfl, trivial⟩ ?_
    refine WP.iter (fun (s1 : Int) F w9 => Ext w w9 ∧ St w w9 [] ∧ F = [(0, .slice A0_ x0.length k0_), (1, .func (.func f1_) #[] ⟨u1_⟩), (7, .int .i64 (x0.length : Int)), (8, .int .i64 s1)]) _ hl11 ⟨(Ext.refl _), hS, rfl⟩ ?_
    rintro s1 F w18 _ o16 ⟨hE5, hS17, rfl⟩ hb14 ho15
    unfold m_slices_IndexFunc_impl_Wire_impl_Wire_b1 at hb14
    refine WP.seq ?_
    refine WP.region ?_
    refine RW.run ttok 1 rfl ?_
    refine RW.nil ?_
    refine WP.seq ?_
    refine WP.cond (decide (s1 < (x0.length : Int))) rfl (fun hc => ?_) (fun hc => ?_)
    · skip
      rw [if_pos hc] at hb14
      refine WP.skip ?_
      refine WP.seq ?_
      refine WP.block ?_
      refine WP.seq ?_
      refine WP.region ?_
      refine RW.run ttok 2 rfl ?_
      refine RW.nil ?_
      refine WP.seq ?_
      refine WP.region ?_
      refine RW.run ttok 3 rfl ?_
      obtain ⟨x19, hx20, hb14⟩ := bind_some hb14
      refine RW.idx ttok (hE.trans hS17.ext) rfl rfl rfl rfl rfl rfl (by decide) rfl rfl h0_ (idx_some hx20).1 (idx_some hx20).2 rfl rfl (fun p21 es22 ha23 hr24 => ?_)
      have e25 := ty109_open hr24; subst e25
      refine RW.loadN ttok rfl rfl rfl rfl rfl (At.ext (hE.trans hS17.ext) ha23) rfl rfl rfl ?_
      obtain ⟨r26, hx27, hb14⟩ := bind_some hb14
      refine RW.call rfl rfl rfl h1_.1 (h1_.2 (hE.trans hS17.ext) (ty109.ext (hE.trans hS17.ext) hr24) hx27) (fun v28 w29 hR30 => ?_)
      obtain ⟨rfl, hR31⟩ := hR30
      have hS32 := hS17.join hR31
      refine RW.nil ?_
      refine WP.cond r26 rfl (fun hc => ?_) (fun hc => ?_)
      · skip
        rw [if_pos hc] at hb14
        refine WP.seq ?_
        refine WP.region ?_
        refine RW.run ttok 2 rfl ?_
        refine RW.nil ?_
        refine WP.ret ?_
        cases hb14
        cases ho15
        have hm : some _ = some _ := hm
        cases hm
        exact ⟨_, .cons (.tmp rfl) .nil, rfl, hS32⟩
      · skip
        rw [if_neg (not_t hc)] at hb14
        refine WP.skip ?_
        refine WP.region ?_
        refine RW.run ttok 2 rfl ?_
        refine RW.nil ?_
        cases hb14
        exact ⟨_, [(0, .slice A0_ x0.length k0_), (1, .func (.func f1_) #[] ⟨u1_⟩), (7, .int .i64 (x0.length : Int)), (8, .int .i64 (w64 (s1 + 1)))], ⟨rfl, rfl, rfl, rfl, trivial⟩, rfl, (hE5.trans hR31.ext), hS32, rfl⟩
    · skip
      rw [if_neg (not_t hc)] at hb14
      refine WP.exit ?_
      cases hb14
      exact ⟨_, [], trivial, ho15, hE5, hS17, rfl⟩

theorem enters64 : Enters Try.prog 64 := ⟨_, _, Try.func64, rfl, by kernel_rfl⟩
def m_slices_ContainsFunc_impl_Wire_impl_Wire (fuel : Nat) (x0 : (List D.Wire)) (x1 : D.Wire → Option Bool) : Option (Bool) := ((m_slices_IndexFunc_impl_Wire_impl_Wire fuel x0 x1).bind fun r1 => some (decide (r1 ≥ 0)))

set_option maxRecDepth 100000 in
theorem slices_ContainsFunc_impl_Wire_impl_Wire_ok {W w : World} (hE : Ext W w) {A0_ : Option Addr} {k0_ : Nat} {x0 : (List D.Wire)} {f1_ : Nat} {u1_ : List Value} {x1 : D.Wire → Option Bool} (h0_ : ty47.ro W [.slice A0_ x0.length k0_] x0) (h1_ : Enters Try.prog f1_ ∧ ∀ {w9 : World}, Ext W w9 → ∀ {cz0 : List Value} {z0 : D.Wire} {y9 : Bool}, ty109.ro w9 cz0 z0 → x1 z0 = some y9 → Calls Try.prog f1_ ⟨[.agg ⟨cz0⟩] ++ u1_⟩ w9 (Ret fun v w8 => v = .bool y9 ∧ St w9 w8 [])) {fuel : Nat} {r : Bool} (hm : m_slices_ContainsFunc_impl_Wire_impl_Wire fuel x0 x1 = some r) :
    Calls Try.prog 64 ⟨[.slice A0_ x0.length k0_, .func (.func f1_) #[] ⟨u1_⟩]⟩ w (Ret fun v w8 => v = .bool r ∧ St w w8 []) := by
  refine Calls.into Try.func64 rfl 9 rfl rfl _ rfl ?_
  unfold m_slices_ContainsFunc_impl_Wire_impl_Wire at hm
  have hS := St.start w
  refine WP.seq ?_
  refine WP.region ?_
  refine RW.run ttok 1 rfl ?_
  refine RW.nil ?_
  refine WP.seq ?_
  refine WP.region ?_
  refine RW.run ttok 2 rfl ?_
  obtain ⟨r1, hx2, hm⟩ := bind_some hm
  refine RW.call rfl rfl rfl enters126 (slices_IndexFunc_impl_Wire_impl_Wire_ok (hE.trans hS.ext) h0_ h1_ hx2) (fun v3 w4 hR5 => ?_)
  obtain ⟨rfl, hR6⟩ := hR5
  have hS7 := hS.join hR6
  refine RW.run ttok 2 rfl ?_
  refine RW.nil ?_
  refine WP.ret ?_
  cases hm
  exact ⟨_, .cons (.tmp rfl) .nil, rfl, hS7⟩

theorem enters65 : Enters Try.prog 65 := ⟨_, _, Try.func65, rfl, by kernel_rfl⟩
def m_impl_FromWires_c1 (fuel : Nat) (x0 : D.Wire) (x1 : (List D.Agent)) : Option (Bool) := ((m_impl_hasPort fuel x1 x0.A).bind fun r6 => (if (!r6) = true then some true else ((m_impl_hasPort fuel x1 x0.B).bind fun r16 => some (!r16))))

set_option maxRecDepth 100000 in
theorem impl_FromWires_c1_ok {W w : World} (hE : Ext W w) {c0_ : List Value} {x0 : D.Wire} {p1_ : Addr} {A1_ : Option Addr} {k1_ : Nat} {x1 : (List D.Agent)} (h0_ : ty109.ro W c0_ x0) (h1_ : ty28.ro W [.slice A1_ x1.length k1_] x1) (g1_ : At W p1_ [.slice A1_ x1.length k1_]) {fuel : Nat} {r : Bool} (hm : m_impl_FromWires_c1 fuel x0 x1 = some r) :
    Calls Try.prog 65 ⟨[.agg ⟨c0_⟩, .pointer (some p1_)]⟩ w (Ret fun v w8 => v = .bool r ∧ St w w8 []) := by
  have e1 := ty109_open h0_; subst e1
  refine Calls.into Try.func65 rfl 16 rfl rfl _ rfl ?_
  unfold m_impl_FromWires_c1 at hm
  have hS := St.start w
  refine WP.seq ?_
  refine WP.region ?_
  refine RW.new ttok hS rfl rfl rfl rfl (fun g2 w3 e4 hS5 => ?_)
  refine RW.run ttok 1 rfl ?_
  refine RW.nil ?_
  refine WP.seq ?_
  refine WP.region ?_
  refine RW.load1 ttok rfl rfl rfl rfl rfl (At.ext (hE.trans hS5.ext) g1_) 0 rfl rfl rfl rfl ?_
  refine RW.run ttok 1 rfl ?_
  refine RW.loadN ttok rfl rfl rfl rfl rfl (At.sub ((hS5.bring 0 rfl).box) 0 2) rfl rfl rfl ?_
  obtain ⟨r6, hx7, hm⟩ := bind_some hm
  refine RW.call rfl rfl rfl enters54 (impl_hasPort_ok (hE.trans hS5.ext) h1_ (ty38_shut x0.A) hx7) (fun v10 w11 hR12 => ?_)
  obtain ⟨rfl, hR13⟩ := hR12
  have hS14 := hS5.join hR13
  refine RW.run ttok 2 rfl ?_
  by_cases hg15 : (!r6) = true
  · skip
    rw [if_pos hg15] at hm
    refine RW.know 9 rfl (congrArg Value.bool hg15) ?_
    refine RW.run ttok 7 rfl ?_
    refine RW.nil ?_
    refine WP.ret ?_
    cases hm
    exact ⟨_, .cons (.tmp rfl) .nil, rfl, (hS14.taken 0)⟩
  · skip
    rw [if_neg hg15] at hm
    refine RW.know 9 rfl (congrArg Value.bool (Bool.eq_false_iff.2 hg15)) ?_
    refine RW.load1 ttok rfl rfl rfl rfl rfl (At.ext (hE.trans hS14.ext) g1_) 0 rfl rfl rfl rfl ?_
    refine RW.run ttok 1 rfl ?_
    refine RW.loadN ttok rfl rfl rfl rfl rfl (At.sub ((hS14.bring 0 rfl).box) 2 2) rfl rfl rfl ?_
    obtain ⟨r16, hx17, hm⟩ := bind_some hm
    refine RW.call rfl rfl rfl enters54 (impl_hasPort_ok (hE.trans hS14.ext) h1_ (ty38_shut x0.B) hx17) (fun v18 w19 hR20 => ?_)
    obtain ⟨rfl, hR21⟩ := hR20
    have hS22 := hS14.join hR21
    refine RW.run ttok 3 rfl ?_
    refine RW.nil ?_
    refine WP.ret ?_
    cases hm
    exact ⟨_, .cons (.tmp rfl) .nil, rfl, (hS22.taken 0)⟩

theorem enters25 : Enters Try.prog 25 := ⟨_, _, Try.func25, rfl, by kernel_rfl⟩
def m_impl_FromWires_j1 (fuel : Nat) (t54 : (List (D.Port × Bool)) × (List D.Agent)) : Option (D.Net × Int) := ((m_impl_Net_ports fuel (⟨t54.2⟩ : D.Net)).bind fun r68 => (if ((t54.1.length : Int) != (r68.length : Int)) = true then some ((⟨[]⟩ : D.Net), 5) else some ((⟨t54.2⟩ : D.Net), 0)))
def m_impl_FromWires_j3 (fuel : Nat) (s53 : Int × (List (D.Port × Bool)) × (List D.Agent)) (x89 : D.Wire) (t112 : (List (D.Port × Bool))) : Option (Rd (Int × (List (D.Port × Bool)) × (List D.Agent)) ((List (D.Port × Bool)) × (List D.Agent)) (D.Net × Int)) := ((m_impl_Net_link fuel (⟨s53.2.2⟩ : D.Net) x89.A x89.B).bind fun r116 => some (.next (w64 (s53.1 + 1), t112, r116.Agents)))
def m_impl_FromWires_j2 (fuel : Nat) (s53 : Int × (List (D.Port × Bool)) × (List D.Agent)) (x89 : D.Wire) (t103 : Bool) : Option (Rd (Int × (List (D.Port × Bool)) × (List D.Agent)) ((List (D.Port × Bool)) × (List D.Agent)) (D.Net × Int)) := (if t103 = true then some (.ret ((⟨[]⟩ : D.Net), 5)) else m_impl_FromWires_j3 fuel s53 x89 (mput (mput s53.2.1 x89.A true) x89.B true))
def m_impl_FromWires_b1 (fuel : Nat) (x1 : (List D.Wire)) (s53 : Int × (List (D.Port × Bool)) × (List D.Agent)) : Option (Rd (Int × (List (D.Port × Bool)) × (List D.Agent)) ((List (D.Port × Bool)) × (List D.Agent)) (D.Net × Int)) := (if (decide (s53.1 < (x1.length : Int))) = true then ((idx x1 s53.1).bind fun x89 => (if (((x89.A.Agent : Int) == x89.B.Agent) && (((x89.A.Slot : Int) == x89.B.Slot) && true)) = true then m_impl_FromWires_j2 fuel s53 x89 true else (if ((mget s53.2.1 x89.A).getD false) = true then m_impl_FromWires_j2 fuel s53 x89 true else m_impl_FromWires_j2 fuel s53 x89 ((mget s53.2.1 x89.B).getD false)))) else some (.brk (s53.2.1, s53.2.2)))
def m_impl_FromWires (fuel : Nat) (x0 : (List D.Agent)) (x1 : (List D.Wire)) : Option (D.Net × Int) := ((m_impl_areAgents fuel x0).bind fun r11 => (if (!r11) = true then some ((⟨[]⟩ : D.Net), 1) else ((m_slices_ContainsFunc_impl_Wire_impl_Wire fuel x1 (fun y0 => m_impl_FromWires_c1 fuel y0 x0)).bind fun r22 => (if r22 = true then some ((⟨[]⟩ : D.Net), 2) else ((m_impl_copyNet fuel (⟨x0⟩ : D.Net)).bind fun r33 => ((iter (m_impl_FromWires_b1 fuel x1) fuel (0, ([] : (List (D.Port × Bool))), r33.Agents)).bind fun o => aft o (m_impl_FromWires_j1 fuel)))))))

set_option maxRecDepth 100000 in
theorem impl_FromWires_ok {W w : World} (hE : Ext W w) {A0_ : Option Addr} {k0_ : Nat} {x0 : (List D.Agent)} {A1_ : Option Addr} {k1_ : Nat} {x1 : (List D.Wire)} (h0_ : ty28.ro W [.slice A0_ x0.length k0_] x0) (h1_ : ty47.ro W [.slice A1_ x1.length k1_] x1) {fuel : Nat} {r : D.Net × Int} (hm : m_impl_FromWires fuel x0 x1 = some r) :
    Calls Try.prog 25 ⟨[.slice A0_ x0.length k0_, .slice A1_ x1.length k1_]⟩ w (Ret fun v w8 => ∃ A0 k0, v = .tuple ⟨[.agg ⟨[.slice A0 r.1.Agents.length k0]⟩, .int .i64 r.2]⟩ ∧ St w w8 [Own ty28 [.slice A0 r.1.Agents.length k0] r.1.Agents]) := by
  refine Calls.into Try.func25 rfl 65 rfl rfl _ rfl ?_
  unfold m_impl_FromWires at hm
  have hS := St.start w
  refine WP.seq ?_
  refine WP.region ?_
  refine RW.new ttok hS rfl rfl rfl rfl (fun g1 w2 e3 hS4 => ?_)
  refine RW.new ttok hS4 rfl rfl rfl rfl (fun g5 w6 e7 hS10 => ?_)
  refine RW.run ttok 1 rfl ?_
  refine RW.nil ?_
  refine WP.seq ?_
  refine WP.seq ?_
  refine WP.region ?_
  refine RW.load1 ttok rfl rfl rfl rfl rfl ((hS10.bring 1 rfl).box) 0 rfl rfl rfl rfl ?_
  obtain ⟨r11, hx12, hm⟩ := bind_some hm
  refine RW.call rfl rfl rfl enters63 (impl_areAgents_ok (hE.trans hS10.ext) h0_ hx12) (fun v13 w14 hR15 => ?_)
  obtain ⟨rfl, hR16⟩ := hR15
  have hS17 := hS10.join hR16
  refine RW.run ttok 1 rfl ?_
  refine RW.nil ?_
  refine WP.cond (!r11) rfl (fun hc => ?_) (fun hc => ?_)
  · skip
    rw [if_pos hc] at hm
    refine WP.seq ?_
    refine WP.region ?_
    refine RW.quiet rfl (Quiet.build ttok rfl rfl rfl rfl rfl) rfl rfl ?_
    have hS18 := hS17.bring 0 rfl
    refine RW.store ttok (A := []) hS18 rfl rfl rfl rfl rfl 0 rfl rfl rfl rfl rfl (fun w19 hS20 => ?_)
    refine RW.run ttok 1 rfl ?_
    refine RW.nil ?_
    refine WP.ret ?_
    cases hm
    have hS21 := hS20.nilSl ty112 112
    exact ⟨_, .cons (ResIs.agg ttok rfl rfl rfl ((hS20.bring 0 rfl).box) rfl) (.cons (.tmp rfl) .nil), none, 0, rfl, (hS21.taken 1)⟩
  · skip
    rw [if_neg (not_t hc)] at hm
    refine WP.skip ?_
    refine WP.seq ?_
    refine WP.seq ?_
    refine WP.region ?_
    refine RW.run ttok 2 rfl ?_
    obtain ⟨r22, hx23, hm⟩ := bind_some hm
    refine RW.call rfl rfl rfl enters64 (slices_ContainsFunc_impl_Wire_impl_Wire_ok (Ext.refl _) (ty47.ext (hE.trans hS17.ext) h1_) ⟨enters65, fun e9 => (fun a0_0 hx9 => impl_FromWires_c1_ok (Ext.refl _) a0_0 (ty28.ext e9 (ty28.ext (hE.trans hS17.ext) h0_)) (At.ext e9 ((hS17.bring 1 rfl).box)) hx9)⟩ hx23) (fun v24 w25 hR26 => ?_)
    obtain ⟨rfl, hR27⟩ := hR26
    have hS28 := hS17.join hR27
    refine RW.nil ?_
    refine WP.cond r22 rfl (fun hc => ?_) (fun hc => ?_)
    · skip
      rw [if_pos hc] at hm
      refine WP.seq ?_
      refine WP.region ?_
      refine RW.quiet rfl (Quiet.build ttok rfl rfl rfl rfl rfl) rfl rfl ?_
      have hS29 := hS28.bring 0 rfl
      refine RW.store ttok (A := []) hS29 rfl rfl rfl rfl rfl 0 rfl rfl rfl rfl rfl (fun w30 hS31 => ?_)
      refine RW.run ttok 1 rfl ?_
      refine RW.nil ?_
      refine WP.ret ?_
      cases hm
      have hS32 := hS31.nilSl ty112 112
      exact ⟨_, .cons (ResIs.agg ttok rfl rfl rfl ((hS31.bring 0 rfl).box) rfl) (.cons (.tmp rfl) .nil), none, 0, rfl, (hS32.taken 1)⟩
    · skip
      rw [if_neg (not_t hc)] at hm
      refine WP.skip ?_
      refine WP.seq ?_
      refine WP.region ?_
      refine RW.load1 ttok rfl rfl rfl rfl rfl ((hS28.bring 1 rfl).box) 0 rfl rfl rfl rfl ?_
      refine RW.quiet rfl (Quiet.build ttok rfl rfl rfl rfl rfl) rfl rfl ?_
      obtain ⟨r33, hx34, hm⟩ := bind_some hm
      refine RW.call rfl rfl rfl enters55 (impl_copyNet_ok (hE.trans hS28.ext) (ty30_shut (⟨x0⟩ : D.Net) h0_) hx34) (fun v35 w36 hR37 => ?_)
      obtain ⟨A38, k39, rfl, hR40⟩ := hR37
      have hS41 := hS28.join hR40
      refine RW.new ttok hS41 rfl rfl rfl rfl (fun g42 w43 e44 hS45 => ?_)
      have hS46 := hS45.bring 0 rfl
      refine RW.store ttok (A := []) hS46 rfl rfl rfl rfl rfl 0 rfl rfl rfl rfl rfl (fun w47 hS48 => ?_)
      refine RW.nil ?_
      refine WP.seq ?_
      refine WP.region ?_
      refine RW.makeMap enc38 Value.bool hS48 rfl rfl rfl rfl (fun g49 w50 e51 hS52 => ?_)
      refine RW.run ttok 1 rfl ?_
      refine RW.nil ?_
      refine WP.seq ?_
      refine WP.seq ?_
      refine WP.region ?_
      refine RW.run ttok 3 rfl ?_
      refine RW.nil ?_
      obtain ⟨o63, hl65, hm⟩ := bind_some hm
      refine WP.cut (fun (t54 : (List (D.Port × Bool)) × (List D.Agent)) F w9 => ∃ A60 k61, o63 = .inl t54 ∧ St w w9 [Own ty119 [.map (some g49)] t54.1, Box g42 [.slice A60 t54.2.length k61] 30, Own ty28 [.slice A60 t54.2.length k61] t54.2, Box g5 [.slice none 0 0] 30, Box g1 [.slice A0_ x0.length k0_] 28] ∧ F = [(4, .pointer (some ⟨g5, 0, none⟩)), (6, .pointer (some ⟨g42, 0, none⟩)), (7, .map (some g49))]) ?_ ?_
      · skip
        rintro t54 F w62 ⟨A60, k61, ho67, hS66, rfl⟩
        subst ho67
        rw [aft_inl] at hm
        unfold m_impl_FromWires_j1 at hm
        refine WP.seq ?_
        refine WP.seq ?_
        refine WP.region ?_
        refine RW.run ttok 1 rfl ?_
        refine RW.quiet rfl ((Quiet.mapLen mapOk119 ((hS66.bring 0 rfl).own) rfl rfl).later (Ext.refl _)) rfl rfl ?_
        obtain ⟨r68, hx69, hm⟩ := bind_some hm
        refine RW.call rfl rfl rfl enters66 (impl_Net_ports_ok (Ext.refl _) (ty30_shut (⟨t54.2⟩ : D.Net) ((hS66.bring 2 rfl).own)) ((hS66.bring 1 rfl).box) hx69) (fun v70 w71 hR72 => ?_)
        obtain ⟨A73, k74, rfl, hR75⟩ := hR72
        have hS76 := hS66.join hR75
        refine RW.run ttok 2 rfl ?_
        refine RW.nil ?_
        refine WP.cond ((t54.1.length : Int) != (r68.length : Int)) rfl (fun hc => ?_) (fun hc => ?_)
        · skip
          rw [if_pos hc] at hm
          refine WP.seq ?_
          refine WP.region ?_
          refine RW.quiet rfl (Quiet.build ttok rfl rfl rfl rfl rfl) rfl rfl ?_
          have hS77 := hS76.bring 4 rfl
          refine RW.store ttok (A := []) hS77 rfl rfl rfl rfl rfl 0 rfl rfl rfl rfl rfl (fun w78 hS79 => ?_)
          refine RW.run ttok 1 rfl ?_
          refine RW.nil ?_
          refine WP.ret ?_
          cases hm
          have hS80 := hS79.nilSl ty112 112
          exact ⟨_, .cons (ResIs.agg ttok rfl rfl rfl ((hS79.bring 0 rfl).box) rfl) (.cons (.tmp rfl) .nil), none, 0, rfl, (hS80.taken 1)⟩
        · skip
          rw [if_neg (not_t hc)] at hm
          refine WP.skip ?_
          refine WP.seq ?_
          refine WP.region ?_
          refine RW.loadN ttok rfl rfl rfl rfl rfl ((hS76.bring 2 rfl).box) rfl rfl rfl ?_
          have hS81 := hS76.bring 4 rfl
          refine RW.store ttok (A := []) hS81 rfl rfl rfl rfl rfl 0 rfl rfl rfl rfl rfl (fun w82 hS83 => ?_)
          refine RW.run ttok 1 rfl ?_
          refine RW.nil ?_
          refine WP.ret ?_
          cases hm
          exact ⟨_, .cons (ResIs.agg ttok rfl rfl rfl ((hS83.bring 0 rfl).box) rfl) (.cons (.tmp rfl) .nil), A60, k61, rfl, ((hS83.bring 4 rfl).taken 1)⟩
      · skip
        refine WP.block ?_
        refine WP.weak [(4, .pointer (some ⟨g5, 0, none⟩)), (6, .pointer (some ⟨g42, 0, none⟩)), (7, .map (some g49)), (22, .slice A1_ x1.length k1_), (23, .int .i64 (x1.length : Int)), (24, .int .i64 0)] ⟨rfl, rfl, rfl, rfl, rfl, rfl, trivial⟩ ?_
        refine WP.iter (fun (s53 : Int × (List (D.Port × Bool)) × (List D.Agent)) F w9 => ∃ A58 k59, St w w9 [Own ty119 [.map (some g49)] s53.2.1, Box g42 [.slice A58 s53.2.2.length k59] 30, Own ty28 [.slice A58 s53.2.2.length k59] s53.2.2, Box g5 [.slice none 0 0] 30, Box g1 [.slice A0_ x0.length k0_] 28] ∧ F = [(4, .pointer (some ⟨g5, 0, none⟩)), (6, .pointer (some ⟨g42, 0, none⟩)), (7, .map (some g49)), (22, .slice A1_ x1.length k1_), (23, .int .i64 (x1.length : Int)), (24, .int .i64 s53.1)]) _ hl65 ⟨A38, k39, hS52, rfl⟩ ?_
        rintro s53 F w88 _ o86 ⟨A58, k59, hS87, rfl⟩ hb84 ho85
        unfold m_impl_FromWires_b1 at hb84
        refine WP.seq ?_
        refine WP.region ?_
        refine RW.run ttok 1 rfl ?_
        refine RW.nil ?_
        refine WP.seq ?_
        refine WP.cond (decide (s53.1 < (x1.length : Int))) rfl (fun hc => ?_) (fun hc => ?_)
        · skip
          rw [if_pos hc] at hb84
          refine WP.skip ?_
          refine WP.seq ?_
          refine WP.block ?_
          refine WP.seq ?_
          refine WP.region ?_
          obtain ⟨x89, hx90, hb84⟩ := bind_some hb84
          refine RW.idx ttok (hE.trans hS87.ext) rfl rfl rfl rfl rfl rfl (by decide) rfl rfl h1_ (idx_some hx90).1 (idx_some hx90).2 rfl rfl (fun p91 es92 ha93 hr94 => ?_)
          have e95 := ty109_open hr94; subst e95
          refine RW.loadN ttok rfl rfl rfl rfl rfl (At.ext (hE.trans hS87.ext) ha93) rfl rfl rfl ?_
          refine RW.new ttok hS87 rfl rfl rfl rfl (fun g96 w97 e98 hS99 => ?_)
          have hS100 := hS99.bring 0 rfl
          refine RW.store ttok (A := []) hS100 rfl rfl rfl rfl rfl 0 rfl rfl rfl rfl rfl (fun w101 hS102 => ?_)
          refine RW.nil ?_
          refine WP.seq ?_
          refine WP.seq ?_
          refine WP.cut (fun (t103 : Bool) F w9 => m_impl_FromWires_j2 fuel s53 x89 t103 = some o86 ∧ Ext w101 w9 ∧ St w w9 [Box g96 [.int .i64 x89.A.Agent, .int .i64 x89.A.Slot, .int .i64 x89.B.Agent, .int .i64 x89.B.Slot] 109, Own ty119 [.map (some g49)] s53.2.1, Box g42 [.slice A58 s53.2.2.length k59] 30, Own ty28 [.slice A58 s53.2.2.length k59] s53.2.2, Box g5 [.slice none 0 0] 30, Box g1 [.slice A0_ x0.length k0_] 28] ∧ F = [(4, .pointer (some ⟨g5, 0, none⟩)), (6, .pointer (some ⟨g42, 0, none⟩)), (7, .map (some g49)), (9, .pointer (some ⟨g96, 0, none⟩)), (22, .slice A1_ x1.length k1_), (23, .int .i64 (x1.length : Int)), (24, .int .i64 s53.1), (44, .bool t103)]) ?_ ?_
          · skip
            rintro t103 F w106 ⟨hb84, hE104, hS105, rfl⟩
            unfold m_impl_FromWires_j2 at hb84
            refine WP.cond t103 rfl (fun hc => ?_) (fun hc => ?_)
            · skip
              rw [if_pos hc] at hb84
              refine WP.seq ?_
              refine WP.region ?_
              refine RW.quiet rfl (Quiet.build ttok rfl rfl rfl rfl rfl) rfl rfl ?_
              have hS108 := hS105.bring 4 rfl
              refine RW.store ttok (A := []) hS108 rfl rfl rfl rfl rfl 0 rfl rfl rfl rfl rfl (fun w109 hS110 => ?_)
              refine RW.run ttok 1 rfl ?_
              refine RW.nil ?_
              refine WP.ret ?_
              cases hb84
              cases ho85
              have hm : some _ = some _ := hm
              cases hm
              have hS111 := hS110.nilSl ty112 112
              exact ⟨_, .cons (ResIs.agg ttok rfl rfl rfl ((hS110.bring 0 rfl).box) rfl) (.cons (.tmp rfl) .nil), none, 0, rfl, (hS111.taken 1)⟩
            · skip
              rw [if_neg (not_t hc)] at hb84
              refine WP.skip ?_
              refine WP.seq ?_
              refine WP.cut (fun (t112 : (List (D.Port × Bool))) F w9 => m_impl_FromWires_j3 fuel s53 x89 t112 = some o86 ∧ St w w9 [Box g96 [.int .i64 x89.A.Agent, .int .i64 x89.A.Slot, .int .i64 x89.B.Agent, .int .i64 x89.B.Slot] 109, Own ty119 [.map (some g49)] t112, Box g42 [.slice A58 s53.2.2.length k59] 30, Own ty28 [.slice A58 s53.2.2.length k59] s53.2.2, Box g5 [.slice none 0 0] 30, Box g1 [.slice A0_ x0.length k0_] 28] ∧ F = [(4, .pointer (some ⟨g5, 0, none⟩)), (6, .pointer (some ⟨g42, 0, none⟩)), (7, .map (some g49)), (9, .pointer (some ⟨g96, 0, none⟩)), (22, .slice A1_ x1.length k1_), (23, .int .i64 (x1.length : Int)), (24, .int .i64 s53.1)]) ?_ ?_
              · skip
                rintro t112 F w114 ⟨hb84, hS113, rfl⟩
                unfold m_impl_FromWires_j3 at hb84
                refine WP.region ?_
                refine RW.run ttok 1 rfl ?_
                refine RW.loadN ttok rfl rfl rfl rfl rfl (At.sub ((hS113.bring 0 rfl).box) 0 2) rfl rfl rfl ?_
                refine RW.run ttok 1 rfl ?_
                refine RW.loadN ttok rfl rfl rfl rfl rfl (At.sub ((hS113.bring 0 rfl).box) 2 2) rfl rfl rfl ?_
                obtain ⟨r116, hx117, hb84⟩ := bind_some hb84
                refine RW.call rfl rfl rfl enters57 (impl_Net_link_ok (W := w) (RR := _) (x0 := (⟨s53.2.2⟩ : D.Net)) (x1 := x89.A) (x2 := x89.B) ((hS113.bring 3 rfl).bring 3 rfl) (ty38.ext hE (ty38_shut x89.A)) (ty38.ext hE (ty38_shut x89.B)) hx117) (fun v118 w119 hR120 => ?_)
                obtain ⟨A121, k122, rfl, hS123⟩ := hR120
                refine RW.nil ?_
                refine WP.region ?_
                refine RW.run ttok 2 rfl ?_
                refine RW.nil ?_
                cases hb84
                exact ⟨_, [(4, .pointer (some ⟨g5, 0, none⟩)), (6, .pointer (some ⟨g42, 0, none⟩)), (7, .map (some g49)), (22, .slice A1_ x1.length k1_), (23, .int .i64 (x1.length : Int)), (24, .int .i64 (w64 (s53.1 + 1)))], ⟨rfl, rfl, rfl, rfl, rfl, rfl, trivial⟩, rfl, A121, k122, ((((hS123.bring 2 rfl).drop.bring 1 rfl).bring 1 rfl).bring 2 rfl), rfl⟩
              · skip
                refine WP.drawnM 192 mixed 8 (by kernel_rfl) (by kernel_rfl) [([], 255), ([], 255), ([1], 253), ([], 255), ([], 255), ([4], 239), ([0, 2, 0, 1, 2], 250), ([3, 5, 6, 0, 1, 2, 3, 4, 5, 6], 215)] (by kernel_rfl) hS105.ext (fun hsk124 => ?_)
                have hS125 := hS105.step (Ext.draw _)
                refine DM.run (fuel := 4) ttok hsk124 [0, 1, 3, 4] 27 (by kernel_rfl) (by kernel_rfl) rfl ?_
                refine DM.loadN ttok hsk124 2 31 (by kernel_rfl) (by kernel_rfl) (by kernel_rfl) (by kernel_rfl) rfl (by kernel_rfl) rfl rfl rfl rfl rfl (At.sub ((hS105.bring 0 rfl).box) 0 2) rfl rfl rfl ?_
                refine DM.all hsk124 [5, 6] (by kernel_rfl) (by simp) ?_
                intro i132 hi133
                simp only [List.mem_cons, List.not_mem_nil, or_false] at hi133
                rcases hi133 with rfl | rfl
                · skip
                  refine LM.quietL hsk124 63 (by kernel_rfl) (by kernel_rfl) rfl rfl (Quiet.loadN ttok rfl rfl rfl rfl (At.sub ((hS125.bring 0 rfl).box) 2 2) rfl) rfl rfl ?_
                  have hS136 := hS125.bring 1 rfl
                  refine DM.one hsk124 6 (by kernel_rfl) (LM.mapUpdate mapOk119 hS136 hsk124 127 (by kernel_rfl) (by kernel_rfl) rfl rfl (.inl rfl) rfl rfl (kk := x89.A) rfl (v := true) rfl (fun w134 hS135 => ?_))
                  have hS139 := hS135.bring 0 rfl
                  refine DM.one hsk124 7 (by kernel_rfl) (LM.mapUpdate mapOk119 hS139 hsk124 255 (by kernel_rfl) (by kernel_rfl) rfl rfl (.inl rfl) rfl rfl (kk := x89.B) rfl (v := true) rfl (fun w137 hS138 => ?_))
                  refine DM.done hsk124 (by kernel_rfl) ?_
                  exact ⟨(mput (mput s53.2.1 x89.A true) x89.B true), [(4, .pointer (some ⟨g5, 0, none⟩)), (6, .pointer (some ⟨g42, 0, none⟩)), (7, .map (some g49)), (9, .pointer (some ⟨g96, 0, none⟩)), (22, .slice A1_ x1.length k1_), (23, .int .i64 (x1.length : Int)), (24, .int .i64 s53.1)], ⟨rfl, rfl, rfl, rfl, rfl, rfl, rfl, trivial⟩, hb84, ((hS138.bring 0 rfl).bring 1 rfl), rfl⟩
                · skip
                  have hS142 := hS125.bring 1 rfl
                  refine LM.mapUpdate mapOk119 hS142 hsk124 95 (by kernel_rfl) (by kernel_rfl) rfl rfl (.inl rfl) rfl rfl (kk := x89.A) rfl (v := true) rfl (fun w140 hS141 => ?_)
                  refine DM.one hsk124 5 (by kernel_rfl) (LM.quietL hsk124 127 (by kernel_rfl) (by kernel_rfl) rfl rfl (Quiet.loadN ttok rfl rfl rfl rfl (At.sub ((hS141.bring 1 rfl).box) 2 2) rfl) rfl rfl ?_)
                  have hS145 := hS141.bring 0 rfl
                  refine DM.one hsk124 7 (by kernel_rfl) (LM.mapUpdate mapOk119 hS145 hsk124 255 (by kernel_rfl) (by kernel_rfl) rfl rfl (.inl rfl) rfl rfl (kk := x89.B) rfl (v := true) rfl (fun w143 hS144 => ?_))
                  refine DM.done hsk124 (by kernel_rfl) ?_
                  exact ⟨(mput (mput s53.2.1 x89.A true) x89.B true), [(4, .pointer (some ⟨g5, 0, none⟩)), (6, .pointer (some ⟨g42, 0, none⟩)), (7, .map (some g49)), (9, .pointer (some ⟨g96, 0, none⟩)), (22, .slice A1_ x1.length k1_), (23, .int .i64 (x1.length : Int)), (24, .int .i64 s53.1)], ⟨rfl, rfl, rfl, rfl, rfl, rfl, rfl, trivial⟩, hb84, ((hS144.bring 0 rfl).bring 1 rfl), rfl⟩
          · skip
            refine WP.region ?_
            refine RW.run ttok 1 rfl ?_
            refine RW.loadN ttok rfl rfl rfl rfl rfl (At.sub ((hS102.bring 0 rfl).box) 0 2) rfl rfl rfl ?_
            refine RW.run ttok 1 rfl ?_
            refine RW.loadN ttok rfl rfl rfl rfl rfl (At.sub ((hS102.bring 0 rfl).box) 2 2) rfl rfl rfl ?_
            refine RW.run ttok 2 rfl ?_
            by_cases hg146 : (((x89.A.Agent : Int) == x89.B.Agent) && (((x89.A.Slot : Int) == x89.B.Slot) && true)) = true
            · skip
              rw [if_pos hg146] at hb84
              refine RW.know 33 rfl (congrArg Value.bool hg146) ?_
              refine RW.run ttok 11 rfl ?_
              refine RW.nil ?_
              exact ⟨true, [(4, .pointer (some ⟨g5, 0, none⟩)), (6, .pointer (some ⟨g42, 0, none⟩)), (7, .map (some g49)), (9, .pointer (some ⟨g96, 0, none⟩)), (22, .slice A1_ x1.length k1_), (23, .int .i64 (x1.length : Int)), (24, .int .i64 s53.1), (44, .bool true)], ⟨rfl, rfl, rfl, rfl, rfl, rfl, rfl, rfl, trivial⟩, hb84, (Ext.refl _), hS102, rfl⟩
            · skip
              rw [if_neg hg146] at hb84
              refine RW.know 33 rfl (congrArg Value.bool (Bool.eq_false_iff.2 hg146)) ?_
              refine RW.run ttok 2 rfl ?_
              refine RW.loadN ttok rfl rfl rfl rfl rfl (At.sub ((hS102.bring 0 rfl).box) 0 2) rfl rfl rfl ?_
              refine RW.quiet rfl ((Quiet.lookup mapOk119 (kk := x89.A) ((hS102.bring 1 rfl).own) rfl rfl rfl).later (Ext.refl _)) rfl rfl ?_
              refine RW.run ttok 2 rfl ?_
              by_cases hg147 : ((mget s53.2.1 x89.A).getD false) = true
              · skip
                rw [if_pos hg147] at hb84
                refine RW.know 39 rfl (congrArg Value.bool hg147) ?_
                refine RW.run ttok 5 rfl ?_
                refine RW.nil ?_
                exact ⟨true, [(4, .pointer (some ⟨g5, 0, none⟩)), (6, .pointer (some ⟨g42, 0, none⟩)), (7, .map (some g49)), (9, .pointer (some ⟨g96, 0, none⟩)), (22, .slice A1_ x1.length k1_), (23, .int .i64 (x1.length : Int)), (24, .int .i64 s53.1), (44, .bool true)], ⟨rfl, rfl, rfl, rfl, rfl, rfl, rfl, rfl, trivial⟩, hb84, (Ext.refl _), hS102, rfl⟩
              · skip
                rw [if_neg hg147] at hb84
                refine RW.know 39 rfl (congrArg Value.bool (Bool.eq_false_iff.2 hg147)) ?_
                refine RW.run ttok 2 rfl ?_
                refine RW.loadN ttok rfl rfl rfl rfl rfl (At.sub ((hS102.bring 0 rfl).box) 2 2) rfl rfl rfl ?_
                refine RW.quiet rfl ((Quiet.lookup mapOk119 (kk := x89.B) ((hS102.bring 1 rfl).own) rfl rfl rfl).later (Ext.refl _)) rfl rfl ?_
                refine RW.run ttok 1 rfl ?_
                refine RW.nil ?_
                exact ⟨((mget s53.2.1 x89.B).getD false), [(4, .pointer (some ⟨g5, 0, none⟩)), (6, .pointer (some ⟨g42, 0, none⟩)), (7, .map (some g49)), (9, .pointer (some ⟨g96, 0, none⟩)), (22, .slice A1_ x1.length k1_), (23, .int .i64 (x1.length : Int)), (24, .int .i64 s53.1), (44, .bool ((mget s53.2.1 x89.B).getD false))], ⟨rfl, rfl, rfl, rfl, rfl, rfl, rfl, rfl, trivial⟩, hb84, (Ext.refl _), hS102, rfl⟩
        · skip
          rw [if_neg (not_t hc)] at hb84
          refine WP.exit ?_
          cases hb84
          exact ⟨_, [(4, .pointer (some ⟨g5, 0, none⟩)), (6, .pointer (some ⟨g42, 0, none⟩)), (7, .map (some g49))], ⟨rfl, rfl, rfl, trivial⟩, A58, k59, ho85, hS87, rfl⟩

theorem enters127 : Enters Try.prog 127 := ⟨_, _, Try.func127, rfl, by kernel_rfl⟩
def m_laws_eqInt64S_j1 (fuel : Nat) (t2 : Unit) : Option Bool := some true
def m_laws_eqInt64S_b1 (fuel : Nat) (x0 : (List Int)) (x1 : (List Int)) (s1 : Int) : Option (Rd (Int) (Unit) (Bool)) := (if (decide (s1 < (x0.length : Int))) = true then ((idx x0 s1).bind fun x21 => ((idx x1 s1).bind fun x27 => (if (x21 != x27) = true then some (.ret false) else some (.next (w64 (s1 + 1)))))) else some (.brk ()))
def m_laws_eqInt64S (fuel : Nat) (x0 : (List Int)) (x1 : (List Int)) : Option (Bool) := (if ((x0.length : Int) != (x1.length : Int)) = true then some false else ((iter (m_laws_eqInt64S_b1 fuel x0 x1) fuel 0).bind fun o => aft o (m_laws_eqInt64S_j1 fuel)))

set_option maxRecDepth 100000 in
theorem laws_eqInt64S_ok {W w : World} (hE : Ext W w) {A0_ : Option Addr} {k0_ : Nat} {x0 : (List Int)} {A1_ : Option Addr} {k1_ : Nat} {x1 : (List Int)} (h0_ : ty103.ro W [.slice A0_ x0.length k0_] x0) (h1_ : ty103.ro W [.slice A1_ x1.length k1_] x1) {fuel : Nat} {r : Bool} (hm : m_laws_eqInt64S fuel x0 x1 = some r) :
    Calls Try.prog 127 ⟨[.slice A0_ x0.length k0_, .slice A1_ x1.length k1_]⟩ w (Ret fun v w8 => v = .bool r ∧ St w w8 []) := by
  refine Calls.into Try.func127 rfl 26 rfl rfl _ rfl ?_
  unfold m_laws_eqInt64S at hm
  have hS := St.start w
  refine WP.seq ?_
  refine WP.region ?_
  refine RW.run ttok 1 rfl ?_
  refine RW.nil ?_
  refine WP.seq ?_
  refine WP.seq ?_
  refine WP.region ?_
  refine RW.run ttok 5 rfl ?_
  refine RW.nil ?_
  refine WP.cond ((x0.length : Int) != (x1.length : Int)) rfl (fun hc => ?_) (fun hc => ?_)
  · skip
    rw [if_pos hc] at hm
    refine WP.seq ?_
    refine WP.region ?_
    refine RW.run ttok 1 rfl ?_
    refine RW.nil ?_
    refine WP.ret ?_
    cases hm
    exact ⟨_, .cons (.tmp rfl) .nil, rfl, hS⟩
  · skip
    rw [if_neg (not_t hc)] at hm
    refine WP.skip ?_
    refine WP.seq ?_
    refine WP.seq ?_
    refine WP.region ?_
    refine RW.run ttok 1 rfl ?_
    refine RW.nil ?_
    obtain ⟨o10, hl11, hm⟩ := bind_some hm
    refine WP.cut (fun (t2 : Unit) F w9 => o10 = .inl t2 ∧ Ext w w9 ∧ St w w9 [] ∧ F = []) ?_ ?_
    · skip
      rintro t2 F w7 ⟨ho13, hE6, hS12, rfl⟩
      subst ho13
      rw [aft_inl] at hm
      unfold m_laws_eqInt64S_j1 at hm
      refine WP.seq ?_
      refine WP.region ?_
      refine RW.run ttok 1 rfl ?_
      refine RW.nil ?_
      refine WP.ret ?_
      cases hm
      exact ⟨_, .cons (.tmp rfl) .nil, rfl, hS12⟩
    · skip
      refine WP.block ?_
      refine WP.weak [(0, .slice A0_ x0.length k0_), (1, .slice A1_ x1.length k1_), (5, .int .i64 0)] ⟨rfl, rfl, rfl, trivial⟩ ?_
      refine WP.iter (fun (s1 : Int) F w9 => Ext w w9 ∧ St w w9 [] ∧ F = [(0, .slice A0_ x0.length k0_), (1, .slice A1_ x1.length k1_), (5, .int .i64 s1)]) _ hl11 ⟨(Ext.refl _), hS, rfl⟩ ?_
      rintro s1 F w18 _ o16 ⟨hE5, hS17, rfl⟩ hb14 ho15
      unfold m_laws_eqInt64S_b1 at hb14
      refine WP.seq ?_
      refine WP.seq ?_
      refine WP.region ?_
      refine RW.run ttok 4 rfl ?_
      refine RW.nil ?_
      refine WP.cond (decide (s1 < (x0.length : Int))) rfl (fun hc => ?_) (fun hc => ?_)
      · skip
        rw [if_pos hc] at hb14
        refine WP.skip ?_
        refine WP.seq ?_
        refine WP.block ?_
        refine WP.seq ?_
        refine WP.drawnM 0 mixed 9 (by kernel_rfl) (by kernel_rfl) [([], 511), ([], 511), ([0, 1], 508), ([2], 507), ([], 511), ([], 511), ([4, 5], 463), ([6], 447), ([3, 7], 375)] (by kernel_rfl) hS17.ext (fun hsk19 => ?_)
        have hS20 := hS17.step (Ext.draw _)
        refine DM.run (fuel := 5) ttok hsk19 [0, 1, 4, 5] 51 (by kernel_rfl) (by kernel_rfl) rfl ?_
        obtain ⟨x21, hx22, hb14⟩ := bind_some hb14
        refine DM.idx ttok (hE.trans hS17.ext) hsk19 2 55 (by kernel_rfl) (by kernel_rfl) (by kernel_rfl) (by kernel_rfl) rfl (by kernel_rfl) rfl rfl rfl rfl rfl rfl (by decide) rfl rfl h0_ (idx_some hx22).1 (idx_some hx22).2 rfl rfl (fun p23 es24 ha25 hr26 => ?_)
        cases hr26
        refine DM.load1 ttok hsk19 3 63 (by kernel_rfl) (by kernel_rfl) (by kernel_rfl) (by kernel_rfl) rfl (by kernel_rfl) rfl rfl rfl rfl rfl (At.ext (hE.trans hS17.ext) ha25) 0 rfl rfl rfl rfl ?_
        obtain ⟨x27, hx28, hb14⟩ := bind_some hb14
        refine DM.idx ttok (hE.trans hS17.ext) hsk19 6 127 (by kernel_rfl) (by kernel_rfl) (by kernel_rfl) (by kernel_rfl) rfl (by kernel_rfl) rfl rfl rfl rfl rfl rfl (by decide) rfl rfl h1_ (idx_some hx28).1 (idx_some hx28).2 rfl rfl (fun p29 es30 ha31 hr32 => ?_)
        cases hr32
        refine DM.load1 ttok hsk19 7 255 (by kernel_rfl) (by kernel_rfl) (by kernel_rfl) (by kernel_rfl) rfl (by kernel_rfl) rfl rfl rfl rfl rfl (At.ext (hE.trans hS17.ext) ha31) 0 rfl rfl rfl rfl ?_
        refine DM.run (fuel := 0) ttok hsk19 [8] 511 (by kernel_rfl) (by kernel_rfl) rfl ?_
        refine DM.weak [(0, .slice A0_ x0.length k0_), (1, .slice A1_ x1.length k1_), (5, .int .i64 s1), (25, .bool (x21 != x27))] ⟨rfl, rfl, rfl, rfl, trivial⟩ ?_
        refine DM.done hsk19 (by kernel_rfl) ?_
        refine WP.cond (x21 != x27) rfl (fun hc => ?_) (fun hc => ?_)
        · skip
          rw [if_pos hc] at hb14
          refine WP.seq ?_
          refine WP.region ?_
          refine RW.run ttok 1 rfl ?_
          refine RW.nil ?_
          refine WP.ret ?_
          cases hb14
          cases ho15
          have hm : some _ = some _ := hm
          cases hm
          exact ⟨_, .cons (.tmp rfl) .nil, rfl, hS20⟩
        · skip
          rw [if_neg (not_t hc)] at hb14
          refine WP.skip ?_
          refine WP.region ?_
          refine RW.run ttok 3 rfl ?_
          refine RW.nil ?_
          cases hb14
          exact ⟨_, [(0, .slice A0_ x0.length k0_), (1, .slice A1_ x1.length k1_), (5, .int .i64 (w64 (s1 + 1)))], ⟨rfl, rfl, rfl, trivial⟩, rfl, (hE5.trans (Ext.draw _)), hS20, rfl⟩
      · skip
        rw [if_neg (not_t hc)] at hb14
        refine WP.exit ?_
        cases hb14
        exact ⟨_, [], trivial, ho15, hE5, hS17, rfl⟩

theorem enters129 : Enters Try.prog 129 := ⟨_, _, Try.func129, rfl, by kernel_rfl⟩
def m_laws_eqPort (fuel : Nat) (x0 : D.Port) (x1 : D.Port) : Option (Bool) := (if (x0.Agent != x1.Agent) = true then some false else (if (x0.Slot != x1.Slot) = true then some false else some true))

set_option maxRecDepth 100000 in
theorem laws_eqPort_ok {W w : World} (hE : Ext W w) {c0_ : List Value} {x0 : D.Port} {c1_ : List Value} {x1 : D.Port} (h0_ : ty38.ro W c0_ x0) (h1_ : ty38.ro W c1_ x1) {fuel : Nat} {r : Bool} (hm : m_laws_eqPort fuel x0 x1 = some r) :
    Calls Try.prog 129 ⟨[.agg ⟨c0_⟩, .agg ⟨c1_⟩]⟩ w (Ret fun v w8 => v = .bool r ∧ St w w8 []) := by
  have e1 := ty38_open h0_; subst e1
  have e2 := ty38_open h1_; subst e2
  refine Calls.into Try.func129 rfl 15 rfl rfl _ rfl ?_
  unfold m_laws_eqPort at hm
  have hS := St.start w
  refine WP.seq ?_
  refine WP.region ?_
  refine RW.new ttok hS rfl rfl rfl rfl (fun g3 w4 e5 hS6 => ?_)
  refine RW.new ttok hS6 rfl rfl rfl rfl (fun g7 w10 e11 hS12 => ?_)
  refine RW.run ttok 1 rfl ?_
  refine RW.nil ?_
  refine WP.seq ?_
  refine WP.seq ?_
  refine WP.region ?_
  refine RW.run ttok 1 rfl ?_
  refine RW.load1 ttok rfl rfl rfl rfl rfl ((hS12.bring 1 rfl).box) 0 rfl rfl rfl rfl ?_
  refine RW.run ttok 1 rfl ?_
  refine RW.load1 ttok rfl rfl rfl rfl rfl ((hS12.bring 0 rfl).box) 0 rfl rfl rfl rfl ?_
  refine RW.run ttok 1 rfl ?_
  refine RW.nil ?_
  refine WP.cond (x0.Agent != x1.Agent) rfl (fun hc => ?_) (fun hc => ?_)
  · skip
    rw [if_pos hc] at hm
    refine WP.seq ?_
    refine WP.region ?_
    refine RW.run ttok 1 rfl ?_
    refine RW.nil ?_
    refine WP.ret ?_
    cases hm
    exact ⟨_, .cons (.tmp rfl) .nil, rfl, (hS12.taken 0)⟩
  · skip
    rw [if_neg (not_t hc)] at hm
    refine WP.skip ?_
    refine WP.seq ?_
    refine WP.seq ?_
    refine WP.region ?_
    refine RW.run ttok 1 rfl ?_
    refine RW.load1 ttok rfl rfl rfl rfl rfl ((hS12.bring 1 rfl).box) 1 rfl rfl rfl rfl ?_
    refine RW.run ttok 1 rfl ?_
    refine RW.load1 ttok rfl rfl rfl rfl rfl ((hS12.bring 0 rfl).box) 1 rfl rfl rfl rfl ?_
    refine RW.run ttok 1 rfl ?_
    refine RW.nil ?_
    refine WP.cond (x0.Slot != x1.Slot) rfl (fun hc => ?_) (fun hc => ?_)
    · skip
      rw [if_pos hc] at hm
      refine WP.seq ?_
      refine WP.region ?_
      refine RW.run ttok 1 rfl ?_
      refine RW.nil ?_
      refine WP.ret ?_
      cases hm
      exact ⟨_, .cons (.tmp rfl) .nil, rfl, (hS12.taken 0)⟩
    · skip
      rw [if_neg (not_t hc)] at hm
      refine WP.skip ?_
      refine WP.seq ?_
      refine WP.region ?_
      refine RW.run ttok 1 rfl ?_
      refine RW.nil ?_
      refine WP.ret ?_
      cases hm
      exact ⟨_, .cons (.tmp rfl) .nil, rfl, (hS12.taken 0)⟩

theorem enters128 : Enters Try.prog 128 := ⟨_, _, Try.func128, rfl, by kernel_rfl⟩
def m_laws_eqPortS_j1 (fuel : Nat) (t2 : Unit) : Option Bool := some true
def m_laws_eqPortS_b1 (fuel : Nat) (x0 : (List D.Port)) (x1 : (List D.Port)) (s1 : Int) : Option (Rd (Int) (Unit) (Bool)) := (if (decide (s1 < (x0.length : Int))) = true then ((idx x0 s1).bind fun x21 => ((idx x1 s1).bind fun x28 => ((m_laws_eqPort fuel x21 x28).bind fun r35 => (if (!r35) = true then some (.ret false) else some (.next (w64 (s1 + 1))))))) else some (.brk ()))
def m_laws_eqPortS (fuel : Nat) (x0 : (List D.Port)) (x1 : (List D.Port)) : Option (Bool) := (if ((x0.length : Int) != (x1.length : Int)) = true then some false else ((iter (m_laws_eqPortS_b1 fuel x0 x1) fuel 0).bind fun o => aft o (m_laws_eqPortS_j1 fuel)))

set_option maxRecDepth 100000 in
theorem laws_eqPortS_ok {W w : World} (hE : Ext W w) {A0_ : Option Addr} {k0_ : Nat} {x0 : (List D.Port)} {A1_ : Option Addr} {k1_ : Nat} {x1 : (List D.Port)} (h0_ : ty110.ro W [.slice A0_ x0.length k0_] x0) (h1_ : ty110.ro W [.slice A1_ x1.length k1_] x1) {fuel : Nat} {r : Bool} (hm : m_laws_eqPortS fuel x0 x1 = some r) :
    Calls Try.prog 128 ⟨[.slice A0_ x0.length k0_, .slice A1_ x1.length k1_]⟩ w (Ret fun v w8 => v = .bool r ∧ St w w8 []) := by
  refine Calls.into Try.func128 rfl 27 rfl rfl _ rfl ?_
  unfold m_laws_eqPortS at hm
  have hS := St.start w
  refine WP.seq ?_
  refine WP.region ?_
  refine RW.run ttok 1 rfl ?_
  refine RW.nil ?_
  refine WP.seq ?_
  refine WP.seq ?_
  refine WP.region ?_
  refine RW.run ttok 5 rfl ?_
  refine RW.nil ?_
  refine WP.cond ((x0.length : Int) != (x1.length : Int)) rfl (fun hc => ?_) (fun hc => ?_)
  · skip
    rw [if_pos hc] at hm
    refine WP.seq ?_
    refine WP.region ?_
    refine RW.run ttok 1 rfl ?_
    refine RW.nil ?_
    refine WP.ret ?_
    cases hm
    exact ⟨_, .cons (.tmp rfl) .nil, rfl, hS⟩
  · skip
    rw [if_neg (not_t hc)] at hm
    refine WP.skip ?_
    refine WP.seq ?_
    refine WP.seq ?_
    refine WP.region ?_
    refine RW.run ttok 1 rfl ?_
    refine RW.nil ?_
    obtain ⟨o10, hl11, hm⟩ := bind_some hm
    refine WP.cut (fun (t2 : Unit) F w9 => o10 = .inl t2 ∧ Ext w w9 ∧ St w w9 [] ∧ F = []) ?_ ?_
    · skip
      rintro t2 F w7 ⟨ho13, hE6, hS12, rfl⟩
      subst ho13
      rw [aft_inl] at hm
      unfold m_laws_eqPortS_j1 at hm
      refine WP.seq ?_
      refine WP.region ?_
      refine RW.run ttok 1 rfl ?_
      refine RW.nil ?_
      refine WP.ret ?_
      cases hm
      exact ⟨_, .cons (.tmp rfl) .nil, rfl, hS12⟩
    · skip
      refine WP.block ?_
      refine WP.weak [(0, .slice A0_ x0.length k0_), (1, .slice A1_ x1.length k1_), (5, .int .i64 0)] ⟨rfl, rfl, rfl, trivial⟩ ?_
      refine WP.iter (fun (s1 : Int) F w9 => Ext w w9 ∧ St w w9 [] ∧ F = [(0, .slice A0_ x0.length k0_), (1, .slice A1_ x1.length k1_), (5, .int .i64 s1)]) _ hl11 ⟨(Ext.refl _), hS, rfl⟩ ?_
      rintro s1 F w18 _ o16 ⟨hE5, hS17, rfl⟩ hb14 ho15
      unfold m_laws_eqPortS_b1 at hb14
      refine WP.seq ?_
      refine WP.seq ?_
      refine WP.region ?_
      refine RW.run ttok 4 rfl ?_
      refine RW.nil ?_
      refine WP.cond (decide (s1 < (x0.length : Int))) rfl (fun hc => ?_) (fun hc => ?_)
      · skip
        rw [if_pos hc] at hb14
        refine WP.skip ?_
        refine WP.seq ?_
        refine WP.block ?_
        refine WP.seq ?_
        refine WP.drawnM 0 mixed 10 (by kernel_rfl) (by kernel_rfl) [([], 1023), ([], 1023), ([0, 1], 1020), ([2], 1019), ([], 1023), ([], 1023), ([4, 5], 975), ([6], 959), ([3, 7], 887), ([8], 767)] (by kernel_rfl) hS17.ext (fun hsk19 => ?_)
        have hS20 := hS17.step (Ext.draw _)
        refine DM.run (fuel := 6) ttok hsk19 [0, 1, 4, 5] 51 (by kernel_rfl) (by kernel_rfl) rfl ?_
        obtain ⟨x21, hx22, hb14⟩ := bind_some hb14
        refine DM.idx ttok (hE.trans hS17.ext) hsk19 2 55 (by kernel_rfl) (by kernel_rfl) (by kernel_rfl) (by kernel_rfl) rfl (by kernel_rfl) rfl rfl rfl rfl rfl rfl (by decide) rfl rfl h0_ (idx_some hx22).1 (idx_some hx22).2 rfl rfl (fun p23 es24 ha25 hr26 => ?_)
        have e27 := ty38_open hr26; subst e27
        refine DM.loadN ttok hsk19 3 63 (by kernel_rfl) (by kernel_rfl) (by kernel_rfl) (by kernel_rfl) rfl (by kernel_rfl) rfl rfl rfl rfl rfl (At.ext (hE.trans hS17.ext) ha25) rfl rfl rfl ?_
        obtain ⟨x28, hx29, hb14⟩ := bind_some hb14
        refine DM.idx ttok (hE.trans hS17.ext) hsk19 6 127 (by kernel_rfl) (by kernel_rfl) (by kernel_rfl) (by kernel_rfl) rfl (by kernel_rfl) rfl rfl rfl rfl rfl rfl (by decide) rfl rfl h1_ (idx_some hx29).1 (idx_some hx29).2 rfl rfl (fun p30 es31 ha32 hr33 => ?_)
        have e34 := ty38_open hr33; subst e34
        refine DM.loadN ttok hsk19 7 255 (by kernel_rfl) (by kernel_rfl) (by kernel_rfl) (by kernel_rfl) rfl (by kernel_rfl) rfl rfl rfl rfl rfl (At.ext (hE.trans hS17.ext) ha32) rfl rfl rfl ?_
        obtain ⟨r35, hx36, hb14⟩ := bind_some hb14
        refine DM.one hsk19 8 (by kernel_rfl) (LM.call hsk19 511 (by kernel_rfl) (by kernel_rfl) rfl rfl rfl rfl enters129 (laws_eqPort_ok (hE.trans hS20.ext) hr26 hr33 hx36) (fun v37 w38 hR39 => ?_))
        obtain ⟨rfl, hR40⟩ := hR39
        refine ⟨hR40.ext, ?_⟩
        have hS41 := hS20.join hR40
        refine DM.run (fuel := 0) ttok hsk19 [9] 1023 (by kernel_rfl) (by kernel_rfl) rfl ?_
        refine DM.weak [(0, .slice A0_ x0.length k0_), (1, .slice A1_ x1.length k1_), (5, .int .i64 s1), (26, .bool (!r35))] ⟨rfl, rfl, rfl, rfl, trivial⟩ ?_
        refine DM.done hsk19 (by kernel_rfl) ?_
        refine WP.cond (!r35) rfl (fun hc => ?_) (fun hc => ?_)
        · skip
          rw [if_pos hc] at hb14
          refine WP.seq ?_
          refine WP.region ?_
          refine RW.run ttok 1 rfl ?_
          refine RW.nil ?_
          refine WP.ret ?_
          cases hb14
          cases ho15
          have hm : some _ = some _ := hm
          cases hm
          exact ⟨_, .cons (.tmp rfl) .nil, rfl, hS41⟩
        · skip
          rw [if_neg (not_t hc)] at hb14
          refine WP.skip ?_
          refine WP.region ?_
          refine RW.run ttok 3 rfl ?_
          refine RW.nil ?_
          cases hb14
          exact ⟨_, [(0, .slice A0_ x0.length k0_), (1, .slice A1_ x1.length k1_), (5, .int .i64 (w64 (s1 + 1)))], ⟨rfl, rfl, rfl, trivial⟩, rfl, ((hE5.trans (Ext.draw _)).trans hR40.ext), hS41, rfl⟩
      · skip
        rw [if_neg (not_t hc)] at hb14
        refine WP.exit ?_
        cases hb14
        exact ⟨_, [], trivial, ho15, hE5, hS17, rfl⟩

theorem enters67 : Enters Try.prog 67 := ⟨_, _, Try.func67, rfl, by kernel_rfl⟩
def m_laws_eqAgent (fuel : Nat) (x0 : D.Agent) (x1 : D.Agent) : Option (Bool) := (if (x0.Kind != x1.Kind) = true then some false else (if (x0.Level != x1.Level) = true then some false else (if (x0.Value != x1.Value) = true then some false else ((m_laws_eqInt64S fuel x0.Data x1.Data).bind fun r25 => (if (!r25) = true then some false else ((m_laws_eqPortS fuel x0.Ports x1.Ports).bind fun r32 => (if (!r32) = true then some false else some true)))))))

set_option maxRecDepth 100000 in
theorem laws_eqAgent_ok {W w : World} (hE : Ext W w) {c0_ : List Value} {x0 : D.Agent} {c1_ : List Value} {x1 : D.Agent} (h0_ : ty112.ro W c0_ x0) (h1_ : ty112.ro W c1_ x1) {fuel : Nat} {r : Bool} (hm : m_laws_eqAgent fuel x0 x1 = some r) :
    Calls Try.prog 67 ⟨[.agg ⟨c0_⟩, .agg ⟨c1_⟩]⟩ w (Ret fun v w8 => v = .bool r ∧ St w w8 []) := by
  obtain ⟨A1, k2, A4, k5, e7, h3, h6⟩ := ty112_open h0_; subst e7
  obtain ⟨A10, k11, A13, k14, e16, h12, h15⟩ := ty112_open h1_; subst e16
  refine Calls.into Try.func67 rfl 32 rfl rfl _ rfl ?_
  unfold m_laws_eqAgent at hm
  have hS := St.start w
  refine WP.seq ?_
  refine WP.region ?_
  refine RW.new ttok hS rfl rfl rfl rfl (fun g17 w18 e19 hS20 => ?_)
  refine RW.new ttok hS20 rfl rfl rfl rfl (fun g21 w22 e23 hS24 => ?_)
  refine RW.run ttok 1 rfl ?_
  refine RW.nil ?_
  refine WP.seq ?_
  refine WP.seq ?_
  refine WP.region ?_
  refine RW.run ttok 1 rfl ?_
  refine RW.load1 ttok rfl rfl rfl rfl rfl ((hS24.bring 1 rfl).box) 0 rfl rfl rfl rfl ?_
  refine RW.run ttok 1 rfl ?_
  refine RW.load1 ttok rfl rfl rfl rfl rfl ((hS24.bring 0 rfl).box) 0 rfl rfl rfl rfl ?_
  refine RW.run ttok 1 rfl ?_
  refine RW.nil ?_
  refine WP.cond (x0.Kind != x1.Kind) rfl (fun hc => ?_) (fun hc => ?_)
  · skip
    rw [if_pos hc] at hm
    refine WP.seq ?_
    refine WP.region ?_
    refine RW.run ttok 1 rfl ?_
    refine RW.nil ?_
    refine WP.ret ?_
    cases hm
    exact ⟨_, .cons (.tmp rfl) .nil, rfl, (hS24.taken 0)⟩
  · skip
    rw [if_neg (not_t hc)] at hm
    refine WP.skip ?_
    refine WP.seq ?_
    refine WP.seq ?_
    refine WP.region ?_
    refine RW.run ttok 1 rfl ?_
    refine RW.load1 ttok rfl rfl rfl rfl rfl ((hS24.bring 1 rfl).box) 1 rfl rfl rfl rfl ?_
    refine RW.run ttok 1 rfl ?_
    refine RW.load1 ttok rfl rfl rfl rfl rfl ((hS24.bring 0 rfl).box) 1 rfl rfl rfl rfl ?_
    refine RW.run ttok 1 rfl ?_
    refine RW.nil ?_
    refine WP.cond (x0.Level != x1.Level) rfl (fun hc => ?_) (fun hc => ?_)
    · skip
      rw [if_pos hc] at hm
      refine WP.seq ?_
      refine WP.region ?_
      refine RW.run ttok 1 rfl ?_
      refine RW.nil ?_
      refine WP.ret ?_
      cases hm
      exact ⟨_, .cons (.tmp rfl) .nil, rfl, (hS24.taken 0)⟩
    · skip
      rw [if_neg (not_t hc)] at hm
      refine WP.skip ?_
      refine WP.seq ?_
      refine WP.seq ?_
      refine WP.region ?_
      refine RW.run ttok 1 rfl ?_
      refine RW.load1 ttok rfl rfl rfl rfl rfl ((hS24.bring 1 rfl).box) 2 rfl rfl rfl rfl ?_
      refine RW.run ttok 1 rfl ?_
      refine RW.load1 ttok rfl rfl rfl rfl rfl ((hS24.bring 0 rfl).box) 2 rfl rfl rfl rfl ?_
      refine RW.run ttok 1 rfl ?_
      refine RW.nil ?_
      refine WP.cond (x0.Value != x1.Value) rfl (fun hc => ?_) (fun hc => ?_)
      · skip
        rw [if_pos hc] at hm
        refine WP.seq ?_
        refine WP.region ?_
        refine RW.run ttok 1 rfl ?_
        refine RW.nil ?_
        refine WP.ret ?_
        cases hm
        exact ⟨_, .cons (.tmp rfl) .nil, rfl, (hS24.taken 0)⟩
      · skip
        rw [if_neg (not_t hc)] at hm
        refine WP.skip ?_
        refine WP.seq ?_
        refine WP.seq ?_
        refine WP.region ?_
        refine RW.run ttok 1 rfl ?_
        refine RW.load1 ttok rfl rfl rfl rfl rfl ((hS24.bring 1 rfl).box) 3 rfl rfl rfl rfl ?_
        refine RW.run ttok 1 rfl ?_
        refine RW.load1 ttok rfl rfl rfl rfl rfl ((hS24.bring 0 rfl).box) 3 rfl rfl rfl rfl ?_
        obtain ⟨r25, hx26, hm⟩ := bind_some hm
        refine RW.call rfl rfl rfl enters127 (laws_eqInt64S_ok (hE.trans hS24.ext) h3 h12 hx26) (fun v27 w28 hR29 => ?_)
        obtain ⟨rfl, hR30⟩ := hR29
        have hS31 := hS24.join hR30
        refine RW.run ttok 1 rfl ?_
        refine RW.nil ?_
        refine WP.cond (!r25) rfl (fun hc => ?_) (fun hc => ?_)
        · skip
          rw [if_pos hc] at hm
          refine WP.seq ?_
          refine WP.region ?_
          refine RW.run ttok 1 rfl ?_
          refine RW.nil ?_
          refine WP.ret ?_
          cases hm
          exact ⟨_, .cons (.tmp rfl) .nil, rfl, (hS31.taken 0)⟩
        · skip
          rw [if_neg (not_t hc)] at hm
          refine WP.skip ?_
          refine WP.seq ?_
          refine WP.seq ?_
          refine WP.region ?_
          refine RW.run ttok 1 rfl ?_
          refine RW.load1 ttok rfl rfl rfl rfl rfl ((hS31.bring 1 rfl).box) 4 rfl rfl rfl rfl ?_
          refine RW.run ttok 1 rfl ?_
          refine RW.load1 ttok rfl rfl rfl rfl rfl ((hS31.bring 0 rfl).box) 4 rfl rfl rfl rfl ?_
          obtain ⟨r32, hx33, hm⟩ := bind_some hm
          refine RW.call rfl rfl rfl enters128 (laws_eqPortS_ok (hE.trans hS31.ext) h6 h15 hx33) (fun v34 w35 hR36 => ?_)
          obtain ⟨rfl, hR37⟩ := hR36
          have hS38 := hS31.join hR37
          refine RW.run ttok 1 rfl ?_
          refine RW.nil ?_
          refine WP.cond (!r32) rfl (fun hc => ?_) (fun hc => ?_)
          · skip
            rw [if_pos hc] at hm
            refine WP.seq ?_
            refine WP.region ?_
            refine RW.run ttok 1 rfl ?_
            refine RW.nil ?_
            refine WP.ret ?_
            cases hm
            exact ⟨_, .cons (.tmp rfl) .nil, rfl, (hS38.taken 0)⟩
          · skip
            rw [if_neg (not_t hc)] at hm
            refine WP.skip ?_
            refine WP.seq ?_
            refine WP.region ?_
            refine RW.run ttok 1 rfl ?_
            refine RW.nil ?_
            refine WP.ret ?_
            cases hm
            exact ⟨_, .cons (.tmp rfl) .nil, rfl, (hS38.taken 0)⟩

theorem enters26 : Enters Try.prog 26 := ⟨_, _, Try.func26, rfl, by kernel_rfl⟩
def m_laws_eqAgentS_j1 (fuel : Nat) (t2 : Unit) : Option Bool := some true
def m_laws_eqAgentS_b1 (fuel : Nat) (x0 : (List D.Agent)) (x1 : (List D.Agent)) (s1 : Int) : Option (Rd (Int) (Unit) (Bool)) := (if (decide (s1 < (x0.length : Int))) = true then ((idx x0 s1).bind fun x21 => ((idx x1 s1).bind fun x34 => ((m_laws_eqAgent fuel x21 x34).bind fun r47 => (if (!r47) = true then some (.ret false) else some (.next (w64 (s1 + 1))))))) else some (.brk ()))
def m_laws_eqAgentS (fuel : Nat) (x0 : (List D.Agent)) (x1 : (List D.Agent)) : Option (Bool) := (if ((x0.length : Int) != (x1.length : Int)) = true then some false else ((iter (m_laws_eqAgentS_b1 fuel x0 x1) fuel 0).bind fun o => aft o (m_laws_eqAgentS_j1 fuel)))

set_option maxRecDepth 100000 in
theorem laws_eqAgentS_ok {W w : World} (hE : Ext W w) {A0_ : Option Addr} {k0_ : Nat} {x0 : (List D.Agent)} {A1_ : Option Addr} {k1_ : Nat} {x1 : (List D.Agent)} (h0_ : ty28.ro W [.slice A0_ x0.length k0_] x0) (h1_ : ty28.ro W [.slice A1_ x1.length k1_] x1) {fuel : Nat} {r : Bool} (hm : m_laws_eqAgentS fuel x0 x1 = some r) :
    Calls Try.prog 26 ⟨[.slice A0_ x0.length k0_, .slice A1_ x1.length k1_]⟩ w (Ret fun v w8 => v = .bool r ∧ St w w8 []) := by
  refine Calls.into Try.func26 rfl 27 rfl rfl _ rfl ?_
  unfold m_laws_eqAgentS at hm
  have hS := St.start w
  refine WP.seq ?_
  refine WP.region ?_
  refine RW.run ttok 1 rfl ?_
  refine RW.nil ?_
  refine WP.seq ?_
  refine WP.seq ?_
  refine WP.region ?_
  refine RW.run ttok 5 rfl ?_
  refine RW.nil ?_
  refine WP.cond ((x0.length : Int) != (x1.length : Int)) rfl (fun hc => ?_) (fun hc => ?_)
  · skip
    rw [if_pos hc] at hm
    refine WP.seq ?_
    refine WP.region ?_
    refine RW.run ttok 1 rfl ?_
    refine RW.nil ?_
    refine WP.ret ?_
    cases hm
    exact ⟨_, .cons (.tmp rfl) .nil, rfl, hS⟩
  · skip
    rw [if_neg (not_t hc)] at hm
    refine WP.skip ?_
    refine WP.seq ?_
    refine WP.seq ?_
    refine WP.region ?_
    refine RW.run ttok 1 rfl ?_
    refine RW.nil ?_
    obtain ⟨o10, hl11, hm⟩ := bind_some hm
    refine WP.cut (fun (t2 : Unit) F w9 => o10 = .inl t2 ∧ Ext w w9 ∧ St w w9 [] ∧ F = []) ?_ ?_
    · skip
      rintro t2 F w7 ⟨ho13, hE6, hS12, rfl⟩
      subst ho13
      rw [aft_inl] at hm
      unfold m_laws_eqAgentS_j1 at hm
      refine WP.seq ?_
      refine WP.region ?_
      refine RW.run ttok 1 rfl ?_
      refine RW.nil ?_
      refine WP.ret ?_
      cases hm
      exact ⟨_, .cons (.tmp rfl) .nil, rfl, hS12⟩
    · skip
      refine WP.block ?_
      refine WP.weak [(0, .slice A0_ x0.length k0_), (1, .slice A1_ x1.length k1_), (5, .int .i64 0)] ⟨rfl, rfl, rfl, trivial⟩ ?_
      refine WP.iter (fun (s1 : Int) F w9 => Ext w w9 ∧ St w w9 [] ∧ F = [(0, .slice A0_ x0.length k0_), (1, .slice A1_ x1.length k1_), (5, .int .i64 s1)]) _ hl11 ⟨(Ext.refl _), hS, rfl⟩ ?_
      rintro s1 F w18 _ o16 ⟨hE5, hS17, rfl⟩ hb14 ho15
      unfold m_laws_eqAgentS_b1 at hb14
      refine WP.seq ?_
      refine WP.seq ?_
      refine WP.region ?_
      refine RW.run ttok 4 rfl ?_
      refine RW.nil ?_
      refine WP.cond (decide (s1 < (x0.length : Int))) rfl (fun hc => ?_) (fun hc => ?_)
      · skip
        rw [if_pos hc] at hb14
        refine WP.skip ?_
        refine WP.seq ?_
        refine WP.block ?_
        refine WP.seq ?_
        refine WP.drawnM 0 mixed 10 (by kernel_rfl) (by kernel_rfl) [([], 1023), ([], 1023), ([0, 1], 1020), ([2], 1019), ([], 1023), ([], 1023), ([4, 5], 975), ([6], 959), ([3, 7], 887), ([8], 767)] (by kernel_rfl) hS17.ext (fun hsk19 => ?_)
        have hS20 := hS17.step (Ext.draw _)
        refine DM.run (fuel := 6) ttok hsk19 [0, 1, 4, 5] 51 (by kernel_rfl) (by kernel_rfl) rfl ?_
        obtain ⟨x21, hx22, hb14⟩ := bind_some hb14
        refine DM.idx ttok (hE.trans hS17.ext) hsk19 2 55 (by kernel_rfl) (by kernel_rfl) (by kernel_rfl) (by kernel_rfl) rfl (by kernel_rfl) rfl rfl rfl rfl rfl rfl (by decide) rfl rfl h0_ (idx_some hx22).1 (idx_some hx22).2 rfl rfl (fun p23 es24 ha25 hr26 => ?_)
        obtain ⟨A27, k28, A30, k31, e33, h29, h32⟩ := ty112_open hr26; subst e33
        refine DM.loadN ttok hsk19 3 63 (by kernel_rfl) (by kernel_rfl) (by kernel_rfl) (by kernel_rfl) rfl (by kernel_rfl) rfl rfl rfl rfl rfl (At.ext (hE.trans hS17.ext) ha25) rfl rfl rfl ?_
        obtain ⟨x34, hx35, hb14⟩ := bind_some hb14
        refine DM.idx ttok (hE.trans hS17.ext) hsk19 6 127 (by kernel_rfl) (by kernel_rfl) (by kernel_rfl) (by kernel_rfl) rfl (by kernel_rfl) rfl rfl rfl rfl rfl rfl (by decide) rfl rfl h1_ (idx_some hx35).1 (idx_some hx35).2 rfl rfl (fun p36 es37 ha38 hr39 => ?_)
        obtain ⟨A40, k41, A43, k44, e46, h42, h45⟩ := ty112_open hr39; subst e46
        refine DM.loadN ttok hsk19 7 255 (by kernel_rfl) (by kernel_rfl) (by kernel_rfl) (by kernel_rfl) rfl (by kernel_rfl) rfl rfl rfl rfl rfl (At.ext (hE.trans hS17.ext) ha38) rfl rfl rfl ?_
        obtain ⟨r47, hx48, hb14⟩ := bind_some hb14
        refine DM.one hsk19 8 (by kernel_rfl) (LM.call hsk19 511 (by kernel_rfl) (by kernel_rfl) rfl rfl rfl rfl enters67 (laws_eqAgent_ok (hE.trans hS20.ext) hr26 hr39 hx48) (fun v49 w50 hR51 => ?_))
        obtain ⟨rfl, hR52⟩ := hR51
        refine ⟨hR52.ext, ?_⟩
        have hS53 := hS20.join hR52
        refine DM.run (fuel := 0) ttok hsk19 [9] 1023 (by kernel_rfl) (by kernel_rfl) rfl ?_
        refine DM.weak [(0, .slice A0_ x0.length k0_), (1, .slice A1_ x1.length k1_), (5, .int .i64 s1), (26, .bool (!r47))] ⟨rfl, rfl, rfl, rfl, trivial⟩ ?_
        refine DM.done hsk19 (by kernel_rfl) ?_
        refine WP.cond (!r47) rfl (fun hc => ?_) (fun hc => ?_)
        · skip
          rw [if_pos hc] at hb14
          refine WP.seq ?_
          refine WP.region ?_
          refine RW.run ttok 1 rfl ?_
          refine RW.nil ?_
          refine WP.ret ?_
          cases hb14
          cases ho15
          have hm : some _ = some _ := hm
          cases hm
          exact ⟨_, .cons (.tmp rfl) .nil, rfl, hS53⟩
        · skip
          rw [if_neg (not_t hc)] at hb14
          refine WP.skip ?_
          refine WP.region ?_
          refine RW.run ttok 3 rfl ?_
          refine RW.nil ?_
          cases hb14
          exact ⟨_, [(0, .slice A0_ x0.length k0_), (1, .slice A1_ x1.length k1_), (5, .int .i64 (w64 (s1 + 1)))], ⟨rfl, rfl, rfl, trivial⟩, rfl, ((hE5.trans (Ext.draw _)).trans hR52.ext), hS53, rfl⟩
      · skip
        rw [if_neg (not_t hc)] at hb14
        refine WP.exit ?_
        cases hb14
        exact ⟨_, [], trivial, ho15, hE5, hS17, rfl⟩

theorem enters14 : Enters Try.prog 14 := ⟨_, _, Try.func14, rfl, by kernel_rfl⟩
def m_laws_eqNet (fuel : Nat) (x0 : D.Net) (x1 : D.Net) : Option (Bool) := ((m_laws_eqAgentS fuel x0.Agents x1.Agents).bind fun r19 => (if (!r19) = true then some false else some true))

set_option maxRecDepth 100000 in
theorem laws_eqNet_ok {W w : World} (hE : Ext W w) {c0_ : List Value} {x0 : D.Net} {c1_ : List Value} {x1 : D.Net} (h0_ : ty30.ro W c0_ x0) (h1_ : ty30.ro W c1_ x1) {fuel : Nat} {r : Bool} (hm : m_laws_eqNet fuel x0 x1 = some r) :
    Calls Try.prog 14 ⟨[.agg ⟨c0_⟩, .agg ⟨c1_⟩]⟩ w (Ret fun v w8 => v = .bool r ∧ St w w8 []) := by
  obtain ⟨A1, k2, e4, h3⟩ := ty30_open h0_; subst e4
  obtain ⟨A5, k6, e10, h7⟩ := ty30_open h1_; subst e10
  refine Calls.into Try.func14 rfl 11 rfl rfl _ rfl ?_
  unfold m_laws_eqNet at hm
  have hS := St.start w
  refine WP.seq ?_
  refine WP.region ?_
  refine RW.new ttok hS rfl rfl rfl rfl (fun g11 w12 e13 hS14 => ?_)
  refine RW.new ttok hS14 rfl rfl rfl rfl (fun g15 w16 e17 hS18 => ?_)
  refine RW.run ttok 1 rfl ?_
  refine RW.nil ?_
  refine WP.seq ?_
  refine WP.seq ?_
  refine WP.region ?_
  refine RW.run ttok 1 rfl ?_
  refine RW.load1 ttok rfl rfl rfl rfl rfl ((hS18.bring 1 rfl).box) 0 rfl rfl rfl rfl ?_
  refine RW.run ttok 1 rfl ?_
  refine RW.load1 ttok rfl rfl rfl rfl rfl ((hS18.bring 0 rfl).box) 0 rfl rfl rfl rfl ?_
  obtain ⟨r19, hx20, hm⟩ := bind_some hm
  refine RW.call rfl rfl rfl enters26 (laws_eqAgentS_ok (hE.trans hS18.ext) h3 h7 hx20) (fun v21 w22 hR23 => ?_)
  obtain ⟨rfl, hR24⟩ := hR23
  have hS25 := hS18.join hR24
  refine RW.run ttok 1 rfl ?_
  refine RW.nil ?_
  refine WP.cond (!r19) rfl (fun hc => ?_) (fun hc => ?_)
  · skip
    rw [if_pos hc] at hm
    refine WP.seq ?_
    refine WP.region ?_
    refine RW.run ttok 1 rfl ?_
    refine RW.nil ?_
    refine WP.ret ?_
    cases hm
    exact ⟨_, .cons (.tmp rfl) .nil, rfl, (hS25.taken 0)⟩
  · skip
    rw [if_neg (not_t hc)] at hm
    refine WP.skip ?_
    refine WP.seq ?_
    refine WP.region ?_
    refine RW.run ttok 1 rfl ?_
    refine RW.nil ?_
    refine WP.ret ?_
    cases hm
    exact ⟨_, .cons (.tmp rfl) .nil, rfl, (hS25.taken 0)⟩

theorem enters68 : Enters Try.prog 68 := ⟨_, _, Try.func68, rfl, by kernel_rfl⟩
def m_laws_eqWire (fuel : Nat) (x0 : D.Wire) (x1 : D.Wire) : Option (Bool) := ((m_laws_eqPort fuel x0.A x1.A).bind fun r13 => (if (!r13) = true then some false else ((m_laws_eqPort fuel x0.B x1.B).bind fun r20 => (if (!r20) = true then some false else some true))))

set_option maxRecDepth 100000 in
theorem laws_eqWire_ok {W w : World} (hE : Ext W w) {c0_ : List Value} {x0 : D.Wire} {c1_ : List Value} {x1 : D.Wire} (h0_ : ty109.ro W c0_ x0) (h1_ : ty109.ro W c1_ x1) {fuel : Nat} {r : Bool} (hm : m_laws_eqWire fuel x0 x1 = some r) :
    Calls Try.prog 68 ⟨[.agg ⟨c0_⟩, .agg ⟨c1_⟩]⟩ w (Ret fun v w8 => v = .bool r ∧ St w w8 []) := by
  have e1 := ty109_open h0_; subst e1
  have e2 := ty109_open h1_; subst e2
  refine Calls.into Try.func68 rfl 17 rfl rfl _ rfl ?_
  unfold m_laws_eqWire at hm
  have hS := St.start w
  refine WP.seq ?_
  refine WP.region ?_
  refine RW.new ttok hS rfl rfl rfl rfl (fun g3 w4 e5 hS6 => ?_)
  refine RW.new ttok hS6 rfl rfl rfl rfl (fun g7 w10 e11 hS12 => ?_)
  refine RW.run ttok 1 rfl ?_
  refine RW.nil ?_
  refine WP.seq ?_
  refine WP.seq ?_
  refine WP.region ?_
  refine RW.run ttok 1 rfl ?_
  refine RW.loadN ttok rfl rfl rfl rfl rfl (At.sub ((hS12.bring 1 rfl).box) 0 2) rfl rfl rfl ?_
  refine RW.run ttok 1 rfl ?_
  refine RW.loadN ttok rfl rfl rfl rfl rfl (At.sub ((hS12.bring 0 rfl).box) 0 2) rfl rfl rfl ?_
  obtain ⟨r13, hx14, hm⟩ := bind_some hm
  refine RW.call rfl rfl rfl enters129 (laws_eqPort_ok (hE.trans hS12.ext) (ty38_shut x0.A) (ty38_shut x1.A) hx14) (fun v15 w16 hR17 => ?_)
  obtain ⟨rfl, hR18⟩ := hR17
  have hS19 := hS12.join hR18
  refine RW.run ttok 1 rfl ?_
  refine RW.nil ?_
  refine WP.cond (!r13) rfl (fun hc => ?_) (fun hc => ?_)
  · skip
    rw [if_pos hc] at hm
    refine WP.seq ?_
    refine WP.region ?_
    refine RW.run ttok 1 rfl ?_
    refine RW.nil ?_
    refine WP.ret ?_
    cases hm
    exact ⟨_, .cons (.tmp rfl) .nil, rfl, (hS19.taken 0)⟩
  · skip
    rw [if_neg (not_t hc)] at hm
    refine WP.skip ?_
    refine WP.seq ?_
    refine WP.seq ?_
    refine WP.region ?_
    refine RW.run ttok 1 rfl ?_
    refine RW.loadN ttok rfl rfl rfl rfl rfl (At.sub ((hS19.bring 1 rfl).box) 2 2) rfl rfl rfl ?_
    refine RW.run ttok 1 rfl ?_
    refine RW.loadN ttok rfl rfl rfl rfl rfl (At.sub ((hS19.bring 0 rfl).box) 2 2) rfl rfl rfl ?_
    obtain ⟨r20, hx21, hm⟩ := bind_some hm
    refine RW.call rfl rfl rfl enters129 (laws_eqPort_ok (hE.trans hS19.ext) (ty38_shut x0.B) (ty38_shut x1.B) hx21) (fun v22 w23 hR24 => ?_)
    obtain ⟨rfl, hR25⟩ := hR24
    have hS26 := hS19.join hR25
    refine RW.run ttok 1 rfl ?_
    refine RW.nil ?_
    refine WP.cond (!r20) rfl (fun hc => ?_) (fun hc => ?_)
    · skip
      rw [if_pos hc] at hm
      refine WP.seq ?_
      refine WP.region ?_
      refine RW.run ttok 1 rfl ?_
      refine RW.nil ?_
      refine WP.ret ?_
      cases hm
      exact ⟨_, .cons (.tmp rfl) .nil, rfl, (hS26.taken 0)⟩
    · skip
      rw [if_neg (not_t hc)] at hm
      refine WP.skip ?_
      refine WP.seq ?_
      refine WP.region ?_
      refine RW.run ttok 1 rfl ?_
      refine RW.nil ?_
      refine WP.ret ?_
      cases hm
      exact ⟨_, .cons (.tmp rfl) .nil, rfl, (hS26.taken 0)⟩

theorem enters27 : Enters Try.prog 27 := ⟨_, _, Try.func27, rfl, by kernel_rfl⟩
def m_laws_eqWireS_j1 (fuel : Nat) (t2 : Unit) : Option Bool := some true
def m_laws_eqWireS_b1 (fuel : Nat) (x0 : (List D.Wire)) (x1 : (List D.Wire)) (s1 : Int) : Option (Rd (Int) (Unit) (Bool)) := (if (decide (s1 < (x0.length : Int))) = true then ((idx x0 s1).bind fun x21 => ((idx x1 s1).bind fun x28 => ((m_laws_eqWire fuel x21 x28).bind fun r35 => (if (!r35) = true then some (.ret false) else some (.next (w64 (s1 + 1))))))) else some (.brk ()))
def m_laws_eqWireS (fuel : Nat) (x0 : (List D.Wire)) (x1 : (List D.Wire)) : Option (Bool) := (if ((x0.length : Int) != (x1.length : Int)) = true then some false else ((iter (m_laws_eqWireS_b1 fuel x0 x1) fuel 0).bind fun o => aft o (m_laws_eqWireS_j1 fuel)))

set_option maxRecDepth 100000 in
theorem laws_eqWireS_ok {W w : World} (hE : Ext W w) {A0_ : Option Addr} {k0_ : Nat} {x0 : (List D.Wire)} {A1_ : Option Addr} {k1_ : Nat} {x1 : (List D.Wire)} (h0_ : ty47.ro W [.slice A0_ x0.length k0_] x0) (h1_ : ty47.ro W [.slice A1_ x1.length k1_] x1) {fuel : Nat} {r : Bool} (hm : m_laws_eqWireS fuel x0 x1 = some r) :
    Calls Try.prog 27 ⟨[.slice A0_ x0.length k0_, .slice A1_ x1.length k1_]⟩ w (Ret fun v w8 => v = .bool r ∧ St w w8 []) := by
  refine Calls.into Try.func27 rfl 27 rfl rfl _ rfl ?_
  unfold m_laws_eqWireS at hm
  have hS := St.start w
  refine WP.seq ?_
  refine WP.region ?_
  refine RW.run ttok 1 rfl ?_
  refine RW.nil ?_
  refine WP.seq ?_
  refine WP.seq ?_
  refine WP.region ?_
  refine RW.run ttok 5 rfl ?_
  refine RW.nil ?_
  refine WP.cond ((x0.length : Int) != (x1.length : Int)) rfl (fun hc => ?_) (fun hc => ?_)
  · skip
    rw [if_pos hc] at hm
    refine WP.seq ?_
    refine WP.region ?_
    refine RW.run ttok 1 rfl ?_
    refine RW.nil ?_
    refine WP.ret ?_
    cases hm
    exact ⟨_, .cons (.tmp rfl) .nil, rfl, hS⟩
  · skip
    rw [if_neg (not_t hc)] at hm
    refine WP.skip ?_
    refine WP.seq ?_
    refine WP.seq ?_
    refine WP.region ?_
    refine RW.run ttok 1 rfl ?_
    refine RW.nil ?_
    obtain ⟨o10, hl11, hm⟩ := bind_some hm
    refine WP.cut (fun (t2 : Unit) F w9 => o10 = .inl t2 ∧ Ext w w9 ∧ St w w9 [] ∧ F = []) ?_ ?_
    · skip
      rintro t2 F w7 ⟨ho13, hE6, hS12, rfl⟩
      subst ho13
      rw [aft_inl] at hm
      unfold m_laws_eqWireS_j1 at hm
      refine WP.seq ?_
      refine WP.region ?_
      refine RW.run ttok 1 rfl ?_
      refine RW.nil ?_
      refine WP.ret ?_
      cases hm
      exact ⟨_, .cons (.tmp rfl) .nil, rfl, hS12⟩
    · skip
      refine WP.block ?_
      refine WP.weak [(0, .slice A0_ x0.length k0_), (1, .slice A1_ x1.length k1_), (5, .int .i64 0)] ⟨rfl, rfl, rfl, trivial⟩ ?_
      refine WP.iter (fun (s1 : Int) F w9 => Ext w w9 ∧ St w w9 [] ∧ F = [(0, .slice A0_ x0.length k0_), (1, .slice A1_ x1.length k1_), (5, .int .i64 s1)]) _ hl11 ⟨(Ext.refl _), hS, rfl⟩ ?_
      rintro s1 F w18 _ o16 ⟨hE5, hS17, rfl⟩ hb14 ho15
      unfold m_laws_eqWireS_b1 at hb14
      refine WP.seq ?_
      refine WP.seq ?_
      refine WP.region ?_
      refine RW.run ttok 4 rfl ?_
      refine RW.nil ?_
      refine WP.cond (decide (s1 < (x0.length : Int))) rfl (fun hc => ?_) (fun hc => ?_)
      · skip
        rw [if_pos hc] at hb14
        refine WP.skip ?_
        refine WP.seq ?_
        refine WP.block ?_
        refine WP.seq ?_
        refine WP.drawnM 0 mixed 10 (by kernel_rfl) (by kernel_rfl) [([], 1023), ([], 1023), ([0, 1], 1020), ([2], 1019), ([], 1023), ([], 1023), ([4, 5], 975), ([6], 959), ([3, 7], 887), ([8], 767)] (by kernel_rfl) hS17.ext (fun hsk19 => ?_)
        have hS20 := hS17.step (Ext.draw _)
        refine DM.run (fuel := 6) ttok hsk19 [0, 1, 4, 5] 51 (by kernel_rfl) (by kernel_rfl) rfl ?_
        obtain ⟨x21, hx22, hb14⟩ := bind_some hb14
        refine DM.idx ttok (hE.trans hS17.ext) hsk19 2 55 (by kernel_rfl) (by kernel_rfl) (by kernel_rfl) (by kernel_rfl) rfl (by kernel_rfl) rfl rfl rfl rfl rfl rfl (by decide) rfl rfl h0_ (idx_some hx22).1 (idx_some hx22).2 rfl rfl (fun p23 es24 ha25 hr26 => ?_)
        have e27 := ty109_open hr26; subst e27
        refine DM.loadN ttok hsk19 3 63 (by kernel_rfl) (by kernel_rfl) (by kernel_rfl) (by kernel_rfl) rfl (by kernel_rfl) rfl rfl rfl rfl rfl (At.ext (hE.trans hS17.ext) ha25) rfl rfl rfl ?_
        obtain ⟨x28, hx29, hb14⟩ := bind_some hb14
        refine DM.idx ttok (hE.trans hS17.ext) hsk19 6 127 (by kernel_rfl) (by kernel_rfl) (by kernel_rfl) (by kernel_rfl) rfl (by kernel_rfl) rfl rfl rfl rfl rfl rfl (by decide) rfl rfl h1_ (idx_some hx29).1 (idx_some hx29).2 rfl rfl (fun p30 es31 ha32 hr33 => ?_)
        have e34 := ty109_open hr33; subst e34
        refine DM.loadN ttok hsk19 7 255 (by kernel_rfl) (by kernel_rfl) (by kernel_rfl) (by kernel_rfl) rfl (by kernel_rfl) rfl rfl rfl rfl rfl (At.ext (hE.trans hS17.ext) ha32) rfl rfl rfl ?_
        obtain ⟨r35, hx36, hb14⟩ := bind_some hb14
        refine DM.one hsk19 8 (by kernel_rfl) (LM.call hsk19 511 (by kernel_rfl) (by kernel_rfl) rfl rfl rfl rfl enters68 (laws_eqWire_ok (hE.trans hS20.ext) hr26 hr33 hx36) (fun v37 w38 hR39 => ?_))
        obtain ⟨rfl, hR40⟩ := hR39
        refine ⟨hR40.ext, ?_⟩
        have hS41 := hS20.join hR40
        refine DM.run (fuel := 0) ttok hsk19 [9] 1023 (by kernel_rfl) (by kernel_rfl) rfl ?_
        refine DM.weak [(0, .slice A0_ x0.length k0_), (1, .slice A1_ x1.length k1_), (5, .int .i64 s1), (26, .bool (!r35))] ⟨rfl, rfl, rfl, rfl, trivial⟩ ?_
        refine DM.done hsk19 (by kernel_rfl) ?_
        refine WP.cond (!r35) rfl (fun hc => ?_) (fun hc => ?_)
        · skip
          rw [if_pos hc] at hb14
          refine WP.seq ?_
          refine WP.region ?_
          refine RW.run ttok 1 rfl ?_
          refine RW.nil ?_
          refine WP.ret ?_
          cases hb14
          cases ho15
          have hm : some _ = some _ := hm
          cases hm
          exact ⟨_, .cons (.tmp rfl) .nil, rfl, hS41⟩
        · skip
          rw [if_neg (not_t hc)] at hb14
          refine WP.skip ?_
          refine WP.region ?_
          refine RW.run ttok 3 rfl ?_
          refine RW.nil ?_
          cases hb14
          exact ⟨_, [(0, .slice A0_ x0.length k0_), (1, .slice A1_ x1.length k1_), (5, .int .i64 (w64 (s1 + 1)))], ⟨rfl, rfl, rfl, trivial⟩, rfl, ((hE5.trans (Ext.draw _)).trans hR40.ext), hS41, rfl⟩
      · skip
        rw [if_neg (not_t hc)] at hb14
        refine WP.exit ?_
        cases hb14
        exact ⟨_, [], trivial, ho15, hE5, hS17, rfl⟩

theorem enters69 : Enters Try.prog 69 := ⟨_, _, Try.func69, rfl, by kernel_rfl⟩
def m_laws_markInt64S_j1 (fuel : Nat) (t2 : Int × (List Int)) : Option (Int × (List Int)) := some (t2.1, t2.2)
def m_laws_markInt64S_b1 (fuel : Nat) (x0 : (List Int)) (s1 : Int × Int × (List Int)) : Option (Rd (Int × Int × (List Int)) (Int × (List Int)) (Int × (List Int))) := (if (decide (s1.2.1 < (x0.length : Int))) = true then (if decide (0 ≤ s1.2.1 ∧ s1.2.1.toNat < s1.2.2.length) = true then some (.next (w64 (s1.1 + 1), w64 (s1.2.1 + 1), (s1.2.2.set s1.2.1.toNat s1.1))) else none) else some (.brk (s1.1, s1.2.2)))
def m_laws_markInt64S (fuel : Nat) (x0 : (List Int)) (x1 : Int) : Option (Int × (List Int)) := ((iter (m_laws_markInt64S_b1 fuel x0) fuel (x1, 0, x0)).bind fun o => aft o (m_laws_markInt64S_j1 fuel))

set_option maxRecDepth 100000 in
theorem laws_markInt64S_ok {W w : World} {RR : List Res} {A0_ : Option Addr} {k0_ : Nat} {x0 : (List Int)} {x1 : Int} (hS : St W w (Own ty103 [.slice A0_ x0.length k0_] x0 :: RR)) {fuel : Nat} {r : Int × (List Int)} (hm : m_laws_markInt64S fuel x0 x1 = some r) :
    Calls Try.prog 69 ⟨[.slice A0_ x0.length k0_, .int .i64 x1]⟩ w (Ret fun v w8 => v = .int .i64 r.1 ∧ St W w8 (Own ty103 [.slice A0_ x0.length k0_] r.2 :: RR)) := by
  refine Calls.into Try.func69 rfl 19 rfl rfl _ rfl ?_
  unfold m_laws_markInt64S at hm
  refine WP.seq ?_
  refine WP.region ?_
  refine RW.run ttok 1 rfl ?_
  refine RW.nil ?_
  refine WP.seq ?_
  refine WP.seq ?_
  refine WP.region ?_
  refine RW.run ttok 1 rfl ?_
  refine RW.nil ?_
  obtain ⟨o5, hl6, hm⟩ := bind_some hm
  refine WP.cut (fun (t2 : Int × (List Int)) F w9 => o5 = .inl t2 ∧ St W w9 (Own ty103 [.slice A0_ x0.length k0_] t2.2 :: RR) ∧ F = [(1, .int .i64 t2.1)]) ?_ ?_
  · skip
    rintro t2 F w4 ⟨ho10, hS7, rfl⟩
    subst ho10
    rw [aft_inl] at hm
    unfold m_laws_markInt64S_j1 at hm
    refine WP.seq ?_
    refine WP.region ?_
    refine RW.run ttok 2 rfl ?_
    refine RW.nil ?_
    refine WP.ret ?_
    cases hm
    exact ⟨_, .cons (.tmp rfl) .nil, rfl, hS7⟩
  · skip
    refine WP.block ?_
    refine WP.weak [(0, .slice A0_ x0.length k0_), (1, .int .i64 x1), (5, .int .i64 0)] ⟨rfl, rfl, rfl, trivial⟩ ?_
    refine WP.iter (fun (s1 : Int × Int × (List Int)) F w9 => St W w9 (Own ty103 [.slice A0_ x0.length k0_] s1.2.2 :: RR) ∧ F = [(0, .slice A0_ x0.length k0_), (1, .int .i64 s1.1), (5, .int .i64 s1.2.1)]) _ hl6 ⟨hS, rfl⟩ ?_
    rintro s1 F w15 _ o13 ⟨hS14, rfl⟩ hb11 ho12
    unfold m_laws_markInt64S_b1 at hb11
    refine WP.seq ?_
    refine WP.seq ?_
    refine WP.region ?_
    refine RW.run ttok 4 rfl ?_
    refine RW.nil ?_
    refine WP.cond (decide (s1.2.1 < (x0.length : Int))) rfl (fun hc => ?_) (fun hc => ?_)
    · skip
      rw [if_pos hc] at hb11
      refine WP.skip ?_
      refine WP.seq ?_
      refine WP.block ?_
      refine WP.seq ?_
      refine WP.region ?_
      refine RW.run ttok 3 rfl ?_
      have hS16 := hS14.bring 0 rfl
      by_cases hk17 : decide (0 ≤ s1.2.1 ∧ s1.2.1.toNat < s1.2.2.length) = true
      case neg => rw [if_neg hk17] at hb11; cases hb11
      rw [if_pos hk17] at hb11
      have hb18 := of_decide_eq_true hk17
      refine RW.idxOwnN ttok hS16 rfl rfl rfl rfl rfl rfl rfl rfl hb18.1 hb18.2 rfl rfl (fun q19 hq20 => ?_)
      have hS21 := hS16.flat (T := tInt) (cs := [.int .i64 s1.1]) (x := s1.1) ⟨rfl, rfl⟩
      have hS22 := hS21.bring 1 rfl
      refine RW.storeElN ttok hS22 rfl rfl rfl rfl rfl rfl hb18.2 hq20 rfl rfl (fun w23 hS24 => ?_)
      refine RW.nil ?_
      refine WP.region ?_
      refine RW.run ttok 3 rfl ?_
      refine RW.nil ?_
      refine WP.region ?_
      refine RW.run ttok 3 rfl ?_
      refine RW.nil ?_
      cases hb11
      exact ⟨_, [(0, .slice A0_ x0.length k0_), (1, .int .i64 (w64 (s1.1 + 1))), (5, .int .i64 (w64 (s1.2.1 + 1)))], ⟨rfl, rfl, rfl, trivial⟩, rfl, hS24, rfl⟩
    · skip
      rw [if_neg (not_t hc)] at hb11
      refine WP.exit ?_
      cases hb11
      exact ⟨_, [(1, .int .i64 s1.1)], ⟨rfl, trivial⟩, ho12, hS14, rfl⟩

theorem enters70 : Enters Try.prog 70 := ⟨_, _, Try.func70, rfl, by kernel_rfl⟩
def m_laws_markPortS_j1 (fuel : Nat) (t2 : Int × (List D.Port)) : Option (Int × (List D.Port)) := some (t2.1, t2.2)
def m_laws_markPortS_b1 (fuel : Nat) (x0 : (List D.Port)) (s1 : Int × Int × (List D.Port)) : Option (Rd (Int × Int × (List D.Port)) (Int × (List D.Port)) (Int × (List D.Port))) := (if (decide (s1.2.1 < (x0.length : Int))) = true then ((idx s1.2.2 s1.2.1).bind fun x17 => some (.next (w64 ((w64 (s1.1 + 1)) + 1), w64 (s1.2.1 + 1), (s1.2.2.set s1.2.1.toNat (⟨s1.1, w64 (s1.1 + 1)⟩ : D.Port))))) else some (.brk (s1.1, s1.2.2)))
def m_laws_markPortS (fuel : Nat) (x0 : (List D.Port)) (x1 : Int) : Option (Int × (List D.Port)) := ((iter (m_laws_markPortS_b1 fuel x0) fuel (x1, 0, x0)).bind fun o => aft o (m_laws_markPortS_j1 fuel))

set_option maxRecDepth 100000 in
theorem laws_markPortS_ok {W w : World} {RR : List Res} {A0_ : Option Addr} {k0_ : Nat} {x0 : (List D.Port)} {x1 : Int} (hS : St W w (Own ty110 [.slice A0_ x0.length k0_] x0 :: RR)) {fuel : Nat} {r : Int × (List D.Port)} (hm : m_laws_markPortS fuel x0 x1 = some r) :
    Calls Try.prog 70 ⟨[.slice A0_ x0.length k0_, .int .i64 x1]⟩ w (Ret fun v w8 => v = .int .i64 r.1 ∧ St W w8 (Own ty110 [.slice A0_ x0.length k0_] r.2 :: RR)) := by
  refine Calls.into Try.func70 rfl 27 rfl rfl _ rfl ?_
  unfold m_laws_markPortS at hm
  refine WP.seq ?_
  refine WP.region ?_
  refine RW.run ttok 1 rfl ?_
  refine RW.nil ?_
  refine WP.seq ?_
  refine WP.seq ?_
  refine WP.region ?_
  refine RW.run ttok 1 rfl ?_
  refine RW.nil ?_
  obtain ⟨o5, hl6, hm⟩ := bind_some hm
  refine WP.cut (fun (t2 : Int × (List D.Port)) F w9 => o5 = .inl t2 ∧ St W w9 (Own ty110 [.slice A0_ x0.length k0_] t2.2 :: RR) ∧ F = [(1, .int .i64 t2.1)]) ?_ ?_
  · skip
    rintro t2 F w4 ⟨ho10, hS7, rfl⟩
    subst ho10
    rw [aft_inl] at hm
    unfold m_laws_markPortS_j1 at hm
    refine WP.seq ?_
    refine WP.region ?_
    refine RW.run ttok 2 rfl ?_
    refine RW.nil ?_
    refine WP.ret ?_
    cases hm
    exact ⟨_, .cons (.tmp rfl) .nil, rfl, hS7⟩
  · skip
    refine WP.block ?_
    refine WP.weak [(0, .slice A0_ x0.length k0_), (1, .int .i64 x1), (5, .int .i64 0)] ⟨rfl, rfl, rfl, trivial⟩ ?_
    refine WP.iter (fun (s1 : Int × Int × (List D.Port)) F w9 => St W w9 (Own ty110 [.slice A0_ x0.length k0_] s1.2.2 :: RR) ∧ F = [(0, .slice A0_ x0.length k0_), (1, .int .i64 s1.1), (5, .int .i64 s1.2.1)]) _ hl6 ⟨hS, rfl⟩ ?_
    rintro s1 F w15 _ o13 ⟨hS14, rfl⟩ hb11 ho12
    unfold m_laws_markPortS_b1 at hb11
    refine WP.seq ?_
    refine WP.seq ?_
    refine WP.region ?_
    refine RW.run ttok 4 rfl ?_
    refine RW.nil ?_
    refine WP.cond (decide (s1.2.1 < (x0.length : Int))) rfl (fun hc => ?_) (fun hc => ?_)
    · skip
      rw [if_pos hc] at hb11
      refine WP.skip ?_
      refine WP.seq ?_
      refine WP.block ?_
      refine WP.seq ?_
      refine WP.region ?_
      refine RW.run ttok 3 rfl ?_
      have hS16 := hS14.bring 0 rfl
      obtain ⟨x17, hx18, hb11⟩ := bind_some hb11
      refine RW.focus ttok hS16 rfl rfl rfl rfl rfl rfl rfl rfl (idx_some hx18).1 (idx_some hx18).2 rfl rfl (fun q19 es20 hq21 hS22 => ?_)
      obtain ⟨e24, hS23⟩ := ty38_openS (hS22.bring 1 rfl); subst e24
      refine RW.run ttok 1 rfl ?_
      have hS25 := hS23.bring 0 rfl
      refine RW.storeHoleN ttok hS25 hq21 rfl rfl rfl rfl rfl 0 rfl rfl rfl rfl rfl (fun w26 hS27 => ?_)
      refine RW.nil ?_
      refine WP.seq ?_
      refine WP.region ?_
      refine RW.run ttok 3 rfl ?_
      refine RW.nil ?_
      refine WP.seq ?_
      refine WP.region ?_
      refine RW.run ttok 3 rfl ?_
      refine RW.idxAgain ttok (hS27.bring 0 rfl) rfl rfl rfl rfl rfl rfl rfl rfl (idx_some hx18).1 rfl rfl (fun q28 hq29 => ?_)
      refine RW.run ttok 1 rfl ?_
      have hS30 := hS27.bring 0 rfl
      refine RW.storeHoleN ttok hS30 hq29 rfl rfl rfl rfl rfl 1 rfl rfl rfl rfl rfl (fun w31 hS32 => ?_)
      refine RW.nil ?_
      refine WP.region ?_
      refine RW.run ttok 3 rfl ?_
      refine RW.nil ?_
      refine WP.region ?_
      refine RW.run ttok 3 rfl ?_
      refine RW.nil ?_
      have hS33 := ty38_shutS (c := (⟨s1.1, w64 (s1.1 + 1)⟩ : D.Port)) (B := _) hS32
      have hS34 := hS33.bring 1 rfl
      have hS35 := St.unfocusN hS34
      cases hb11
      exact ⟨_, [(0, .slice A0_ x0.length k0_), (1, .int .i64 (w64 ((w64 (s1.1 + 1)) + 1))), (5, .int .i64 (w64 (s1.2.1 + 1)))], ⟨rfl, rfl, rfl, trivial⟩, rfl, hS35, rfl⟩
    · skip
      rw [if_neg (not_t hc)] at hb11
      refine WP.exit ?_
      cases hb11
      exact ⟨_, [(1, .int .i64 s1.1)], ⟨rfl, trivial⟩, ho12, hS14, rfl⟩

theorem enters28 : Enters Try.prog 28 := ⟨_, _, Try.func28, rfl, by kernel_rfl⟩
def m_laws_markAgentS_j1 (fuel : Nat) (t2 : Int × (List D.Agent)) : Option (Int × (List D.Agent)) := some (t2.1, t2.2)
def m_laws_markAgentS_b1 (fuel : Nat) (x0 : (List D.Agent)) (s1 : Int × Int × (List D.Agent)) : Option (Rd (Int × Int × (List D.Agent)) (Int × (List D.Agent)) (Int × (List D.Agent))) := (if (decide (s1.2.1 < (x0.length : Int))) = true then ((idx s1.2.2 s1.2.1).bind fun x17 => ((m_laws_markInt64S fuel x17.Data (w64 ((w64 ((w64 (s1.1 + 1)) + 1)) + 1))).bind fun r44 => ((m_laws_markPortS fuel x17.Ports r44.1).bind fun r52 => some (.next (r52.1, w64 (s1.2.1 + 1), (s1.2.2.set s1.2.1.toNat (⟨s1.1, w64 (s1.1 + 1), w64 ((w64 (s1.1 + 1)) + 1), r44.2, r52.2⟩ : D.Agent))))))) else some (.brk (s1.1, s1.2.2)))
def m_laws_markAgentS (fuel : Nat) (x0 : (List D.Agent)) (x1 : Int) : Option (Int × (List D.Agent)) := ((iter (m_laws_markAgentS_b1 fuel x0) fuel (x1, 0, x0)).bind fun o => aft o (m_laws_markAgentS_j1 fuel))

set_option maxRecDepth 100000 in
theorem laws_markAgentS_ok {W w : World} {RR : List Res} {A0_ : Option Addr} {k0_ : Nat} {x0 : (List D.Agent)} {x1 : Int} (hS : St W w (Own ty28 [.slice A0_ x0.length k0_] x0 :: RR)) {fuel : Nat} {r : Int × (List D.Agent)} (hm : m_laws_markAgentS fuel x0 x1 = some r) :
    Calls Try.prog 28 ⟨[.slice A0_ x0.length k0_, .int .i64 x1]⟩ w (Ret fun v w8 => v = .int .i64 r.1 ∧ St W w8 (Own ty28 [.slice A0_ x0.length k0_] r.2 :: RR)) := by
  refine Calls.into Try.func28 rfl 48 rfl rfl _ rfl ?_
  unfold m_laws_markAgentS at hm
  refine WP.seq ?_
  refine WP.region ?_
  refine RW.run ttok 1 rfl ?_
  refine RW.nil ?_
  refine WP.seq ?_
  refine WP.seq ?_
  refine WP.region ?_
  refine RW.run ttok 1 rfl ?_
  refine RW.nil ?_
  obtain ⟨o5, hl6, hm⟩ := bind_some hm
  refine WP.cut (fun (t2 : Int × (List D.Agent)) F w9 => o5 = .inl t2 ∧ St W w9 (Own ty28 [.slice A0_ x0.length k0_] t2.2 :: RR) ∧ F = [(1, .int .i64 t2.1)]) ?_ ?_
  · skip
    rintro t2 F w4 ⟨ho10, hS7, rfl⟩
    subst ho10
    rw [aft_inl] at hm
    unfold m_laws_markAgentS_j1 at hm
    refine WP.seq ?_
    refine WP.region ?_
    refine RW.run ttok 2 rfl ?_
    refine RW.nil ?_
    refine WP.ret ?_
    cases hm
    exact ⟨_, .cons (.tmp rfl) .nil, rfl, hS7⟩
  · skip
    refine WP.block ?_
    refine WP.weak [(0, .slice A0_ x0.length k0_), (1, .int .i64 x1), (5, .int .i64 0)] ⟨rfl, rfl, rfl, trivial⟩ ?_
    refine WP.iter (fun (s1 : Int × Int × (List D.Agent)) F w9 => St W w9 (Own ty28 [.slice A0_ x0.length k0_] s1.2.2 :: RR) ∧ F = [(0, .slice A0_ x0.length k0_), (1, .int .i64 s1.1), (5, .int .i64 s1.2.1)]) _ hl6 ⟨hS, rfl⟩ ?_
    rintro s1 F w15 _ o13 ⟨hS14, rfl⟩ hb11 ho12
    unfold m_laws_markAgentS_b1 at hb11
    refine WP.seq ?_
    refine WP.seq ?_
    refine WP.region ?_
    refine RW.run ttok 4 rfl ?_
    refine RW.nil ?_
    refine WP.cond (decide (s1.2.1 < (x0.length : Int))) rfl (fun hc => ?_) (fun hc => ?_)
    · skip
      rw [if_pos hc] at hb11
      refine WP.skip ?_
      refine WP.seq ?_
      refine WP.block ?_
      refine WP.seq ?_
      refine WP.region ?_
      refine RW.run ttok 3 rfl ?_
      have hS16 := hS14.bring 0 rfl
      obtain ⟨x17, hx18, hb11⟩ := bind_some hb11
      refine RW.focus ttok hS16 rfl rfl rfl rfl rfl rfl rfl rfl (idx_some hx18).1 (idx_some hx18).2 rfl rfl (fun q19 es20 hq21 hS22 => ?_)
      obtain ⟨A25, k26, A27, k28, e24, hS23⟩ := ty112_openS (hS22.bring 1 rfl); subst e24
      refine RW.run ttok 1 rfl ?_
      have hS29 := hS23.bring 2 rfl
      refine RW.storeHoleN ttok hS29 hq21 rfl rfl rfl rfl rfl 0 rfl rfl rfl rfl rfl (fun w30 hS31 => ?_)
      refine RW.nil ?_
      refine WP.seq ?_
      refine WP.region ?_
      refine RW.run ttok 3 rfl ?_
      refine RW.nil ?_
      refine WP.seq ?_
      refine WP.region ?_
      refine RW.run ttok 3 rfl ?_
      refine RW.idxAgain ttok (hS31.bring 0 rfl) rfl rfl rfl rfl rfl rfl rfl rfl (idx_some hx18).1 rfl rfl (fun q32 hq33 => ?_)
      refine RW.run ttok 1 rfl ?_
      have hS34 := hS31.bring 0 rfl
      refine RW.storeHoleN ttok hS34 hq33 rfl rfl rfl rfl rfl 1 rfl rfl rfl rfl rfl (fun w35 hS36 => ?_)
      refine RW.nil ?_
      refine WP.seq ?_
      refine WP.region ?_
      refine RW.run ttok 3 rfl ?_
      refine RW.nil ?_
      refine WP.seq ?_
      refine WP.region ?_
      refine RW.run ttok 3 rfl ?_
      refine RW.idxAgain ttok (hS36.bring 0 rfl) rfl rfl rfl rfl rfl rfl rfl rfl (idx_some hx18).1 rfl rfl (fun q37 hq38 => ?_)
      refine RW.run ttok 1 rfl ?_
      have hS39 := hS36.bring 0 rfl
      refine RW.storeHoleN ttok hS39 hq38 rfl rfl rfl rfl rfl 2 rfl rfl rfl rfl rfl (fun w40 hS41 => ?_)
      refine RW.nil ?_
      refine WP.seq ?_
      refine WP.region ?_
      refine RW.run ttok 3 rfl ?_
      refine RW.nil ?_
      refine WP.seq ?_
      refine WP.region ?_
      refine RW.run ttok 2 rfl ?_
      refine RW.idxAgain ttok (hS41.bring 0 rfl) rfl rfl rfl rfl rfl rfl rfl rfl (idx_some hx18).1 rfl rfl (fun q42 hq43 => ?_)
      refine RW.run ttok 1 rfl ?_
      refine RW.load1 ttok rfl rfl rfl rfl rfl ((hS41.bring 0 rfl).hole_atN hq43) 3 rfl rfl rfl rfl ?_
      refine RW.run ttok 1 rfl ?_
      obtain ⟨r44, hx45, hb11⟩ := bind_some hb11
      refine RW.call rfl rfl rfl enters69 (laws_markInt64S_ok (W := W) (RR := _) (x0 := x17.Data) (x1 := w64 ((w64 ((w64 (s1.1 + 1)) + 1)) + 1)) (hS41.bring 1 rfl)  hx45) (fun v46 w47 hR48 => ?_)
      obtain ⟨rfl, hS49⟩ := hR48
      refine RW.run ttok 1 rfl ?_
      refine RW.nil ?_
      refine WP.region ?_
      refine RW.run ttok 2 rfl ?_
      refine RW.idxAgain ttok (hS49.bring 1 rfl) rfl rfl rfl rfl rfl rfl rfl rfl (idx_some hx18).1 rfl rfl (fun q50 hq51 => ?_)
      refine RW.run ttok 1 rfl ?_
      refine RW.load1 ttok rfl rfl rfl rfl rfl ((hS49.bring 1 rfl).hole_atN hq51) 4 rfl rfl rfl rfl ?_
      refine RW.run ttok 1 rfl ?_
      obtain ⟨r52, hx53, hb11⟩ := bind_some hb11
      refine RW.call rfl rfl rfl enters70 (laws_markPortS_ok (W := W) (RR := _) (x0 := x17.Ports) (x1 := r44.1) (hS49.bring 2 rfl)  hx53) (fun v54 w55 hR56 => ?_)
      obtain ⟨rfl, hS57⟩ := hR56
      refine RW.run ttok 1 rfl ?_
      refine RW.nil ?_
      refine WP.region ?_
      refine RW.run ttok 3 rfl ?_
      refine RW.nil ?_
      have hn58 := (hS57.bring 1 rfl).lenEq
      have hS59 := (hS57.bring 1 rfl).reLen hn58
      have hS60 := (hS59.bring 2 rfl).reHole (es' := [.int .i64 s1.1, .int .i64 (w64 (s1.1 + 1)), .int .i64 (w64 ((w64 (s1.1 + 1)) + 1)), .slice A25 r44.2.length k26, .slice A27 x17.Ports.length k28]) (by show ([.int .i64 s1.1, .int .i64 (w64 (s1.1 + 1)), .int .i64 (w64 ((w64 (s1.1 + 1)) + 1)), .slice A25 x17.Data.length k26, .slice A27 x17.Ports.length k28] : List Value) = [.int .i64 s1.1, .int .i64 (w64 (s1.1 + 1)), .int .i64 (w64 ((w64 (s1.1 + 1)) + 1)), .slice A25 r44.2.length k26, .slice A27 x17.Ports.length k28]; first | (simp only [hn58]; done) | (simp only [hn58]; rfl))
      have hn61 := (hS60.bring 2 rfl).lenEq
      have hS62 := (hS60.bring 2 rfl).reLen hn61
      have hS63 := (hS62.bring 1 rfl).reHole (es' := [.int .i64 s1.1, .int .i64 (w64 (s1.1 + 1)), .int .i64 (w64 ((w64 (s1.1 + 1)) + 1)), .slice A25 r44.2.length k26, .slice A27 r52.2.length k28]) (by show ([.int .i64 s1.1, .int .i64 (w64 (s1.1 + 1)), .int .i64 (w64 ((w64 (s1.1 + 1)) + 1)), .slice A25 r44.2.length k26, .slice A27 x17.Ports.length k28] : List Value) = [.int .i64 s1.1, .int .i64 (w64 (s1.1 + 1)), .int .i64 (w64 ((w64 (s1.1 + 1)) + 1)), .slice A25 r44.2.length k26, .slice A27 r52.2.length k28]; first | (simp only [hn61]; done) | (simp only [hn61]; rfl))
      have h65 := (show ty103.ro _ [.slice A25 x17.Data.length k26] r44.2 from (Eq.symm hn58) ▸ ((hS63.bring 2 rfl).own))
      have h66 := (show ty110.ro _ [.slice A27 x17.Ports.length k28] r52.2 from (Eq.symm hn61) ▸ ((hS63.bring 1 rfl).own))
      have hS67 := hS63.bring 1 rfl
      have hS68 := hS67.bring 2 rfl
      have hS69 := ty112_shutS (c := (⟨s1.1, w64 (s1.1 + 1), w64 ((w64 (s1.1 + 1)) + 1), r44.2, r52.2⟩ : D.Agent)) (B := _) hS68
      have hS70 := hS69.bring 1 rfl
      have hS71 := St.unfocusN hS70
      cases hb11
      exact ⟨_, [(0, .slice A0_ x0.length k0_), (1, .int .i64 r52.1), (5, .int .i64 (w64 (s1.2.1 + 1)))], ⟨rfl, rfl, rfl, trivial⟩, rfl, hS71, rfl⟩
    · skip
      rw [if_neg (not_t hc)] at hb11
      refine WP.exit ?_
      cases hb11
      exact ⟨_, [(1, .int .i64 s1.1)], ⟨rfl, trivial⟩, ho12, hS14, rfl⟩

theorem enters29 : Enters Try.prog 29 := ⟨_, _, Try.func29, rfl, by kernel_rfl⟩
def m_laws_markWireS_j1 (fuel : Nat) (t2 : Int × (List D.Wire)) : Option (Int × (List D.Wire)) := some (t2.1, t2.2)
def m_laws_markWireS_b1 (fuel : Nat) (x0 : (List D.Wire)) (s1 : Int × Int × (List D.Wire)) : Option (Rd (Int × Int × (List D.Wire)) (Int × (List D.Wire)) (Int × (List D.Wire))) := (if (decide (s1.2.1 < (x0.length : Int))) = true then ((idx s1.2.2 s1.2.1).bind fun x17 => some (.next (w64 ((w64 ((w64 ((w64 (s1.1 + 1)) + 1)) + 1)) + 1), w64 (s1.2.1 + 1), (s1.2.2.set s1.2.1.toNat (⟨(⟨s1.1, w64 (s1.1 + 1)⟩ : D.Port), (⟨w64 ((w64 (s1.1 + 1)) + 1), w64 ((w64 ((w64 (s1.1 + 1)) + 1)) + 1)⟩ : D.Port)⟩ : D.Wire))))) else some (.brk (s1.1, s1.2.2)))
def m_laws_markWireS (fuel : Nat) (x0 : (List D.Wire)) (x1 : Int) : Option (Int × (List D.Wire)) := ((iter (m_laws_markWireS_b1 fuel x0) fuel (x1, 0, x0)).bind fun o => aft o (m_laws_markWireS_j1 fuel))

set_option maxRecDepth 100000 in
theorem laws_markWireS_ok {W w : World} {RR : List Res} {A0_ : Option Addr} {k0_ : Nat} {x0 : (List D.Wire)} {x1 : Int} (hS : St W w (Own ty47 [.slice A0_ x0.length k0_] x0 :: RR)) {fuel : Nat} {r : Int × (List D.Wire)} (hm : m_laws_markWireS fuel x0 x1 = some r) :
    Calls Try.prog 29 ⟨[.slice A0_ x0.length k0_, .int .i64 x1]⟩ w (Ret fun v w8 => v = .int .i64 r.1 ∧ St W w8 (Own ty47 [.slice A0_ x0.length k0_] r.2 :: RR)) := by
  refine Calls.into Try.func29 rfl 45 rfl rfl _ rfl ?_
  unfold m_laws_markWireS at hm
  refine WP.seq ?_
  refine WP.region ?_
  refine RW.run ttok 1 rfl ?_
  refine RW.nil ?_
  refine WP.seq ?_
  refine WP.seq ?_
  refine WP.region ?_
  refine RW.run ttok 1 rfl ?_
  refine RW.nil ?_
  obtain ⟨o5, hl6, hm⟩ := bind_some hm
  refine WP.cut (fun (t2 : Int × (List D.Wire)) F w9 => o5 = .inl t2 ∧ St W w9 (Own ty47 [.slice A0_ x0.length k0_] t2.2 :: RR) ∧ F = [(1, .int .i64 t2.1)]) ?_ ?_
  · skip
    rintro t2 F w4 ⟨ho10, hS7, rfl⟩
    subst ho10
    rw [aft_inl] at hm
    unfold m_laws_markWireS_j1 at hm
    refine WP.seq ?_
    refine WP.region ?_
    refine RW.run ttok 2 rfl ?_
    refine RW.nil ?_
    refine WP.ret ?_
    cases hm
    exact ⟨_, .cons (.tmp rfl) .nil, rfl, hS7⟩
  · skip
    refine WP.block ?_
    refine WP.weak [(0, .slice A0_ x0.length k0_), (1, .int .i64 x1), (5, .int .i64 0)] ⟨rfl, rfl, rfl, trivial⟩ ?_
    refine WP.iter (fun (s1 : Int × Int × (List D.Wire)) F w9 => St W w9 (Own ty47 [.slice A0_ x0.length k0_] s1.2.2 :: RR) ∧ F = [(0, .slice A0_ x0.length k0_), (1, .int .i64 s1.1), (5, .int .i64 s1.2.1)]) _ hl6 ⟨hS, rfl⟩ ?_
    rintro s1 F w15 _ o13 ⟨hS14, rfl⟩ hb11 ho12
    unfold m_laws_markWireS_b1 at hb11
    refine WP.seq ?_
    refine WP.seq ?_
    refine WP.region ?_
    refine RW.run ttok 4 rfl ?_
    refine RW.nil ?_
    refine WP.cond (decide (s1.2.1 < (x0.length : Int))) rfl (fun hc => ?_) (fun hc => ?_)
    · skip
      rw [if_pos hc] at hb11
      refine WP.skip ?_
      refine WP.seq ?_
      refine WP.block ?_
      refine WP.seq ?_
      refine WP.region ?_
      refine RW.run ttok 3 rfl ?_
      have hS16 := hS14.bring 0 rfl
      obtain ⟨x17, hx18, hb11⟩ := bind_some hb11
      refine RW.focus ttok hS16 rfl rfl rfl rfl rfl rfl rfl rfl (idx_some hx18).1 (idx_some hx18).2 rfl rfl (fun q19 es20 hq21 hS22 => ?_)
      obtain ⟨e24, hS23⟩ := ty109_openS (hS22.bring 1 rfl); subst e24
      refine RW.run ttok 2 rfl ?_
      have hS25 := hS23.bring 0 rfl
      refine RW.storeHoleN ttok hS25 hq21 rfl rfl rfl rfl rfl 0 rfl rfl rfl rfl rfl (fun w26 hS27 => ?_)
      refine RW.nil ?_
      refine WP.seq ?_
      refine WP.region ?_
      refine RW.run ttok 3 rfl ?_
      refine RW.nil ?_
      refine WP.seq ?_
      refine WP.region ?_
      refine RW.run ttok 3 rfl ?_
      refine RW.idxAgain ttok (hS27.bring 0 rfl) rfl rfl rfl rfl rfl rfl rfl rfl (idx_some hx18).1 rfl rfl (fun q28 hq29 => ?_)
      refine RW.run ttok 2 rfl ?_
      have hS30 := hS27.bring 0 rfl
      refine RW.storeHoleN ttok hS30 hq29 rfl rfl rfl rfl rfl 1 rfl rfl rfl rfl rfl (fun w31 hS32 => ?_)
      refine RW.nil ?_
      refine WP.seq ?_
      refine WP.region ?_
      refine RW.run ttok 3 rfl ?_
      refine RW.nil ?_
      refine WP.seq ?_
      refine WP.region ?_
      refine RW.run ttok 3 rfl ?_
      refine RW.idxAgain ttok (hS32.bring 0 rfl) rfl rfl rfl rfl rfl rfl rfl rfl (idx_some hx18).1 rfl rfl (fun q33 hq34 => ?_)
      refine RW.run ttok 2 rfl ?_
      have hS35 := hS32.bring 0 rfl
      refine RW.storeHoleN ttok hS35 hq34 rfl rfl rfl rfl rfl 2 rfl rfl rfl rfl rfl (fun w36 hS37 => ?_)
      refine RW.nil ?_
      refine WP.seq ?_
      refine WP.region ?_
      refine RW.run ttok 3 rfl ?_
      refine RW.nil ?_
      refine WP.seq ?_
      refine WP.region ?_
      refine RW.run ttok 3 rfl ?_
      refine RW.idxAgain ttok (hS37.bring 0 rfl) rfl rfl rfl rfl rfl rfl rfl rfl (idx_some hx18).1 rfl rfl (fun q38 hq39 => ?_)
      refine RW.run ttok 2 rfl ?_
      have hS40 := hS37.bring 0 rfl
      refine RW.storeHoleN ttok hS40 hq39 rfl rfl rfl rfl rfl 3 rfl rfl rfl rfl rfl (fun w41 hS42 => ?_)
      refine RW.nil ?_
      refine WP.region ?_
      refine RW.run ttok 3 rfl ?_
      refine RW.nil ?_
      refine WP.region ?_
      refine RW.run ttok 3 rfl ?_
      refine RW.nil ?_
      have hS43 := ty109_shutS (c := (⟨(⟨s1.1, w64 (s1.1 + 1)⟩ : D.Port), (⟨w64 ((w64 (s1.1 + 1)) + 1), w64 ((w64 ((w64 (s1.1 + 1)) + 1)) + 1)⟩ : D.Port)⟩ : D.Wire)) (B := _) hS42
      have hS44 := hS43.bring 1 rfl
      have hS45 := St.unfocusN hS44
      cases hb11
      exact ⟨_, [(0, .slice A0_ x0.length k0_), (1, .int .i64 (w64 ((w64 ((w64 ((w64 (s1.1 + 1)) + 1)) + 1)) + 1))), (5, .int .i64 (w64 (s1.2.1 + 1)))], ⟨rfl, rfl, rfl, trivial⟩, rfl, hS45, rfl⟩
    · skip
      rw [if_neg (not_t hc)] at hb11
      refine WP.exit ?_
      cases hb11
      exact ⟨_, [(1, .int .i64 s1.1)], ⟨rfl, trivial⟩, ho12, hS14, rfl⟩

theorem enters18 : Enters Try.prog 18 := ⟨_, _, Try.func18, rfl, by kernel_rfl⟩
def m_laws_markNet (fuel : Nat) (x0 : D.Net) (x1 : Int) : Option (Int × (List D.Agent)) := ((m_laws_markAgentS fuel x0.Agents x1).bind fun r5 => some (r5.1, r5.2))

set_option maxRecDepth 100000 in
theorem laws_markNet_ok {W w : World} {RR : List Res} {x0 : D.Net} {A0_0 : Option Addr} {k0_0 : Nat} {x1 : Int} (hS : St W w (Own ty28 [.slice A0_0 x0.Agents.length k0_0] x0.Agents :: RR)) {fuel : Nat} {r : Int × (List D.Agent)} (hm : m_laws_markNet fuel x0 x1 = some r) :
    Calls Try.prog 18 ⟨[.agg ⟨[.slice A0_0 x0.Agents.length k0_0]⟩, .int .i64 x1]⟩ w (Ret fun v w8 => v = .int .i64 r.1 ∧ St W w8 (Own ty28 [.slice A0_0 x0.Agents.length k0_0] r.2 :: RR)) := by
  refine Calls.into Try.func18 rfl 10 rfl rfl _ rfl ?_
  unfold m_laws_markNet at hm
  refine WP.seq ?_
  refine WP.region ?_
  refine RW.new ttok hS rfl rfl rfl rfl (fun g1 w2 e3 hS4 => ?_)
  refine RW.run ttok 1 rfl ?_
  refine RW.nil ?_
  refine WP.seq ?_
  refine WP.region ?_
  refine RW.run ttok 1 rfl ?_
  refine RW.load1 ttok rfl rfl rfl rfl rfl ((hS4.bring 0 rfl).box) 0 rfl rfl rfl rfl ?_
  refine RW.run ttok 1 rfl ?_
  obtain ⟨r5, hx6, hm⟩ := bind_some hm
  refine RW.call rfl rfl rfl enters28 (laws_markAgentS_ok (W := W) (RR := _) (x0 := x0.Agents) (x1 := x1) (hS4.bring 1 rfl)  hx6) (fun v7 w10 hR11 => ?_)
  obtain ⟨rfl, hS12⟩ := hR11
  refine RW.run ttok 1 rfl ?_
  refine RW.nil ?_
  refine WP.seq ?_
  refine WP.region ?_
  refine RW.run ttok 2 rfl ?_
  refine RW.nil ?_
  refine WP.ret ?_
  cases hm
  exact ⟨_, .cons (.tmp rfl) .nil, rfl, (hS12.bring 1 rfl).drop⟩

theorem enters118 : Enters Try.prog 118 := ⟨_, _, Try.func118, rfl, by kernel_rfl⟩
def m_laws_heldInt64S_j1 (fuel : Nat) (t2 : Int) : Option Int := some t2
def m_laws_heldInt64S_b1 (fuel : Nat) (x0 : (List Int)) (s1 : Int × Int) : Option (Rd (Int × Int) (Int) (Int)) := (if (decide (s1.2 < (x0.length : Int))) = true then ((idx x0 s1.2).bind fun x19 => (if (x19 != s1.1) = true then some (.ret (-1)) else some (.next (w64 (s1.1 + 1), w64 (s1.2 + 1))))) else some (.brk s1.1))
def m_laws_heldInt64S (fuel : Nat) (x0 : (List Int)) (x1 : Int) : Option (Int) := ((iter (m_laws_heldInt64S_b1 fuel x0) fuel (x1, 0)).bind fun o => aft o (m_laws_heldInt64S_j1 fuel))

set_option maxRecDepth 100000 in
theorem laws_heldInt64S_ok {W w : World} (hE : Ext W w) {A0_ : Option Addr} {k0_ : Nat} {x0 : (List Int)} {x1 : Int} (h0_ : ty103.ro W [.slice A0_ x0.length k0_] x0) {fuel : Nat} {r : Int} (hm : m_laws_heldInt64S fuel x0 x1 = some r) :
    Calls Try.prog 118 ⟨[.slice A0_ x0.length k0_, .int .i64 x1]⟩ w (Ret fun v w8 => v = .int .i64 r ∧ St w w8 []) := by
  refine Calls.into Try.func118 rfl 21 rfl rfl _ rfl ?_
  unfold m_laws_heldInt64S at hm
  have hS := St.start w
  refine WP.seq ?_
  refine WP.region ?_
  refine RW.run ttok 1 rfl ?_
  refine RW.nil ?_
  refine WP.seq ?_
  refine WP.seq ?_
  refine WP.region ?_
  refine RW.run ttok 1 rfl ?_
  refine RW.nil ?_
  obtain ⟨o10, hl11, hm⟩ := bind_some hm
  refine WP.cut (fun (t2 : Int) F w9 => o10 = .inl t2 ∧ Ext w w9 ∧ St w w9 [] ∧ F = [(1, .int .i64 t2)]) ?_ ?_
  · skip
    rintro t2 F w7 ⟨ho13, hE6, hS12, rfl⟩
    subst ho13
    rw [aft_inl] at hm
    unfold m_laws_heldInt64S_j1 at hm
    refine WP.seq ?_
    refine WP.region ?_
    refine RW.run ttok 2 rfl ?_
    refine RW.nil ?_
    refine WP.ret ?_
    cases hm
    exact ⟨_, .cons (.tmp rfl) .nil, rfl, hS12⟩
  · skip
    refine WP.block ?_
    refine WP.weak [(0, .slice A0_ x0.length k0_), (1, .int .i64 x1), (5, .int .i64 0)] ⟨rfl, rfl, rfl, trivial⟩ ?_
    refine WP.iter (fun (s1 : Int × Int) F w9 => Ext w w9 ∧ St w w9 [] ∧ F = [(0, .slice A0_ x0.length k0_), (1, .int .i64 s1.1), (5, .int .i64 s1.2)]) _ hl11 ⟨(Ext.refl _), hS, rfl⟩ ?_
    rintro s1 F w18 _ o16 ⟨hE5, hS17, rfl⟩ hb14 ho15
    unfold m_laws_heldInt64S_b1 at hb14
    refine WP.seq ?_
    refine WP.seq ?_
    refine WP.region ?_
    refine RW.run ttok 4 rfl ?_
    refine RW.nil ?_
    refine WP.cond (decide (s1.2 < (x0.length : Int))) rfl (fun hc => ?_) (fun hc => ?_)
    · skip
      rw [if_pos hc] at hb14
      refine WP.skip ?_
      refine WP.seq ?_
      refine WP.block ?_
      refine WP.seq ?_
      refine WP.seq ?_
      refine WP.region ?_
      refine RW.run ttok 2 rfl ?_
      obtain ⟨x19, hx20, hb14⟩ := bind_some hb14
      refine RW.idx ttok (hE.trans hS17.ext) rfl rfl rfl rfl rfl rfl (by decide) rfl rfl h0_ (idx_some hx20).1 (idx_some hx20).2 rfl rfl (fun p21 es22 ha23 hr24 => ?_)
      cases hr24
      refine RW.load1 ttok rfl rfl rfl rfl rfl (At.ext (hE.trans hS17.ext) ha23) 0 rfl rfl rfl rfl ?_
      refine RW.run ttok 2 rfl ?_
      refine RW.nil ?_
      refine WP.cond (x19 != s1.1) rfl (fun hc => ?_) (fun hc => ?_)
      · skip
        rw [if_pos hc] at hb14
        refine WP.seq ?_
        refine WP.region ?_
        refine RW.run ttok 1 rfl ?_
        refine RW.nil ?_
        refine WP.ret ?_
        cases hb14
        cases ho15
        have hm : some _ = some _ := hm
        cases hm
        exact ⟨_, .cons (.tmp rfl) .nil, rfl, hS17⟩
      · skip
        rw [if_neg (not_t hc)] at hb14
        refine WP.skip ?_
        refine WP.region ?_
        refine RW.run ttok 3 rfl ?_
        refine RW.nil ?_
        refine WP.region ?_
        refine RW.run ttok 3 rfl ?_
        refine RW.nil ?_
        cases hb14
        exact ⟨_, [(0, .slice A0_ x0.length k0_), (1, .int .i64 (w64 (s1.1 + 1))), (5, .int .i64 (w64 (s1.2 + 1)))], ⟨rfl, rfl, rfl, trivial⟩, rfl, hE5, hS17, rfl⟩
    · skip
      rw [if_neg (not_t hc)] at hb14
      refine WP.exit ?_
      cases hb14
      exact ⟨_, [(1, .int .i64 s1.1)], ⟨rfl, trivial⟩, ho15, hE5, hS17, rfl⟩

theorem enters119 : Enters Try.prog 119 := ⟨_, _, Try.func119, rfl, by kernel_rfl⟩
def m_laws_heldPortS_j1 (fuel : Nat) (t2 : Int) : Option Int := some t2
def m_laws_heldPortS_b1 (fuel : Nat) (x0 : (List D.Port)) (s1 : Int × Int) : Option (Rd (Int × Int) (Int) (Int)) := (if (decide (s1.2 < (x0.length : Int))) = true then ((idx x0 s1.2).bind fun x19 => (if (x19.Agent != s1.1) = true then some (.ret (-1)) else ((idx x0 s1.2).bind fun x26 => (if (x26.Slot != (w64 (s1.1 + 1))) = true then some (.ret (-1)) else some (.next (w64 ((w64 (s1.1 + 1)) + 1), w64 (s1.2 + 1))))))) else some (.brk s1.1))
def m_laws_heldPortS (fuel : Nat) (x0 : (List D.Port)) (x1 : Int) : Option (Int) := ((iter (m_laws_heldPortS_b1 fuel x0) fuel (x1, 0)).bind fun o => aft o (m_laws_heldPortS_j1 fuel))

set_option maxRecDepth 100000 in
theorem laws_heldPortS_ok {W w : World} (hE : Ext W w) {A0_ : Option Addr} {k0_ : Nat} {x0 : (List D.Port)} {x1 : Int} (h0_ : ty110.ro W [.slice A0_ x0.length k0_] x0) {fuel : Nat} {r : Int} (hm : m_laws_heldPortS fuel x0 x1 = some r) :
    Calls Try.prog 119 ⟨[.slice A0_ x0.length k0_, .int .i64 x1]⟩ w (Ret fun v w8 => v = .int .i64 r ∧ St w w8 []) := by
  refine Calls.into Try.func119 rfl 31 rfl rfl _ rfl ?_
  unfold m_laws_heldPortS at hm
  have hS := St.start w
  refine WP.seq ?_
  refine WP.region ?_
  refine RW.run ttok 1 rfl ?_
  refine RW.nil ?_
  refine WP.seq ?_
  refine WP.seq ?_
  refine WP.region ?_
  refine RW.run ttok 1 rfl ?_
  refine RW.nil ?_
  obtain ⟨o10, hl11, hm⟩ := bind_some hm
  refine WP.cut (fun (t2 : Int) F w9 => o10 = .inl t2 ∧ Ext w w9 ∧ St w w9 [] ∧ F = [(1, .int .i64 t2)]) ?_ ?_
  · skip
    rintro t2 F w7 ⟨ho13, hE6, hS12, rfl⟩
    subst ho13
    rw [aft_inl] at hm
    unfold m_laws_heldPortS_j1 at hm
    refine WP.seq ?_
    refine WP.region ?_
    refine RW.run ttok 2 rfl ?_
    refine RW.nil ?_
    refine WP.ret ?_
    cases hm
    exact ⟨_, .cons (.tmp rfl) .nil, rfl, hS12⟩
  · skip
    refine WP.block ?_
    refine WP.weak [(0, .slice A0_ x0.length k0_), (1, .int .i64 x1), (5, .int .i64 0)] ⟨rfl, rfl, rfl, trivial⟩ ?_
    refine WP.iter (fun (s1 : Int × Int) F w9 => Ext w w9 ∧ St w w9 [] ∧ F = [(0, .slice A0_ x0.length k0_), (1, .int .i64 s1.1), (5, .int .i64 s1.2)]) _ hl11 ⟨(Ext.refl _), hS, rfl⟩ ?_
    rintro s1 F w18 _ o16 ⟨hE5, hS17, rfl⟩ hb14 ho15
    unfold m_laws_heldPortS_b1 at hb14
    refine WP.seq ?_
    refine WP.seq ?_
    refine WP.region ?_
    refine RW.run ttok 4 rfl ?_
    refine RW.nil ?_
    refine WP.cond (decide (s1.2 < (x0.length : Int))) rfl (fun hc => ?_) (fun hc => ?_)
    · skip
      rw [if_pos hc] at hb14
      refine WP.skip ?_
      refine WP.seq ?_
      refine WP.block ?_
      refine WP.seq ?_
      refine WP.seq ?_
      refine WP.region ?_
      refine RW.run ttok 2 rfl ?_
      obtain ⟨x19, hx20, hb14⟩ := bind_some hb14
      refine RW.idx ttok (hE.trans hS17.ext) rfl rfl rfl rfl rfl rfl (by decide) rfl rfl h0_ (idx_some hx20).1 (idx_some hx20).2 rfl rfl (fun p21 es22 ha23 hr24 => ?_)
      have e25 := ty38_open hr24; subst e25
      refine RW.run ttok 1 rfl ?_
      refine RW.load1 ttok rfl rfl rfl rfl rfl (At.ext (hE.trans hS17.ext) ha23) 0 rfl rfl rfl rfl ?_
      refine RW.run ttok 2 rfl ?_
      refine RW.nil ?_
      refine WP.cond (x19.Agent != s1.1) rfl (fun hc => ?_) (fun hc => ?_)
      · skip
        rw [if_pos hc] at hb14
        refine WP.seq ?_
        refine WP.region ?_
        refine RW.run ttok 1 rfl ?_
        refine RW.nil ?_
        refine WP.ret ?_
        cases hb14
        cases ho15
        have hm : some _ = some _ := hm
        cases hm
        exact ⟨_, .cons (.tmp rfl) .nil, rfl, hS17⟩
      · skip
        rw [if_neg (not_t hc)] at hb14
        refine WP.skip ?_
        refine WP.seq ?_
        refine WP.region ?_
        refine RW.run ttok 3 rfl ?_
        refine RW.nil ?_
        refine WP.seq ?_
        refine WP.seq ?_
        refine WP.region ?_
        refine RW.run ttok 2 rfl ?_
        obtain ⟨x26, hx27, hb14⟩ := bind_some hb14
        refine RW.idx ttok (hE.trans hS17.ext) rfl rfl rfl rfl rfl rfl (by decide) rfl rfl h0_ (idx_some hx27).1 (idx_some hx27).2 rfl rfl (fun p28 es29 ha30 hr31 => ?_)
        have e32 := ty38_open hr31; subst e32
        refine RW.run ttok 1 rfl ?_
        refine RW.load1 ttok rfl rfl rfl rfl rfl (At.ext (hE.trans hS17.ext) ha30) 1 rfl rfl rfl rfl ?_
        refine RW.run ttok 2 rfl ?_
        refine RW.nil ?_
        refine WP.cond (x26.Slot != (w64 (s1.1 + 1))) rfl (fun hc => ?_) (fun hc => ?_)
        · skip
          rw [if_pos hc] at hb14
          refine WP.seq ?_
          refine WP.region ?_
          refine RW.run ttok 1 rfl ?_
          refine RW.nil ?_
          refine WP.ret ?_
          cases hb14
          cases ho15
          have hm : some _ = some _ := hm
          cases hm
          exact ⟨_, .cons (.tmp rfl) .nil, rfl, hS17⟩
        · skip
          rw [if_neg (not_t hc)] at hb14
          refine WP.skip ?_
          refine WP.region ?_
          refine RW.run ttok 3 rfl ?_
          refine RW.nil ?_
          refine WP.region ?_
          refine RW.run ttok 3 rfl ?_
          refine RW.nil ?_
          cases hb14
          exact ⟨_, [(0, .slice A0_ x0.length k0_), (1, .int .i64 (w64 ((w64 (s1.1 + 1)) + 1))), (5, .int .i64 (w64 (s1.2 + 1)))], ⟨rfl, rfl, rfl, trivial⟩, rfl, hE5, hS17, rfl⟩
    · skip
      rw [if_neg (not_t hc)] at hb14
      refine WP.exit ?_
      cases hb14
      exact ⟨_, [(1, .int .i64 s1.1)], ⟨rfl, trivial⟩, ho15, hE5, hS17, rfl⟩

theorem enters58 : Enters Try.prog 58 := ⟨_, _, Try.func58, rfl, by kernel_rfl⟩
def m_laws_heldAgentS_j1 (fuel : Nat) (t2 : Int) : Option Int := some t2
def m_laws_heldAgentS_b1 (fuel : Nat) (x0 : (List D.Agent)) (s1 : Int × Int) : Option (Rd (Int × Int) (Int) (Int)) := (if (decide (s1.2 < (x0.length : Int))) = true then ((idx x0 s1.2).bind fun x19 => (if (x19.Kind != s1.1) = true then some (.ret (-1)) else ((idx x0 s1.2).bind fun x32 => (if (x32.Level != (w64 (s1.1 + 1))) = true then some (.ret (-1)) else ((idx x0 s1.2).bind fun x45 => (if (x45.Value != (w64 ((w64 (s1.1 + 1)) + 1))) = true then some (.ret (-1)) else ((idx x0 s1.2).bind fun x58 => ((m_laws_heldInt64S fuel x58.Data (w64 ((w64 ((w64 (s1.1 + 1)) + 1)) + 1))).bind fun r72 => (if (decide (r72 < 0)) = true then some (.ret (-1)) else ((idx x0 s1.2).bind fun x79 => ((m_laws_heldPortS fuel x79.Ports r72).bind fun r92 => (if (decide (r92 < 0)) = true then some (.ret (-1)) else some (.next (r92, w64 (s1.2 + 1))))))))))))))) else some (.brk s1.1))
def m_laws_heldAgentS (fuel : Nat) (x0 : (List D.Agent)) (x1 : Int) : Option (Int) := ((iter (m_laws_heldAgentS_b1 fuel x0) fuel (x1, 0)).bind fun o => aft o (m_laws_heldAgentS_j1 fuel))

set_option maxRecDepth 100000 in
theorem laws_heldAgentS_ok {W w : World} (hE : Ext W w) {A0_ : Option Addr} {k0_ : Nat} {x0 : (List D.Agent)} {x1 : Int} (h0_ : ty28.ro W [.slice A0_ x0.length k0_] x0) {fuel : Nat} {r : Int} (hm : m_laws_heldAgentS fuel x0 x1 = some r) :
    Calls Try.prog 58 ⟨[.slice A0_ x0.length k0_, .int .i64 x1]⟩ w (Ret fun v w8 => v = .int .i64 r ∧ St w w8 []) := by
  refine Calls.into Try.func58 rfl 58 rfl rfl _ rfl ?_
  unfold m_laws_heldAgentS at hm
  have hS := St.start w
  refine WP.seq ?_
  refine WP.region ?_
  refine RW.run ttok 1 rfl ?_
  refine RW.nil ?_
  refine WP.seq ?_
  refine WP.seq ?_
  refine WP.region ?_
  refine RW.run ttok 1 rfl ?_
  refine RW.nil ?_
  obtain ⟨o10, hl11, hm⟩ := bind_some hm
  refine WP.cut (fun (t2 : Int) F w9 => o10 = .inl t2 ∧ Ext w w9 ∧ St w w9 [] ∧ F = [(1, .int .i64 t2)]) ?_ ?_
  · skip
    rintro t2 F w7 ⟨ho13, hE6, hS12, rfl⟩
    subst ho13
    rw [aft_inl] at hm
    unfold m_laws_heldAgentS_j1 at hm
    refine WP.seq ?_
    refine WP.region ?_
    refine RW.run ttok 2 rfl ?_
    refine RW.nil ?_
    refine WP.ret ?_
    cases hm
    exact ⟨_, .cons (.tmp rfl) .nil, rfl, hS12⟩
  · skip
    refine WP.block ?_
    refine WP.weak [(0, .slice A0_ x0.length k0_), (1, .int .i64 x1), (5, .int .i64 0)] ⟨rfl, rfl, rfl, trivial⟩ ?_
    refine WP.iter (fun (s1 : Int × Int) F w9 => Ext w w9 ∧ St w w9 [] ∧ F = [(0, .slice A0_ x0.length k0_), (1, .int .i64 s1.1), (5, .int .i64 s1.2)]) _ hl11 ⟨(Ext.refl _), hS, rfl⟩ ?_
    rintro s1 F w18 _ o16 ⟨hE5, hS17, rfl⟩ hb14 ho15
    unfold m_laws_heldAgentS_b1 at hb14
    refine WP.seq ?_
    refine WP.seq ?_
    refine WP.region ?_
    refine RW.run ttok 4 rfl ?_
    refine RW.nil ?_
    refine WP.cond (decide (s1.2 < (x0.length : Int))) rfl (fun hc => ?_) (fun hc => ?_)
    · skip
      rw [if_pos hc] at hb14
      refine WP.skip ?_
      refine WP.seq ?_
      refine WP.block ?_
      refine WP.seq ?_
      refine WP.seq ?_
      refine WP.region ?_
      refine RW.run ttok 2 rfl ?_
      obtain ⟨x19, hx20, hb14⟩ := bind_some hb14
      refine RW.idx ttok (hE.trans hS17.ext) rfl rfl rfl rfl rfl rfl (by decide) rfl rfl h0_ (idx_some hx20).1 (idx_some hx20).2 rfl rfl (fun p21 es22 ha23 hr24 => ?_)
      obtain ⟨A25, k26, A28, k29, e31, h27, h30⟩ := ty112_open hr24; subst e31
      refine RW.run ttok 1 rfl ?_
      refine RW.load1 ttok rfl rfl rfl rfl rfl (At.ext (hE.trans hS17.ext) ha23) 0 rfl rfl rfl rfl ?_
      refine RW.run ttok 2 rfl ?_
      refine RW.nil ?_
      refine WP.cond (x19.Kind != s1.1) rfl (fun hc => ?_) (fun hc => ?_)
      · skip
        rw [if_pos hc] at hb14
        refine WP.seq ?_
        refine WP.region ?_
        refine RW.run ttok 1 rfl ?_
        refine RW.nil ?_
        refine WP.ret ?_
        cases hb14
        cases ho15
        have hm : some _ = some _ := hm
        cases hm
        exact ⟨_, .cons (.tmp rfl) .nil, rfl, hS17⟩
      · skip
        rw [if_neg (not_t hc)] at hb14
        refine WP.skip ?_
        refine WP.seq ?_
        refine WP.region ?_
        refine RW.run ttok 3 rfl ?_
        refine RW.nil ?_
        refine WP.seq ?_
        refine WP.seq ?_
        refine WP.region ?_
        refine RW.run ttok 2 rfl ?_
        obtain ⟨x32, hx33, hb14⟩ := bind_some hb14
        refine RW.idx ttok (hE.trans hS17.ext) rfl rfl rfl rfl rfl rfl (by decide) rfl rfl h0_ (idx_some hx33).1 (idx_some hx33).2 rfl rfl (fun p34 es35 ha36 hr37 => ?_)
        obtain ⟨A38, k39, A41, k42, e44, h40, h43⟩ := ty112_open hr37; subst e44
        refine RW.run ttok 1 rfl ?_
        refine RW.load1 ttok rfl rfl rfl rfl rfl (At.ext (hE.trans hS17.ext) ha36) 1 rfl rfl rfl rfl ?_
        refine RW.run ttok 2 rfl ?_
        refine RW.nil ?_
        refine WP.cond (x32.Level != (w64 (s1.1 + 1))) rfl (fun hc => ?_) (fun hc => ?_)
        · skip
          rw [if_pos hc] at hb14
          refine WP.seq ?_
          refine WP.region ?_
          refine RW.run ttok 1 rfl ?_
          refine RW.nil ?_
          refine WP.ret ?_
          cases hb14
          cases ho15
          have hm : some _ = some _ := hm
          cases hm
          exact ⟨_, .cons (.tmp rfl) .nil, rfl, hS17⟩
        · skip
          rw [if_neg (not_t hc)] at hb14
          refine WP.skip ?_
          refine WP.seq ?_
          refine WP.region ?_
          refine RW.run ttok 3 rfl ?_
          refine RW.nil ?_
          refine WP.seq ?_
          refine WP.seq ?_
          refine WP.region ?_
          refine RW.run ttok 2 rfl ?_
          obtain ⟨x45, hx46, hb14⟩ := bind_some hb14
          refine RW.idx ttok (hE.trans hS17.ext) rfl rfl rfl rfl rfl rfl (by decide) rfl rfl h0_ (idx_some hx46).1 (idx_some hx46).2 rfl rfl (fun p47 es48 ha49 hr50 => ?_)
          obtain ⟨A51, k52, A54, k55, e57, h53, h56⟩ := ty112_open hr50; subst e57
          refine RW.run ttok 1 rfl ?_
          refine RW.load1 ttok rfl rfl rfl rfl rfl (At.ext (hE.trans hS17.ext) ha49) 2 rfl rfl rfl rfl ?_
          refine RW.run ttok 2 rfl ?_
          refine RW.nil ?_
          refine WP.cond (x45.Value != (w64 ((w64 (s1.1 + 1)) + 1))) rfl (fun hc => ?_) (fun hc => ?_)
          · skip
            rw [if_pos hc] at hb14
            refine WP.seq ?_
            refine WP.region ?_
            refine RW.run ttok 1 rfl ?_
            refine RW.nil ?_
            refine WP.ret ?_
            cases hb14
            cases ho15
            have hm : some _ = some _ := hm
            cases hm
            exact ⟨_, .cons (.tmp rfl) .nil, rfl, hS17⟩
          · skip
            rw [if_neg (not_t hc)] at hb14
            refine WP.skip ?_
            refine WP.seq ?_
            refine WP.region ?_
            refine RW.run ttok 3 rfl ?_
            refine RW.nil ?_
            refine WP.seq ?_
            refine WP.region ?_
            refine RW.run ttok 2 rfl ?_
            obtain ⟨x58, hx59, hb14⟩ := bind_some hb14
            refine RW.idx ttok (hE.trans hS17.ext) rfl rfl rfl rfl rfl rfl (by decide) rfl rfl h0_ (idx_some hx59).1 (idx_some hx59).2 rfl rfl (fun p60 es61 ha62 hr63 => ?_)
            obtain ⟨A65, k66, A68, k69, e71, h67, h70⟩ := ty112_open hr63; subst e71
            refine RW.run ttok 1 rfl ?_
            refine RW.load1 ttok rfl rfl rfl rfl rfl (At.ext (hE.trans hS17.ext) ha62) 3 rfl rfl rfl rfl ?_
            refine RW.run ttok 1 rfl ?_
            obtain ⟨r72, hx73, hb14⟩ := bind_some hb14
            refine RW.call rfl rfl rfl enters118 (laws_heldInt64S_ok (hE.trans hS17.ext) h67 hx73) (fun v74 w75 hR76 => ?_)
            obtain ⟨rfl, hR77⟩ := hR76
            have hS78 := hS17.join hR77
            refine RW.run ttok 1 rfl ?_
            refine RW.nil ?_
            refine WP.seq ?_
            refine WP.seq ?_
            refine WP.region ?_
            refine RW.run ttok 2 rfl ?_
            refine RW.nil ?_
            refine WP.cond (decide (r72 < 0)) rfl (fun hc => ?_) (fun hc => ?_)
            · skip
              rw [if_pos hc] at hb14
              refine WP.seq ?_
              refine WP.region ?_
              refine RW.run ttok 1 rfl ?_
              refine RW.nil ?_
              refine WP.ret ?_
              cases hb14
              cases ho15
              have hm : some _ = some _ := hm
              cases hm
              exact ⟨_, .cons (.tmp rfl) .nil, rfl, hS78⟩
            · skip
              rw [if_neg (not_t hc)] at hb14
              refine WP.skip ?_
              refine WP.seq ?_
              refine WP.region ?_
              refine RW.run ttok 2 rfl ?_
              obtain ⟨x79, hx80, hb14⟩ := bind_some hb14
              refine RW.idx ttok (hE.trans hS78.ext) rfl rfl rfl rfl rfl rfl (by decide) rfl rfl h0_ (idx_some hx80).1 (idx_some hx80).2 rfl rfl (fun p81 es82 ha83 hr84 => ?_)
              obtain ⟨A85, k86, A88, k89, e91, h87, h90⟩ := ty112_open hr84; subst e91
              refine RW.run ttok 1 rfl ?_
              refine RW.load1 ttok rfl rfl rfl rfl rfl (At.ext (hE.trans hS78.ext) ha83) 4 rfl rfl rfl rfl ?_
              refine RW.run ttok 1 rfl ?_
              obtain ⟨r92, hx93, hb14⟩ := bind_some hb14
              refine RW.call rfl rfl rfl enters119 (laws_heldPortS_ok (hE.trans hS78.ext) h90 hx93) (fun v94 w95 hR96 => ?_)
              obtain ⟨rfl, hR97⟩ := hR96
              have hS98 := hS78.join hR97
              refine RW.run ttok 1 rfl ?_
              refine RW.nil ?_
              refine WP.seq ?_
              refine WP.region ?_
              refine RW.run ttok 2 rfl ?_
              refine RW.nil ?_
              refine WP.cond (decide (r92 < 0)) rfl (fun hc => ?_) (fun hc => ?_)
              · skip
                rw [if_pos hc] at hb14
                refine WP.seq ?_
                refine WP.region ?_
                refine RW.run ttok 1 rfl ?_
                refine RW.nil ?_
                refine WP.ret ?_
                cases hb14
                cases ho15
                have hm : some _ = some _ := hm
                cases hm
                exact ⟨_, .cons (.tmp rfl) .nil, rfl, hS98⟩
              · skip
                rw [if_neg (not_t hc)] at hb14
                refine WP.skip ?_
                refine WP.region ?_
                refine RW.run ttok 3 rfl ?_
                refine RW.nil ?_
                cases hb14
                exact ⟨_, [(0, .slice A0_ x0.length k0_), (1, .int .i64 r92), (5, .int .i64 (w64 (s1.2 + 1)))], ⟨rfl, rfl, rfl, trivial⟩, rfl, ((hE5.trans hR77.ext).trans hR97.ext), hS98, rfl⟩
    · skip
      rw [if_neg (not_t hc)] at hb14
      refine WP.exit ?_
      cases hb14
      exact ⟨_, [(1, .int .i64 s1.1)], ⟨rfl, trivial⟩, ho15, hE5, hS17, rfl⟩

theorem enters19 : Enters Try.prog 19 := ⟨_, _, Try.func19, rfl, by kernel_rfl⟩
def m_laws_heldNet (fuel : Nat) (x0 : D.Net) (x1 : Int) : Option (Int) := ((m_laws_heldAgentS fuel x0.Agents x1).bind fun r11 => (if (decide (r11 < 0)) = true then some (-1) else some r11))

set_option maxRecDepth 100000 in
theorem laws_heldNet_ok {W w : World} (hE : Ext W w) {c0_ : List Value} {x0 : D.Net} {x1 : Int} (h0_ : ty30.ro W c0_ x0) {fuel : Nat} {r : Int} (hm : m_laws_heldNet fuel x0 x1 = some r) :
    Calls Try.prog 19 ⟨[.agg ⟨c0_⟩, .int .i64 x1]⟩ w (Ret fun v w8 => v = .int .i64 r ∧ St w w8 []) := by
  obtain ⟨A1, k2, e4, h3⟩ := ty30_open h0_; subst e4
  refine Calls.into Try.func19 rfl 12 rfl rfl _ rfl ?_
  unfold m_laws_heldNet at hm
  have hS := St.start w
  refine WP.seq ?_
  refine WP.region ?_
  refine RW.new ttok hS rfl rfl rfl rfl (fun g5 w6 e7 hS10 => ?_)
  refine RW.run ttok 1 rfl ?_
  refine RW.nil ?_
  refine WP.seq ?_
  refine WP.region ?_
  refine RW.run ttok 1 rfl ?_
  refine RW.load1 ttok rfl rfl rfl rfl rfl ((hS10.bring 0 rfl).box) 0 rfl rfl rfl rfl ?_
  refine RW.run ttok 1 rfl ?_
  obtain ⟨r11, hx12, hm⟩ := bind_some hm
  refine RW.call rfl rfl rfl enters58 (laws_heldAgentS_ok (hE.trans hS10.ext) h3 hx12) (fun v13 w14 hR15 => ?_)
  obtain ⟨rfl, hR16⟩ := hR15
  have hS17 := hS10.join hR16
  refine RW.run ttok 1 rfl ?_
  refine RW.nil ?_
  refine WP.seq ?_
  refine WP.seq ?_
  refine WP.region ?_
  refine RW.run ttok 2 rfl ?_
  refine RW.nil ?_
  refine WP.cond (decide (r11 < 0)) rfl (fun hc => ?_) (fun hc => ?_)
  · skip
    rw [if_pos hc] at hm
    refine WP.seq ?_
    refine WP.region ?_
    refine RW.run ttok 1 rfl ?_
    refine RW.nil ?_
    refine WP.ret ?_
    cases hm
    exact ⟨_, .cons (.tmp rfl) .nil, rfl, (hS17.taken 0)⟩
  · skip
    rw [if_neg (not_t hc)] at hm
    refine WP.skip ?_
    refine WP.seq ?_
    refine WP.region ?_
    refine RW.run ttok 2 rfl ?_
    refine RW.nil ?_
    refine WP.ret ?_
    cases hm
    exact ⟨_, .cons (.tmp rfl) .nil, rfl, (hS17.taken 0)⟩

theorem enters5 : Enters Try.prog 5 := ⟨_, _, Try.func5, rfl, by kernel_rfl⟩
def m_laws_FnExactFromWires_j3 (fuel : Nat) (r140 : Int × (List D.Agent)) (t190 : Bool) : Option Bool := (if t190 = true then some false else ((m_laws_heldNet fuel (⟨r140.2⟩ : D.Net) 1).bind fun r195 => (if (decide (r195 < 0)) = true then some false else (if (r195 != r140.1) = true then some false else some true))))
def m_laws_FnExactFromWires_j2 (fuel : Nat) (x0 : (List D.Agent)) (x1 : (List D.Wire)) (r35 : D.Net × Int) (r70 : D.Net × Int) (t135 : Bool) : Option Bool := (if t135 = true then some false else ((m_laws_markNet fuel r70.1 1).bind fun r140 => ((m_laws_heldNet fuel (⟨r140.2⟩ : D.Net) 1).bind fun r149 => (if (decide (r149 < 0)) = true then some false else (if (r149 != r140.1) = true then some false else ((m_laws_toAgentS fuel x0).bind fun r156 => ((m_laws_toWireS fuel x1).bind fun r165 => ((m_impl_FromWires fuel r156 r165).bind fun r174 => ((m_laws_eqNet fuel r174.1 r35.1).bind fun r202 => (if (!r202) = true then m_laws_FnExactFromWires_j3 fuel r140 true else m_laws_FnExactFromWires_j3 fuel r140 (r174.2 != r35.2)))))))))))
def m_laws_FnExactFromWires_j1 (fuel : Nat) (x0 : (List D.Agent)) (x1 : (List D.Wire)) (r35 : D.Net × Int) (r51 : (List D.Agent)) (r60 : (List D.Wire)) (r70 : D.Net × Int) (t86 : Bool) : Option Bool := (if t86 = true then some false else ((m_laws_toAgentS fuel x0).bind fun r91 => ((m_laws_eqAgentS fuel r51 r91).bind fun r100 => (if (!r100) = true then some false else ((m_laws_toWireS fuel x1).bind fun r107 => ((m_laws_eqWireS fuel r60 r107).bind fun r116 => (if (!r116) = true then some false else ((m_laws_markAgentS fuel r51 1).bind fun r123 => ((m_laws_markWireS fuel r60 r123.1).bind fun r129 => (if (decide (r129.1 < 0)) = true then m_laws_FnExactFromWires_j2 fuel x0 x1 r35 r70 true else ((m_laws_eqNet fuel r70.1 r35.1).bind fun r211 => (if (!r211) = true then m_laws_FnExactFromWires_j2 fuel x0 x1 r35 r70 true else m_laws_FnExactFromWires_j2 fuel x0 x1 r35 r70 (r70.2 != r35.2)))))))))))))
def m_laws_FnExactFromWires (fuel : Nat) (x0 : (List D.Agent)) (x1 : (List D.Wire)) : Option (Bool) := ((m_laws_szAgentS fuel x0 1048576).bind fun r1 => (if (decide (r1 < 0)) = true then some true else ((m_laws_szWireS fuel x1 r1).bind fun r10 => (if (decide (r10 < 0)) = true then some true else ((m_laws_toAgentS fuel x0).bind fun r17 => ((m_laws_toWireS fuel x1).bind fun r26 => ((m_spec_FromWires fuel r17 r26).bind fun r35 => ((m_laws_toAgentS fuel x0).bind fun r51 => ((m_laws_toWireS fuel x1).bind fun r60 => ((m_impl_FromWires fuel r51 r60).bind fun r70 => ((m_laws_eqNet fuel r70.1 r35.1).bind fun r219 => (if (!r219) = true then m_laws_FnExactFromWires_j1 fuel x0 x1 r35 r51 r60 r70 true else m_laws_FnExactFromWires_j1 fuel x0 x1 r35 r51 r60 r70 (r70.2 != r35.2)))))))))))))

set_option maxRecDepth 100000 in
theorem laws_FnExactFromWires_ok {W w : World} (hE : Ext W w) {A0_ : Option Addr} {k0_ : Nat} {x0 : (List D.Agent)} {A1_ : Option Addr} {k1_ : Nat} {x1 : (List D.Wire)} (h0_ : ty22.ro W [.slice A0_ x0.length k0_] x0) (h1_ : ty42.ro W [.slice A1_ x1.length k1_] x1) {fuel : Nat} {r : Bool} (hm : m_laws_FnExactFromWires fuel x0 x1 = some r) :
    Calls Try.prog 5 ⟨[.slice A0_ x0.length k0_, .slice A1_ x1.length k1_]⟩ w (Ret fun v w8 => v = .bool r ∧ St w w8 []) := by
  refine Calls.into Try.func5 rfl 119 rfl rfl _ rfl ?_
  unfold m_laws_FnExactFromWires at hm
  have hS := St.start w
  refine WP.seq ?_
  refine WP.region ?_
  refine RW.run ttok 1 rfl ?_
  refine RW.nil ?_
  refine WP.seq ?_
  refine WP.region ?_
  refine RW.run ttok 1 rfl ?_
  refine RW.nil ?_
  refine WP.seq ?_
  refine WP.region ?_
  refine RW.run ttok 2 rfl ?_
  obtain ⟨r1, hx2, hm⟩ := bind_some hm
  refine RW.call rfl rfl rfl enters20 (laws_szAgentS_ok (hE.trans hS.ext) h0_ hx2) (fun v3 w4 hR5 => ?_)
  obtain ⟨rfl, hR6⟩ := hR5
  have hS7 := hS.join hR6
  refine RW.run ttok 1 rfl ?_
  refine RW.nil ?_
  refine WP.seq ?_
  refine WP.seq ?_
  refine WP.region ?_
  refine RW.run ttok 2 rfl ?_
  refine RW.nil ?_
  refine WP.cond (decide (r1 < 0)) rfl (fun hc => ?_) (fun hc => ?_)
  · skip
    rw [if_pos hc] at hm
    refine WP.seq ?_
    refine WP.region ?_
    refine RW.run ttok 1 rfl ?_
    refine RW.nil ?_
    refine WP.ret ?_
    cases hm
    exact ⟨_, .cons (.tmp rfl) .nil, rfl, hS7⟩
  · skip
    rw [if_neg (not_t hc)] at hm
    refine WP.skip ?_
    refine WP.seq ?_
    refine WP.region ?_
    refine RW.run ttok 2 rfl ?_
    obtain ⟨r10, hx11, hm⟩ := bind_some hm
    refine RW.call rfl rfl rfl enters21 (laws_szWireS_ok (hE.trans hS7.ext) h1_ hx11) (fun v12 w13 hR14 => ?_)
    obtain ⟨rfl, hR15⟩ := hR14
    have hS16 := hS7.join hR15
    refine RW.run ttok 1 rfl ?_
    refine RW.nil ?_
    refine WP.seq ?_
    refine WP.seq ?_
    refine WP.region ?_
    refine RW.run ttok 2 rfl ?_
    refine RW.nil ?_
    refine WP.cond (decide (r10 < 0)) rfl (fun hc => ?_) (fun hc => ?_)
    · skip
      rw [if_pos hc] at hm
      refine WP.seq ?_
      refine WP.region ?_
      refine RW.run ttok 1 rfl ?_
      refine RW.nil ?_
      refine WP.ret ?_
      cases hm
      exact ⟨_, .cons (.tmp rfl) .nil, rfl, hS16⟩
    · skip
      rw [if_neg (not_t hc)] at hm
      refine WP.skip ?_
      refine WP.seq ?_
      refine WP.region ?_
      refine RW.run ttok 1 rfl ?_
      obtain ⟨r17, hx18, hm⟩ := bind_some hm
      refine RW.call rfl rfl rfl enters23 (laws_toAgentS_ok (hE.trans hS16.ext) h0_ hx18) (fun v19 w20 hR21 => ?_)
      obtain ⟨A22, k23, rfl, hR24⟩ := hR21
      have hS25 := hS16.join hR24
      refine RW.run ttok 1 rfl ?_
      obtain ⟨r26, hx27, hm⟩ := bind_some hm
      refine RW.call rfl rfl rfl enters24 (laws_toWireS_ok (hE.trans hS25.ext) h1_ hx27) (fun v28 w29 hR30 => ?_)
      obtain ⟨A31, k32, rfl, hR33⟩ := hR30
      have hS34 := hS25.join hR33
      obtain ⟨r35, hx36, hm⟩ := bind_some hm
      refine RW.call rfl rfl rfl enters22 (spec_FromWires_ok (Ext.refl _) ((hS34.bring 1 rfl).own) ((hS34.bring 0 rfl).own) hx36) (fun v37 w38 hR39 => ?_)
      obtain ⟨A40, k41, rfl, hR42⟩ := hR39
      have hS43 := hS34.join hR42
      refine RW.run ttok 3 rfl ?_
      refine RW.new ttok hS43 rfl rfl rfl rfl (fun g44 w45 e46 hS47 => ?_)
      have hS48 := hS47.bring 0 rfl
      refine RW.store ttok (A := []) hS48 rfl rfl rfl rfl rfl 0 rfl rfl rfl rfl rfl (fun w49 hS50 => ?_)
      refine RW.run ttok 1 rfl ?_
      refine RW.nil ?_
      refine WP.seq ?_
      refine WP.region ?_
      refine RW.run ttok 1 rfl ?_
      obtain ⟨r51, hx52, hm⟩ := bind_some hm
      refine RW.call rfl rfl rfl enters23 (laws_toAgentS_ok (hE.trans hS50.ext) h0_ hx52) (fun v53 w54 hR55 => ?_)
      obtain ⟨A56, k57, rfl, hR58⟩ := hR55
      have hS59 := hS50.join hR58
      refine RW.run ttok 1 rfl ?_
      refine RW.nil ?_
      refine WP.seq ?_
      refine WP.region ?_
      refine RW.run ttok 1 rfl ?_
      obtain ⟨r60, hx61, hm⟩ := bind_some hm
      refine RW.call rfl rfl rfl enters24 (laws_toWireS_ok (hE.trans hS59.ext) h1_ hx61) (fun v62 w63 hR65 => ?_)
      obtain ⟨A66, k67, rfl, hR68⟩ := hR65
      have hS69 := hS59.join hR68
      refine RW.run ttok 1 rfl ?_
      refine RW.nil ?_
      refine WP.seq ?_
      refine WP.region ?_
      refine RW.run ttok 2 rfl ?_
      obtain ⟨r70, hx71, hm⟩ := bind_some hm
      refine RW.call rfl rfl rfl enters25 (impl_FromWires_ok (Ext.refl _) ((hS69.bring 1 rfl).own) ((hS69.bring 0 rfl).own) hx71) (fun v72 w73 hR74 => ?_)
      obtain ⟨A75, k76, rfl, hR77⟩ := hR74
      have hS78 := hS69.join hR77
      refine RW.run ttok 3 rfl ?_
      refine RW.new ttok hS78 rfl rfl rfl rfl (fun g79 w80 e81 hS82 => ?_)
      have hS83 := hS82.bring 0 rfl
      refine RW.store ttok (A := []) hS83 rfl rfl rfl rfl rfl 0 rfl rfl rfl rfl rfl (fun w84 hS85 => ?_)
      refine RW.run ttok 1 rfl ?_
      refine RW.nil ?_
      refine WP.seq ?_
      refine WP.seq ?_
      refine WP.cut (fun (t86 : Bool) F w9 => m_laws_FnExactFromWires_j1 fuel x0 x1 r35 r51 r60 r70 t86 = some r ∧ Ext w84 w9 ∧ St w w9 [Box g79 [.slice A75 r70.1.Agents.length k76] 30, Own ty28 [.slice A75 r70.1.Agents.length k76] r70.1.Agents, Own ty47 [.slice A66 r60.length k67] r60, Own ty28 [.slice A56 r51.length k57] r51, Box g44 [.slice A40 r35.1.Agents.length k41] 30, Own ty28 [.slice A40 r35.1.Agents.length k41] r35.1.Agents, Own ty47 [.slice A31 r26.length k32] r26, Own ty28 [.slice A22 r17.length k23] r17] ∧ F = [(0, .slice A0_ x0.length k0_), (1, .slice A1_ x1.length k1_), (6, .pointer (some ⟨g44, 0, none⟩)), (7, .int .i64 r35.2), (8, .slice A56 r51.length k57), (9, .slice A66 r60.length k67), (10, .pointer (some ⟨g79, 0, none⟩)), (11, .int .i64 r70.2), (53, .bool t86)]) ?_ ?_
      · skip
        rintro t86 F w89 ⟨hm, hE87, hS88, rfl⟩
        unfold m_laws_FnExactFromWires_j1 at hm
        refine WP.cond t86 rfl (fun hc => ?_) (fun hc => ?_)
        · skip
          rw [if_pos hc] at hm
          refine WP.seq ?_
          refine WP.region ?_
          refine RW.run ttok 1 rfl ?_
          refine RW.nil ?_
          refine WP.ret ?_
          cases hm
          exact ⟨_, .cons (.tmp rfl) .nil, rfl, (hS88.taken 0)⟩
        · skip
          rw [if_neg (not_t hc)] at hm
          refine WP.skip ?_
          refine WP.seq ?_
          refine WP.seq ?_
          refine WP.region ?_
          refine RW.run ttok 2 rfl ?_
          obtain ⟨r91, hx92, hm⟩ := bind_some hm
          refine RW.call rfl rfl rfl enters23 (laws_toAgentS_ok (hE.trans hS88.ext) h0_ hx92) (fun v93 w94 hR95 => ?_)
          obtain ⟨A96, k97, rfl, hR98⟩ := hR95
          have hS99 := hS88.join hR98
          obtain ⟨r100, hx101, hm⟩ := bind_some hm
          refine RW.call rfl rfl rfl enters26 (laws_eqAgentS_ok (Ext.refl _) ((hS99.bring 4 rfl).own) ((hS99.bring 0 rfl).own) hx101) (fun v102 w103 hR104 => ?_)
          obtain ⟨rfl, hR105⟩ := hR104
          have hS106 := hS99.join hR105
          refine RW.run ttok 1 rfl ?_
          refine RW.nil ?_
          refine WP.cond (!r100) rfl (fun hc => ?_) (fun hc => ?_)
          · skip
            rw [if_pos hc] at hm
            refine WP.seq ?_
            refine WP.region ?_
            refine RW.run ttok 1 rfl ?_
            refine RW.nil ?_
            refine WP.ret ?_
            cases hm
            exact ⟨_, .cons (.tmp rfl) .nil, rfl, (hS106.taken 0)⟩
          · skip
            rw [if_neg (not_t hc)] at hm
            refine WP.skip ?_
            refine WP.seq ?_
            refine WP.seq ?_
            refine WP.region ?_
            refine RW.run ttok 2 rfl ?_
            obtain ⟨r107, hx108, hm⟩ := bind_some hm
            refine RW.call rfl rfl rfl enters24 (laws_toWireS_ok (hE.trans hS106.ext) h1_ hx108) (fun v109 w110 hR111 => ?_)
            obtain ⟨A112, k113, rfl, hR114⟩ := hR111
            have hS115 := hS106.join hR114
            obtain ⟨r116, hx117, hm⟩ := bind_some hm
            refine RW.call rfl rfl rfl enters27 (laws_eqWireS_ok (Ext.refl _) ((hS115.bring 4 rfl).own) ((hS115.bring 0 rfl).own) hx117) (fun v118 w119 hR120 => ?_)
            obtain ⟨rfl, hR121⟩ := hR120
            have hS122 := hS115.join hR121
            refine RW.run ttok 1 rfl ?_
            refine RW.nil ?_
            refine WP.cond (!r116) rfl (fun hc => ?_) (fun hc => ?_)
            · skip
              rw [if_pos hc] at hm
              refine WP.seq ?_
              refine WP.region ?_
              refine RW.run ttok 1 rfl ?_
              refine RW.nil ?_
              refine WP.ret ?_
              cases hm
              exact ⟨_, .cons (.tmp rfl) .nil, rfl, (hS122.taken 0)⟩
            · skip
              rw [if_neg (not_t hc)] at hm
              refine WP.skip ?_
              refine WP.seq ?_
              refine WP.region ?_
              refine RW.run ttok 1 rfl ?_
              refine RW.nil ?_
              refine WP.seq ?_
              refine WP.region ?_
              refine RW.run ttok 2 rfl ?_
              obtain ⟨r123, hx124, hm⟩ := bind_some hm
              refine RW.call rfl rfl rfl enters28 (laws_markAgentS_ok (W := w) (RR := _) (x0 := r51) (x1 := 1) (hS122.bring 5 rfl)  hx124) (fun v125 w126 hR127 => ?_)
              obtain ⟨rfl, hS128⟩ := hR127
              refine RW.run ttok 1 rfl ?_
              refine RW.nil ?_
              refine WP.seq ?_
              refine WP.region ?_
              refine RW.run ttok 2 rfl ?_
              obtain ⟨r129, hx130, hm⟩ := bind_some hm
              refine RW.call rfl rfl rfl enters29 (laws_markWireS_ok (W := w) (RR := _) (x0 := r60) (x1 := r123.1) (hS128.bring 5 rfl)  hx130) (fun v131 w132 hR133 => ?_)
              obtain ⟨rfl, hS134⟩ := hR133
              refine RW.run ttok 1 rfl ?_
              refine RW.nil ?_
              refine WP.seq ?_
              refine WP.seq ?_
              refine WP.cut (fun (t135 : Bool) F w9 => m_laws_FnExactFromWires_j2 fuel x0 x1 r35 r70 t135 = some r ∧ Ext w132 w9 ∧ St w w9 [Own ty47 [.slice A66 r60.length k67] r129.2, Own ty28 [.slice A56 r51.length k57] r123.2, Own ty47 [.slice A112 r107.length k113] r107, Own ty28 [.slice A96 r91.length k97] r91, Box g79 [.slice A75 r70.1.Agents.length k76] 30, Own ty28 [.slice A75 r70.1.Agents.length k76] r70.1.Agents, Box g44 [.slice A40 r35.1.Agents.length k41] 30, Own ty28 [.slice A40 r35.1.Agents.length k41] r35.1.Agents, Own ty47 [.slice A31 r26.length k32] r26, Own ty28 [.slice A22 r17.length k23] r17] ∧ F = [(0, .slice A0_ x0.length k0_), (1, .slice A1_ x1.length k1_), (6, .pointer (some ⟨g44, 0, none⟩)), (7, .int .i64 r35.2), (10, .pointer (some ⟨g79, 0, none⟩)), (82, .bool t135)]) ?_ ?_
              · skip
                rintro t135 F w138 ⟨hm, hE136, hS137, rfl⟩
                unfold m_laws_FnExactFromWires_j2 at hm
                refine WP.cond t135 rfl (fun hc => ?_) (fun hc => ?_)
                · skip
                  rw [if_pos hc] at hm
                  refine WP.seq ?_
                  refine WP.region ?_
                  refine RW.run ttok 1 rfl ?_
                  refine RW.nil ?_
                  refine WP.ret ?_
                  cases hm
                  exact ⟨_, .cons (.tmp rfl) .nil, rfl, (hS137.taken 0)⟩
                · skip
                  rw [if_neg (not_t hc)] at hm
                  refine WP.skip ?_
                  refine WP.seq ?_
                  refine WP.region ?_
                  refine RW.run ttok 1 rfl ?_
                  refine RW.nil ?_
                  refine WP.seq ?_
                  refine WP.region ?_
                  refine RW.loadN ttok rfl rfl rfl rfl rfl ((hS137.bring 4 rfl).box) rfl rfl rfl ?_
                  refine RW.run ttok 1 rfl ?_
                  obtain ⟨r140, hx141, hm⟩ := bind_some hm
                  refine RW.call rfl rfl rfl enters18 (laws_markNet_ok (W := w) (RR := _) (x0 := r70.1) (x1 := 1) (hS137.bring 5 rfl)  hx141) (fun v142 w143 hR144 => ?_)
                  obtain ⟨rfl, hS145⟩ := hR144
                  refine RW.run ttok 1 rfl ?_
                  refine RW.nil ?_
                  refine WP.seq ?_
                  refine WP.region ?_
                  refine RW.run ttok 1 rfl ?_
                  refine RW.nil ?_
                  refine WP.seq ?_
                  refine WP.region ?_
                  refine RW.loadN ttok rfl rfl rfl rfl rfl ((hS145.bring 5 rfl).box) rfl rfl rfl ?_
                  refine RW.run ttok 1 rfl ?_
                  have hn146 := (hS145.bring 0 rfl).lenEq
                  have hS147 := (hS145.bring 0 rfl).reLen hn146
                  have hS148 := (hS147.bring 5 rfl).reBox (cs' := [.slice A75 r140.2.length k76]) (by show ([.slice A75 r70.1.Agents.length k76] : List Value) = [.slice A75 r140.2.length k76]; first | (simp only [hn146]; done) | (simp only [hn146]; rfl))
                  refine RW.know (u := .agg ⟨[.slice A75 r140.2.length k76]⟩) 86 rfl (by simp only [hn146]) ?_
                  obtain ⟨r149, hx150, hm⟩ := bind_some hm
                  refine RW.call rfl rfl rfl enters19 (laws_heldNet_ok (Ext.refl _) (ty30_shut (⟨r140.2⟩ : D.Net) ((hS148.bring 1 rfl).own)) hx150) (fun v151 w152 hR153 => ?_)
                  obtain ⟨rfl, hR154⟩ := hR153
                  have hS155 := hS148.join hR154
                  refine RW.run ttok 1 rfl ?_
                  refine RW.nil ?_
                  refine WP.seq ?_
                  refine WP.seq ?_
                  refine WP.region ?_
                  refine RW.run ttok 2 rfl ?_
                  refine RW.nil ?_
                  refine WP.cond (decide (r149 < 0)) rfl (fun hc => ?_) (fun hc => ?_)
                  · skip
                    rw [if_pos hc] at hm
                    refine WP.seq ?_
                    refine WP.region ?_
                    refine RW.run ttok 1 rfl ?_
                    refine RW.nil ?_
                    refine WP.ret ?_
                    cases hm
                    exact ⟨_, .cons (.tmp rfl) .nil, rfl, (hS155.taken 0)⟩
                  · skip
                    rw [if_neg (not_t hc)] at hm
                    refine WP.skip ?_
                    refine WP.seq ?_
                    refine WP.seq ?_
                    refine WP.region ?_
                    refine RW.run ttok 3 rfl ?_
                    refine RW.nil ?_
                    refine WP.cond (r149 != r140.1) rfl (fun hc => ?_) (fun hc => ?_)
                    · skip
                      rw [if_pos hc] at hm
                      refine WP.seq ?_
                      refine WP.region ?_
                      refine RW.run ttok 1 rfl ?_
                      refine RW.nil ?_
                      refine WP.ret ?_
                      cases hm
                      exact ⟨_, .cons (.tmp rfl) .nil, rfl, (hS155.taken 0)⟩
                    · skip
                      rw [if_neg (not_t hc)] at hm
                      refine WP.skip ?_
                      refine WP.seq ?_
                      refine WP.region ?_
                      refine RW.run ttok 1 rfl ?_
                      obtain ⟨r156, hx157, hm⟩ := bind_some hm
                      refine RW.call rfl rfl rfl enters23 (laws_toAgentS_ok (hE.trans hS155.ext) h0_ hx157) (fun v158 w159 hR160 => ?_)
                      obtain ⟨A161, k162, rfl, hR163⟩ := hR160
                      have hS164 := hS155.join hR163
                      refine RW.run ttok 1 rfl ?_
                      obtain ⟨r165, hx166, hm⟩ := bind_some hm
                      refine RW.call rfl rfl rfl enters24 (laws_toWireS_ok (hE.trans hS164.ext) h1_ hx166) (fun v167 w168 hR169 => ?_)
                      obtain ⟨A170, k171, rfl, hR172⟩ := hR169
                      have hS173 := hS164.join hR172
                      obtain ⟨r174, hx175, hm⟩ := bind_some hm
                      refine RW.call rfl rfl rfl enters25 (impl_FromWires_ok (Ext.refl _) ((hS173.bring 1 rfl).own) ((hS173.bring 0 rfl).own) hx175) (fun v176 w177 hR178 => ?_)
                      obtain ⟨A179, k180, rfl, hR181⟩ := hR178
                      have hS182 := hS173.join hR181
                      refine RW.run ttok 3 rfl ?_
                      refine RW.new ttok hS182 rfl rfl rfl rfl (fun g183 w184 e185 hS186 => ?_)
                      have hS187 := hS186.bring 0 rfl
                      refine RW.store ttok (A := []) hS187 rfl rfl rfl rfl rfl 0 rfl rfl rfl rfl rfl (fun w188 hS189 => ?_)
                      refine RW.run ttok 1 rfl ?_
                      refine RW.nil ?_
                      refine WP.seq ?_
                      refine WP.seq ?_
                      refine WP.cut (fun (t190 : Bool) F w9 => m_laws_FnExactFromWires_j3 fuel r140 t190 = some r ∧ Ext w188 w9 ∧ St w w9 [Box g183 [.slice A179 r174.1.Agents.length k180] 30, Own ty28 [.slice A179 r174.1.Agents.length k180] r174.1.Agents, Own ty47 [.slice A170 r165.length k171] r165, Own ty28 [.slice A161 r156.length k162] r156, Box g79 [.slice A75 r140.2.length k76] 30, Own ty28 [.slice A75 r140.2.length k76] r140.2, Own ty47 [.slice A66 r60.length k67] r129.2, Own ty28 [.slice A56 r51.length k57] r123.2, Own ty47 [.slice A112 r107.length k113] r107, Own ty28 [.slice A96 r91.length k97] r91, Box g44 [.slice A40 r35.1.Agents.length k41] 30, Own ty28 [.slice A40 r35.1.Agents.length k41] r35.1.Agents, Own ty47 [.slice A31 r26.length k32] r26, Own ty28 [.slice A22 r17.length k23] r17] ∧ F = [(10, .pointer (some ⟨g79, 0, none⟩)), (13, .int .i64 r140.1), (110, .bool t190)]) ?_ ?_
                      · skip
                        rintro t190 F w193 ⟨hm, hE191, hS192, rfl⟩
                        unfold m_laws_FnExactFromWires_j3 at hm
                        refine WP.cond t190 rfl (fun hc => ?_) (fun hc => ?_)
                        · skip
                          rw [if_pos hc] at hm
                          refine WP.seq ?_
                          refine WP.region ?_
                          refine RW.run ttok 1 rfl ?_
                          refine RW.nil ?_
                          refine WP.ret ?_
                          cases hm
                          exact ⟨_, .cons (.tmp rfl) .nil, rfl, (hS192.taken 0)⟩
                        · skip
                          rw [if_neg (not_t hc)] at hm
                          refine WP.skip ?_
                          refine WP.seq ?_
                          refine WP.region ?_
                          refine RW.run ttok 1 rfl ?_
                          refine RW.nil ?_
                          refine WP.seq ?_
                          refine WP.region ?_
                          refine RW.loadN ttok rfl rfl rfl rfl rfl ((hS192.bring 4 rfl).box) rfl rfl rfl ?_
                          refine RW.run ttok 1 rfl ?_
                          obtain ⟨r195, hx196, hm⟩ := bind_some hm
                          refine RW.call rfl rfl rfl enters19 (laws_heldNet_ok (Ext.refl _) (ty30_shut (⟨r140.2⟩ : D.Net) ((hS192.bring 5 rfl).own)) hx196) (fun v197 w198 hR199 => ?_)
                          obtain ⟨rfl, hR200⟩ := hR199
                          have hS201 := hS192.join hR200
                          refine RW.run ttok 1 rfl ?_
                          refine RW.nil ?_
                          refine WP.seq ?_
                          refine WP.seq ?_
                          refine WP.region ?_
                          refine RW.run ttok 2 rfl ?_
                          refine RW.nil ?_
                          refine WP.cond (decide (r195 < 0)) rfl (fun hc => ?_) (fun hc => ?_)
                          · skip
                            rw [if_pos hc] at hm
                            refine WP.seq ?_
                            refine WP.region ?_
                            refine RW.run ttok 1 rfl ?_
                            refine RW.nil ?_
                            refine WP.ret ?_
                            cases hm
                            exact ⟨_, .cons (.tmp rfl) .nil, rfl, (hS201.taken 0)⟩
                          · skip
                            rw [if_neg (not_t hc)] at hm
                            refine WP.skip ?_
                            refine WP.seq ?_
                            refine WP.seq ?_
                            refine WP.region ?_
                            refine RW.run ttok 3 rfl ?_
                            refine RW.nil ?_
                            refine WP.cond (r195 != r140.1) rfl (fun hc => ?_) (fun hc => ?_)
                            · skip
                              rw [if_pos hc] at hm
                              refine WP.seq ?_
                              refine WP.region ?_
                              refine RW.run ttok 1 rfl ?_
                              refine RW.nil ?_
                              refine WP.ret ?_
                              cases hm
                              exact ⟨_, .cons (.tmp rfl) .nil, rfl, (hS201.taken 0)⟩
                            · skip
                              rw [if_neg (not_t hc)] at hm
                              refine WP.skip ?_
                              refine WP.seq ?_
                              refine WP.region ?_
                              refine RW.run ttok 1 rfl ?_
                              refine RW.nil ?_
                              refine WP.ret ?_
                              cases hm
                              exact ⟨_, .cons (.tmp rfl) .nil, rfl, (hS201.taken 0)⟩
                      · skip
                        refine WP.region ?_
                        refine RW.loadN ttok rfl rfl rfl rfl rfl ((hS189.bring 0 rfl).box) rfl rfl rfl ?_
                        refine RW.loadN ttok rfl rfl rfl rfl rfl ((hS189.bring 10 rfl).box) rfl rfl rfl ?_
                        obtain ⟨r202, hx203, hm⟩ := bind_some hm
                        refine RW.call rfl rfl rfl enters14 (laws_eqNet_ok (Ext.refl _) (ty30_shut r174.1 ((hS189.bring 1 rfl).own)) (ty30_shut r35.1 ((hS189.bring 11 rfl).own)) hx203) (fun v204 w205 hR206 => ?_)
                        obtain ⟨rfl, hR207⟩ := hR206
                        have hS208 := hS189.join hR207
                        refine RW.run ttok 2 rfl ?_
                        by_cases hg209 : (!r202) = true
                        · skip
                          rw [if_pos hg209] at hm
                          refine RW.know 106 rfl (congrArg Value.bool hg209) ?_
                          refine RW.run ttok 4 rfl ?_
                          refine RW.nil ?_
                          exact ⟨true, [(10, .pointer (some ⟨g79, 0, none⟩)), (13, .int .i64 r140.1), (110, .bool true)], ⟨rfl, rfl, rfl, trivial⟩, hm, hR207.ext, hS208, rfl⟩
                        · skip
                          rw [if_neg hg209] at hm
                          refine RW.know 106 rfl (congrArg Value.bool (Bool.eq_false_iff.2 hg209)) ?_
                          refine RW.run ttok 4 rfl ?_
                          refine RW.nil ?_
                          exact ⟨(r174.2 != r35.2), [(10, .pointer (some ⟨g79, 0, none⟩)), (13, .int .i64 r140.1), (110, .bool (r174.2 != r35.2))], ⟨rfl, rfl, rfl, trivial⟩, hm, hR207.ext, hS208, rfl⟩
              · skip
                refine WP.region ?_
                refine RW.run ttok 3 rfl ?_
                by_cases hg210 : (decide (r129.1 < 0)) = true
                · skip
                  rw [if_pos hg210] at hm
                  refine RW.know 72 rfl (congrArg Value.bool hg210) ?_
                  refine RW.run ttok 10 rfl ?_
                  refine RW.nil ?_
                  exact ⟨true, [(0, .slice A0_ x0.length k0_), (1, .slice A1_ x1.length k1_), (6, .pointer (some ⟨g44, 0, none⟩)), (7, .int .i64 r35.2), (10, .pointer (some ⟨g79, 0, none⟩)), (82, .bool true)], ⟨rfl, rfl, rfl, rfl, rfl, rfl, trivial⟩, hm, (Ext.refl _), hS134, rfl⟩
                · skip
                  rw [if_neg hg210] at hm
                  refine RW.know 72 rfl (congrArg Value.bool (Bool.eq_false_iff.2 hg210)) ?_
                  refine RW.loadN ttok rfl rfl rfl rfl rfl ((hS134.bring 4 rfl).box) rfl rfl rfl ?_
                  refine RW.loadN ttok rfl rfl rfl rfl rfl ((hS134.bring 6 rfl).box) rfl rfl rfl ?_
                  obtain ⟨r211, hx212, hm⟩ := bind_some hm
                  refine RW.call rfl rfl rfl enters14 (laws_eqNet_ok (Ext.refl _) (ty30_shut r70.1 ((hS134.bring 5 rfl).own)) (ty30_shut r35.1 ((hS134.bring 7 rfl).own)) hx212) (fun v213 w214 hR215 => ?_)
                  obtain ⟨rfl, hR216⟩ := hR215
                  have hS217 := hS134.join hR216
                  refine RW.run ttok 3 rfl ?_
                  by_cases hg218 : (!r211) = true
                  · skip
                    rw [if_pos hg218] at hm
                    refine RW.know 78 rfl (congrArg Value.bool hg218) ?_
                    refine RW.run ttok 4 rfl ?_
                    refine RW.nil ?_
                    exact ⟨true, [(0, .slice A0_ x0.length k0_), (1, .slice A1_ x1.length k1_), (6, .pointer (some ⟨g44, 0, none⟩)), (7, .int .i64 r35.2), (10, .pointer (some ⟨g79, 0, none⟩)), (82, .bool true)], ⟨rfl, rfl, rfl, rfl, rfl, rfl, trivial⟩, hm, hR216.ext, hS217, rfl⟩
                  · skip
                    rw [if_neg hg218] at hm
                    refine RW.know 78 rfl (congrArg Value.bool (Bool.eq_false_iff.2 hg218)) ?_
                    refine RW.run ttok 4 rfl ?_
                    refine RW.nil ?_
                    exact ⟨(r70.2 != r35.2), [(0, .slice A0_ x0.length k0_), (1, .slice A1_ x1.length k1_), (6, .pointer (some ⟨g44, 0, none⟩)), (7, .int .i64 r35.2), (10, .pointer (some ⟨g79, 0, none⟩)), (82, .bool (r70.2 != r35.2))], ⟨rfl, rfl, rfl, rfl, rfl, rfl, trivial⟩, hm, hR216.ext, hS217, rfl⟩
      · skip
        refine WP.region ?_
        refine RW.loadN ttok rfl rfl rfl rfl rfl ((hS85.bring 0 rfl).box) rfl rfl rfl ?_
        refine RW.loadN ttok rfl rfl rfl rfl rfl ((hS85.bring 4 rfl).box) rfl rfl rfl ?_
        obtain ⟨r219, hx220, hm⟩ := bind_some hm
        refine RW.call rfl rfl rfl enters14 (laws_eqNet_ok (Ext.refl _) (ty30_shut r70.1 ((hS85.bring 1 rfl).own)) (ty30_shut r35.1 ((hS85.bring 5 rfl).own)) hx220) (fun v221 w222 hR223 => ?_)
        obtain ⟨rfl, hR224⟩ := hR223
        have hS225 := hS85.join hR224
        refine RW.run ttok 2 rfl ?_
        by_cases hg226 : (!r219) = true
        · skip
          rw [if_pos hg226] at hm
          refine RW.know 49 rfl (congrArg Value.bool hg226) ?_
          refine RW.run ttok 4 rfl ?_
          refine RW.nil ?_
          exact ⟨true, [(0, .slice A0_ x0.length k0_), (1, .slice A1_ x1.length k1_), (6, .pointer (some ⟨g44, 0, none⟩)), (7, .int .i64 r35.2), (8, .slice A56 r51.length k57), (9, .slice A66 r60.length k67), (10, .pointer (some ⟨g79, 0, none⟩)), (11, .int .i64 r70.2), (53, .bool true)], ⟨rfl, rfl, rfl, rfl, rfl, rfl, rfl, rfl, rfl, trivial⟩, hm, hR224.ext, hS225, rfl⟩
        · skip
          rw [if_neg hg226] at hm
          refine RW.know 49 rfl (congrArg Value.bool (Bool.eq_false_iff.2 hg226)) ?_
          refine RW.run ttok 4 rfl ?_
          refine RW.nil ?_
          exact ⟨(r70.2 != r35.2), [(0, .slice A0_ x0.length k0_), (1, .slice A1_ x1.length k1_), (6, .pointer (some ⟨g44, 0, none⟩)), (7, .int .i64 r35.2), (8, .slice A56 r51.length k57), (9, .slice A66 r60.length k67), (10, .pointer (some ⟨g79, 0, none⟩)), (11, .int .i64 r70.2), (53, .bool (r70.2 != r35.2))], ⟨rfl, rfl, rfl, rfl, rfl, rfl, rfl, rfl, rfl, trivial⟩, hm, hR224.ext, hS225, rfl⟩

end Go.E
