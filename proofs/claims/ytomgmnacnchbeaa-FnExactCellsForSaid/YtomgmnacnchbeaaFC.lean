/- Models of functions and proofs that the code runs as they say (written by program). Conditions: the model gives a value. -/
import Derived.Test.YtomgmnacnchbeaaFN
namespace Go.E
open Go.RowKit Go.Proofs
set_option linter.unusedVariables false
set_option linter.unusedSimpArgs false
set_option maxHeartbeats 2000000

theorem enters120 : Enters Try.prog 120 := ⟨_, _, Try.func120, rfl, by kernel_rfl⟩
def m_laws_szInt64S (fuel : Nat) (x0 : (List Int)) (x1 : Int) : Option (Int) := (if (decide ((w64 (x1 - (x0.length : Int))) < 0)) = true then some (-1) else some (w64 (x1 - (x0.length : Int))))

set_option maxRecDepth 100000 in
theorem laws_szInt64S_ok {W w : World} (hE : Ext W w) {A0_ : Option Addr} {k0_ : Nat} {x0 : (List Int)} {x1 : Int} (h0_ : ty103.ro W [.slice A0_ x0.length k0_] x0) {fuel : Nat} {r : Int} (hm : m_laws_szInt64S fuel x0 x1 = some r) :
    Calls Try.prog 120 ⟨[.slice A0_ x0.length k0_, .int .i64 x1]⟩ w (Ret fun v w8 => v = .int .i64 r ∧ St w w8 []) := by
  refine Calls.into Try.func120 rfl 12 rfl rfl _ rfl ?_
  unfold m_laws_szInt64S at hm
  have hS := St.start w
  refine WP.seq ?_
  refine WP.region ?_
  refine RW.run ttok 1 rfl ?_
  refine RW.nil ?_
  refine WP.seq ?_
  refine WP.region ?_
  refine RW.run ttok 5 rfl ?_
  refine RW.nil ?_
  refine WP.seq ?_
  refine WP.seq ?_
  refine WP.region ?_
  refine RW.run ttok 2 rfl ?_
  refine RW.nil ?_
  refine WP.cond (decide ((w64 (x1 - (x0.length : Int))) < 0)) rfl (fun hc => ?_) (fun hc => ?_)
  · skip
    rw [if_pos hc] at hm
    refine WP.seq ?_
    refine WP.region ?_
    refine RW.run ttok 1 rfl ?_
    refine RW.nil ?_
    refine WP.ret ?_
    cases hm
    exact ⟨_, .cons (.tmp rfl) .nil, rfl, hS⟩
  · skip
    rw [if_neg (not_t hc)] at hm
    refine WP.skip ?_
    refine WP.seq ?_
    refine WP.region ?_
    refine RW.run ttok 2 rfl ?_
    refine RW.nil ?_
    refine WP.ret ?_
    cases hm
    exact ⟨_, .cons (.tmp rfl) .nil, rfl, hS⟩

theorem enters121 : Enters Try.prog 121 := ⟨_, _, Try.func121, rfl, by kernel_rfl⟩
def m_laws_szPortS (fuel : Nat) (x0 : (List D.Port)) (x1 : Int) : Option (Int) := (if (decide ((w64 (x1 - (x0.length : Int))) < 0)) = true then some (-1) else some (w64 (x1 - (x0.length : Int))))

set_option maxRecDepth 100000 in
theorem laws_szPortS_ok {W w : World} (hE : Ext W w) {A0_ : Option Addr} {k0_ : Nat} {x0 : (List D.Port)} {x1 : Int} (h0_ : ty104.ro W [.slice A0_ x0.length k0_] x0) {fuel : Nat} {r : Int} (hm : m_laws_szPortS fuel x0 x1 = some r) :
    Calls Try.prog 121 ⟨[.slice A0_ x0.length k0_, .int .i64 x1]⟩ w (Ret fun v w8 => v = .int .i64 r ∧ St w w8 []) := by
  refine Calls.into Try.func121 rfl 12 rfl rfl _ rfl ?_
  unfold m_laws_szPortS at hm
  have hS := St.start w
  refine WP.seq ?_
  refine WP.region ?_
  refine RW.run ttok 1 rfl ?_
  refine RW.nil ?_
  refine WP.seq ?_
  refine WP.region ?_
  refine RW.run ttok 5 rfl ?_
  refine RW.nil ?_
  refine WP.seq ?_
  refine WP.seq ?_
  refine WP.region ?_
  refine RW.run ttok 2 rfl ?_
  refine RW.nil ?_
  refine WP.cond (decide ((w64 (x1 - (x0.length : Int))) < 0)) rfl (fun hc => ?_) (fun hc => ?_)
  · skip
    rw [if_pos hc] at hm
    refine WP.seq ?_
    refine WP.region ?_
    refine RW.run ttok 1 rfl ?_
    refine RW.nil ?_
    refine WP.ret ?_
    cases hm
    exact ⟨_, .cons (.tmp rfl) .nil, rfl, hS⟩
  · skip
    rw [if_neg (not_t hc)] at hm
    refine WP.skip ?_
    refine WP.seq ?_
    refine WP.region ?_
    refine RW.run ttok 2 rfl ?_
    refine RW.nil ?_
    refine WP.ret ?_
    cases hm
    exact ⟨_, .cons (.tmp rfl) .nil, rfl, hS⟩

theorem enters59 : Enters Try.prog 59 := ⟨_, _, Try.func59, rfl, by kernel_rfl⟩
def m_laws_szAgent (fuel : Nat) (x0 : D.Agent) (x1 : Int) : Option (Int) := ((m_laws_szInt64S fuel x0.Data x1).bind fun r14 => (if (decide (r14 < 0)) = true then some (-1) else ((m_laws_szPortS fuel x0.Ports r14).bind fun r21 => (if (decide (r21 < 0)) = true then some (-1) else some r21))))

set_option maxRecDepth 100000 in
theorem laws_szAgent_ok {W w : World} (hE : Ext W w) {c0_ : List Value} {x0 : D.Agent} {x1 : Int} (h0_ : ty106.ro W c0_ x0) {fuel : Nat} {r : Int} (hm : m_laws_szAgent fuel x0 x1 = some r) :
    Calls Try.prog 59 ⟨[.agg ⟨c0_⟩, .int .i64 x1]⟩ w (Ret fun v w8 => v = .int .i64 r ∧ St w w8 []) := by
  obtain ⟨A1, k2, A4, k5, e7, h3, h6⟩ := ty106_open h0_; subst e7
  refine Calls.into Try.func59 rfl 18 rfl rfl _ rfl ?_
  unfold m_laws_szAgent at hm
  have hS := St.start w
  refine WP.seq ?_
  refine WP.region ?_
  refine RW.new ttok hS rfl rfl rfl rfl (fun g10 w11 e12 hS13 => ?_)
  refine RW.run ttok 1 rfl ?_
  refine RW.nil ?_
  refine WP.seq ?_
  refine WP.region ?_
  refine RW.run ttok 1 rfl ?_
  refine RW.load1 ttok rfl rfl rfl rfl rfl ((hS13.bring 0 rfl).box) 3 rfl rfl rfl rfl ?_
  refine RW.run ttok 1 rfl ?_
  obtain ⟨r14, hx15, hm⟩ := bind_some hm
  refine RW.call rfl rfl rfl enters120 (laws_szInt64S_ok (hE.trans hS13.ext) h3 hx15) (fun v16 w17 hR18 => ?_)
  obtain ⟨rfl, hR19⟩ := hR18
  have hS20 := hS13.join hR19
  refine RW.run ttok 1 rfl ?_
  refine RW.nil ?_
  refine WP.seq ?_
  refine WP.seq ?_
  refine WP.region ?_
  refine RW.run ttok 2 rfl ?_
  refine RW.nil ?_
  refine WP.cond (decide (r14 < 0)) rfl (fun hc => ?_) (fun hc => ?_)
  · skip
    rw [if_pos hc] at hm
    refine WP.seq ?_
    refine WP.region ?_
    refine RW.run ttok 1 rfl ?_
    refine RW.nil ?_
    refine WP.ret ?_
    cases hm
    exact ⟨_, .cons (.tmp rfl) .nil, rfl, (hS20.taken 0)⟩
  · skip
    rw [if_neg (not_t hc)] at hm
    refine WP.skip ?_
    refine WP.seq ?_
    refine WP.region ?_
    refine RW.run ttok 1 rfl ?_
    refine RW.load1 ttok rfl rfl rfl rfl rfl ((hS20.bring 0 rfl).box) 4 rfl rfl rfl rfl ?_
    refine RW.run ttok 1 rfl ?_
    obtain ⟨r21, hx22, hm⟩ := bind_some hm
    refine RW.call rfl rfl rfl enters121 (laws_szPortS_ok (hE.trans hS20.ext) h6 hx22) (fun v23 w24 hR25 => ?_)
    obtain ⟨rfl, hR26⟩ := hR25
    have hS27 := hS20.join hR26
    refine RW.run ttok 1 rfl ?_
    refine RW.nil ?_
    refine WP.seq ?_
    refine WP.seq ?_
    refine WP.region ?_
    refine RW.run ttok 2 rfl ?_
    refine RW.nil ?_
    refine WP.cond (decide (r21 < 0)) rfl (fun hc => ?_) (fun hc => ?_)
    · skip
      rw [if_pos hc] at hm
      refine WP.seq ?_
      refine WP.region ?_
      refine RW.run ttok 1 rfl ?_
      refine RW.nil ?_
      refine WP.ret ?_
      cases hm
      exact ⟨_, .cons (.tmp rfl) .nil, rfl, (hS27.taken 0)⟩
    · skip
      rw [if_neg (not_t hc)] at hm
      refine WP.skip ?_
      refine WP.seq ?_
      refine WP.region ?_
      refine RW.run ttok 2 rfl ?_
      refine RW.nil ?_
      refine WP.ret ?_
      cases hm
      exact ⟨_, .cons (.tmp rfl) .nil, rfl, (hS27.taken 0)⟩

theorem enters20 : Enters Try.prog 20 := ⟨_, _, Try.func20, rfl, by kernel_rfl⟩
def m_laws_szAgentS_j1 (fuel : Nat) (t2 : Int) : Option Int := some t2
def m_laws_szAgentS_b1 (fuel : Nat) (x0 : (List D.Agent)) (s1 : Int × Int) : Option (Rd (Int × Int) (Int) (Int)) := (if (decide (s1.2 < (x0.length : Int))) = true then ((idx x0 s1.2).bind fun x19 => ((m_laws_szAgent fuel x19 s1.1).bind fun r32 => (if (decide (r32 < 0)) = true then some (.ret (-1)) else some (.next (r32, w64 (s1.2 + 1)))))) else some (.brk s1.1))
def m_laws_szAgentS (fuel : Nat) (x0 : (List D.Agent)) (x1 : Int) : Option (Int) := (if (decide ((w64 (x1 - (x0.length : Int))) < 0)) = true then some (-1) else ((iter (m_laws_szAgentS_b1 fuel x0) fuel (w64 (x1 - (x0.length : Int)), 0)).bind fun o => aft o (m_laws_szAgentS_j1 fuel)))

set_option maxRecDepth 100000 in
theorem laws_szAgentS_ok {W w : World} (hE : Ext W w) {A0_ : Option Addr} {k0_ : Nat} {x0 : (List D.Agent)} {x1 : Int} (h0_ : ty22.ro W [.slice A0_ x0.length k0_] x0) {fuel : Nat} {r : Int} (hm : m_laws_szAgentS fuel x0 x1 = some r) :
    Calls Try.prog 20 ⟨[.slice A0_ x0.length k0_, .int .i64 x1]⟩ w (Ret fun v w8 => v = .int .i64 r ∧ St w w8 []) := by
  refine Calls.into Try.func20 rfl 27 rfl rfl _ rfl ?_
  unfold m_laws_szAgentS at hm
  have hS := St.start w
  refine WP.seq ?_
  refine WP.region ?_
  refine RW.run ttok 1 rfl ?_
  refine RW.nil ?_
  refine WP.seq ?_
  refine WP.region ?_
  refine RW.run ttok 5 rfl ?_
  refine RW.nil ?_
  refine WP.seq ?_
  refine WP.seq ?_
  refine WP.region ?_
  refine RW.run ttok 2 rfl ?_
  refine RW.nil ?_
  refine WP.cond (decide ((w64 (x1 - (x0.length : Int))) < 0)) rfl (fun hc => ?_) (fun hc => ?_)
  · skip
    rw [if_pos hc] at hm
    refine WP.seq ?_
    refine WP.region ?_
    refine RW.run ttok 1 rfl ?_
    refine RW.nil ?_
    refine WP.ret ?_
    cases hm
    exact ⟨_, .cons (.tmp rfl) .nil, rfl, hS⟩
  · skip
    rw [if_neg (not_t hc)] at hm
    refine WP.skip ?_
    refine WP.seq ?_
    refine WP.seq ?_
    refine WP.region ?_
    refine RW.run ttok 1 rfl ?_
    refine RW.nil ?_
    obtain ⟨o10, hl11, hm⟩ := bind_some hm
    refine WP.cut (fun (t2 : Int) F w9 => o10 = .inl t2 ∧ Ext w w9 ∧ St w w9 [] ∧ F = [(1, .int .i64 t2)]) ?_ ?_
    · skip
      rintro t2 F w7 ⟨ho13, hE6, hS12, rfl⟩
      subst ho13
      rw [aft_inl] at hm
      unfold m_laws_szAgentS_j1 at hm
      refine WP.seq ?_
      refine WP.region ?_
      refine RW.run ttok 2 rfl ?_
      refine RW.nil ?_
      refine WP.ret ?_
      cases hm
      exact ⟨_, .cons (.tmp rfl) .nil, rfl, hS12⟩
    · skip
      refine WP.block ?_
      refine WP.weak [(0, .slice A0_ x0.length k0_), (1, .int .i64 (w64 (x1 - (x0.length : Int)))), (5, .int .i64 0)] ⟨rfl, rfl, rfl, trivial⟩ ?_
      refine WP.iter (fun (s1 : Int × Int) F w9 => Ext w w9 ∧ St w w9 [] ∧ F = [(0, .slice A0_ x0.length k0_), (1, .int .i64 s1.1), (5, .int .i64 s1.2)]) _ hl11 ⟨(Ext.refl _), hS, rfl⟩ ?_
      rintro s1 F w18 _ o16 ⟨hE5, hS17, rfl⟩ hb14 ho15
      unfold m_laws_szAgentS_b1 at hb14
      refine WP.seq ?_
      refine WP.seq ?_
      refine WP.region ?_
      refine RW.run ttok 4 rfl ?_
      refine RW.nil ?_
      refine WP.cond (decide (s1.2 < (x0.length : Int))) rfl (fun hc => ?_) (fun hc => ?_)
      · skip
        rw [if_pos hc] at hb14
        refine WP.skip ?_
        refine WP.seq ?_
        refine WP.block ?_
        refine WP.seq ?_
        refine WP.region ?_
        refine RW.run ttok 2 rfl ?_
        obtain ⟨x19, hx20, hb14⟩ := bind_some hb14
        refine RW.idx ttok (hE.trans hS17.ext) rfl rfl rfl rfl rfl rfl (by decide) rfl rfl h0_ (idx_some hx20).1 (idx_some hx20).2 rfl rfl (fun p21 es22 ha23 hr24 => ?_)
        obtain ⟨A25, k26, A28, k29, e31, h27, h30⟩ := ty106_open hr24; subst e31
        refine RW.loadN ttok rfl rfl rfl rfl rfl (At.ext (hE.trans hS17.ext) ha23) rfl rfl rfl ?_
        refine RW.run ttok 1 rfl ?_
        obtain ⟨r32, hx33, hb14⟩ := bind_some hb14
        refine RW.call rfl rfl rfl enters59 (laws_szAgent_ok (hE.trans hS17.ext) hr24 hx33) (fun v34 w35 hR36 => ?_)
        obtain ⟨rfl, hR37⟩ := hR36
        have hS38 := hS17.join hR37
        refine RW.run ttok 1 rfl ?_
        refine RW.nil ?_
        refine WP.seq ?_
        refine WP.region ?_
        refine RW.run ttok 2 rfl ?_
        refine RW.nil ?_
        refine WP.cond (decide (r32 < 0)) rfl (fun hc => ?_) (fun hc => ?_)
        · skip
          rw [if_pos hc] at hb14
          refine WP.seq ?_
          refine WP.region ?_
          refine RW.run ttok 1 rfl ?_
          refine RW.nil ?_
          refine WP.ret ?_
          cases hb14
          cases ho15
          have hm : some _ = some _ := hm
          cases hm
          exact ⟨_, .cons (.tmp rfl) .nil, rfl, hS38⟩
        · skip
          rw [if_neg (not_t hc)] at hb14
          refine WP.skip ?_
          refine WP.region ?_
          refine RW.run ttok 3 rfl ?_
          refine RW.nil ?_
          cases hb14
          exact ⟨_, [(0, .slice A0_ x0.length k0_), (1, .int .i64 r32), (5, .int .i64 (w64 (s1.2 + 1)))], ⟨rfl, rfl, rfl, trivial⟩, rfl, (hE5.trans hR37.ext), hS38, rfl⟩
      · skip
        rw [if_neg (not_t hc)] at hb14
        refine WP.exit ?_
        cases hb14
        exact ⟨_, [(1, .int .i64 s1.1)], ⟨rfl, trivial⟩, ho15, hE5, hS17, rfl⟩

theorem enters10 : Enters Try.prog 10 := ⟨_, _, Try.func10, rfl, by kernel_rfl⟩
def m_laws_szNet (fuel : Nat) (x0 : D.Net) (x1 : Int) : Option (Int) := ((m_laws_szAgentS fuel x0.Agents x1).bind fun r11 => (if (decide (r11 < 0)) = true then some (-1) else some r11))

set_option maxRecDepth 100000 in
theorem laws_szNet_ok {W w : World} (hE : Ext W w) {c0_ : List Value} {x0 : D.Net} {x1 : Int} (h0_ : ty24.ro W c0_ x0) {fuel : Nat} {r : Int} (hm : m_laws_szNet fuel x0 x1 = some r) :
    Calls Try.prog 10 ⟨[.agg ⟨c0_⟩, .int .i64 x1]⟩ w (Ret fun v w8 => v = .int .i64 r ∧ St w w8 []) := by
  obtain ⟨A1, k2, e4, h3⟩ := ty24_open h0_; subst e4
  refine Calls.into Try.func10 rfl 12 rfl rfl _ rfl ?_
  unfold m_laws_szNet at hm
  have hS := St.start w
  refine WP.seq ?_
  refine WP.region ?_
  refine RW.new ttok hS rfl rfl rfl rfl (fun g5 w6 e7 hS10 => ?_)
  refine RW.run ttok 1 rfl ?_
  refine RW.nil ?_
  refine WP.seq ?_
  refine WP.region ?_
  refine RW.run ttok 1 rfl ?_
  refine RW.load1 ttok rfl rfl rfl rfl rfl ((hS10.bring 0 rfl).box) 0 rfl rfl rfl rfl ?_
  refine RW.run ttok 1 rfl ?_
  obtain ⟨r11, hx12, hm⟩ := bind_some hm
  refine RW.call rfl rfl rfl enters20 (laws_szAgentS_ok (hE.trans hS10.ext) h3 hx12) (fun v13 w14 hR15 => ?_)
  obtain ⟨rfl, hR16⟩ := hR15
  have hS17 := hS10.join hR16
  refine RW.run ttok 1 rfl ?_
  refine RW.nil ?_
  refine WP.seq ?_
  refine WP.seq ?_
  refine WP.region ?_
  refine RW.run ttok 2 rfl ?_
  refine RW.nil ?_
  refine WP.cond (decide (r11 < 0)) rfl (fun hc => ?_) (fun hc => ?_)
  · skip
    rw [if_pos hc] at hm
    refine WP.seq ?_
    refine WP.region ?_
    refine RW.run ttok 1 rfl ?_
    refine RW.nil ?_
    refine WP.ret ?_
    cases hm
    exact ⟨_, .cons (.tmp rfl) .nil, rfl, (hS17.taken 0)⟩
  · skip
    rw [if_neg (not_t hc)] at hm
    refine WP.skip ?_
    refine WP.seq ?_
    refine WP.region ?_
    refine RW.run ttok 2 rfl ?_
    refine RW.nil ?_
    refine WP.ret ?_
    cases hm
    exact ⟨_, .cons (.tmp rfl) .nil, rfl, (hS17.taken 0)⟩

theorem enters123 : Enters Try.prog 123 := ⟨_, _, Try.func123, rfl, by kernel_rfl⟩
def m_laws_toInt64S_j1 (fuel : Nat) (t11 : (List Int)) : Option (List Int) := some t11
def m_laws_toInt64S_b1 (fuel : Nat) (x0 : (List Int)) (s10 : Int × (List Int)) : Option (Rd (Int × (List Int)) ((List Int)) ((List Int))) := (if (decide (s10.1 < (x0.length : Int))) = true then ((idx x0 s10.1).bind fun x25 => (if decide (0 ≤ s10.1 ∧ s10.1.toNat < s10.2.length) = true then some (.next (w64 (s10.1 + 1), (s10.2.set s10.1.toNat x25))) else none)) else some (.brk s10.2))
def m_laws_toInt64S (fuel : Nat) (x0 : (List Int)) : Option ((List Int)) := (if decide (0 ≤ (x0.length : Int) ∧ (x0.length : Int) ≤ 4294967296) = true then ((iter (m_laws_toInt64S_b1 fuel x0) fuel (0, (List.replicate (x0.length : Int).toNat (0 : Int)))).bind fun o => aft o (m_laws_toInt64S_j1 fuel)) else none)

set_option maxRecDepth 100000 in
theorem laws_toInt64S_ok {W w : World} (hE : Ext W w) {A0_ : Option Addr} {k0_ : Nat} {x0 : (List Int)} (h0_ : ty103.ro W [.slice A0_ x0.length k0_] x0) {fuel : Nat} {r : (List Int)} (hm : m_laws_toInt64S fuel x0 = some r) :
    Calls Try.prog 123 ⟨[.slice A0_ x0.length k0_]⟩ w (Ret fun v w8 => ∃ A0 k0, v = .slice A0 r.length k0 ∧ St w w8 [Own ty103 [.slice A0 r.length k0] r]) := by
  refine Calls.into Try.func123 rfl 22 rfl rfl _ rfl ?_
  unfold m_laws_toInt64S at hm
  have hS := St.start w
  refine WP.seq ?_
  refine WP.region ?_
  refine RW.run ttok 1 rfl ?_
  refine RW.nil ?_
  refine WP.seq ?_
  refine WP.region ?_
  refine RW.run ttok 2 rfl ?_
  by_cases hk1 : decide (0 ≤ (x0.length : Int) ∧ (x0.length : Int) ≤ 4294967296) = true
  case neg => rw [if_neg hk1] at hm; cases hm
  rw [if_pos hk1] at hm
  have hz7 := of_decide_eq_true hk1
  refine RW.make (U := tInt) ttok (0 : Int) hS rfl rfl rfl rfl rfl rfl rfl rfl hz7.1 (by have := hz7.2; show _ * (8 : Int) ≤ _; omega) (by have := hz7.2; simp only [maxLen]; omega) (fun _ => ⟨rfl, rfl⟩) rfl rfl (fun A2 k3 w4 e5 hS6 => ?_)
  refine RW.run ttok 1 rfl ?_
  refine RW.nil ?_
  refine WP.seq ?_
  refine WP.seq ?_
  refine WP.region ?_
  refine RW.run ttok 1 rfl ?_
  refine RW.nil ?_
  obtain ⟨o14, hl15, hm⟩ := bind_some hm
  refine WP.cut (fun (t11 : (List Int)) F w9 => o14 = .inl t11 ∧ St w w9 [Own ty103 [.slice A2 (List.replicate (x0.length : Int).toNat (0 : Int)).length k3] t11] ∧ F = [(3, .slice A2 (List.replicate (x0.length : Int).toNat (0 : Int)).length k3)]) ?_ ?_
  · skip
    rintro t11 F w13 ⟨ho17, hS16, rfl⟩
    subst ho17
    rw [aft_inl] at hm
    unfold m_laws_toInt64S_j1 at hm
    refine WP.seq ?_
    refine WP.region ?_
    refine RW.run ttok 2 rfl ?_
    refine RW.nil ?_
    refine WP.ret ?_
    cases hm
    have hn18 := (hS16.bring 0 rfl).lenEq
    have hS19 := (hS16.bring 0 rfl).reLen hn18
    exact ⟨_, .cons (.tmp rfl) .nil, A2, k3, (by first | (simp only [hn18]; done) | (simp only [hn18]; rfl)), hS19⟩
  · skip
    refine WP.block ?_
    refine WP.weak [(0, .slice A0_ x0.length k0_), (3, .slice A2 (List.replicate (x0.length : Int).toNat (0 : Int)).length k3), (4, .int .i64 0)] ⟨rfl, rfl, rfl, trivial⟩ ?_
    refine WP.iter (fun (s10 : Int × (List Int)) F w9 => St w w9 [Own ty103 [.slice A2 (List.replicate (x0.length : Int).toNat (0 : Int)).length k3] s10.2] ∧ F = [(0, .slice A0_ x0.length k0_), (3, .slice A2 (List.replicate (x0.length : Int).toNat (0 : Int)).length k3), (4, .int .i64 s10.1)]) _ hl15 ⟨hS6, rfl⟩ ?_
    rintro s10 F w24 _ o22 ⟨hS23, rfl⟩ hb20 ho21
    unfold m_laws_toInt64S_b1 at hb20
    refine WP.seq ?_
    refine WP.seq ?_
    refine WP.region ?_
    refine RW.run ttok 4 rfl ?_
    refine RW.nil ?_
    refine WP.cond (decide (s10.1 < (x0.length : Int))) rfl (fun hc => ?_) (fun hc => ?_)
    · skip
      rw [if_pos hc] at hb20
      refine WP.skip ?_
      refine WP.seq ?_
      refine WP.block ?_
      refine WP.region ?_
      refine RW.run ttok 4 rfl ?_
      obtain ⟨x25, hx26, hb20⟩ := bind_some hb20
      refine RW.idx ttok (hE.trans hS23.ext) rfl rfl rfl rfl rfl rfl (by decide) rfl rfl h0_ (idx_some hx26).1 (idx_some hx26).2 rfl rfl (fun p27 es28 ha29 hr30 => ?_)
      cases hr30
      refine RW.load1 ttok rfl rfl rfl rfl rfl (At.ext (hE.trans hS23.ext) ha29) 0 rfl rfl rfl rfl ?_
      have hS31 := hS23.bring 0 rfl
      by_cases hk32 : decide (0 ≤ s10.1 ∧ s10.1.toNat < s10.2.length) = true
      case neg => rw [if_neg hk32] at hb20; cases hb20
      rw [if_pos hk32] at hb20
      have hb33 := of_decide_eq_true hk32
      refine RW.idxOwnN ttok hS31 rfl rfl rfl rfl rfl rfl rfl rfl hb33.1 hb33.2 rfl rfl (fun q34 hq35 => ?_)
      have hS36 := hS31.flat (T := tInt) (cs := [.int .i64 x25]) (x := x25) ⟨rfl, rfl⟩
      have hS37 := hS36.bring 1 rfl
      refine RW.storeElN ttok hS37 rfl rfl rfl rfl rfl rfl hb33.2 hq35 rfl rfl (fun w38 hS39 => ?_)
      refine RW.nil ?_
      refine WP.region ?_
      refine RW.run ttok 3 rfl ?_
      refine RW.nil ?_
      cases hb20
      exact ⟨_, [(0, .slice A0_ x0.length k0_), (3, .slice A2 (List.replicate (x0.length : Int).toNat (0 : Int)).length k3), (4, .int .i64 (w64 (s10.1 + 1)))], ⟨rfl, rfl, rfl, trivial⟩, rfl, hS39, rfl⟩
    · skip
      rw [if_neg (not_t hc)] at hb20
      refine WP.exit ?_
      cases hb20
      exact ⟨_, [(3, .slice A2 (List.replicate (x0.length : Int).toNat (0 : Int)).length k3)], ⟨rfl, trivial⟩, ho21, hS23, rfl⟩

theorem enters16 : Enters Try.prog 16 := ⟨_, _, Try.func16, rfl, by kernel_rfl⟩
def m_laws_toPort (fuel : Nat) (x0 : D.Port) : Option (D.Port) := some (⟨x0.Agent, x0.Slot⟩ : D.Port)

set_option maxRecDepth 100000 in
theorem laws_toPort_ok {W w : World} (hE : Ext W w) {c0_ : List Value} {x0 : D.Port} (h0_ : ty35.ro W c0_ x0) {fuel : Nat} {r : D.Port} (hm : m_laws_toPort fuel x0 = some r) :
    Calls Try.prog 16 ⟨[.agg ⟨c0_⟩]⟩ w (Ret fun v w8 => v = .agg ⟨[.int .i64 r.Agent, .int .i64 r.Slot]⟩ ∧ St w w8 []) := by
  have e1 := ty35_open h0_; subst e1
  refine Calls.into Try.func16 rfl 11 rfl rfl _ rfl ?_
  unfold m_laws_toPort at hm
  have hS := St.start w
  refine WP.seq ?_
  refine WP.region ?_
  refine RW.new ttok hS rfl rfl rfl rfl (fun g2 w3 e4 hS5 => ?_)
  refine RW.new ttok hS5 rfl rfl rfl rfl (fun g6 w7 e10 hS11 => ?_)
  refine RW.nil ?_
  refine WP.seq ?_
  refine WP.region ?_
  refine RW.new ttok hS11 rfl rfl rfl rfl (fun g12 w13 e14 hS15 => ?_)
  refine RW.nil ?_
  refine WP.seq ?_
  refine WP.region ?_
  refine RW.run ttok 1 rfl ?_
  refine RW.load1 ttok rfl rfl rfl rfl rfl ((hS15.bring 2 rfl).box) 0 rfl rfl rfl rfl ?_
  refine RW.run ttok 1 rfl ?_
  have hS16 := hS15.bring 0 rfl
  refine RW.store ttok (A := []) hS16 rfl rfl rfl rfl rfl 0 rfl rfl rfl rfl rfl (fun w17 hS18 => ?_)
  refine RW.nil ?_
  refine WP.seq ?_
  refine WP.region ?_
  refine RW.run ttok 1 rfl ?_
  refine RW.load1 ttok rfl rfl rfl rfl rfl ((hS18.bring 2 rfl).box) 1 rfl rfl rfl rfl ?_
  refine RW.run ttok 1 rfl ?_
  have hS19 := hS18.bring 0 rfl
  refine RW.store ttok (A := []) hS19 rfl rfl rfl rfl rfl 1 rfl rfl rfl rfl rfl (fun w20 hS21 => ?_)
  refine RW.nil ?_
  refine WP.seq ?_
  refine WP.region ?_
  refine RW.loadN ttok rfl rfl rfl rfl rfl ((hS21.bring 0 rfl).box) rfl rfl rfl ?_
  have hS22 := hS21.bring 1 rfl
  refine RW.store ttok (A := []) hS22 rfl rfl rfl rfl rfl 0 rfl rfl rfl rfl rfl (fun w23 hS24 => ?_)
  refine RW.nil ?_
  refine WP.ret ?_
  cases hm
  exact ⟨_, .cons (ResIs.agg ttok rfl rfl rfl ((hS24.bring 0 rfl).box) rfl) .nil, rfl, (hS24.taken 0)⟩

theorem enters124 : Enters Try.prog 124 := ⟨_, _, Try.func124, rfl, by kernel_rfl⟩
def m_laws_toPortS_j1 (fuel : Nat) (t11 : (List D.Port)) : Option (List D.Port) := some t11
def m_laws_toPortS_b1 (fuel : Nat) (x0 : (List D.Port)) (s10 : Int × (List D.Port)) : Option (Rd (Int × (List D.Port)) ((List D.Port)) ((List D.Port))) := (if (decide (s10.1 < (x0.length : Int))) = true then ((idx x0 s10.1).bind fun x25 => ((m_laws_toPort fuel x25).bind fun r32 => (if decide (0 ≤ s10.1 ∧ s10.1.toNat < s10.2.length) = true then some (.next (w64 (s10.1 + 1), (s10.2.set s10.1.toNat r32))) else none))) else some (.brk s10.2))
def m_laws_toPortS (fuel : Nat) (x0 : (List D.Port)) : Option ((List D.Port)) := (if decide (0 ≤ (x0.length : Int) ∧ (x0.length : Int) ≤ 4294967296) = true then ((iter (m_laws_toPortS_b1 fuel x0) fuel (0, (List.replicate (x0.length : Int).toNat (⟨(0 : Int), (0 : Int)⟩ : D.Port)))).bind fun o => aft o (m_laws_toPortS_j1 fuel)) else none)

set_option maxRecDepth 100000 in
theorem laws_toPortS_ok {W w : World} (hE : Ext W w) {A0_ : Option Addr} {k0_ : Nat} {x0 : (List D.Port)} (h0_ : ty104.ro W [.slice A0_ x0.length k0_] x0) {fuel : Nat} {r : (List D.Port)} (hm : m_laws_toPortS fuel x0 = some r) :
    Calls Try.prog 124 ⟨[.slice A0_ x0.length k0_]⟩ w (Ret fun v w8 => ∃ A0 k0, v = .slice A0 r.length k0 ∧ St w w8 [Own ty110 [.slice A0 r.length k0] r]) := by
  refine Calls.into Try.func124 rfl 23 rfl rfl _ rfl ?_
  unfold m_laws_toPortS at hm
  have hS := St.start w
  refine WP.seq ?_
  refine WP.region ?_
  refine RW.run ttok 1 rfl ?_
  refine RW.nil ?_
  refine WP.seq ?_
  refine WP.region ?_
  refine RW.run ttok 2 rfl ?_
  by_cases hk1 : decide (0 ≤ (x0.length : Int) ∧ (x0.length : Int) ≤ 4294967296) = true
  case neg => rw [if_neg hk1] at hm; cases hm
  rw [if_pos hk1] at hm
  have hz7 := of_decide_eq_true hk1
  refine RW.make (U := ty38) ttok (⟨(0 : Int), (0 : Int)⟩ : D.Port) hS rfl rfl rfl rfl rfl rfl rfl rfl hz7.1 (by have := hz7.2; show _ * (16 : Int) ≤ _; omega) (by have := hz7.2; simp only [maxLen]; omega) (fun _ => (ty38_ownI (c := (⟨(0 : Int), (0 : Int)⟩ : D.Port)) rfl)) rfl rfl (fun A2 k3 w4 e5 hS6 => ?_)
  refine RW.run ttok 1 rfl ?_
  refine RW.nil ?_
  refine WP.seq ?_
  refine WP.seq ?_
  refine WP.region ?_
  refine RW.run ttok 1 rfl ?_
  refine RW.nil ?_
  obtain ⟨o14, hl15, hm⟩ := bind_some hm
  refine WP.cut (fun (t11 : (List D.Port)) F w9 => o14 = .inl t11 ∧ St w w9 [Own ty110 [.slice A2 (List.replicate (x0.length : Int).toNat (⟨(0 : Int), (0 : Int)⟩ : D.Port)).length k3] t11] ∧ F = [(3, .slice A2 (List.replicate (x0.length : Int).toNat (⟨(0 : Int), (0 : Int)⟩ : D.Port)).length k3)]) ?_ ?_
  · skip
    rintro t11 F w13 ⟨ho17, hS16, rfl⟩
    subst ho17
    rw [aft_inl] at hm
    unfold m_laws_toPortS_j1 at hm
    refine WP.seq ?_
    refine WP.region ?_
    refine RW.run ttok 2 rfl ?_
    refine RW.nil ?_
    refine WP.ret ?_
    cases hm
    have hn18 := (hS16.bring 0 rfl).lenEq
    have hS19 := (hS16.bring 0 rfl).reLen hn18
    exact ⟨_, .cons (.tmp rfl) .nil, A2, k3, (by first | (simp only [hn18]; done) | (simp only [hn18]; rfl)), hS19⟩
  · skip
    refine WP.block ?_
    refine WP.weak [(0, .slice A0_ x0.length k0_), (3, .slice A2 (List.replicate (x0.length : Int).toNat (⟨(0 : Int), (0 : Int)⟩ : D.Port)).length k3), (4, .int .i64 0)] ⟨rfl, rfl, rfl, trivial⟩ ?_
    refine WP.iter (fun (s10 : Int × (List D.Port)) F w9 => St w w9 [Own ty110 [.slice A2 (List.replicate (x0.length : Int).toNat (⟨(0 : Int), (0 : Int)⟩ : D.Port)).length k3] s10.2] ∧ F = [(0, .slice A0_ x0.length k0_), (3, .slice A2 (List.replicate (x0.length : Int).toNat (⟨(0 : Int), (0 : Int)⟩ : D.Port)).length k3), (4, .int .i64 s10.1)]) _ hl15 ⟨hS6, rfl⟩ ?_
    rintro s10 F w24 _ o22 ⟨hS23, rfl⟩ hb20 ho21
    unfold m_laws_toPortS_b1 at hb20
    refine WP.seq ?_
    refine WP.seq ?_
    refine WP.region ?_
    refine RW.run ttok 4 rfl ?_
    refine RW.nil ?_
    refine WP.cond (decide (s10.1 < (x0.length : Int))) rfl (fun hc => ?_) (fun hc => ?_)
    · skip
      rw [if_pos hc] at hb20
      refine WP.skip ?_
      refine WP.seq ?_
      refine WP.block ?_
      refine WP.region ?_
      refine RW.run ttok 4 rfl ?_
      obtain ⟨x25, hx26, hb20⟩ := bind_some hb20
      refine RW.idx ttok (hE.trans hS23.ext) rfl rfl rfl rfl rfl rfl (by decide) rfl rfl h0_ (idx_some hx26).1 (idx_some hx26).2 rfl rfl (fun p27 es28 ha29 hr30 => ?_)
      have e31 := ty35_open hr30; subst e31
      refine RW.loadN ttok rfl rfl rfl rfl rfl (At.ext (hE.trans hS23.ext) ha29) rfl rfl rfl ?_
      obtain ⟨r32, hx33, hb20⟩ := bind_some hb20
      refine RW.call rfl rfl rfl enters16 (laws_toPort_ok (hE.trans hS23.ext) hr30 hx33) (fun v34 w35 hR36 => ?_)
      obtain ⟨rfl, hR37⟩ := hR36
      have hS38 := hS23.join hR37
      have hS39 := hS38.bring 0 rfl
      by_cases hk40 : decide (0 ≤ s10.1 ∧ s10.1.toNat < s10.2.length) = true
      case neg => rw [if_neg hk40] at hb20; cases hb20
      rw [if_pos hk40] at hb20
      have hb41 := of_decide_eq_true hk40
      refine RW.idxOwnN ttok hS39 rfl rfl rfl rfl rfl rfl rfl rfl hb41.1 hb41.2 rfl rfl (fun q42 hq43 => ?_)
      have hS44 := ty38_shutS (c := r32) (B := _) hS39
      have hS45 := hS44.bring 1 rfl
      refine RW.storeElN ttok hS45 rfl rfl rfl rfl rfl rfl hb41.2 hq43 rfl rfl (fun w46 hS47 => ?_)
      refine RW.nil ?_
      refine WP.region ?_
      refine RW.run ttok 3 rfl ?_
      refine RW.nil ?_
      cases hb20
      exact ⟨_, [(0, .slice A0_ x0.length k0_), (3, .slice A2 (List.replicate (x0.length : Int).toNat (⟨(0 : Int), (0 : Int)⟩ : D.Port)).length k3), (4, .int .i64 (w64 (s10.1 + 1)))], ⟨rfl, rfl, rfl, trivial⟩, rfl, hS47, rfl⟩
    · skip
      rw [if_neg (not_t hc)] at hb20
      refine WP.exit ?_
      cases hb20
      exact ⟨_, [(3, .slice A2 (List.replicate (x0.length : Int).toNat (⟨(0 : Int), (0 : Int)⟩ : D.Port)).length k3)], ⟨rfl, trivial⟩, ho21, hS23, rfl⟩

theorem enters61 : Enters Try.prog 61 := ⟨_, _, Try.func61, rfl, by kernel_rfl⟩
def m_laws_toAgent (fuel : Nat) (x0 : D.Agent) : Option (D.Agent) := ((m_laws_toInt64S fuel x0.Data).bind fun r31 => ((m_laws_toPortS fuel x0.Ports).bind fun r43 => some (⟨x0.Kind, x0.Level, x0.Value, r31, r43⟩ : D.Agent)))

set_option maxRecDepth 100000 in
theorem laws_toAgent_ok {W w : World} (hE : Ext W w) {c0_ : List Value} {x0 : D.Agent} (h0_ : ty106.ro W c0_ x0) {fuel : Nat} {r : D.Agent} (hm : m_laws_toAgent fuel x0 = some r) :
    Calls Try.prog 61 ⟨[.agg ⟨c0_⟩]⟩ w (Ret fun v w8 => ∃ A0 k0 A1 k1, v = .agg ⟨[.int .i64 r.Kind, .int .i64 r.Level, .int .i64 r.Value, .slice A0 r.Data.length k0, .slice A1 r.Ports.length k1]⟩ ∧ St w w8 [Own ty103 [.slice A0 r.Data.length k0] r.Data, Own ty110 [.slice A1 r.Ports.length k1] r.Ports]) := by
  obtain ⟨A1, k2, A4, k5, e7, h3, h6⟩ := ty106_open h0_; subst e7
  refine Calls.into Try.func61 rfl 22 rfl rfl _ rfl ?_
  unfold m_laws_toAgent at hm
  have hS := St.start w
  refine WP.seq ?_
  refine WP.region ?_
  refine RW.new ttok hS rfl rfl rfl rfl (fun g10 w11 e12 hS13 => ?_)
  refine RW.new ttok hS13 rfl rfl rfl rfl (fun g14 w15 e16 hS17 => ?_)
  refine RW.nil ?_
  refine WP.seq ?_
  refine WP.region ?_
  refine RW.new ttok hS17 rfl rfl rfl rfl (fun g18 w19 e20 hS21 => ?_)
  refine RW.nil ?_
  refine WP.seq ?_
  refine WP.region ?_
  refine RW.run ttok 1 rfl ?_
  refine RW.load1 ttok rfl rfl rfl rfl rfl ((hS21.bring 2 rfl).box) 0 rfl rfl rfl rfl ?_
  refine RW.run ttok 1 rfl ?_
  have hS22 := hS21.bring 0 rfl
  refine RW.store ttok (A := []) hS22 rfl rfl rfl rfl rfl 0 rfl rfl rfl rfl rfl (fun w23 hS24 => ?_)
  refine RW.nil ?_
  refine WP.seq ?_
  refine WP.region ?_
  refine RW.run ttok 1 rfl ?_
  refine RW.load1 ttok rfl rfl rfl rfl rfl ((hS24.bring 2 rfl).box) 1 rfl rfl rfl rfl ?_
  refine RW.run ttok 1 rfl ?_
  have hS25 := hS24.bring 0 rfl
  refine RW.store ttok (A := []) hS25 rfl rfl rfl rfl rfl 1 rfl rfl rfl rfl rfl (fun w26 hS27 => ?_)
  refine RW.nil ?_
  refine WP.seq ?_
  refine WP.region ?_
  refine RW.run ttok 1 rfl ?_
  refine RW.load1 ttok rfl rfl rfl rfl rfl ((hS27.bring 2 rfl).box) 2 rfl rfl rfl rfl ?_
  refine RW.run ttok 1 rfl ?_
  have hS28 := hS27.bring 0 rfl
  refine RW.store ttok (A := []) hS28 rfl rfl rfl rfl rfl 2 rfl rfl rfl rfl rfl (fun w29 hS30 => ?_)
  refine RW.nil ?_
  refine WP.seq ?_
  refine WP.region ?_
  refine RW.run ttok 1 rfl ?_
  refine RW.load1 ttok rfl rfl rfl rfl rfl ((hS30.bring 2 rfl).box) 3 rfl rfl rfl rfl ?_
  obtain ⟨r31, hx32, hm⟩ := bind_some hm
  refine RW.call rfl rfl rfl enters123 (laws_toInt64S_ok (hE.trans hS30.ext) h3 hx32) (fun v33 w34 hR35 => ?_)
  obtain ⟨A36, k37, rfl, hR38⟩ := hR35
  have hS39 := hS30.join hR38
  refine RW.run ttok 1 rfl ?_
  have hS40 := hS39.bring 1 rfl
  refine RW.store ttok (A := []) hS40 rfl rfl rfl rfl rfl 3 rfl rfl rfl rfl rfl (fun w41 hS42 => ?_)
  refine RW.nil ?_
  refine WP.seq ?_
  refine WP.region ?_
  refine RW.run ttok 1 rfl ?_
  refine RW.load1 ttok rfl rfl rfl rfl rfl ((hS42.bring 3 rfl).box) 4 rfl rfl rfl rfl ?_
  obtain ⟨r43, hx44, hm⟩ := bind_some hm
  refine RW.call rfl rfl rfl enters124 (laws_toPortS_ok (hE.trans hS42.ext) h6 hx44) (fun v45 w46 hR47 => ?_)
  obtain ⟨A48, k49, rfl, hR50⟩ := hR47
  have hS51 := hS42.join hR50
  refine RW.run ttok 1 rfl ?_
  have hS52 := hS51.bring 1 rfl
  refine RW.store ttok (A := []) hS52 rfl rfl rfl rfl rfl 4 rfl rfl rfl rfl rfl (fun w53 hS54 => ?_)
  refine RW.nil ?_
  refine WP.seq ?_
  refine WP.region ?_
  refine RW.loadN ttok rfl rfl rfl rfl rfl ((hS54.bring 0 rfl).box) rfl rfl rfl ?_
  have hS55 := hS54.bring 3 rfl
  refine RW.store ttok (A := []) hS55 rfl rfl rfl rfl rfl 0 rfl rfl rfl rfl rfl (fun w56 hS57 => ?_)
  refine RW.nil ?_
  refine WP.ret ?_
  cases hm
  exact ⟨_, .cons (ResIs.agg ttok rfl rfl rfl ((hS57.bring 0 rfl).box) rfl) .nil, A36, k37, A48, k49, rfl, (((hS57.bring 2 rfl).bring 3 rfl).taken 2)⟩

theorem enters23 : Enters Try.prog 23 := ⟨_, _, Try.func23, rfl, by kernel_rfl⟩
def m_laws_toAgentS_j1 (fuel : Nat) (t11 : (List D.Agent)) : Option (List D.Agent) := some t11
def m_laws_toAgentS_b1 (fuel : Nat) (x0 : (List D.Agent)) (s10 : Int × (List D.Agent)) : Option (Rd (Int × (List D.Agent)) ((List D.Agent)) ((List D.Agent))) := (if (decide (s10.1 < (x0.length : Int))) = true then ((idx x0 s10.1).bind fun x25 => ((m_laws_toAgent fuel x25).bind fun r38 => (if decide (0 ≤ s10.1 ∧ s10.1.toNat < s10.2.length) = true then some (.next (w64 (s10.1 + 1), (s10.2.set s10.1.toNat r38))) else none))) else some (.brk s10.2))
def m_laws_toAgentS (fuel : Nat) (x0 : (List D.Agent)) : Option ((List D.Agent)) := (if decide (0 ≤ (x0.length : Int) ∧ (x0.length : Int) ≤ 4294967296) = true then ((iter (m_laws_toAgentS_b1 fuel x0) fuel (0, (List.replicate (x0.length : Int).toNat (⟨(0 : Int), (0 : Int), (0 : Int), ([] : (List Int)), ([] : (List D.Port))⟩ : D.Agent)))).bind fun o => aft o (m_laws_toAgentS_j1 fuel)) else none)

set_option maxRecDepth 100000 in
theorem laws_toAgentS_ok {W w : World} (hE : Ext W w) {A0_ : Option Addr} {k0_ : Nat} {x0 : (List D.Agent)} (h0_ : ty22.ro W [.slice A0_ x0.length k0_] x0) {fuel : Nat} {r : (List D.Agent)} (hm : m_laws_toAgentS fuel x0 = some r) :
    Calls Try.prog 23 ⟨[.slice A0_ x0.length k0_]⟩ w (Ret fun v w8 => ∃ A0 k0, v = .slice A0 r.length k0 ∧ St w w8 [Own ty28 [.slice A0 r.length k0] r]) := by
  refine Calls.into Try.func23 rfl 23 rfl rfl _ rfl ?_
  unfold m_laws_toAgentS at hm
  have hS := St.start w
  refine WP.seq ?_
  refine WP.region ?_
  refine RW.run ttok 1 rfl ?_
  refine RW.nil ?_
  refine WP.seq ?_
  refine WP.region ?_
  refine RW.run ttok 2 rfl ?_
  by_cases hk1 : decide (0 ≤ (x0.length : Int) ∧ (x0.length : Int) ≤ 4294967296) = true
  case neg => rw [if_neg hk1] at hm; cases hm
  rw [if_pos hk1] at hm
  have hz7 := of_decide_eq_true hk1
  refine RW.make (U := ty112) ttok (⟨(0 : Int), (0 : Int), (0 : Int), ([] : (List Int)), ([] : (List D.Port))⟩ : D.Agent) hS rfl rfl rfl rfl rfl rfl rfl rfl hz7.1 (by have := hz7.2; show _ * (72 : Int) ≤ _; omega) (by have := hz7.2; simp only [maxLen]; omega) (fun _ => (ty112_ownI (c := (⟨(0 : Int), (0 : Int), (0 : Int), ([] : (List Int)), ([] : (List D.Port))⟩ : D.Agent)) ⟨[], [], rfl, (slNilOwn tInt 2 _), ⟨[], [], rfl, (slNilOwn ty38 38 _), rfl⟩⟩)) rfl rfl (fun A2 k3 w4 e5 hS6 => ?_)
  refine RW.run ttok 1 rfl ?_
  refine RW.nil ?_
  refine WP.seq ?_
  refine WP.seq ?_
  refine WP.region ?_
  refine RW.run ttok 1 rfl ?_
  refine RW.nil ?_
  obtain ⟨o14, hl15, hm⟩ := bind_some hm
  refine WP.cut (fun (t11 : (List D.Agent)) F w9 => o14 = .inl t11 ∧ St w w9 [Own ty28 [.slice A2 (List.replicate (x0.length : Int).toNat (⟨(0 : Int), (0 : Int), (0 : Int), ([] : (List Int)), ([] : (List D.Port))⟩ : D.Agent)).length k3] t11] ∧ F = [(3, .slice A2 (List.replicate (x0.length : Int).toNat (⟨(0 : Int), (0 : Int), (0 : Int), ([] : (List Int)), ([] : (List D.Port))⟩ : D.Agent)).length k3)]) ?_ ?_
  · skip
    rintro t11 F w13 ⟨ho17, hS16, rfl⟩
    subst ho17
    rw [aft_inl] at hm
    unfold m_laws_toAgentS_j1 at hm
    refine WP.seq ?_
    refine WP.region ?_
    refine RW.run ttok 2 rfl ?_
    refine RW.nil ?_
    refine WP.ret ?_
    cases hm
    have hn18 := (hS16.bring 0 rfl).lenEq
    have hS19 := (hS16.bring 0 rfl).reLen hn18
    exact ⟨_, .cons (.tmp rfl) .nil, A2, k3, (by first | (simp only [hn18]; done) | (simp only [hn18]; rfl)), hS19⟩
  · skip
    refine WP.block ?_
    refine WP.weak [(0, .slice A0_ x0.length k0_), (3, .slice A2 (List.replicate (x0.length : Int).toNat (⟨(0 : Int), (0 : Int), (0 : Int), ([] : (List Int)), ([] : (List D.Port))⟩ : D.Agent)).length k3), (4, .int .i64 0)] ⟨rfl, rfl, rfl, trivial⟩ ?_
    refine WP.iter (fun (s10 : Int × (List D.Agent)) F w9 => St w w9 [Own ty28 [.slice A2 (List.replicate (x0.length : Int).toNat (⟨(0 : Int), (0 : Int), (0 : Int), ([] : (List Int)), ([] : (List D.Port))⟩ : D.Agent)).length k3] s10.2] ∧ F = [(0, .slice A0_ x0.length k0_), (3, .slice A2 (List.replicate (x0.length : Int).toNat (⟨(0 : Int), (0 : Int), (0 : Int), ([] : (List Int)), ([] : (List D.Port))⟩ : D.Agent)).length k3), (4, .int .i64 s10.1)]) _ hl15 ⟨hS6, rfl⟩ ?_
    rintro s10 F w24 _ o22 ⟨hS23, rfl⟩ hb20 ho21
    unfold m_laws_toAgentS_b1 at hb20
    refine WP.seq ?_
    refine WP.seq ?_
    refine WP.region ?_
    refine RW.run ttok 4 rfl ?_
    refine RW.nil ?_
    refine WP.cond (decide (s10.1 < (x0.length : Int))) rfl (fun hc => ?_) (fun hc => ?_)
    · skip
      rw [if_pos hc] at hb20
      refine WP.skip ?_
      refine WP.seq ?_
      refine WP.block ?_
      refine WP.region ?_
      refine RW.run ttok 4 rfl ?_
      obtain ⟨x25, hx26, hb20⟩ := bind_some hb20
      refine RW.idx ttok (hE.trans hS23.ext) rfl rfl rfl rfl rfl rfl (by decide) rfl rfl h0_ (idx_some hx26).1 (idx_some hx26).2 rfl rfl (fun p27 es28 ha29 hr30 => ?_)
      obtain ⟨A31, k32, A34, k35, e37, h33, h36⟩ := ty106_open hr30; subst e37
      refine RW.loadN ttok rfl rfl rfl rfl rfl (At.ext (hE.trans hS23.ext) ha29) rfl rfl rfl ?_
      obtain ⟨r38, hx39, hb20⟩ := bind_some hb20
      refine RW.call rfl rfl rfl enters61 (laws_toAgent_ok (hE.trans hS23.ext) hr30 hx39) (fun v40 w41 hR42 => ?_)
      obtain ⟨A43, k44, A45, k46, rfl, hR47⟩ := hR42
      have hS48 := hS23.join hR47
      have hS49 := hS48.bring 2 rfl
      by_cases hk50 : decide (0 ≤ s10.1 ∧ s10.1.toNat < s10.2.length) = true
      case neg => rw [if_neg hk50] at hb20; cases hb20
      rw [if_pos hk50] at hb20
      have hb51 := of_decide_eq_true hk50
      refine RW.idxOwnN ttok hS49 rfl rfl rfl rfl rfl rfl rfl rfl hb51.1 hb51.2 rfl rfl (fun q52 hq53 => ?_)
      have hS54 := hS49.bring 2 rfl
      have hS55 := hS54.bring 2 rfl
      have hS56 := ty112_shutS (c := r38) (B := _) hS55
      have hS57 := hS56.bring 1 rfl
      refine RW.storeElN ttok hS57 rfl rfl rfl rfl rfl rfl hb51.2 hq53 rfl rfl (fun w58 hS59 => ?_)
      refine RW.nil ?_
      refine WP.region ?_
      refine RW.run ttok 3 rfl ?_
      refine RW.nil ?_
      cases hb20
      exact ⟨_, [(0, .slice A0_ x0.length k0_), (3, .slice A2 (List.replicate (x0.length : Int).toNat (⟨(0 : Int), (0 : Int), (0 : Int), ([] : (List Int)), ([] : (List D.Port))⟩ : D.Agent)).length k3), (4, .int .i64 (w64 (s10.1 + 1)))], ⟨rfl, rfl, rfl, trivial⟩, rfl, hS59, rfl⟩
    · skip
      rw [if_neg (not_t hc)] at hb20
      refine WP.exit ?_
      cases hb20
      exact ⟨_, [(3, .slice A2 (List.replicate (x0.length : Int).toNat (⟨(0 : Int), (0 : Int), (0 : Int), ([] : (List Int)), ([] : (List D.Port))⟩ : D.Agent)).length k3)], ⟨rfl, trivial⟩, ho21, hS23, rfl⟩

theorem enters12 : Enters Try.prog 12 := ⟨_, _, Try.func12, rfl, by kernel_rfl⟩
def m_laws_toNet (fuel : Nat) (x0 : D.Net) : Option (D.Net) := ((m_laws_toAgentS fuel x0.Agents).bind fun r19 => some (⟨r19⟩ : D.Net))

set_option maxRecDepth 100000 in
theorem laws_toNet_ok {W w : World} (hE : Ext W w) {c0_ : List Value} {x0 : D.Net} (h0_ : ty24.ro W c0_ x0) {fuel : Nat} {r : D.Net} (hm : m_laws_toNet fuel x0 = some r) :
    Calls Try.prog 12 ⟨[.agg ⟨c0_⟩]⟩ w (Ret fun v w8 => ∃ A0 k0, v = .agg ⟨[.slice A0 r.Agents.length k0]⟩ ∧ St w w8 [Own ty28 [.slice A0 r.Agents.length k0] r.Agents]) := by
  obtain ⟨A1, k2, e4, h3⟩ := ty24_open h0_; subst e4
  refine Calls.into Try.func12 rfl 9 rfl rfl _ rfl ?_
  unfold m_laws_toNet at hm
  have hS := St.start w
  refine WP.seq ?_
  refine WP.region ?_
  refine RW.new ttok hS rfl rfl rfl rfl (fun g5 w6 e7 hS10 => ?_)
  refine RW.new ttok hS10 rfl rfl rfl rfl (fun g11 w12 e13 hS14 => ?_)
  refine RW.nil ?_
  refine WP.seq ?_
  refine WP.region ?_
  refine RW.new ttok hS14 rfl rfl rfl rfl (fun g15 w16 e17 hS18 => ?_)
  refine RW.nil ?_
  refine WP.seq ?_
  refine WP.region ?_
  refine RW.run ttok 1 rfl ?_
  refine RW.load1 ttok rfl rfl rfl rfl rfl ((hS18.bring 2 rfl).box) 0 rfl rfl rfl rfl ?_
  obtain ⟨r19, hx20, hm⟩ := bind_some hm
  refine RW.call rfl rfl rfl enters23 (laws_toAgentS_ok (hE.trans hS18.ext) h3 hx20) (fun v21 w22 hR23 => ?_)
  obtain ⟨A24, k25, rfl, hR26⟩ := hR23
  have hS27 := hS18.join hR26
  refine RW.run ttok 1 rfl ?_
  have hS28 := hS27.bring 1 rfl
  refine RW.store ttok (A := []) hS28 rfl rfl rfl rfl rfl 0 rfl rfl rfl rfl rfl (fun w29 hS30 => ?_)
  refine RW.nil ?_
  refine WP.seq ?_
  refine WP.region ?_
  refine RW.loadN ttok rfl rfl rfl rfl rfl ((hS30.bring 0 rfl).box) rfl rfl rfl ?_
  have hS31 := hS30.bring 2 rfl
  refine RW.store ttok (A := []) hS31 rfl rfl rfl rfl rfl 0 rfl rfl rfl rfl rfl (fun w32 hS33 => ?_)
  refine RW.nil ?_
  refine WP.ret ?_
  cases hm
  exact ⟨_, .cons (ResIs.agg ttok rfl rfl rfl ((hS33.bring 0 rfl).box) rfl) .nil, A24, k25, rfl, ((hS33.bring 2 rfl).taken 1)⟩

theorem enters47 : Enters Try.prog 47 := ⟨_, _, Try.func47, rfl, by kernel_rfl⟩
def m_spec_l21Vars_j1 (fuel : Nat) (t17 : Int) : Option Int := some t17
def m_spec_l21Vars_j3 (fuel : Nat) (s16 : Int × Int) (t62 : Int) : Option (Rd (Int × Int) (Int) (Int)) := some (.next (t62, w64 (s16.2 + 1)))
def m_spec_l21Vars_j2 (fuel : Nat) (s16 : Int × Int) (t57 : Bool) : Option (Rd (Int × Int) (Int) (Int)) := (if t57 = true then m_spec_l21Vars_j3 fuel s16 (w64 (s16.1 + 1)) else m_spec_l21Vars_j3 fuel s16 s16.1)
def m_spec_l21Vars_b1 (fuel : Nat) (x1 : Bool) (r5 : (List D.Wire)) (s16 : Int × Int) : Option (Rd (Int × Int) (Int) (Int)) := (if (decide (s16.2 < (r5.length : Int))) = true then ((idx r5 s16.2).bind fun x29 => ((idx r5 s16.2).bind fun x43 => (if (decide (x43.B.Slot > 0)) = true then (if (decide (x29.A.Slot > 0)) = true then m_spec_l21Vars_j2 fuel s16 true else (if (x29.A.Agent == 0) = true then m_spec_l21Vars_j2 fuel s16 x1 else m_spec_l21Vars_j2 fuel s16 false)) else m_spec_l21Vars_j2 fuel s16 false))) else some (.brk s16.1))
def m_spec_l21Vars (fuel : Nat) (x0 : D.Net) (x1 : Bool) : Option (Int) := ((m_spec_l11Wires fuel x0).bind fun r5 => ((iter (m_spec_l21Vars_b1 fuel x1 r5) fuel (0, 0)).bind fun o => aft o (m_spec_l21Vars_j1 fuel)))

set_option maxRecDepth 100000 in
theorem spec_l21Vars_ok {W w : World} (hE : Ext W w) {p0_ : Addr} {c0_ : List Value} {x0 : D.Net} {x1 : Bool} (h0_ : ty30.ro W c0_ x0) (g0_ : At W p0_ c0_) {fuel : Nat} {r : Int} (hm : m_spec_l21Vars fuel x0 x1 = some r) :
    Calls Try.prog 47 ⟨[.pointer (some p0_), .bool x1]⟩ w (Ret fun v w8 => v = .int .i64 r ∧ St w w8 []) := by
  obtain ⟨A1, k2, e4, h3⟩ := ty30_open h0_; subst e4
  refine Calls.into Try.func47 rfl 47 rfl rfl _ rfl ?_
  unfold m_spec_l21Vars at hm
  have hS := St.start w
  refine WP.seq ?_
  refine WP.region ?_
  refine RW.run ttok 1 rfl ?_
  refine RW.nil ?_
  refine WP.seq ?_
  refine WP.region ?_
  refine RW.run ttok 1 rfl ?_
  refine RW.nil ?_
  refine WP.seq ?_
  refine WP.region ?_
  refine RW.run ttok 1 rfl ?_
  obtain ⟨r5, hx6, hm⟩ := bind_some hm
  refine RW.call rfl rfl rfl enters112 (spec_l11Wires_ok (hE.trans hS.ext) h0_ g0_ hx6) (fun v7 w10 hR11 => ?_)
  obtain ⟨A12, k13, rfl, hR14⟩ := hR11
  have hS15 := hS.join hR14
  refine RW.run ttok 1 rfl ?_
  refine RW.nil ?_
  refine WP.seq ?_
  refine WP.seq ?_
  refine WP.region ?_
  refine RW.run ttok 1 rfl ?_
  refine RW.nil ?_
  obtain ⟨o20, hl21, hm⟩ := bind_some hm
  refine WP.cut (fun (t17 : Int) F w9 => o20 = .inl t17 ∧ St w w9 [Own ty47 [.slice A12 r5.length k13] r5] ∧ F = [(5, .int .i64 t17)]) ?_ ?_
  · skip
    rintro t17 F w19 ⟨ho23, hS22, rfl⟩
    subst ho23
    rw [aft_inl] at hm
    unfold m_spec_l21Vars_j1 at hm
    refine WP.seq ?_
    refine WP.region ?_
    refine RW.run ttok 2 rfl ?_
    refine RW.nil ?_
    refine WP.ret ?_
    cases hm
    exact ⟨_, .cons (.tmp rfl) .nil, rfl, (hS22.taken 0)⟩
  · skip
    refine WP.block ?_
    refine WP.weak [(1, .bool x1), (5, .int .i64 0), (6, .slice A12 r5.length k13), (7, .int .i64 0)] ⟨rfl, rfl, rfl, rfl, trivial⟩ ?_
    refine WP.iter (fun (s16 : Int × Int) F w9 => St w w9 [Own ty47 [.slice A12 r5.length k13] r5] ∧ F = [(1, .bool x1), (5, .int .i64 s16.1), (6, .slice A12 r5.length k13), (7, .int .i64 s16.2)]) _ hl21 ⟨hS15, rfl⟩ ?_
    rintro s16 F w28 _ o26 ⟨hS27, rfl⟩ hb24 ho25
    unfold m_spec_l21Vars_b1 at hb24
    refine WP.seq ?_
    refine WP.seq ?_
    refine WP.region ?_
    refine RW.run ttok 4 rfl ?_
    refine RW.nil ?_
    refine WP.cond (decide (s16.2 < (r5.length : Int))) rfl (fun hc => ?_) (fun hc => ?_)
    · skip
      rw [if_pos hc] at hb24
      refine WP.skip ?_
      refine WP.seq ?_
      refine WP.block ?_
      refine WP.seq ?_
      refine WP.region ?_
      refine RW.run ttok 2 rfl ?_
      obtain ⟨x29, hx30, hb24⟩ := bind_some hb24
      refine RW.idx ttok (Ext.refl _) rfl rfl rfl rfl rfl rfl (by decide) rfl rfl ((hS27.bring 0 rfl).own) (idx_some hx30).1 (idx_some hx30).2 rfl rfl (fun p31 es32 ha33 hr34 => ?_)
      have e35 := ty109_open hr34; subst e35
      refine RW.run ttok 1 rfl ?_
      refine RW.loadN ttok rfl rfl rfl rfl rfl (At.sub ha33 0 2) rfl rfl rfl ?_
      refine RW.new ttok hS27 rfl rfl rfl rfl (fun g36 w37 e38 hS39 => ?_)
      have hS40 := hS39.bring 0 rfl
      refine RW.store ttok (A := []) hS40 rfl rfl rfl rfl rfl 0 rfl rfl rfl rfl rfl (fun w41 hS42 => ?_)
      refine RW.nil ?_
      refine WP.seq ?_
      refine WP.region ?_
      refine RW.run ttok 2 rfl ?_
      obtain ⟨x43, hx44, hb24⟩ := bind_some hb24
      refine RW.idx ttok (Ext.refl _) rfl rfl rfl rfl rfl rfl (by decide) rfl rfl ((hS42.bring 1 rfl).own) (idx_some hx44).1 (idx_some hx44).2 rfl rfl (fun p45 es46 ha47 hr48 => ?_)
      have e49 := ty109_open hr48; subst e49
      refine RW.run ttok 1 rfl ?_
      refine RW.loadN ttok rfl rfl rfl rfl rfl (At.sub ha47 2 2) rfl rfl rfl ?_
      refine RW.new ttok hS42 rfl rfl rfl rfl (fun g50 w51 e52 hS53 => ?_)
      have hS54 := hS53.bring 0 rfl
      refine RW.store ttok (A := []) hS54 rfl rfl rfl rfl rfl 0 rfl rfl rfl rfl rfl (fun w55 hS56 => ?_)
      refine RW.nil ?_
      refine WP.seq ?_
      refine WP.cut (fun (t57 : Bool) F w9 => m_spec_l21Vars_j2 fuel s16 t57 = some o26 ∧ Ext w55 w9 ∧ St w w9 [Box g50 [.int .i64 x43.B.Agent, .int .i64 x43.B.Slot] 38, Box g36 [.int .i64 x29.A.Agent, .int .i64 x29.A.Slot] 38, Own ty47 [.slice A12 r5.length k13] r5] ∧ F = [(1, .bool x1), (5, .int .i64 s16.1), (6, .slice A12 r5.length k13), (7, .int .i64 s16.2), (43, .bool t57)]) ?_ ?_
      · skip
        rintro t57 F w60 ⟨hb24, hE58, hS59, rfl⟩
        unfold m_spec_l21Vars_j2 at hb24
        refine WP.cut (fun (t62 : Int) F w9 => m_spec_l21Vars_j3 fuel s16 t62 = some o26 ∧ Ext w60 w9 ∧ St w w9 [Box g50 [.int .i64 x43.B.Agent, .int .i64 x43.B.Slot] 38, Box g36 [.int .i64 x29.A.Agent, .int .i64 x29.A.Slot] 38, Own ty47 [.slice A12 r5.length k13] r5] ∧ F = [(1, .bool x1), (5, .int .i64 t62), (6, .slice A12 r5.length k13), (7, .int .i64 s16.2)]) ?_ ?_
        · skip
          rintro t62 F w66 ⟨hb24, hE63, hS65, rfl⟩
          unfold m_spec_l21Vars_j3 at hb24
          refine WP.region ?_
          refine RW.run ttok 3 rfl ?_
          refine RW.nil ?_
          cases hb24
          exact ⟨_, [(1, .bool x1), (5, .int .i64 t62), (6, .slice A12 r5.length k13), (7, .int .i64 (w64 (s16.2 + 1)))], ⟨rfl, rfl, rfl, rfl, trivial⟩, rfl, ((hS65.bring 2 rfl).taken 1), rfl⟩
        · skip
          refine WP.cond t57 rfl (fun hc => ?_) (fun hc => ?_)
          · skip
            rw [if_pos hc] at hb24
            refine WP.region ?_
            refine RW.run ttok 3 rfl ?_
            refine RW.nil ?_
            exact ⟨w64 (s16.1 + 1), [(1, .bool x1), (5, .int .i64 (w64 (s16.1 + 1))), (6, .slice A12 r5.length k13), (7, .int .i64 s16.2)], ⟨rfl, rfl, rfl, rfl, trivial⟩, hb24, (Ext.refl _), hS59, rfl⟩
          · skip
            rw [if_neg (not_t hc)] at hb24
            refine WP.skip ?_
            exact ⟨s16.1, [(1, .bool x1), (5, .int .i64 s16.1), (6, .slice A12 r5.length k13), (7, .int .i64 s16.2)], ⟨rfl, rfl, rfl, rfl, trivial⟩, hb24, (Ext.refl _), hS59, rfl⟩
      · skip
        refine WP.region ?_
        refine RW.run ttok 1 rfl ?_
        refine RW.load1 ttok rfl rfl rfl rfl rfl ((hS56.bring 0 rfl).box) 1 rfl rfl rfl rfl ?_
        refine RW.run ttok 2 rfl ?_
        by_cases hg68 : (decide (x43.B.Slot > 0)) = true
        · skip
          rw [if_pos hg68] at hb24
          refine RW.know 31 rfl (congrArg Value.bool hg68) ?_
          refine RW.run ttok 1 rfl ?_
          refine RW.load1 ttok rfl rfl rfl rfl rfl ((hS56.bring 1 rfl).box) 1 rfl rfl rfl rfl ?_
          refine RW.run ttok 2 rfl ?_
          by_cases hg69 : (decide (x29.A.Slot > 0)) = true
          · skip
            rw [if_pos hg69] at hb24
            refine RW.know 35 rfl (congrArg Value.bool hg69) ?_
            refine RW.run ttok 8 rfl ?_
            refine RW.nil ?_
            exact ⟨true, [(1, .bool x1), (5, .int .i64 s16.1), (6, .slice A12 r5.length k13), (7, .int .i64 s16.2), (43, .bool true)], ⟨rfl, rfl, rfl, rfl, rfl, trivial⟩, hb24, (Ext.refl _), hS56, rfl⟩
          · skip
            rw [if_neg hg69] at hb24
            refine RW.know 35 rfl (congrArg Value.bool (Bool.eq_false_iff.2 hg69)) ?_
            refine RW.run ttok 1 rfl ?_
            refine RW.load1 ttok rfl rfl rfl rfl rfl ((hS56.bring 1 rfl).box) 0 rfl rfl rfl rfl ?_
            refine RW.run ttok 2 rfl ?_
            by_cases hg70 : (x29.A.Agent == 0) = true
            · skip
              rw [if_pos hg70] at hb24
              refine RW.know 39 rfl (congrArg Value.bool hg70) ?_
              refine RW.run ttok 4 rfl ?_
              refine RW.nil ?_
              exact ⟨x1, [(1, .bool x1), (5, .int .i64 s16.1), (6, .slice A12 r5.length k13), (7, .int .i64 s16.2), (43, .bool x1)], ⟨rfl, rfl, rfl, rfl, rfl, trivial⟩, hb24, (Ext.refl _), hS56, rfl⟩
            · skip
              rw [if_neg hg70] at hb24
              refine RW.know 39 rfl (congrArg Value.bool (Bool.eq_false_iff.2 hg70)) ?_
              refine RW.run ttok 4 rfl ?_
              refine RW.nil ?_
              exact ⟨false, [(1, .bool x1), (5, .int .i64 s16.1), (6, .slice A12 r5.length k13), (7, .int .i64 s16.2), (43, .bool false)], ⟨rfl, rfl, rfl, rfl, rfl, trivial⟩, hb24, (Ext.refl _), hS56, rfl⟩
        · skip
          rw [if_neg hg68] at hb24
          refine RW.know 31 rfl (congrArg Value.bool (Bool.eq_false_iff.2 hg68)) ?_
          refine RW.run ttok 12 rfl ?_
          refine RW.nil ?_
          exact ⟨false, [(1, .bool x1), (5, .int .i64 s16.1), (6, .slice A12 r5.length k13), (7, .int .i64 s16.2), (43, .bool false)], ⟨rfl, rfl, rfl, rfl, rfl, trivial⟩, hb24, (Ext.refl _), hS56, rfl⟩
    · skip
      rw [if_neg (not_t hc)] at hb24
      refine WP.exit ?_
      cases hb24
      exact ⟨_, [(5, .int .i64 s16.1)], ⟨rfl, trivial⟩, ho25, hS27, rfl⟩

theorem enters11 : Enters Try.prog 11 := ⟨_, _, Try.func11, rfl, by kernel_rfl⟩
def m_spec_CellsFor (fuel : Nat) (x0 : D.Net) : Option (Int × Int) := ((m_spec_l11Ok fuel x0).bind fun r11 => (if (!r11) = true then some (0, 1) else ((m_spec_l21Vars fuel x0 true).bind fun r20 => some (w64 ((w64 ((x0.Agents.length : Int) - 1)) + r20), 0))))

set_option maxRecDepth 100000 in
theorem spec_CellsFor_ok {W w : World} (hE : Ext W w) {c0_ : List Value} {x0 : D.Net} (h0_ : ty30.ro W c0_ x0) {fuel : Nat} {r : Int × Int} (hm : m_spec_CellsFor fuel x0 = some r) :
    Calls Try.prog 11 ⟨[.agg ⟨c0_⟩]⟩ w (Ret fun v w8 => v = .tuple ⟨[.int .i64 r.1, .int .i64 r.2]⟩ ∧ St w w8 []) := by
  obtain ⟨A1, k2, e4, h3⟩ := ty30_open h0_; subst e4
  refine Calls.into Try.func11 rfl 12 rfl rfl _ rfl ?_
  unfold m_spec_CellsFor at hm
  have hS := St.start w
  refine WP.seq ?_
  refine WP.region ?_
  refine RW.new ttok hS rfl rfl rfl rfl (fun g5 w6 e7 hS10 => ?_)
  refine RW.run ttok 2 rfl ?_
  refine RW.nil ?_
  refine WP.seq ?_
  refine WP.seq ?_
  refine WP.region ?_
  obtain ⟨r11, hx12, hm⟩ := bind_some hm
  refine RW.call rfl rfl rfl enters46 (spec_l11Ok_ok (Ext.refl _) (ty30.ext (hE.trans hS10.ext) h0_) ((hS10.bring 0 rfl).box) hx12) (fun v13 w14 hR15 => ?_)
  obtain ⟨rfl, hR16⟩ := hR15
  have hS17 := hS10.join hR16
  refine RW.run ttok 1 rfl ?_
  refine RW.nil ?_
  refine WP.cond (!r11) rfl (fun hc => ?_) (fun hc => ?_)
  · skip
    rw [if_pos hc] at hm
    refine WP.seq ?_
    refine WP.region ?_
    refine RW.run ttok 2 rfl ?_
    refine RW.nil ?_
    refine WP.ret ?_
    cases hm
    exact ⟨_, .cons (.tmp rfl) (.cons (.tmp rfl) .nil), rfl, (hS17.taken 0)⟩
  · skip
    rw [if_neg (not_t hc)] at hm
    refine WP.skip ?_
    refine WP.seq ?_
    refine WP.drawnM 0 mixed 8 (by kernel_rfl) (by kernel_rfl) [([], 255), ([0], 254), ([1], 253), ([2], 251), ([], 255), ([3, 4], 231), ([5, 4, 0, 1, 2, 3, 4, 5], 223), ([6, 0, 1, 2, 3, 4, 5, 6], 255)] (by kernel_rfl) hS17.ext (fun hsk18 => ?_)
    have hS19 := hS17.step (Ext.draw _)
    refine DM.run (fuel := 7) ttok hsk18 [0] 1 (by kernel_rfl) (by kernel_rfl) rfl ?_
    refine DM.load1 ttok hsk18 1 3 (by kernel_rfl) (by kernel_rfl) (by kernel_rfl) (by kernel_rfl) rfl (by kernel_rfl) rfl rfl rfl rfl rfl ((hS17.bring 0 rfl).box) 0 rfl rfl rfl rfl ?_
    refine DM.run (fuel := 4) ttok hsk18 [2, 3] 15 (by kernel_rfl) (by kernel_rfl) rfl ?_
    refine DM.weak [(1, .pointer (some ⟨g5, 0, none⟩)), (2, .int .i64 0), (3, .int .i64 0), (9, .int .i64 (w64 ((x0.Agents.length : Int) - 1)))] ⟨rfl, rfl, rfl, rfl, trivial⟩ ?_
    obtain ⟨r20, hx21, hm⟩ := bind_some hm
    refine DM.one hsk18 4 (by kernel_rfl) (LM.call hsk18 31 (by kernel_rfl) (by kernel_rfl) rfl rfl rfl rfl enters47 (spec_l21Vars_ok (Ext.refl _) (ty30.ext (hE.trans hS19.ext) h0_) ((hS19.bring 0 rfl).box) hx21) (fun v22 w23 hR24 => ?_))
    obtain ⟨rfl, hR25⟩ := hR24
    refine ⟨hR25.ext, ?_⟩
    have hS26 := hS19.join hR25
    refine DM.run (fuel := 0) ttok hsk18 [5, 6, 7] 255 (by kernel_rfl) (by kernel_rfl) rfl ?_
    refine DM.done hsk18 (by kernel_rfl) ?_
    refine WP.ret ?_
    cases hm
    exact ⟨_, .cons (.tmp rfl) (.cons (.tmp rfl) .nil), rfl, (hS26.taken 0)⟩

theorem enters167 : Enters Try.prog 167 := ⟨_, _, Try.func167, rfl, by kernel_rfl⟩
def m_impl_needsVariable_c1 (fuel : Nat) (x0 : D.Port) (x1 : D.Net) : Option (Bool) := (if (decide (x0.Slot > 0)) = true then some true else ((idx x1.Agents x0.Agent).bind fun x15 => some (x15.Kind == 1)))

set_option maxRecDepth 100000 in
theorem impl_needsVariable_c1_ok {W w : World} (hE : Ext W w) {c0_ : List Value} {x0 : D.Port} {o1_ p1_ : Addr} {c1_ : List Value} {x1 : D.Net} (h0_ : ty38.ro W c0_ x0) (f1_ : At W o1_ [.pointer (some p1_)]) (h1_ : ty30.ro W c1_ x1) (g1_ : At W p1_ c1_) {fuel : Nat} {r : Bool} (hm : m_impl_needsVariable_c1 fuel x0 x1 = some r) :
    Calls Try.prog 167 ⟨[.agg ⟨c0_⟩, .pointer (some o1_)]⟩ w (Ret fun v w8 => v = .bool r ∧ St w w8 []) := by
  have e1 := ty38_open h0_; subst e1
  obtain ⟨A2, k3, e5, h4⟩ := ty30_open h1_; subst e5
  refine Calls.into Try.func167 rfl 19 rfl rfl _ rfl ?_
  unfold m_impl_needsVariable_c1 at hm
  have hS := St.start w
  refine WP.seq ?_
  refine WP.region ?_
  refine RW.new ttok hS rfl rfl rfl rfl (fun g6 w7 e10 hS11 => ?_)
  refine RW.run ttok 1 rfl ?_
  refine RW.nil ?_
  refine WP.seq ?_
  refine WP.drawnM 0 mixed 16 (by kernel_rfl) (by kernel_rfl) [([], 65535), ([0], 65534), ([1], 65533), ([2], 65531), ([3], 65527), ([4, 3], 65511), ([5, 3], 65495), ([6, 3], 65463), ([3], 65527), ([8, 3], 65271), ([7, 9, 3], 64887), ([10, 3], 64503), ([11, 3], 63479), ([12, 3], 61431), ([3, 13], 57335), ([14, 3, 0, 1, 2, 3, 4, 5, 6, 7, 8, 9, 10, 11, 12, 13, 14], 49151)] (by kernel_rfl) hS11.ext (fun hsk12 => ?_)
  have hS13 := hS11.step (Ext.draw _)
  refine DM.run (fuel := 15) ttok hsk12 [0] 1 (by kernel_rfl) (by kernel_rfl) rfl ?_
  refine DM.load1 ttok hsk12 1 3 (by kernel_rfl) (by kernel_rfl) (by kernel_rfl) (by kernel_rfl) rfl (by kernel_rfl) rfl rfl rfl rfl rfl ((hS11.bring 0 rfl).box) 1 rfl rfl rfl rfl ?_
  refine DM.run (fuel := 12) ttok hsk12 [2, 3] 15 (by kernel_rfl) (by kernel_rfl) rfl ?_
  by_cases hg14 : (decide (x0.Slot > 0)) = true
  · skip
    rw [if_pos hg14] at hm
    refine DM.know 7 rfl (congrArg Value.bool hg14) ?_
    refine DM.run (fuel := 0) ttok hsk12 [4, 5, 6, 7, 8, 9, 10, 11, 12, 13, 14, 15] 65535 (by kernel_rfl) (by kernel_rfl) rfl ?_
    refine DM.weak [(3, .bool true)] ⟨rfl, trivial⟩ ?_
    refine DM.done hsk12 (by kernel_rfl) ?_
    refine WP.ret ?_
    cases hm
    exact ⟨_, .cons (.tmp rfl) .nil, rfl, (hS13.taken 0)⟩
  · skip
    rw [if_neg hg14] at hm
    refine DM.know 7 rfl (congrArg Value.bool (Bool.eq_false_iff.2 hg14)) ?_
    refine DM.run (fuel := 11) ttok hsk12 [8] 271 (by kernel_rfl) (by kernel_rfl) rfl ?_
    refine DM.load1 ttok hsk12 4 287 (by kernel_rfl) (by kernel_rfl) (by kernel_rfl) (by kernel_rfl) rfl (by kernel_rfl) rfl rfl rfl rfl rfl (At.ext (hE.trans hS11.ext) f1_) 0 rfl rfl rfl rfl ?_
    refine DM.run (fuel := 8) ttok hsk12 [5, 6] 383 (by kernel_rfl) (by kernel_rfl) rfl ?_
    refine DM.weak [(3, .bool false), (7, .bool false), (10, .pointer (some p1_)), (12, .pointer (some ⟨g6, 0, none⟩))] ⟨rfl, rfl, rfl, rfl, trivial⟩ ?_
    refine DM.load1 ttok hsk12 7 511 (by kernel_rfl) (by kernel_rfl) (by kernel_rfl) (by kernel_rfl) rfl (by kernel_rfl) rfl rfl rfl rfl rfl (At.ext (hE.trans hS11.ext) g1_) 0 rfl rfl rfl rfl ?_
    refine DM.load1 ttok hsk12 9 1023 (by kernel_rfl) (by kernel_rfl) (by kernel_rfl) (by kernel_rfl) rfl (by kernel_rfl) rfl rfl rfl rfl rfl ((hS11.bring 0 rfl).box) 0 rfl rfl rfl rfl ?_
    obtain ⟨x15, hx16, hm⟩ := bind_some hm
    refine DM.idx ttok (hE.trans hS11.ext) hsk12 10 2047 (by kernel_rfl) (by kernel_rfl) (by kernel_rfl) (by kernel_rfl) rfl (by kernel_rfl) rfl rfl rfl rfl rfl rfl (by decide) rfl rfl h4 (idx_some hx16).1 (idx_some hx16).2 rfl rfl (fun p17 es18 ha19 hr20 => ?_)
    obtain ⟨A21, k22, A24, k25, e27, h23, h26⟩ := ty112_open hr20; subst e27
    refine DM.run (fuel := 4) ttok hsk12 [11] 4095 (by kernel_rfl) (by kernel_rfl) rfl ?_
    refine DM.load1 ttok hsk12 12 8191 (by kernel_rfl) (by kernel_rfl) (by kernel_rfl) (by kernel_rfl) rfl (by kernel_rfl) rfl rfl rfl rfl rfl (At.ext (hE.trans hS11.ext) ha19) 0 rfl rfl rfl rfl ?_
    refine DM.run (fuel := 0) ttok hsk12 [13, 14, 15] 65535 (by kernel_rfl) (by kernel_rfl) rfl ?_
    refine DM.weak [(3, .bool (x15.Kind == 1))] ⟨rfl, trivial⟩ ?_
    refine DM.done hsk12 (by kernel_rfl) ?_
    refine WP.ret ?_
    cases hm
    exact ⟨_, .cons (.tmp rfl) .nil, rfl, (hS13.taken 0)⟩

theorem enters108 : Enters Try.prog 108 := ⟨_, _, Try.func108, rfl, by kernel_rfl⟩
def m_impl_needsVariable (fuel : Nat) (x0 : D.Net) (x1 : D.Port) (x2 : D.Port) : Option (Bool) := ((m_impl_needsVariable_c1 fuel x1 x0).bind fun r21 => (if r21 = true then ((m_impl_needsVariable_c1 fuel x2 x0).bind fun r29 => some r29) else some false))

set_option maxRecDepth 100000 in
theorem impl_needsVariable_ok {W w : World} (hE : Ext W w) {p0_ : Addr} {c0_ : List Value} {x0 : D.Net} {c1_ : List Value} {x1 : D.Port} {c2_ : List Value} {x2 : D.Port} (h0_ : ty30.ro W c0_ x0) (g0_ : At W p0_ c0_) (h1_ : ty38.ro W c1_ x1) (h2_ : ty38.ro W c2_ x2) {fuel : Nat} {r : Bool} (hm : m_impl_needsVariable fuel x0 x1 x2 = some r) :
    Calls Try.prog 108 ⟨[.pointer (some p0_), .agg ⟨c1_⟩, .agg ⟨c2_⟩]⟩ w (Ret fun v w8 => v = .bool r ∧ St w w8 []) := by
  obtain ⟨A1, k2, e4, h3⟩ := ty30_open h0_; subst e4
  have e5 := ty38_open h1_; subst e5
  have e6 := ty38_open h2_; subst e6
  refine Calls.into Try.func108 rfl 17 rfl rfl _ rfl ?_
  unfold m_impl_needsVariable at hm
  have hS := St.start w
  refine WP.seq ?_
  refine WP.region ?_
  refine RW.new ttok hS rfl rfl rfl rfl (fun g7 w10 e11 hS12 => ?_)
  refine RW.new ttok hS12 rfl rfl rfl rfl (fun g13 w14 e15 hS16 => ?_)
  refine RW.new ttok hS16 rfl rfl rfl rfl (fun g17 w18 e19 hS20 => ?_)
  refine RW.run ttok 1 rfl ?_
  refine RW.nil ?_
  refine WP.seq ?_
  refine WP.region ?_
  refine RW.run ttok 2 rfl ?_
  refine RW.nil ?_
  refine WP.seq ?_
  refine WP.region ?_
  refine RW.run ttok 1 rfl ?_
  refine RW.loadN ttok rfl rfl rfl rfl rfl ((hS20.bring 1 rfl).box) rfl rfl rfl ?_
  obtain ⟨r21, hx22, hm⟩ := bind_some hm
  refine RW.call rfl rfl rfl enters167 (impl_needsVariable_c1_ok (Ext.refl _) (ty38.ext (hE.trans hS20.ext) h1_) ((hS20.bring 2 rfl).box) (ty30.ext (hE.trans hS20.ext) h0_) (At.ext (hE.trans hS20.ext) g0_) hx22) (fun v23 w24 hR25 => ?_)
  obtain ⟨rfl, hR26⟩ := hR25
  have hS27 := hS20.join hR26
  refine RW.run ttok 1 rfl ?_
  by_cases hg28 : r21 = true
  · skip
    rw [if_pos hg28] at hm
    refine RW.know 12 rfl (congrArg Value.bool hg28) ?_
    refine RW.run ttok 1 rfl ?_
    refine RW.loadN ttok rfl rfl rfl rfl rfl ((hS27.bring 0 rfl).box) rfl rfl rfl ?_
    obtain ⟨r29, hx30, hm⟩ := bind_some hm
    refine RW.call rfl rfl rfl enters167 (impl_needsVariable_c1_ok (Ext.refl _) (ty38.ext (hE.trans hS27.ext) h2_) ((hS27.bring 2 rfl).box) (ty30.ext (hE.trans hS27.ext) h0_) (At.ext (hE.trans hS27.ext) g0_) hx30) (fun v31 w32 hR33 => ?_)
    obtain ⟨rfl, hR34⟩ := hR33
    have hS35 := hS27.join hR34
    refine RW.run ttok 2 rfl ?_
    refine RW.nil ?_
    refine WP.ret ?_
    cases hm
    exact ⟨_, .cons (.tmp rfl) .nil, rfl, (hS35.taken 0)⟩
  · skip
    rw [if_neg hg28] at hm
    refine RW.know 12 rfl (congrArg Value.bool (Bool.eq_false_iff.2 hg28)) ?_
    refine RW.run ttok 5 rfl ?_
    refine RW.nil ?_
    refine WP.ret ?_
    cases hm
    exact ⟨_, .cons (.tmp rfl) .nil, rfl, (hS27.taken 0)⟩

theorem enters115 : Enters Try.prog 115 := ⟨_, _, Try.func115, rfl, by kernel_rfl⟩
def m_impl_truth (fuel : Nat) (x0 : Bool) : Option (Int) := (if x0 = true then some 1 else some 0)

set_option maxRecDepth 100000 in
theorem impl_truth_ok {W w : World} (hE : Ext W w) {x0 : Bool}  {fuel : Nat} {r : Int} (hm : m_impl_truth fuel x0 = some r) :
    Calls Try.prog 115 ⟨[.bool x0]⟩ w (Ret fun v w8 => v = .int .i64 r ∧ St w w8 []) := by
  refine Calls.into Try.func115 rfl 4 rfl rfl _ rfl ?_
  unfold m_impl_truth at hm
  have hS := St.start w
  refine WP.seq ?_
  refine WP.region ?_
  refine RW.run ttok 1 rfl ?_
  refine RW.nil ?_
  refine WP.seq ?_
  refine WP.seq ?_
  refine WP.region ?_
  refine RW.run ttok 1 rfl ?_
  refine RW.nil ?_
  refine WP.cond x0 rfl (fun hc => ?_) (fun hc => ?_)
  · skip
    rw [if_pos hc] at hm
    refine WP.seq ?_
    refine WP.region ?_
    refine RW.run ttok 1 rfl ?_
    refine RW.nil ?_
    refine WP.ret ?_
    cases hm
    exact ⟨_, .cons (.tmp rfl) .nil, rfl, hS⟩
  · skip
    rw [if_neg (not_t hc)] at hm
    refine WP.skip ?_
    refine WP.seq ?_
    refine WP.region ?_
    refine RW.run ttok 1 rfl ?_
    refine RW.nil ?_
    refine WP.ret ?_
    cases hm
    exact ⟨_, .cons (.tmp rfl) .nil, rfl, hS⟩

theorem enters49 : Enters Try.prog 49 := ⟨_, _, Try.func49, rfl, by kernel_rfl⟩
def m_impl_cellsFor_j1 (fuel : Nat) (t17 : Int) : Option Int := some t17
def m_impl_cellsFor_j2 (fuel : Nat) (s16 : Int × Int) (t65 : Int) : Option (Rd (Int × Int) (Int) (Int)) := some (.next (t65, w64 (s16.2 + 1)))
def m_impl_cellsFor_b1 (fuel : Nat) (x0 : D.Net) (r5 : (List D.Port)) (s16 : Int × Int) : Option (Rd (Int × Int) (Int) (Int)) := (if (decide (s16.2 < (r5.length : Int))) = true then ((idx r5 s16.2).bind fun x29 => ((m_impl_Net_peer fuel x0 x29).bind fun r43 => ((m_impl_Port_before fuel x29 r43).bind fun r57 => (if r57 = true then ((m_impl_needsVariable fuel x0 x29 r43).bind fun r70 => ((m_impl_truth fuel r70).bind fun r77 => m_impl_cellsFor_j2 fuel s16 (w64 (s16.1 + r77)))) else m_impl_cellsFor_j2 fuel s16 s16.1)))) else some (.brk s16.1))
def m_impl_cellsFor (fuel : Nat) (x0 : D.Net) : Option (Int) := ((m_impl_Net_ports fuel x0).bind fun r5 => ((iter (m_impl_cellsFor_b1 fuel x0 r5) fuel (w64 ((x0.Agents.length : Int) - 1), 0)).bind fun o => aft o (m_impl_cellsFor_j1 fuel)))

set_option maxRecDepth 100000 in
theorem impl_cellsFor_ok {W w : World} (hE : Ext W w) {p0_ : Addr} {c0_ : List Value} {x0 : D.Net} (h0_ : ty30.ro W c0_ x0) (g0_ : At W p0_ c0_) {fuel : Nat} {r : Int} (hm : m_impl_cellsFor fuel x0 = some r) :
    Calls Try.prog 49 ⟨[.pointer (some p0_)]⟩ w (Ret fun v w8 => v = .int .i64 r ∧ St w w8 []) := by
  obtain ⟨A1, k2, e4, h3⟩ := ty30_open h0_; subst e4
  refine Calls.into Try.func49 rfl 35 rfl rfl _ rfl ?_
  unfold m_impl_cellsFor at hm
  have hS := St.start w
  refine WP.seq ?_
  refine WP.region ?_
  refine RW.run ttok 1 rfl ?_
  refine RW.nil ?_
  refine WP.seq ?_
  refine WP.region ?_
  refine RW.run ttok 3 rfl ?_
  refine RW.load1 ttok rfl rfl rfl rfl rfl (At.ext (hE.trans hS.ext) g0_) 0 rfl rfl rfl rfl ?_
  refine RW.run ttok 3 rfl ?_
  refine RW.nil ?_
  refine WP.seq ?_
  refine WP.seq ?_
  refine WP.region ?_
  refine RW.run ttok 1 rfl ?_
  obtain ⟨r5, hx6, hm⟩ := bind_some hm
  refine RW.call rfl rfl rfl enters66 (impl_Net_ports_ok (hE.trans hS.ext) h0_ g0_ hx6) (fun v7 w10 hR11 => ?_)
  obtain ⟨A12, k13, rfl, hR14⟩ := hR11
  have hS15 := hS.join hR14
  refine RW.run ttok 2 rfl ?_
  refine RW.nil ?_
  obtain ⟨o20, hl21, hm⟩ := bind_some hm
  refine WP.cut (fun (t17 : Int) F w9 => o20 = .inl t17 ∧ St w w9 [Own ty110 [.slice A12 r5.length k13] r5] ∧ F = [(3, .int .i64 t17)]) ?_ ?_
  · skip
    rintro t17 F w19 ⟨ho23, hS22, rfl⟩
    subst ho23
    rw [aft_inl] at hm
    unfold m_impl_cellsFor_j1 at hm
    refine WP.seq ?_
    refine WP.region ?_
    refine RW.run ttok 2 rfl ?_
    refine RW.nil ?_
    refine WP.ret ?_
    cases hm
    exact ⟨_, .cons (.tmp rfl) .nil, rfl, (hS22.taken 0)⟩
  · skip
    refine WP.block ?_
    refine WP.weak [(0, .pointer (some p0_)), (3, .int .i64 (w64 ((x0.Agents.length : Int) - 1))), (14, .slice A12 r5.length k13), (15, .int .i64 (r5.length : Int)), (16, .int .i64 0)] ⟨rfl, rfl, rfl, rfl, rfl, trivial⟩ ?_
    refine WP.iter (fun (s16 : Int × Int) F w9 => St w w9 [Own ty110 [.slice A12 r5.length k13] r5] ∧ F = [(0, .pointer (some p0_)), (3, .int .i64 s16.1), (14, .slice A12 r5.length k13), (15, .int .i64 (r5.length : Int)), (16, .int .i64 s16.2)]) _ hl21 ⟨hS15, rfl⟩ ?_
    rintro s16 F w28 _ o26 ⟨hS27, rfl⟩ hb24 ho25
    unfold m_impl_cellsFor_b1 at hb24
    refine WP.seq ?_
    refine WP.region ?_
    refine RW.run ttok 1 rfl ?_
    refine RW.nil ?_
    refine WP.seq ?_
    refine WP.cond (decide (s16.2 < (r5.length : Int))) rfl (fun hc => ?_) (fun hc => ?_)
    · skip
      rw [if_pos hc] at hb24
      refine WP.skip ?_
      refine WP.seq ?_
      refine WP.block ?_
      refine WP.seq ?_
      refine WP.region ?_
      obtain ⟨x29, hx30, hb24⟩ := bind_some hb24
      refine RW.idx ttok (Ext.refl _) rfl rfl rfl rfl rfl rfl (by decide) rfl rfl ((hS27.bring 0 rfl).own) (idx_some hx30).1 (idx_some hx30).2 rfl rfl (fun p31 es32 ha33 hr34 => ?_)
      have e35 := ty38_open hr34; subst e35
      refine RW.loadN ttok rfl rfl rfl rfl rfl ha33 rfl rfl rfl ?_
      refine RW.new ttok hS27 rfl rfl rfl rfl (fun g36 w37 e38 hS39 => ?_)
      have hS40 := hS39.bring 0 rfl
      refine RW.store ttok (A := []) hS40 rfl rfl rfl rfl rfl 0 rfl rfl rfl rfl rfl (fun w41 hS42 => ?_)
      refine RW.nil ?_
      refine WP.seq ?_
      refine WP.region ?_
      refine RW.run ttok 1 rfl ?_
      refine RW.loadN ttok rfl rfl rfl rfl rfl ((hS42.bring 0 rfl).box) rfl rfl rfl ?_
      obtain ⟨r43, hx44, hb24⟩ := bind_some hb24
      refine RW.call rfl rfl rfl enters56 (impl_Net_peer_ok (hE.trans hS42.ext) h0_ g0_ (ty38_shut x29) hx44) (fun v45 w46 hR47 => ?_)
      obtain ⟨rfl, hR48⟩ := hR47
      have hS49 := hS42.join hR48
      refine RW.new ttok hS49 rfl rfl rfl rfl (fun g50 w51 e52 hS53 => ?_)
      have hS54 := hS53.bring 0 rfl
      refine RW.store ttok (A := []) hS54 rfl rfl rfl rfl rfl 0 rfl rfl rfl rfl rfl (fun w55 hS56 => ?_)
      refine RW.nil ?_
      refine WP.seq ?_
      refine WP.region ?_
      refine RW.loadN ttok rfl rfl rfl rfl rfl ((hS56.bring 1 rfl).box) rfl rfl rfl ?_
      refine RW.loadN ttok rfl rfl rfl rfl rfl ((hS56.bring 0 rfl).box) rfl rfl rfl ?_
      obtain ⟨r57, hx58, hb24⟩ := bind_some hb24
      refine RW.call rfl rfl rfl enters109 (impl_Port_before_ok (hE.trans hS56.ext) (ty38_shut x29) (ty38_shut r43) hx58) (fun v59 w60 hR61 => ?_)
      obtain ⟨rfl, hR62⟩ := hR61
      have hS63 := hS56.join hR62
      refine RW.nil ?_
      refine WP.cut (fun (t65 : Int) F w9 => m_impl_cellsFor_j2 fuel s16 t65 = some o26 ∧ Ext w60 w9 ∧ St w w9 [Box g50 [.int .i64 r43.Agent, .int .i64 r43.Slot] 38, Box g36 [.int .i64 x29.Agent, .int .i64 x29.Slot] 38, Own ty110 [.slice A12 r5.length k13] r5] ∧ F = [(0, .pointer (some p0_)), (3, .int .i64 t65), (14, .slice A12 r5.length k13), (15, .int .i64 (r5.length : Int)), (16, .int .i64 s16.2)]) ?_ ?_
      · skip
        rintro t65 F w68 ⟨hb24, hE66, hS67, rfl⟩
        unfold m_impl_cellsFor_j2 at hb24
        refine WP.region ?_
        refine RW.run ttok 2 rfl ?_
        refine RW.nil ?_
        cases hb24
        exact ⟨_, [(0, .pointer (some p0_)), (3, .int .i64 t65), (14, .slice A12 r5.length k13), (15, .int .i64 (r5.length : Int)), (16, .int .i64 (w64 (s16.2 + 1)))], ⟨rfl, rfl, rfl, rfl, rfl, trivial⟩, rfl, ((hS67.bring 2 rfl).taken 1), rfl⟩
      · skip
        refine WP.cond r57 rfl (fun hc => ?_) (fun hc => ?_)
        · skip
          rw [if_pos hc] at hb24
          refine WP.region ?_
          refine RW.run ttok 2 rfl ?_
          refine RW.loadN ttok rfl rfl rfl rfl rfl ((hS63.bring 1 rfl).box) rfl rfl rfl ?_
          refine RW.loadN ttok rfl rfl rfl rfl rfl ((hS63.bring 0 rfl).box) rfl rfl rfl ?_
          obtain ⟨r70, hx71, hb24⟩ := bind_some hb24
          refine RW.call rfl rfl rfl enters108 (impl_needsVariable_ok (hE.trans hS63.ext) h0_ g0_ (ty38_shut x29) (ty38_shut r43) hx71) (fun v72 w73 hR74 => ?_)
          obtain ⟨rfl, hR75⟩ := hR74
          have hS76 := hS63.join hR75
          obtain ⟨r77, hx78, hb24⟩ := bind_some hb24
          refine RW.call rfl rfl rfl enters115 (impl_truth_ok (hE.trans hS76.ext)  hx78) (fun v79 w80 hR81 => ?_)
          obtain ⟨rfl, hR82⟩ := hR81
          have hS83 := hS76.join hR82
          refine RW.run ttok 2 rfl ?_
          refine RW.nil ?_
          exact ⟨w64 (s16.1 + r77), [(0, .pointer (some p0_)), (3, .int .i64 (w64 (s16.1 + r77))), (14, .slice A12 r5.length k13), (15, .int .i64 (r5.length : Int)), (16, .int .i64 s16.2)], ⟨rfl, rfl, rfl, rfl, rfl, trivial⟩, hb24, (hR75.ext.trans hR82.ext), hS83, rfl⟩
        · skip
          rw [if_neg (not_t hc)] at hb24
          refine WP.skip ?_
          exact ⟨s16.1, [(0, .pointer (some p0_)), (3, .int .i64 s16.1), (14, .slice A12 r5.length k13), (15, .int .i64 (r5.length : Int)), (16, .int .i64 s16.2)], ⟨rfl, rfl, rfl, rfl, rfl, trivial⟩, hb24, (Ext.refl _), hS63, rfl⟩
    · skip
      rw [if_neg (not_t hc)] at hb24
      refine WP.exit ?_
      cases hb24
      exact ⟨_, [(3, .int .i64 s16.1)], ⟨rfl, trivial⟩, ho25, hS27, rfl⟩

theorem enters13 : Enters Try.prog 13 := ⟨_, _, Try.func13, rfl, by kernel_rfl⟩
def m_impl_CellsFor (fuel : Nat) (x0 : D.Net) : Option (Int × Int) := ((m_impl_ValidNet fuel x0).bind fun r11 => (if (!r11) = true then some (0, 1) else ((m_impl_cellsFor fuel x0).bind fun r18 => some (r18, 0))))

set_option maxRecDepth 100000 in
theorem impl_CellsFor_ok {W w : World} (hE : Ext W w) {c0_ : List Value} {x0 : D.Net} (h0_ : ty30.ro W c0_ x0) {fuel : Nat} {r : Int × Int} (hm : m_impl_CellsFor fuel x0 = some r) :
    Calls Try.prog 13 ⟨[.agg ⟨c0_⟩]⟩ w (Ret fun v w8 => v = .tuple ⟨[.int .i64 r.1, .int .i64 r.2]⟩ ∧ St w w8 []) := by
  obtain ⟨A1, k2, e4, h3⟩ := ty30_open h0_; subst e4
  refine Calls.into Try.func13 rfl 8 rfl rfl _ rfl ?_
  unfold m_impl_CellsFor at hm
  have hS := St.start w
  refine WP.seq ?_
  refine WP.region ?_
  refine RW.new ttok hS rfl rfl rfl rfl (fun g5 w6 e7 hS10 => ?_)
  refine RW.run ttok 2 rfl ?_
  refine RW.nil ?_
  refine WP.seq ?_
  refine WP.seq ?_
  refine WP.region ?_
  refine RW.loadN ttok rfl rfl rfl rfl rfl ((hS10.bring 0 rfl).box) rfl rfl rfl ?_
  obtain ⟨r11, hx12, hm⟩ := bind_some hm
  refine RW.call rfl rfl rfl enters48 (impl_ValidNet_ok (hE.trans hS10.ext) h0_ hx12) (fun v13 w14 hR15 => ?_)
  obtain ⟨rfl, hR16⟩ := hR15
  have hS17 := hS10.join hR16
  refine RW.run ttok 1 rfl ?_
  refine RW.nil ?_
  refine WP.cond (!r11) rfl (fun hc => ?_) (fun hc => ?_)
  · skip
    rw [if_pos hc] at hm
    refine WP.seq ?_
    refine WP.region ?_
    refine RW.run ttok 2 rfl ?_
    refine RW.nil ?_
    refine WP.ret ?_
    cases hm
    exact ⟨_, .cons (.tmp rfl) (.cons (.tmp rfl) .nil), rfl, (hS17.taken 0)⟩
  · skip
    rw [if_neg (not_t hc)] at hm
    refine WP.skip ?_
    refine WP.seq ?_
    refine WP.region ?_
    obtain ⟨r18, hx19, hm⟩ := bind_some hm
    refine RW.call rfl rfl rfl enters49 (impl_cellsFor_ok (Ext.refl _) (ty30.ext (hE.trans hS17.ext) h0_) ((hS17.bring 0 rfl).box) hx19) (fun v20 w21 hR22 => ?_)
    obtain ⟨rfl, hR23⟩ := hR22
    have hS24 := hS17.join hR23
    refine RW.run ttok 2 rfl ?_
    refine RW.nil ?_
    refine WP.ret ?_
    cases hm
    exact ⟨_, .cons (.tmp rfl) (.cons (.tmp rfl) .nil), rfl, (hS24.taken 0)⟩

theorem enters127 : Enters Try.prog 127 := ⟨_, _, Try.func127, rfl, by kernel_rfl⟩
def m_laws_eqInt64S_j1 (fuel : Nat) (t2 : Unit) : Option Bool := some true
def m_laws_eqInt64S_b1 (fuel : Nat) (x0 : (List Int)) (x1 : (List Int)) (s1 : Int) : Option (Rd (Int) (Unit) (Bool)) := (if (decide (s1 < (x0.length : Int))) = true then ((idx x0 s1).bind fun x21 => ((idx x1 s1).bind fun x27 => (if (x21 != x27) = true then some (.ret false) else some (.next (w64 (s1 + 1)))))) else some (.brk ()))
def m_laws_eqInt64S (fuel : Nat) (x0 : (List Int)) (x1 : (List Int)) : Option (Bool) := (if ((x0.length : Int) != (x1.length : Int)) = true then some false else ((iter (m_laws_eqInt64S_b1 fuel x0 x1) fuel 0).bind fun o => aft o (m_laws_eqInt64S_j1 fuel)))

set_option maxRecDepth 100000 in
theorem laws_eqInt64S_ok {W w : World} (hE : Ext W w) {A0_ : Option Addr} {k0_ : Nat} {x0 : (List Int)} {A1_ : Option Addr} {k1_ : Nat} {x1 : (List Int)} (h0_ : ty103.ro W [.slice A0_ x0.length k0_] x0) (h1_ : ty103.ro W [.slice A1_ x1.length k1_] x1) {fuel : Nat} {r : Bool} (hm : m_laws_eqInt64S fuel x0 x1 = some r) :
    Calls Try.prog 127 ⟨[.slice A0_ x0.length k0_, .slice A1_ x1.length k1_]⟩ w (Ret fun v w8 => v = .bool r ∧ St w w8 []) := by
  refine Calls.into Try.func127 rfl 26 rfl rfl _ rfl ?_
  unfold m_laws_eqInt64S at hm
  have hS := St.start w
  refine WP.seq ?_
  refine WP.region ?_
  refine RW.run ttok 1 rfl ?_
  refine RW.nil ?_
  refine WP.seq ?_
  refine WP.seq ?_
  refine WP.region ?_
  refine RW.run ttok 5 rfl ?_
  refine RW.nil ?_
  refine WP.cond ((x0.length : Int) != (x1.length : Int)) rfl (fun hc => ?_) (fun hc => ?_)
  · skip
    rw [if_pos hc] at hm
    refine WP.seq ?_
    refine WP.region ?_
    refine RW.run ttok 1 rfl ?_
    refine RW.nil ?_
    refine WP.ret ?_
    cases hm
    exact ⟨_, .cons (.tmp rfl) .nil, rfl, hS⟩
  · skip
    rw [if_neg (not_t hc)] at hm
    refine WP.skip ?_
    refine WP.seq ?_
    refine WP.seq ?_
    refine WP.region ?_
    refine RW.run ttok 1 rfl ?_
    refine RW.nil ?_
    obtain ⟨o10, hl11, hm⟩ := bind_some hm
    refine WP.cut (fun (t2 : Unit) F w9 => o10 = .inl t2 ∧ Ext w w9 ∧ St w w9 [] ∧ F = []) ?_ ?_
    · skip
      rintro t2 F w7 ⟨ho13, hE6, hS12, rfl⟩
      subst ho13
      rw [aft_inl] at hm
      unfold m_laws_eqInt64S_j1 at hm
      refine WP.seq ?_
      refine WP.region ?_
      refine RW.run ttok 1 rfl ?_
      refine RW.nil ?_
      refine WP.ret ?_
      cases hm
      exact ⟨_, .cons (.tmp rfl) .nil, rfl, hS12⟩
    · skip
      refine WP.block ?_
      refine WP.weak [(0, .slice A0_ x0.length k0_), (1, .slice A1_ x1.length k1_), (5, .int .i64 0)] ⟨rfl, rfl, rfl, trivial⟩ ?_
      refine WP.iter (fun (s1 : Int) F w9 => Ext w w9 ∧ St w w9 [] ∧ F = [(0, .slice A0_ x0.length k0_), (1, .slice A1_ x1.length k1_), (5, .int .i64 s1)]) _ hl11 ⟨(Ext.refl _), hS, rfl⟩ ?_
      rintro s1 F w18 _ o16 ⟨hE5, hS17, rfl⟩ hb14 ho15
      unfold m_laws_eqInt64S_b1 at hb14
      refine WP.seq ?_
      refine WP.seq ?_
      refine WP.region ?_
      refine RW.run ttok 4 rfl ?_
      refine RW.nil ?_
      refine WP.cond (decide (s1 < (x0.length : Int))) rfl (fun hc => ?_) (fun hc => ?_)
      · skip
        rw [if_pos hc] at hb14
        refine WP.skip ?_
        refine WP.seq ?_
        refine WP.block ?_
        refine WP.seq ?_
        refine WP.drawnM 0 mixed 9 (by kernel_rfl) (by kernel_rfl) [([], 511), ([], 511), ([0, 1], 508), ([2], 507), ([], 511), ([], 511), ([4, 5], 463), ([6], 447), ([3, 7], 375)] (by kernel_rfl) hS17.ext (fun hsk19 => ?_)
        have hS20 := hS17.step (Ext.draw _)
        refine DM.run (fuel := 5) ttok hsk19 [0, 1, 4, 5] 51 (by kernel_rfl) (by kernel_rfl) rfl ?_
        obtain ⟨x21, hx22, hb14⟩ := bind_some hb14
        refine DM.idx ttok (hE.trans hS17.ext) hsk19 2 55 (by kernel_rfl) (by kernel_rfl) (by kernel_rfl) (by kernel_rfl) rfl (by kernel_rfl) rfl rfl rfl rfl rfl rfl (by decide) rfl rfl h0_ (idx_some hx22).1 (idx_some hx22).2 rfl rfl (fun p23 es24 ha25 hr26 => ?_)
        cases hr26
        refine DM.load1 ttok hsk19 3 63 (by kernel_rfl) (by kernel_rfl) (by kernel_rfl) (by kernel_rfl) rfl (by kernel_rfl) rfl rfl rfl rfl rfl (At.ext (hE.trans hS17.ext) ha25) 0 rfl rfl rfl rfl ?_
        obtain ⟨x27, hx28, hb14⟩ := bind_some hb14
        refine DM.idx ttok (hE.trans hS17.ext) hsk19 6 127 (by kernel_rfl) (by kernel_rfl) (by kernel_rfl) (by kernel_rfl) rfl (by kernel_rfl) rfl rfl rfl rfl rfl rfl (by decide) rfl rfl h1_ (idx_some hx28).1 (idx_some hx28).2 rfl rfl (fun p29 es30 ha31 hr32 => ?_)
        cases hr32
        refine DM.load1 ttok hsk19 7 255 (by kernel_rfl) (by kernel_rfl) (by kernel_rfl) (by kernel_rfl) rfl (by kernel_rfl) rfl rfl rfl rfl rfl (At.ext (hE.trans hS17.ext) ha31) 0 rfl rfl rfl rfl ?_
        refine DM.run (fuel := 0) ttok hsk19 [8] 511 (by kernel_rfl) (by kernel_rfl) rfl ?_
        refine DM.weak [(0, .slice A0_ x0.length k0_), (1, .slice A1_ x1.length k1_), (5, .int .i64 s1), (25, .bool (x21 != x27))] ⟨rfl, rfl, rfl, rfl, trivial⟩ ?_
        refine DM.done hsk19 (by kernel_rfl) ?_
        refine WP.cond (x21 != x27) rfl (fun hc => ?_) (fun hc => ?_)
        · skip
          rw [if_pos hc] at hb14
          refine WP.seq ?_
          refine WP.region ?_
          refine RW.run ttok 1 rfl ?_
          refine RW.nil ?_
          refine WP.ret ?_
          cases hb14
          cases ho15
          have hm : some _ = some _ := hm
          cases hm
          exact ⟨_, .cons (.tmp rfl) .nil, rfl, hS20⟩
        · skip
          rw [if_neg (not_t hc)] at hb14
          refine WP.skip ?_
          refine WP.region ?_
          refine RW.run ttok 3 rfl ?_
          refine RW.nil ?_
          cases hb14
          exact ⟨_, [(0, .slice A0_ x0.length k0_), (1, .slice A1_ x1.length k1_), (5, .int .i64 (w64 (s1 + 1)))], ⟨rfl, rfl, rfl, trivial⟩, rfl, (hE5.trans (Ext.draw _)), hS20, rfl⟩
      · skip
        rw [if_neg (not_t hc)] at hb14
        refine WP.exit ?_
        cases hb14
        exact ⟨_, [], trivial, ho15, hE5, hS17, rfl⟩

theorem enters129 : Enters Try.prog 129 := ⟨_, _, Try.func129, rfl, by kernel_rfl⟩
def m_laws_eqPort (fuel : Nat) (x0 : D.Port) (x1 : D.Port) : Option (Bool) := (if (x0.Agent != x1.Agent) = true then some false else (if (x0.Slot != x1.Slot) = true then some false else some true))

set_option maxRecDepth 100000 in
theorem laws_eqPort_ok {W w : World} (hE : Ext W w) {c0_ : List Value} {x0 : D.Port} {c1_ : List Value} {x1 : D.Port} (h0_ : ty38.ro W c0_ x0) (h1_ : ty38.ro W c1_ x1) {fuel : Nat} {r : Bool} (hm : m_laws_eqPort fuel x0 x1 = some r) :
    Calls Try.prog 129 ⟨[.agg ⟨c0_⟩, .agg ⟨c1_⟩]⟩ w (Ret fun v w8 => v = .bool r ∧ St w w8 []) := by
  have e1 := ty38_open h0_; subst e1
  have e2 := ty38_open h1_; subst e2
  refine Calls.into Try.func129 rfl 15 rfl rfl _ rfl ?_
  unfold m_laws_eqPort at hm
  have hS := St.start w
  refine WP.seq ?_
  refine WP.region ?_
  refine RW.new ttok hS rfl rfl rfl rfl (fun g3 w4 e5 hS6 => ?_)
  refine RW.new ttok hS6 rfl rfl rfl rfl (fun g7 w10 e11 hS12 => ?_)
  refine RW.run ttok 1 rfl ?_
  refine RW.nil ?_
  refine WP.seq ?_
  refine WP.seq ?_
  refine WP.region ?_
  refine RW.run ttok 1 rfl ?_
  refine RW.load1 ttok rfl rfl rfl rfl rfl ((hS12.bring 1 rfl).box) 0 rfl rfl rfl rfl ?_
  refine RW.run ttok 1 rfl ?_
  refine RW.load1 ttok rfl rfl rfl rfl rfl ((hS12.bring 0 rfl).box) 0 rfl rfl rfl rfl ?_
  refine RW.run ttok 1 rfl ?_
  refine RW.nil ?_
  refine WP.cond (x0.Agent != x1.Agent) rfl (fun hc => ?_) (fun hc => ?_)
  · skip
    rw [if_pos hc] at hm
    refine WP.seq ?_
    refine WP.region ?_
    refine RW.run ttok 1 rfl ?_
    refine RW.nil ?_
    refine WP.ret ?_
    cases hm
    exact ⟨_, .cons (.tmp rfl) .nil, rfl, (hS12.taken 0)⟩
  · skip
    rw [if_neg (not_t hc)] at hm
    refine WP.skip ?_
    refine WP.seq ?_
    refine WP.seq ?_
    refine WP.region ?_
    refine RW.run ttok 1 rfl ?_
    refine RW.load1 ttok rfl rfl rfl rfl rfl ((hS12.bring 1 rfl).box) 1 rfl rfl rfl rfl ?_
    refine RW.run ttok 1 rfl ?_
    refine RW.load1 ttok rfl rfl rfl rfl rfl ((hS12.bring 0 rfl).box) 1 rfl rfl rfl rfl ?_
    refine RW.run ttok 1 rfl ?_
    refine RW.nil ?_
    refine WP.cond (x0.Slot != x1.Slot) rfl (fun hc => ?_) (fun hc => ?_)
    · skip
      rw [if_pos hc] at hm
      refine WP.seq ?_
      refine WP.region ?_
      refine RW.run ttok 1 rfl ?_
      refine RW.nil ?_
      refine WP.ret ?_
      cases hm
      exact ⟨_, .cons (.tmp rfl) .nil, rfl, (hS12.taken 0)⟩
    · skip
      rw [if_neg (not_t hc)] at hm
      refine WP.skip ?_
      refine WP.seq ?_
      refine WP.region ?_
      refine RW.run ttok 1 rfl ?_
      refine RW.nil ?_
      refine WP.ret ?_
      cases hm
      exact ⟨_, .cons (.tmp rfl) .nil, rfl, (hS12.taken 0)⟩

theorem enters128 : Enters Try.prog 128 := ⟨_, _, Try.func128, rfl, by kernel_rfl⟩
def m_laws_eqPortS_j1 (fuel : Nat) (t2 : Unit) : Option Bool := some true
def m_laws_eqPortS_b1 (fuel : Nat) (x0 : (List D.Port)) (x1 : (List D.Port)) (s1 : Int) : Option (Rd (Int) (Unit) (Bool)) := (if (decide (s1 < (x0.length : Int))) = true then ((idx x0 s1).bind fun x21 => ((idx x1 s1).bind fun x28 => ((m_laws_eqPort fuel x21 x28).bind fun r35 => (if (!r35) = true then some (.ret false) else some (.next (w64 (s1 + 1))))))) else some (.brk ()))
def m_laws_eqPortS (fuel : Nat) (x0 : (List D.Port)) (x1 : (List D.Port)) : Option (Bool) := (if ((x0.length : Int) != (x1.length : Int)) = true then some false else ((iter (m_laws_eqPortS_b1 fuel x0 x1) fuel 0).bind fun o => aft o (m_laws_eqPortS_j1 fuel)))

set_option maxRecDepth 100000 in
theorem laws_eqPortS_ok {W w : World} (hE : Ext W w) {A0_ : Option Addr} {k0_ : Nat} {x0 : (List D.Port)} {A1_ : Option Addr} {k1_ : Nat} {x1 : (List D.Port)} (h0_ : ty110.ro W [.slice A0_ x0.length k0_] x0) (h1_ : ty110.ro W [.slice A1_ x1.length k1_] x1) {fuel : Nat} {r : Bool} (hm : m_laws_eqPortS fuel x0 x1 = some r) :
    Calls Try.prog 128 ⟨[.slice A0_ x0.length k0_, .slice A1_ x1.length k1_]⟩ w (Ret fun v w8 => v = .bool r ∧ St w w8 []) := by
  refine Calls.into Try.func128 rfl 27 rfl rfl _ rfl ?_
  unfold m_laws_eqPortS at hm
  have hS := St.start w
  refine WP.seq ?_
  refine WP.region ?_
  refine RW.run ttok 1 rfl ?_
  refine RW.nil ?_
  refine WP.seq ?_
  refine WP.seq ?_
  refine WP.region ?_
  refine RW.run ttok 5 rfl ?_
  refine RW.nil ?_
  refine WP.cond ((x0.length : Int) != (x1.length : Int)) rfl (fun hc => ?_) (fun hc => ?_)
  · skip
    rw [if_pos hc] at hm
    refine WP.seq ?_
    refine WP.region ?_
    refine RW.run ttok 1 rfl ?_
    refine RW.nil ?_
    refine WP.ret ?_
    cases hm
    exact ⟨_, .cons (.tmp rfl) .nil, rfl, hS⟩
  · skip
    rw [if_neg (not_t hc)] at hm
    refine WP.skip ?_
    refine WP.seq ?_
    refine WP.seq ?_
    refine WP.region ?_
    refine RW.run ttok 1 rfl ?_
    refine RW.nil ?_
    obtain ⟨o10, hl11, hm⟩ := bind_some hm
    refine WP.cut (fun (t2 : Unit) F w9 => o10 = .inl t2 ∧ Ext w w9 ∧ St w w9 [] ∧ F = []) ?_ ?_
    · skip
      rintro t2 F w7 ⟨ho13, hE6, hS12, rfl⟩
      subst ho13
      rw [aft_inl] at hm
      unfold m_laws_eqPortS_j1 at hm
      refine WP.seq ?_
      refine WP.region ?_
      refine RW.run ttok 1 rfl ?_
      refine RW.nil ?_
      refine WP.ret ?_
      cases hm
      exact ⟨_, .cons (.tmp rfl) .nil, rfl, hS12⟩
    · skip
      refine WP.block ?_
      refine WP.weak [(0, .slice A0_ x0.length k0_), (1, .slice A1_ x1.length k1_), (5, .int .i64 0)] ⟨rfl, rfl, rfl, trivial⟩ ?_
      refine WP.iter (fun (s1 : Int) F w9 => Ext w w9 ∧ St w w9 [] ∧ F = [(0, .slice A0_ x0.length k0_), (1, .slice A1_ x1.length k1_), (5, .int .i64 s1)]) _ hl11 ⟨(Ext.refl _), hS, rfl⟩ ?_
      rintro s1 F w18 _ o16 ⟨hE5, hS17, rfl⟩ hb14 ho15
      unfold m_laws_eqPortS_b1 at hb14
      refine WP.seq ?_
      refine WP.seq ?_
      refine WP.region ?_
      refine RW.run ttok 4 rfl ?_
      refine RW.nil ?_
      refine WP.cond (decide (s1 < (x0.length : Int))) rfl (fun hc => ?_) (fun hc => ?_)
      · skip
        rw [if_pos hc] at hb14
        refine WP.skip ?_
        refine WP.seq ?_
        refine WP.block ?_
        refine WP.seq ?_
        refine WP.drawnM 0 mixed 10 (by kernel_rfl) (by kernel_rfl) [([], 1023), ([], 1023), ([0, 1], 1020), ([2], 1019), ([], 1023), ([], 1023), ([4, 5], 975), ([6], 959), ([3, 7], 887), ([8], 767)] (by kernel_rfl) hS17.ext (fun hsk19 => ?_)
        have hS20 := hS17.step (Ext.draw _)
        refine DM.run (fuel := 6) ttok hsk19 [0, 1, 4, 5] 51 (by kernel_rfl) (by kernel_rfl) rfl ?_
        obtain ⟨x21, hx22, hb14⟩ := bind_some hb14
        refine DM.idx ttok (hE.trans hS17.ext) hsk19 2 55 (by kernel_rfl) (by kernel_rfl) (by kernel_rfl) (by kernel_rfl) rfl (by kernel_rfl) rfl rfl rfl rfl rfl rfl (by decide) rfl rfl h0_ (idx_some hx22).1 (idx_some hx22).2 rfl rfl (fun p23 es24 ha25 hr26 => ?_)
        have e27 := ty38_open hr26; subst e27
        refine DM.loadN ttok hsk19 3 63 (by kernel_rfl) (by kernel_rfl) (by kernel_rfl) (by kernel_rfl) rfl (by kernel_rfl) rfl rfl rfl rfl rfl (At.ext (hE.trans hS17.ext) ha25) rfl rfl rfl ?_
        obtain ⟨x28, hx29, hb14⟩ := bind_some hb14
        refine DM.idx ttok (hE.trans hS17.ext) hsk19 6 127 (by kernel_rfl) (by kernel_rfl) (by kernel_rfl) (by kernel_rfl) rfl (by kernel_rfl) rfl rfl rfl rfl rfl rfl (by decide) rfl rfl h1_ (idx_some hx29).1 (idx_some hx29).2 rfl rfl (fun p30 es31 ha32 hr33 => ?_)
        have e34 := ty38_open hr33; subst e34
        refine DM.loadN ttok hsk19 7 255 (by kernel_rfl) (by kernel_rfl) (by kernel_rfl) (by kernel_rfl) rfl (by kernel_rfl) rfl rfl rfl rfl rfl (At.ext (hE.trans hS17.ext) ha32) rfl rfl rfl ?_
        obtain ⟨r35, hx36, hb14⟩ := bind_some hb14
        refine DM.one hsk19 8 (by kernel_rfl) (LM.call hsk19 511 (by kernel_rfl) (by kernel_rfl) rfl rfl rfl rfl enters129 (laws_eqPort_ok (hE.trans hS20.ext) hr26 hr33 hx36) (fun v37 w38 hR39 => ?_))
        obtain ⟨rfl, hR40⟩ := hR39
        refine ⟨hR40.ext, ?_⟩
        have hS41 := hS20.join hR40
        refine DM.run (fuel := 0) ttok hsk19 [9] 1023 (by kernel_rfl) (by kernel_rfl) rfl ?_
        refine DM.weak [(0, .slice A0_ x0.length k0_), (1, .slice A1_ x1.length k1_), (5, .int .i64 s1), (26, .bool (!r35))] ⟨rfl, rfl, rfl, rfl, trivial⟩ ?_
        refine DM.done hsk19 (by kernel_rfl) ?_
        refine WP.cond (!r35) rfl (fun hc => ?_) (fun hc => ?_)
        · skip
          rw [if_pos hc] at hb14
          refine WP.seq ?_
          refine WP.region ?_
          refine RW.run ttok 1 rfl ?_
          refine RW.nil ?_
          refine WP.ret ?_
          cases hb14
          cases ho15
          have hm : some _ = some _ := hm
          cases hm
          exact ⟨_, .cons (.tmp rfl) .nil, rfl, hS41⟩
        · skip
          rw [if_neg (not_t hc)] at hb14
          refine WP.skip ?_
          refine WP.region ?_
          refine RW.run ttok 3 rfl ?_
          refine RW.nil ?_
          cases hb14
          exact ⟨_, [(0, .slice A0_ x0.length k0_), (1, .slice A1_ x1.length k1_), (5, .int .i64 (w64 (s1 + 1)))], ⟨rfl, rfl, rfl, trivial⟩, rfl, ((hE5.trans (Ext.draw _)).trans hR40.ext), hS41, rfl⟩
      · skip
        rw [if_neg (not_t hc)] at hb14
        refine WP.exit ?_
        cases hb14
        exact ⟨_, [], trivial, ho15, hE5, hS17, rfl⟩

theorem enters67 : Enters Try.prog 67 := ⟨_, _, Try.func67, rfl, by kernel_rfl⟩
def m_laws_eqAgent (fuel : Nat) (x0 : D.Agent) (x1 : D.Agent) : Option (Bool) := (if (x0.Kind != x1.Kind) = true then some false else (if (x0.Level != x1.Level) = true then some false else (if (x0.Value != x1.Value) = true then some false else ((m_laws_eqInt64S fuel x0.Data x1.Data).bind fun r25 => (if (!r25) = true then some false else ((m_laws_eqPortS fuel x0.Ports x1.Ports).bind fun r32 => (if (!r32) = true then some false else some true)))))))

set_option maxRecDepth 100000 in
theorem laws_eqAgent_ok {W w : World} (hE : Ext W w) {c0_ : List Value} {x0 : D.Agent} {c1_ : List Value} {x1 : D.Agent} (h0_ : ty112.ro W c0_ x0) (h1_ : ty112.ro W c1_ x1) {fuel : Nat} {r : Bool} (hm : m_laws_eqAgent fuel x0 x1 = some r) :
    Calls Try.prog 67 ⟨[.agg ⟨c0_⟩, .agg ⟨c1_⟩]⟩ w (Ret fun v w8 => v = .bool r ∧ St w w8 []) := by
  obtain ⟨A1, k2, A4, k5, e7, h3, h6⟩ := ty112_open h0_; subst e7
  obtain ⟨A10, k11, A13, k14, e16, h12, h15⟩ := ty112_open h1_; subst e16
  refine Calls.into Try.func67 rfl 32 rfl rfl _ rfl ?_
  unfold m_laws_eqAgent at hm
  have hS := St.start w
  refine WP.seq ?_
  refine WP.region ?_
  refine RW.new ttok hS rfl rfl rfl rfl (fun g17 w18 e19 hS20 => ?_)
  refine RW.new ttok hS20 rfl rfl rfl rfl (fun g21 w22 e23 hS24 => ?_)
  refine RW.run ttok 1 rfl ?_
  refine RW.nil ?_
  refine WP.seq ?_
  refine WP.seq ?_
  refine WP.region ?_
  refine RW.run ttok 1 rfl ?_
  refine RW.load1 ttok rfl rfl rfl rfl rfl ((hS24.bring 1 rfl).box) 0 rfl rfl rfl rfl ?_
  refine RW.run ttok 1 rfl ?_
  refine RW.load1 ttok rfl rfl rfl rfl rfl ((hS24.bring 0 rfl).box) 0 rfl rfl rfl rfl ?_
  refine RW.run ttok 1 rfl ?_
  refine RW.nil ?_
  refine WP.cond (x0.Kind != x1.Kind) rfl (fun hc => ?_) (fun hc => ?_)
  · skip
    rw [if_pos hc] at hm
    refine WP.seq ?_
    refine WP.region ?_
    refine RW.run ttok 1 rfl ?_
    refine RW.nil ?_
    refine WP.ret ?_
    cases hm
    exact ⟨_, .cons (.tmp rfl) .nil, rfl, (hS24.taken 0)⟩
  · skip
    rw [if_neg (not_t hc)] at hm
    refine WP.skip ?_
    refine WP.seq ?_
    refine WP.seq ?_
    refine WP.region ?_
    refine RW.run ttok 1 rfl ?_
    refine RW.load1 ttok rfl rfl rfl rfl rfl ((hS24.bring 1 rfl).box) 1 rfl rfl rfl rfl ?_
    refine RW.run ttok 1 rfl ?_
    refine RW.load1 ttok rfl rfl rfl rfl rfl ((hS24.bring 0 rfl).box) 1 rfl rfl rfl rfl ?_
    refine RW.run ttok 1 rfl ?_
    refine RW.nil ?_
    refine WP.cond (x0.Level != x1.Level) rfl (fun hc => ?_) (fun hc => ?_)
    · skip
      rw [if_pos hc] at hm
      refine WP.seq ?_
      refine WP.region ?_
      refine RW.run ttok 1 rfl ?_
      refine RW.nil ?_
      refine WP.ret ?_
      cases hm
      exact ⟨_, .cons (.tmp rfl) .nil, rfl, (hS24.taken 0)⟩
    · skip
      rw [if_neg (not_t hc)] at hm
      refine WP.skip ?_
      refine WP.seq ?_
      refine WP.seq ?_
      refine WP.region ?_
      refine RW.run ttok 1 rfl ?_
      refine RW.load1 ttok rfl rfl rfl rfl rfl ((hS24.bring 1 rfl).box) 2 rfl rfl rfl rfl ?_
      refine RW.run ttok 1 rfl ?_
      refine RW.load1 ttok rfl rfl rfl rfl rfl ((hS24.bring 0 rfl).box) 2 rfl rfl rfl rfl ?_
      refine RW.run ttok 1 rfl ?_
      refine RW.nil ?_
      refine WP.cond (x0.Value != x1.Value) rfl (fun hc => ?_) (fun hc => ?_)
      · skip
        rw [if_pos hc] at hm
        refine WP.seq ?_
        refine WP.region ?_
        refine RW.run ttok 1 rfl ?_
        refine RW.nil ?_
        refine WP.ret ?_
        cases hm
        exact ⟨_, .cons (.tmp rfl) .nil, rfl, (hS24.taken 0)⟩
      · skip
        rw [if_neg (not_t hc)] at hm
        refine WP.skip ?_
        refine WP.seq ?_
        refine WP.seq ?_
        refine WP.region ?_
        refine RW.run ttok 1 rfl ?_
        refine RW.load1 ttok rfl rfl rfl rfl rfl ((hS24.bring 1 rfl).box) 3 rfl rfl rfl rfl ?_
        refine RW.run ttok 1 rfl ?_
        refine RW.load1 ttok rfl rfl rfl rfl rfl ((hS24.bring 0 rfl).box) 3 rfl rfl rfl rfl ?_
        obtain ⟨r25, hx26, hm⟩ := bind_some hm
        refine RW.call rfl rfl rfl enters127 (laws_eqInt64S_ok (hE.trans hS24.ext) h3 h12 hx26) (fun v27 w28 hR29 => ?_)
        obtain ⟨rfl, hR30⟩ := hR29
        have hS31 := hS24.join hR30
        refine RW.run ttok 1 rfl ?_
        refine RW.nil ?_
        refine WP.cond (!r25) rfl (fun hc => ?_) (fun hc => ?_)
        · skip
          rw [if_pos hc] at hm
          refine WP.seq ?_
          refine WP.region ?_
          refine RW.run ttok 1 rfl ?_
          refine RW.nil ?_
          refine WP.ret ?_
          cases hm
          exact ⟨_, .cons (.tmp rfl) .nil, rfl, (hS31.taken 0)⟩
        · skip
          rw [if_neg (not_t hc)] at hm
          refine WP.skip ?_
          refine WP.seq ?_
          refine WP.seq ?_
          refine WP.region ?_
          refine RW.run ttok 1 rfl ?_
          refine RW.load1 ttok rfl rfl rfl rfl rfl ((hS31.bring 1 rfl).box) 4 rfl rfl rfl rfl ?_
          refine RW.run ttok 1 rfl ?_
          refine RW.load1 ttok rfl rfl rfl rfl rfl ((hS31.bring 0 rfl).box) 4 rfl rfl rfl rfl ?_
          obtain ⟨r32, hx33, hm⟩ := bind_some hm
          refine RW.call rfl rfl rfl enters128 (laws_eqPortS_ok (hE.trans hS31.ext) h6 h15 hx33) (fun v34 w35 hR36 => ?_)
          obtain ⟨rfl, hR37⟩ := hR36
          have hS38 := hS31.join hR37
          refine RW.run ttok 1 rfl ?_
          refine RW.nil ?_
          refine WP.cond (!r32) rfl (fun hc => ?_) (fun hc => ?_)
          · skip
            rw [if_pos hc] at hm
            refine WP.seq ?_
            refine WP.region ?_
            refine RW.run ttok 1 rfl ?_
            refine RW.nil ?_
            refine WP.ret ?_
            cases hm
            exact ⟨_, .cons (.tmp rfl) .nil, rfl, (hS38.taken 0)⟩
          · skip
            rw [if_neg (not_t hc)] at hm
            refine WP.skip ?_
            refine WP.seq ?_
            refine WP.region ?_
            refine RW.run ttok 1 rfl ?_
            refine RW.nil ?_
            refine WP.ret ?_
            cases hm
            exact ⟨_, .cons (.tmp rfl) .nil, rfl, (hS38.taken 0)⟩

theorem enters26 : Enters Try.prog 26 := ⟨_, _, Try.func26, rfl, by kernel_rfl⟩
def m_laws_eqAgentS_j1 (fuel : Nat) (t2 : Unit) : Option Bool := some true
def m_laws_eqAgentS_b1 (fuel : Nat) (x0 : (List D.Agent)) (x1 : (List D.Agent)) (s1 : Int) : Option (Rd (Int) (Unit) (Bool)) := (if (decide (s1 < (x0.length : Int))) = true then ((idx x0 s1).bind fun x21 => ((idx x1 s1).bind fun x34 => ((m_laws_eqAgent fuel x21 x34).bind fun r47 => (if (!r47) = true then some (.ret false) else some (.next (w64 (s1 + 1))))))) else some (.brk ()))
def m_laws_eqAgentS (fuel : Nat) (x0 : (List D.Agent)) (x1 : (List D.Agent)) : Option (Bool) := (if ((x0.length : Int) != (x1.length : Int)) = true then some false else ((iter (m_laws_eqAgentS_b1 fuel x0 x1) fuel 0).bind fun o => aft o (m_laws_eqAgentS_j1 fuel)))

set_option maxRecDepth 100000 in
theorem laws_eqAgentS_ok {W w : World} (hE : Ext W w) {A0_ : Option Addr} {k0_ : Nat} {x0 : (List D.Agent)} {A1_ : Option Addr} {k1_ : Nat} {x1 : (List D.Agent)} (h0_ : ty28.ro W [.slice A0_ x0.length k0_] x0) (h1_ : ty28.ro W [.slice A1_ x1.length k1_] x1) {fuel : Nat} {r : Bool} (hm : m_laws_eqAgentS fuel x0 x1 = some r) :
    Calls Try.prog 26 ⟨[.slice A0_ x0.length k0_, .slice A1_ x1.length k1_]⟩ w (Ret fun v w8 => v = .bool r ∧ St w w8 []) := by
  refine Calls.into Try.func26 rfl 27 rfl rfl _ rfl ?_
  unfold m_laws_eqAgentS at hm
  have hS := St.start w
  refine WP.seq ?_
  refine WP.region ?_
  refine RW.run ttok 1 rfl ?_
  refine RW.nil ?_
  refine WP.seq ?_
  refine WP.seq ?_
  refine WP.region ?_
  refine RW.run ttok 5 rfl ?_
  refine RW.nil ?_
  refine WP.cond ((x0.length : Int) != (x1.length : Int)) rfl (fun hc => ?_) (fun hc => ?_)
  · skip
    rw [if_pos hc] at hm
    refine WP.seq ?_
    refine WP.region ?_
    refine RW.run ttok 1 rfl ?_
    refine RW.nil ?_
    refine WP.ret ?_
    cases hm
    exact ⟨_, .cons (.tmp rfl) .nil, rfl, hS⟩
  · skip
    rw [if_neg (not_t hc)] at hm
    refine WP.skip ?_
    refine WP.seq ?_
    refine WP.seq ?_
    refine WP.region ?_
    refine RW.run ttok 1 rfl ?_
    refine RW.nil ?_
    obtain ⟨o10, hl11, hm⟩ := bind_some hm
    refine WP.cut (fun (t2 : Unit) F w9 => o10 = .inl t2 ∧ Ext w w9 ∧ St w w9 [] ∧ F = []) ?_ ?_
    · skip
      rintro t2 F w7 ⟨ho13, hE6, hS12, rfl⟩
      subst ho13
      rw [aft_inl] at hm
      unfold m_laws_eqAgentS_j1 at hm
      refine WP.seq ?_
      refine WP.region ?_
      refine RW.run ttok 1 rfl ?_
      refine RW.nil ?_
      refine WP.ret ?_
      cases hm
      exact ⟨_, .cons (.tmp rfl) .nil, rfl, hS12⟩
    · skip
      refine WP.block ?_
      refine WP.weak [(0, .slice A0_ x0.length k0_), (1, .slice A1_ x1.length k1_), (5, .int .i64 0)] ⟨rfl, rfl, rfl, trivial⟩ ?_
      refine WP.iter (fun (s1 : Int) F w9 => Ext w w9 ∧ St w w9 [] ∧ F = [(0, .slice A0_ x0.length k0_), (1, .slice A1_ x1.length k1_), (5, .int .i64 s1)]) _ hl11 ⟨(Ext.refl _), hS, rfl⟩ ?_
      rintro s1 F w18 _ o16 ⟨hE5, hS17, rfl⟩ hb14 ho15
      unfold m_laws_eqAgentS_b1 at hb14
      refine WP.seq ?_
      refine WP.seq ?_
      refine WP.region ?_
      refine RW.run ttok 4 rfl ?_
      refine RW.nil ?_
      refine WP.cond (decide (s1 < (x0.length : Int))) rfl (fun hc => ?_) (fun hc => ?_)
      · skip
        rw [if_pos hc] at hb14
        refine WP.skip ?_
        refine WP.seq ?_
        refine WP.block ?_
        refine WP.seq ?_
        refine WP.drawnM 0 mixed 10 (by kernel_rfl) (by kernel_rfl) [([], 1023), ([], 1023), ([0, 1], 1020), ([2], 1019), ([], 1023), ([], 1023), ([4, 5], 975), ([6], 959), ([3, 7], 887), ([8], 767)] (by kernel_rfl) hS17.ext (fun hsk19 => ?_)
        have hS20 := hS17.step (Ext.draw _)
        refine DM.run (fuel := 6) ttok hsk19 [0, 1, 4, 5] 51 (by kernel_rfl) (by kernel_rfl) rfl ?_
        obtain ⟨x21, hx22, hb14⟩ := bind_some hb14
        refine DM.idx ttok (hE.trans hS17.ext) hsk19 2 55 (by kernel_rfl) (by kernel_rfl) (by kernel_rfl) (by kernel_rfl) rfl (by kernel_rfl) rfl rfl rfl rfl rfl rfl (by decide) rfl rfl h0_ (idx_some hx22).1 (idx_some hx22).2 rfl rfl (fun p23 es24 ha25 hr26 => ?_)
        obtain ⟨A27, k28, A30, k31, e33, h29, h32⟩ := ty112_open hr26; subst e33
        refine DM.loadN ttok hsk19 3 63 (by kernel_rfl) (by kernel_rfl) (by kernel_rfl) (by kernel_rfl) rfl (by kernel_rfl) rfl rfl rfl rfl rfl (At.ext (hE.trans hS17.ext) ha25) rfl rfl rfl ?_
        obtain ⟨x34, hx35, hb14⟩ := bind_some hb14
        refine DM.idx ttok (hE.trans hS17.ext) hsk19 6 127 (by kernel_rfl) (by kernel_rfl) (by kernel_rfl) (by kernel_rfl) rfl (by kernel_rfl) rfl rfl rfl rfl rfl rfl (by decide) rfl rfl h1_ (idx_some hx35).1 (idx_some hx35).2 rfl rfl (fun p36 es37 ha38 hr39 => ?_)
        obtain ⟨A40, k41, A43, k44, e46, h42, h45⟩ := ty112_open hr39; subst e46
        refine DM.loadN ttok hsk19 7 255 (by kernel_rfl) (by kernel_rfl) (by kernel_rfl) (by kernel_rfl) rfl (by kernel_rfl) rfl rfl rfl rfl rfl (At.ext (hE.trans hS17.ext) ha38) rfl rfl rfl ?_
        obtain ⟨r47, hx48, hb14⟩ := bind_some hb14
        refine DM.one hsk19 8 (by kernel_rfl) (LM.call hsk19 511 (by kernel_rfl) (by kernel_rfl) rfl rfl rfl rfl enters67 (laws_eqAgent_ok (hE.trans hS20.ext) hr26 hr39 hx48) (fun v49 w50 hR51 => ?_))
        obtain ⟨rfl, hR52⟩ := hR51
        refine ⟨hR52.ext, ?_⟩
        have hS53 := hS20.join hR52
        refine DM.run (fuel := 0) ttok hsk19 [9] 1023 (by kernel_rfl) (by kernel_rfl) rfl ?_
        refine DM.weak [(0, .slice A0_ x0.length k0_), (1, .slice A1_ x1.length k1_), (5, .int .i64 s1), (26, .bool (!r47))] ⟨rfl, rfl, rfl, rfl, trivial⟩ ?_
        refine DM.done hsk19 (by kernel_rfl) ?_
        refine WP.cond (!r47) rfl (fun hc => ?_) (fun hc => ?_)
        · skip
          rw [if_pos hc] at hb14
          refine WP.seq ?_
          refine WP.region ?_
          refine RW.run ttok 1 rfl ?_
          refine RW.nil ?_
          refine WP.ret ?_
          cases hb14
          cases ho15
          have hm : some _ = some _ := hm
          cases hm
          exact ⟨_, .cons (.tmp rfl) .nil, rfl, hS53⟩
        · skip
          rw [if_neg (not_t hc)] at hb14
          refine WP.skip ?_
          refine WP.region ?_
          refine RW.run ttok 3 rfl ?_
          refine RW.nil ?_
          cases hb14
          exact ⟨_, [(0, .slice A0_ x0.length k0_), (1, .slice A1_ x1.length k1_), (5, .int .i64 (w64 (s1 + 1)))], ⟨rfl, rfl, rfl, trivial⟩, rfl, ((hE5.trans (Ext.draw _)).trans hR52.ext), hS53, rfl⟩
      · skip
        rw [if_neg (not_t hc)] at hb14
        refine WP.exit ?_
        cases hb14
        exact ⟨_, [], trivial, ho15, hE5, hS17, rfl⟩

theorem enters14 : Enters Try.prog 14 := ⟨_, _, Try.func14, rfl, by kernel_rfl⟩
def m_laws_eqNet (fuel : Nat) (x0 : D.Net) (x1 : D.Net) : Option (Bool) := ((m_laws_eqAgentS fuel x0.Agents x1.Agents).bind fun r19 => (if (!r19) = true then some false else some true))

set_option maxRecDepth 100000 in
theorem laws_eqNet_ok {W w : World} (hE : Ext W w) {c0_ : List Value} {x0 : D.Net} {c1_ : List Value} {x1 : D.Net} (h0_ : ty30.ro W c0_ x0) (h1_ : ty30.ro W c1_ x1) {fuel : Nat} {r : Bool} (hm : m_laws_eqNet fuel x0 x1 = some r) :
    Calls Try.prog 14 ⟨[.agg ⟨c0_⟩, .agg ⟨c1_⟩]⟩ w (Ret fun v w8 => v = .bool r ∧ St w w8 []) := by
  obtain ⟨A1, k2, e4, h3⟩ := ty30_open h0_; subst e4
  obtain ⟨A5, k6, e10, h7⟩ := ty30_open h1_; subst e10
  refine Calls.into Try.func14 rfl 11 rfl rfl _ rfl ?_
  unfold m_laws_eqNet at hm
  have hS := St.start w
  refine WP.seq ?_
  refine WP.region ?_
  refine RW.new ttok hS rfl rfl rfl rfl (fun g11 w12 e13 hS14 => ?_)
  refine RW.new ttok hS14 rfl rfl rfl rfl (fun g15 w16 e17 hS18 => ?_)
  refine RW.run ttok 1 rfl ?_
  refine RW.nil ?_
  refine WP.seq ?_
  refine WP.seq ?_
  refine WP.region ?_
  refine RW.run ttok 1 rfl ?_
  refine RW.load1 ttok rfl rfl rfl rfl rfl ((hS18.bring 1 rfl).box) 0 rfl rfl rfl rfl ?_
  refine RW.run ttok 1 rfl ?_
  refine RW.load1 ttok rfl rfl rfl rfl rfl ((hS18.bring 0 rfl).box) 0 rfl rfl rfl rfl ?_
  obtain ⟨r19, hx20, hm⟩ := bind_some hm
  refine RW.call rfl rfl rfl enters26 (laws_eqAgentS_ok (hE.trans hS18.ext) h3 h7 hx20) (fun v21 w22 hR23 => ?_)
  obtain ⟨rfl, hR24⟩ := hR23
  have hS25 := hS18.join hR24
  refine RW.run ttok 1 rfl ?_
  refine RW.nil ?_
  refine WP.cond (!r19) rfl (fun hc => ?_) (fun hc => ?_)
  · skip
    rw [if_pos hc] at hm
    refine WP.seq ?_
    refine WP.region ?_
    refine RW.run ttok 1 rfl ?_
    refine RW.nil ?_
    refine WP.ret ?_
    cases hm
    exact ⟨_, .cons (.tmp rfl) .nil, rfl, (hS25.taken 0)⟩
  · skip
    rw [if_neg (not_t hc)] at hm
    refine WP.skip ?_
    refine WP.seq ?_
    refine WP.region ?_
    refine RW.run ttok 1 rfl ?_
    refine RW.nil ?_
    refine WP.ret ?_
    cases hm
    exact ⟨_, .cons (.tmp rfl) .nil, rfl, (hS25.taken 0)⟩

theorem enters3 : Enters Try.prog 3 := ⟨_, _, Try.func3, rfl, by kernel_rfl⟩
def m_laws_FnExactCellsFor_j1 (fuel : Nat) (x0 : D.Net) (r34 : D.Net) (t57 : Bool) : Option Bool := (if t57 = true then some false else ((m_laws_toNet fuel x0).bind fun r65 => ((m_laws_eqNet fuel r34 r65).bind fun r74 => (if (!r74) = true then some false else some true))))
def m_laws_FnExactCellsFor (fuel : Nat) (x0 : D.Net) : Option (Bool) := ((m_laws_szNet fuel x0 1048576).bind fun r11 => (if (decide (r11 < 0)) = true then some true else ((m_laws_toNet fuel x0).bind fun r18 => ((m_spec_CellsFor fuel r18).bind fun r27 => ((m_laws_toNet fuel x0).bind fun r34 => ((m_impl_CellsFor fuel r34).bind fun r50 => (if (r50.1 != r27.1) = true then m_laws_FnExactCellsFor_j1 fuel x0 r34 true else m_laws_FnExactCellsFor_j1 fuel x0 r34 (r50.2 != r27.2))))))))

set_option maxRecDepth 100000 in
theorem laws_FnExactCellsFor_ok {W w : World} (hE : Ext W w) {c0_ : List Value} {x0 : D.Net} (h0_ : ty24.ro W c0_ x0) {fuel : Nat} {r : Bool} (hm : m_laws_FnExactCellsFor fuel x0 = some r) :
    Calls Try.prog 3 ⟨[.agg ⟨c0_⟩]⟩ w (Ret fun v w8 => v = .bool r ∧ St w w8 []) := by
  obtain ⟨A1, k2, e4, h3⟩ := ty24_open h0_; subst e4
  refine Calls.into Try.func3 rfl 40 rfl rfl _ rfl ?_
  unfold m_laws_FnExactCellsFor at hm
  have hS := St.start w
  refine WP.seq ?_
  refine WP.region ?_
  refine RW.new ttok hS rfl rfl rfl rfl (fun g5 w6 e7 hS10 => ?_)
  refine RW.run ttok 1 rfl ?_
  refine RW.nil ?_
  refine WP.seq ?_
  refine WP.region ?_
  refine RW.run ttok 1 rfl ?_
  refine RW.nil ?_
  refine WP.seq ?_
  refine WP.region ?_
  refine RW.loadN ttok rfl rfl rfl rfl rfl ((hS10.bring 0 rfl).box) rfl rfl rfl ?_
  refine RW.run ttok 1 rfl ?_
  obtain ⟨r11, hx12, hm⟩ := bind_some hm
  refine RW.call rfl rfl rfl enters10 (laws_szNet_ok (hE.trans hS10.ext) h0_ hx12) (fun v13 w14 hR15 => ?_)
  obtain ⟨rfl, hR16⟩ := hR15
  have hS17 := hS10.join hR16
  refine RW.run ttok 1 rfl ?_
  refine RW.nil ?_
  refine WP.seq ?_
  refine WP.seq ?_
  refine WP.region ?_
  refine RW.run ttok 2 rfl ?_
  refine RW.nil ?_
  refine WP.cond (decide (r11 < 0)) rfl (fun hc => ?_) (fun hc => ?_)
  · skip
    rw [if_pos hc] at hm
    refine WP.seq ?_
    refine WP.region ?_
    refine RW.run ttok 1 rfl ?_
    refine RW.nil ?_
    refine WP.ret ?_
    cases hm
    exact ⟨_, .cons (.tmp rfl) .nil, rfl, (hS17.taken 0)⟩
  · skip
    rw [if_neg (not_t hc)] at hm
    refine WP.skip ?_
    refine WP.seq ?_
    refine WP.region ?_
    refine RW.loadN ttok rfl rfl rfl rfl rfl ((hS17.bring 0 rfl).box) rfl rfl rfl ?_
    obtain ⟨r18, hx19, hm⟩ := bind_some hm
    refine RW.call rfl rfl rfl enters12 (laws_toNet_ok (hE.trans hS17.ext) h0_ hx19) (fun v20 w21 hR22 => ?_)
    obtain ⟨A23, k24, rfl, hR25⟩ := hR22
    have hS26 := hS17.join hR25
    obtain ⟨r27, hx28, hm⟩ := bind_some hm
    refine RW.call rfl rfl rfl enters11 (spec_CellsFor_ok (Ext.refl _) (ty30_shut r18 ((hS26.bring 0 rfl).own)) hx28) (fun v29 w30 hR31 => ?_)
    obtain ⟨rfl, hR32⟩ := hR31
    have hS33 := hS26.join hR32
    refine RW.run ttok 5 rfl ?_
    refine RW.nil ?_
    refine WP.seq ?_
    refine WP.region ?_
    refine RW.loadN ttok rfl rfl rfl rfl rfl ((hS33.bring 1 rfl).box) rfl rfl rfl ?_
    obtain ⟨r34, hx35, hm⟩ := bind_some hm
    refine RW.call rfl rfl rfl enters12 (laws_toNet_ok (hE.trans hS33.ext) h0_ hx35) (fun v36 w37 hR38 => ?_)
    obtain ⟨A39, k40, rfl, hR41⟩ := hR38
    have hS42 := hS33.join hR41
    refine RW.new ttok hS42 rfl rfl rfl rfl (fun g43 w44 e45 hS46 => ?_)
    have hS47 := hS46.bring 0 rfl
    refine RW.store ttok (A := []) hS47 rfl rfl rfl rfl rfl 0 rfl rfl rfl rfl rfl (fun w48 hS49 => ?_)
    refine RW.nil ?_
    refine WP.seq ?_
    refine WP.region ?_
    refine RW.loadN ttok rfl rfl rfl rfl rfl ((hS49.bring 0 rfl).box) rfl rfl rfl ?_
    obtain ⟨r50, hx51, hm⟩ := bind_some hm
    refine RW.call rfl rfl rfl enters13 (impl_CellsFor_ok (Ext.refl _) (ty30_shut r34 ((hS49.bring 1 rfl).own)) hx51) (fun v52 w53 hR54 => ?_)
    obtain ⟨rfl, hR55⟩ := hR54
    have hS56 := hS49.join hR55
    refine RW.run ttok 5 rfl ?_
    refine RW.nil ?_
    refine WP.seq ?_
    refine WP.seq ?_
    refine WP.cut (fun (t57 : Bool) F w9 => m_laws_FnExactCellsFor_j1 fuel x0 r34 t57 = some r ∧ Ext w53 w9 ∧ St w w9 [Box g43 [.slice A39 r34.Agents.length k40] 30, Own ty28 [.slice A39 r34.Agents.length k40] r34.Agents, Own ty28 [.slice A23 r18.Agents.length k24] r18.Agents, Box g5 [.slice A1 x0.Agents.length k2] 24] ∧ F = [(1, .pointer (some ⟨g5, 0, none⟩)), (6, .pointer (some ⟨g43, 0, none⟩)), (34, .bool t57)]) ?_ ?_
    · skip
      rintro t57 F w60 ⟨hm, hE58, hS59, rfl⟩
      unfold m_laws_FnExactCellsFor_j1 at hm
      refine WP.cond t57 rfl (fun hc => ?_) (fun hc => ?_)
      · skip
        rw [if_pos hc] at hm
        refine WP.seq ?_
        refine WP.region ?_
        refine RW.run ttok 1 rfl ?_
        refine RW.nil ?_
        refine WP.ret ?_
        cases hm
        exact ⟨_, .cons (.tmp rfl) .nil, rfl, (hS59.taken 0)⟩
      · skip
        rw [if_neg (not_t hc)] at hm
        refine WP.skip ?_
        refine WP.seq ?_
        refine WP.seq ?_
        refine WP.drawnM 0 mixed 5 (by kernel_rfl) (by kernel_rfl) [([], 31), ([], 31), ([1], 29), ([0, 2, 2], 26), ([3], 23)] (by kernel_rfl) hS59.ext (fun hsk62 => ?_)
        have hS63 := hS59.step (Ext.draw _)
        refine DM.loadN ttok hsk62 0 1 (by kernel_rfl) (by kernel_rfl) (by kernel_rfl) (by kernel_rfl) rfl (by kernel_rfl) rfl rfl rfl rfl rfl ((hS59.bring 0 rfl).box) rfl rfl rfl ?_
        refine DM.loadN ttok hsk62 1 3 (by kernel_rfl) (by kernel_rfl) (by kernel_rfl) (by kernel_rfl) rfl (by kernel_rfl) rfl rfl rfl rfl rfl ((hS59.bring 3 rfl).box) rfl rfl rfl ?_
        obtain ⟨r65, hx66, hm⟩ := bind_some hm
        refine DM.one hsk62 2 (by kernel_rfl) (LM.call hsk62 7 (by kernel_rfl) (by kernel_rfl) rfl rfl rfl rfl enters12 (laws_toNet_ok (hE.trans hS63.ext) h0_ hx66) (fun v67 w68 hR69 => ?_))
        obtain ⟨A70, k71, rfl, hR72⟩ := hR69
        refine ⟨hR72.ext, ?_⟩
        have hS73 := hS63.join hR72
        obtain ⟨r74, hx75, hm⟩ := bind_some hm
        refine DM.one hsk62 3 (by kernel_rfl) (LM.call hsk62 15 (by kernel_rfl) (by kernel_rfl) rfl rfl rfl rfl enters14 (laws_eqNet_ok (Ext.refl _) (ty30_shut r34 ((hS73.bring 2 rfl).own)) (ty30_shut r65 ((hS73.bring 0 rfl).own)) hx75) (fun v76 w77 hR78 => ?_))
        obtain ⟨rfl, hR79⟩ := hR78
        refine ⟨hR79.ext, ?_⟩
        have hS80 := hS73.join hR79
        refine DM.run (fuel := 0) ttok hsk62 [4] 31 (by kernel_rfl) (by kernel_rfl) rfl ?_
        refine DM.weak [(39, .bool (!r74))] ⟨rfl, trivial⟩ ?_
        refine DM.done hsk62 (by kernel_rfl) ?_
        refine WP.cond (!r74) rfl (fun hc => ?_) (fun hc => ?_)
        · skip
          rw [if_pos hc] at hm
          refine WP.seq ?_
          refine WP.region ?_
          refine RW.run ttok 1 rfl ?_
          refine RW.nil ?_
          refine WP.ret ?_
          cases hm
          exact ⟨_, .cons (.tmp rfl) .nil, rfl, (hS80.taken 0)⟩
        · skip
          rw [if_neg (not_t hc)] at hm
          refine WP.skip ?_
          refine WP.seq ?_
          refine WP.region ?_
          refine RW.run ttok 1 rfl ?_
          refine RW.nil ?_
          refine WP.ret ?_
          cases hm
          exact ⟨_, .cons (.tmp rfl) .nil, rfl, (hS80.taken 0)⟩
    · skip
      refine WP.region ?_
      refine RW.run ttok 4 rfl ?_
      by_cases hg81 : (r50.1 != r27.1) = true
      · skip
        rw [if_pos hg81] at hm
        refine RW.know 30 rfl (congrArg Value.bool hg81) ?_
        refine RW.run ttok 4 rfl ?_
        refine RW.nil ?_
        exact ⟨true, [(1, .pointer (some ⟨g5, 0, none⟩)), (6, .pointer (some ⟨g43, 0, none⟩)), (34, .bool true)], ⟨rfl, rfl, rfl, trivial⟩, hm, (Ext.refl _), hS56, rfl⟩
      · skip
        rw [if_neg hg81] at hm
        refine RW.know 30 rfl (congrArg Value.bool (Bool.eq_false_iff.2 hg81)) ?_
        refine RW.run ttok 4 rfl ?_
        refine RW.nil ?_
        exact ⟨(r50.2 != r27.2), [(1, .pointer (some ⟨g5, 0, none⟩)), (6, .pointer (some ⟨g43, 0, none⟩)), (34, .bool (r50.2 != r27.2))], ⟨rfl, rfl, rfl, trivial⟩, hm, (Ext.refl _), hS56, rfl⟩

end Go.E
