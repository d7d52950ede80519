/- Models of functions and proofs that the code runs as they say (written by program). Conditions: the model gives a value. -/
import Derived.Test.YtomgmnacnchbeaaFN
namespace Go.E
open Go.RowKit Go.Proofs
set_option linter.unusedVariables false
set_option linter.unusedSimpArgs false
set_option maxHeartbeats 2000000

theorem enters120 : Enters Try.prog 120 := ⟨_, _, Try.func120, rfl, by kernel_rfl⟩
def m_laws_szInt64S (fuel : Nat) (x0 : (List Int)) (x1 : Int) : Option (Int) := (if (decide ((w64 (x1 - (x0.length : Int))) < 0)) = true then some (-1) else some (w64 (x1 - (x0.length : Int))))

set_option maxRecDepth 100000 in
theorem laws_szInt64S_ok {W w : World} (hE : Ext W w) {A0_ : Option Addr} {k0_ : Nat} {x0 : (List Int)} {x1 : Int} (h0_ : ty103.ro W [.slice A0_ x0.length k0_] x0) {fuel : Nat} {r : Int} (hm : m_laws_szInt64S fuel x0 x1 = some r) :
    Calls Try.prog 120 ⟨[.slice A0_ x0.length k0_, .int .i64 x1]⟩ w (Ret fun v w8 => v = .int .i64 r ∧ St w w8 []) := by
  refine Calls.into Try.func120 rfl 12 rfl rfl _ rfl ?_
  unfold m_laws_szInt64S at hm
  have hS := St.start w
  refine WP.seq ?_
  refine WP.region ?_
  refine RW.run ttok 1 rfl ?_
  refine RW.nil ?_
  refine WP.seq ?_
  refine WP.region ?_
  refine RW.run ttok 5 rfl ?_
  refine RW.nil ?_
  refine WP.seq ?_
  refine WP.seq ?_
  refine WP.region ?_
  refine RW.run ttok 2 rfl ?_
  refine RW.nil ?_
  refine WP.cond (decide ((w64 (x1 - (x0.length : Int))) < 0)) rfl (fun hc => ?_) (fun hc => ?_)
  · skip
    rw [if_pos hc] at hm
    refine WP.seq ?_
    refine WP.region ?_
    refine RW.run ttok 1 rfl ?_
    refine RW.nil ?_
    refine WP.ret ?_
    cases hm
    exact ⟨_, .cons (.tmp rfl) .nil, rfl, hS⟩
  · skip
    rw [if_neg (not_t hc)] at hm
    refine WP.skip ?_
    refine WP.seq ?_
    refine WP.region ?_
    refine RW.run ttok 2 rfl ?_
    refine RW.nil ?_
    refine WP.ret ?_
    cases hm
    exact ⟨_, .cons (.tmp rfl) .nil, rfl, hS⟩

theorem enters121 : Enters Try.prog 121 := ⟨_, _, Try.func121, rfl, by kernel_rfl⟩
def m_laws_szPortS (fuel : Nat) (x0 : (List D.Port)) (x1 : Int) : Option (Int) := (if (decide ((w64 (x1 - (x0.length : Int))) < 0)) = true then some (-1) else some (w64 (x1 - (x0.length : Int))))

set_option maxRecDepth 100000 in
theorem laws_szPortS_ok {W w : World} (hE : Ext W w) {A0_ : Option Addr} {k0_ : Nat} {x0 : (List D.Port)} {x1 : Int} (h0_ : ty104.ro W [.slice A0_ x0.length k0_] x0) {fuel : Nat} {r : Int} (hm : m_laws_szPortS fuel x0 x1 = some r) :
    Calls Try.prog 121 ⟨[.slice A0_ x0.length k0_, .int .i64 x1]⟩ w (Ret fun v w8 => v = .int .i64 r ∧ St w w8 []) := by
  refine Calls.into Try.func121 rfl 12 rfl rfl _ rfl ?_
  unfold m_laws_szPortS at hm
  have hS := St.start w
  refine WP.seq ?_
  refine WP.region ?_
  refine RW.run ttok 1 rfl ?_
  refine RW.nil ?_
  refine WP.seq ?_
  refine WP.region ?_
  refine RW.run ttok 5 rfl ?_
  refine RW.nil ?_
  refine WP.seq ?_
  refine WP.seq ?_
  refine WP.region ?_
  refine RW.run ttok 2 rfl ?_
  refine RW.nil ?_
  refine WP.cond (decide ((w64 (x1 - (x0.length : Int))) < 0)) rfl (fun hc => ?_) (fun hc => ?_)
  · skip
    rw [if_pos hc] at hm
    refine WP.seq ?_
    refine WP.region ?_
    refine RW.run ttok 1 rfl ?_
    refine RW.nil ?_
    refine WP.ret ?_
    cases hm
    exact ⟨_, .cons (.tmp rfl) .nil, rfl, hS⟩
  · skip
    rw [if_neg (not_t hc)] at hm
    refine WP.skip ?_
    refine WP.seq ?_
    refine WP.region ?_
    refine RW.run ttok 2 rfl ?_
    refine RW.nil ?_
    refine WP.ret ?_
    cases hm
    exact ⟨_, .cons (.tmp rfl) .nil, rfl, hS⟩

theorem enters59 : Enters Try.prog 59 := ⟨_, _, Try.func59, rfl, by kernel_rfl⟩
def m_laws_szAgent (fuel : Nat) (x0 : D.Agent) (x1 : Int) : Option (Int) := ((m_laws_szInt64S fuel x0.Data x1).bind fun r14 => (if (decide (r14 < 0)) = true then some (-1) else ((m_laws_szPortS fuel x0.Ports r14).bind fun r21 => (if (decide (r21 < 0)) = true then some (-1) else some r21))))

set_option maxRecDepth 100000 in
theorem laws_szAgent_ok {W w : World} (hE : Ext W w) {c0_ : List Value} {x0 : D.Agent} {x1 : Int} (h0_ : ty106.ro W c0_ x0) {fuel : Nat} {r : Int} (hm : m_laws_szAgent fuel x0 x1 = some r) :
    Calls Try.prog 59 ⟨[.agg ⟨c0_⟩, .int .i64 x1]⟩ w (Ret fun v w8 => v = .int .i64 r ∧ St w w8 []) := by
  obtain ⟨A1, k2, A4, k5, e7, h3, h6⟩ := ty106_open h0_; subst e7
  refine Calls.into Try.func59 rfl 18 rfl rfl _ rfl ?_
  unfold m_laws_szAgent at hm
  have hS := St.start w
  refine WP.seq ?_
  refine WP.region ?_
  refine RW.new ttok hS rfl rfl rfl rfl (fun g10 w11 e12 hS13 => ?_)
  refine RW.run ttok 1 rfl ?_
  refine RW.nil ?_
  refine WP.seq ?_
  refine WP.region ?_
  refine RW.run ttok 1 rfl ?_
  refine RW.load1 ttok rfl rfl rfl rfl rfl ((hS13.bring 0 rfl).box) 3 rfl rfl rfl rfl ?_
  refine RW.run ttok 1 rfl ?_
  obtain ⟨r14, hx15, hm⟩ := bind_some hm
  refine RW.call rfl rfl rfl enters120 (laws_szInt64S_ok (hE.trans hS13.ext) h3 hx15) (fun v16 w17 hR18 => ?_)
  obtain ⟨rfl, hR19⟩ := hR18
  have hS20 := hS13.join hR19
  refine RW.run ttok 1 rfl ?_
  refine RW.nil ?_
  refine WP.seq ?_
  refine WP.seq ?_
  refine WP.region ?_
  refine RW.run ttok 2 rfl ?_
  refine RW.nil ?_
  refine WP.cond (decide (r14 < 0)) rfl (fun hc => ?_) (fun hc => ?_)
  · skip
    rw [if_pos hc] at hm
    refine WP.seq ?_
    refine WP.region ?_
    refine RW.run ttok 1 rfl ?_
    refine RW.nil ?_
    refine WP.ret ?_
    cases hm
    exact ⟨_, .cons (.tmp rfl) .nil, rfl, (hS20.taken 0)⟩
  · skip
    rw [if_neg (not_t hc)] at hm
    refine WP.skip ?_
    refine WP.seq ?_
    refine WP.region ?_
    refine RW.run ttok 1 rfl ?_
    refine RW.load1 ttok rfl rfl rfl rfl rfl ((hS20.bring 0 rfl).box) 4 rfl rfl rfl rfl ?_
    refine RW.run ttok 1 rfl ?_
    obtain ⟨r21, hx22, hm⟩ := bind_some hm
    refine RW.call rfl rfl rfl enters121 (laws_szPortS_ok (hE.trans hS20.ext) h6 hx22) (fun v23 w24 hR25 => ?_)
    obtain ⟨rfl, hR26⟩ := hR25
    have hS27 := hS20.join hR26
    refine RW.run ttok 1 rfl ?_
    refine RW.nil ?_
    refine WP.seq ?_
    refine WP.seq ?_
    refine WP.region ?_
    refine RW.run ttok 2 rfl ?_
    refine RW.nil ?_
    refine WP.cond (decide (r21 < 0)) rfl (fun hc => ?_) (fun hc => ?_)
    · skip
      rw [if_pos hc] at hm
      refine WP.seq ?_
      refine WP.region ?_
      refine RW.run ttok 1 rfl ?_
      refine RW.nil ?_
      refine WP.ret ?_
      cases hm
      exact ⟨_, .cons (.tmp rfl) .nil, rfl, (hS27.taken 0)⟩
    · skip
      rw [if_neg (not_t hc)] at hm
      refine WP.skip ?_
      refine WP.seq ?_
      refine WP.region ?_
      refine RW.run ttok 2 rfl ?_
      refine RW.nil ?_
      refine WP.ret ?_
      cases hm
      exact ⟨_, .cons (.tmp rfl) .nil, rfl, (hS27.taken 0)⟩

theorem enters20 : Enters Try.prog 20 := ⟨_, _, Try.func20, rfl, by kernel_rfl⟩
def m_laws_szAgentS_j1 (fuel : Nat) (t2 : Int) : Option Int := some t2
def m_laws_szAgentS_b1 (fuel : Nat) (x0 : (List D.Agent)) (s1 : Int × Int) : Option (Rd (Int × Int) (Int) (Int)) := (if (decide (s1.2 < (x0.length : Int))) = true then ((idx x0 s1.2).bind fun x19 => ((m_laws_szAgent fuel x19 s1.1).bind fun r32 => (if (decide (r32 < 0)) = true then some (.ret (-1)) else some (.next (r32, w64 (s1.2 + 1)))))) else some (.brk s1.1))
def m_laws_szAgentS (fuel : Nat) (x0 : (List D.Agent)) (x1 : Int) : Option (Int) := (if (decide ((w64 (x1 - (x0.length : Int))) < 0)) = true then some (-1) else ((iter (m_laws_szAgentS_b1 fuel x0) fuel (w64 (x1 - (x0.length : Int)), 0)).bind fun o => aft o (m_laws_szAgentS_j1 fuel)))

set_option maxRecDepth 100000 in
theorem laws_szAgentS_ok {W w : World} (hE : Ext W w) {A0_ : Option Addr} {k0_ : Nat} {x0 : (List D.Agent)} {x1 : Int} (h0_ : ty22.ro W [.slice A0_ x0.length k0_] x0) {fuel : Nat} {r : Int} (hm : m_laws_szAgentS fuel x0 x1 = some r) :
    Calls Try.prog 20 ⟨[.slice A0_ x0.length k0_, .int .i64 x1]⟩ w (Ret fun v w8 => v = .int .i64 r ∧ St w w8 []) := by
  refine Calls.into Try.func20 rfl 27 rfl rfl _ rfl ?_
  unfold m_laws_szAgentS at hm
  have hS := St.start w
  refine WP.seq ?_
  refine WP.region ?_
  refine RW.run ttok 1 rfl ?_
  refine RW.nil ?_
  refine WP.seq ?_
  refine WP.region ?_
  refine RW.run ttok 5 rfl ?_
  refine RW.nil ?_
  refine WP.seq ?_
  refine WP.seq ?_
  refine WP.region ?_
  refine RW.run ttok 2 rfl ?_
  refine RW.nil ?_
  refine WP.cond (decide ((w64 (x1 - (x0.length : Int))) < 0)) rfl (fun hc => ?_) (fun hc => ?_)
  · skip
    rw [if_pos hc] at hm
    refine WP.seq ?_
    refine WP.region ?_
    refine RW.run ttok 1 rfl ?_
    refine RW.nil ?_
    refine WP.ret ?_
    cases hm
    exact ⟨_, .cons (.tmp rfl) .nil, rfl, hS⟩
  · skip
    rw [if_neg (not_t hc)] at hm
    refine WP.skip ?_
    refine WP.seq ?_
    refine WP.seq ?_
    refine WP.region ?_
    refine RW.run ttok 1 rfl ?_
    refine RW.nil ?_
    obtain ⟨o10, hl11, hm⟩ := bind_some hm
    refine WP.cut (fun (t2 : Int) F w9 => o10 = .inl t2 ∧ Ext w w9 ∧ St w w9 [] ∧ F = [(1, .int .i64 t2)]) ?_ ?_
    · skip
      rintro t2 F w7 ⟨ho13, hE6, hS12, rfl⟩
      subst ho13
      rw [aft_inl] at hm
      unfold m_laws_szAgentS_j1 at hm
      refine WP.seq ?_
      refine WP.region ?_
      refine RW.run ttok 2 rfl ?_
      refine RW.nil ?_
      refine WP.ret ?_
      cases hm
      exact ⟨_, .cons (.tmp rfl) .nil, rfl, hS12⟩
    · skip
      refine WP.block ?_
      refine WP.weak [(0, .slice A0_ x0.length k0_), (1, .int .i64 (w64 (x1 - (x0.length : Int)))), (5, .int .i64 0)] ⟨rfl, rfl, rfl, trivial⟩ ?_
      refine WP.iter (fun (s1 : Int × Int) F w9 => Ext w w9 ∧ St w w9 [] ∧ F = [(0, .slice A0_ x0.length k0_), (1, .int .i64 s1.1), (5, .int .i64 s1.2)]) _ hl11 ⟨(Ext.refl _), hS, rfl⟩ ?_
      rintro s1 F w18 _ o16 ⟨hE5, hS17, rfl⟩ hb14 ho15
      unfold m_laws_szAgentS_b1 at hb14
      refine WP.seq ?_
      refine WP.seq ?_
      refine WP.region ?_
      refine RW.run ttok 4 rfl ?_
      refine RW.nil ?_
      refine WP.cond (decide (s1.2 < (x0.length : Int))) rfl (fun hc => ?_) (fun hc => ?_)
      · skip
        rw [if_pos hc] at hb14
        refine WP.skip ?_
        refine WP.seq ?_
        refine WP.block ?_
        refine WP.seq ?_
        refine WP.region ?_
        refine RW.run ttok 2 rfl ?_
        obtain ⟨x19, hx20, hb14⟩ := bind_some hb14
        refine RW.idx ttok (hE.trans hS17.ext) rfl rfl rfl rfl rfl rfl (by decide) rfl rfl h0_ (idx_some hx20).1 (idx_some hx20).2 rfl rfl (fun p21 es22 ha23 hr24 => ?_)
        obtain ⟨A25, k26, A28, k29, e31, h27, h30⟩ := ty106_open hr24; subst e31
        refine RW.loadN ttok rfl rfl rfl rfl rfl (At.ext (hE.trans hS17.ext) ha23) rfl rfl rfl ?_
        refine RW.run ttok 1 rfl ?_
        obtain ⟨r32, hx33, hb14⟩ := bind_some hb14
        refine RW.call rfl rfl rfl enters59 (laws_szAgent_ok (hE.trans hS17.ext) hr24 hx33) (fun v34 w35 hR36 => ?_)
        obtain ⟨rfl, hR37⟩ := hR36
        have hS38 := hS17.join hR37
        refine RW.run ttok 1 rfl ?_
        refine RW.nil ?_
        refine WP.seq ?_
        refine WP.region ?_
        refine RW.run ttok 2 rfl ?_
        refine RW.nil ?_
        refine WP.cond (decide (r32 < 0)) rfl (fun hc => ?_) (fun hc => ?_)
        · skip
          rw [if_pos hc] at hb14
          refine WP.seq ?_
          refine WP.region ?_
          refine RW.run ttok 1 rfl ?_
          refine RW.nil ?_
          refine WP.ret ?_
          cases hb14
          cases ho15
          have hm : some _ = some _ := hm
          cases hm
          exact ⟨_, .cons (.tmp rfl) .nil, rfl, hS38⟩
        · skip
          rw [if_neg (not_t hc)] at hb14
          refine WP.skip ?_
          refine WP.region ?_
          refine RW.run ttok 3 rfl ?_
          refine RW.nil ?_
          cases hb14
          exact ⟨_, [(0, .slice A0_ x0.length k0_), (1, .int .i64 r32), (5, .int .i64 (w64 (s1.2 + 1)))], ⟨rfl, rfl, rfl, trivial⟩, rfl, (hE5.trans hR37.ext), hS38, rfl⟩
      · skip
        rw [if_neg (not_t hc)] at hb14
        refine WP.exit ?_
        cases hb14
        exact ⟨_, [(1, .int .i64 s1.1)], ⟨rfl, trivial⟩, ho15, hE5, hS17, rfl⟩

theorem enters10 : Enters Try.prog 10 := ⟨_, _, Try.func10, rfl, by kernel_rfl⟩
def m_laws_szNet (fuel : Nat) (x0 : D.Net) (x1 : Int) : Option (Int) := ((m_laws_szAgentS fuel x0.Agents x1).bind fun r11 => (if (decide (r11 < 0)) = true then some (-1) else some r11))

set_option maxRecDepth 100000 in
theorem laws_szNet_ok {W w : World} (hE : Ext W w) {c0_ : List Value} {x0 : D.Net} {x1 : Int} (h0_ : ty24.ro W c0_ x0) {fuel : Nat} {r : Int} (hm : m_laws_szNet fuel x0 x1 = some r) :
    Calls Try.prog 10 ⟨[.agg ⟨c0_⟩, .int .i64 x1]⟩ w (Ret fun v w8 => v = .int .i64 r ∧ St w w8 []) := by
  obtain ⟨A1, k2, e4, h3⟩ := ty24_open h0_; subst e4
  refine Calls.into Try.func10 rfl 12 rfl rfl _ rfl ?_
  unfold m_laws_szNet at hm
  have hS := St.start w
  refine WP.seq ?_
  refine WP.region ?_
  refine RW.new ttok hS rfl rfl rfl rfl (fun g5 w6 e7 hS10 => ?_)
  refine RW.run ttok 1 rfl ?_
  refine RW.nil ?_
  refine WP.seq ?_
  refine WP.region ?_
  refine RW.run ttok 1 rfl ?_
  refine RW.load1 ttok rfl rfl rfl rfl rfl ((hS10.bring 0 rfl).box) 0 rfl rfl rfl rfl ?_
  refine RW.run ttok 1 rfl ?_
  obtain ⟨r11, hx12, hm⟩ := bind_some hm
  refine RW.call rfl rfl rfl enters20 (laws_szAgentS_ok (hE.trans hS10.ext) h3 hx12) (fun v13 w14 hR15 => ?_)
  obtain ⟨rfl, hR16⟩ := hR15
  have hS17 := hS10.join hR16
  refine RW.run ttok 1 rfl ?_
  refine RW.nil ?_
  refine WP.seq ?_
  refine WP.seq ?_
  refine WP.region ?_
  refine RW.run ttok 2 rfl ?_
  refine RW.nil ?_
  refine WP.cond (decide (r11 < 0)) rfl (fun hc => ?_) (fun hc => ?_)
  · skip
    rw [if_pos hc] at hm
    refine WP.seq ?_
    refine WP.region ?_
    refine RW.run ttok 1 rfl ?_
    refine RW.nil ?_
    refine WP.ret ?_
    cases hm
    exact ⟨_, .cons (.tmp rfl) .nil, rfl, (hS17.taken 0)⟩
  · skip
    rw [if_neg (not_t hc)] at hm
    refine WP.skip ?_
    refine WP.seq ?_
    refine WP.region ?_
    refine RW.run ttok 2 rfl ?_
    refine RW.nil ?_
    refine WP.ret ?_
    cases hm
    exact ⟨_, .cons (.tmp rfl) .nil, rfl, (hS17.taken 0)⟩

theorem enters123 : Enters Try.prog 123 := ⟨_, _, Try.func123, rfl, by kernel_rfl⟩
def m_laws_toInt64S_j1 (fuel : Nat) (t11 : (List Int)) : Option (List Int) := some t11
def m_laws_toInt64S_b1 (fuel : Nat) (x0 : (List Int)) (s10 : Int × (List Int)) : Option (Rd (Int × (List Int)) ((List Int)) ((List Int))) := (if (decide (s10.1 < (x0.length : Int))) = true then ((idx x0 s10.1).bind fun x25 => (if decide (0 ≤ s10.1 ∧ s10.1.toNat < s10.2.length) = true then some (.next (w64 (s10.1 + 1), (s10.2.set s10.1.toNat x25))) else none)) else some (.brk s10.2))
def m_laws_toInt64S (fuel : Nat) (x0 : (List Int)) : Option ((List Int)) := (if decide (0 ≤ (x0.length : Int) ∧ (x0.length : Int) ≤ 4294967296) = true then ((iter (m_laws_toInt64S_b1 fuel x0) fuel (0, (List.replicate (x0.length : Int).toNat (0 : Int)))).bind fun o => aft o (m_laws_toInt64S_j1 fuel)) else none)

set_option maxRecDepth 100000 in
theorem laws_toInt64S_ok {W w : World} (hE : Ext W w) {A0_ : Option Addr} {k0_ : Nat} {x0 : (List Int)} (h0_ : ty103.ro W [.slice A0_ x0.length k0_] x0) {fuel : Nat} {r : (List Int)} (hm : m_laws_toInt64S fuel x0 = some r) :
    Calls Try.prog 123 ⟨[.slice A0_ x0.length k0_]⟩ w (Ret fun v w8 => ∃ A0 k0, v = .slice A0 r.length k0 ∧ St w w8 [Own ty103 [.slice A0 r.length k0] r]) := by
  refine Calls.into Try.func123 rfl 22 rfl rfl _ rfl ?_
  unfold m_laws_toInt64S at hm
  have hS := St.start w
  refine WP.seq ?_
  refine WP.region ?_
  refine RW.run ttok 1 rfl ?_
  refine RW.nil ?_
  refine WP.seq ?_
  refine WP.region ?_
  refine RW.run ttok 2 rfl ?_
  by_cases hk1 : decide (0 ≤ (x0.length : Int) ∧ (x0.length : Int) ≤ 4294967296) = true
  case neg => rw [if_neg hk1] at hm; cases hm
  rw [if_pos hk1] at hm
  have hz7 := of_decide_eq_true hk1
  refine RW.make (U := tInt) ttok (0 : Int) hS rfl rfl rfl rfl rfl rfl rfl rfl hz7.1 (by have := hz7.2; show _ * (8 : Int) ≤ _; omega) (by have := hz7.2; simp only [maxLen]; omega) (fun _ => ⟨rfl, rfl⟩) rfl rfl (fun A2 k3 w4 e5 hS6 => ?_)
  refine RW.run ttok 1 rfl ?_
  refine RW.nil ?_
  refine WP.seq ?_
  refine WP.seq ?_
  refine WP.region ?_
  refine RW.run ttok 1 rfl ?_
  refine RW.nil ?_
  obtain ⟨o14, hl15, hm⟩ := bind_some hm
  refine WP.cut (fun (t11 : (List Int)) F w9 => o14 = .inl t11 ∧ St w w9 [Own ty103 [.slice A2 (List.replicate (x0.length : Int).toNat (0 : Int)).length k3] t11] ∧ F = [(3, .slice A2 (List.replicate (x0.length : Int).toNat (0 : Int)).length k3)]) ?_ ?_
  · skip
    rintro t11 F w13 ⟨ho17, hS16, rfl⟩
    subst ho17
    rw [aft_inl] at hm
    unfold m_laws_toInt64S_j1 at hm
    refine WP.seq ?_
    refine WP.region ?_
    refine RW.run ttok 2 rfl ?_
    refine RW.nil ?_
    refine WP.ret ?_
    cases hm
    have hn18 := (hS16.bring 0 rfl).lenEq
    have hS19 := (hS16.bring 0 rfl).reLen hn18
    exact ⟨_, .cons (.tmp rfl) .nil, A2, k3, (by first | (simp only [hn18]; done) | (simp only [hn18]; rfl)), hS19⟩
  · skip
    refine WP.block ?_
    refine WP.weak [(0, .slice A0_ x0.length k0_), (3, .slice A2 (List.replicate (x0.length : Int).toNat (0 : Int)).length k3), (4, .int .i64 0)] ⟨rfl, rfl, rfl, trivial⟩ ?_
    refine WP.iter (fun (s10 : Int × (List Int)) F w9 => St w w9 [Own ty103 [.slice A2 (List.replicate (x0.length : Int).toNat (0 : Int)).length k3] s10.2] ∧ F = [(0, .slice A0_ x0.length k0_), (3, .slice A2 (List.replicate (x0.length : Int).toNat (0 : Int)).length k3), (4, .int .i64 s10.1)]) _ hl15 ⟨hS6, rfl⟩ ?_
    rintro s10 F w24 _ o22 ⟨hS23, rfl⟩ hb20 ho21
    unfold m_laws_toInt64S_b1 at hb20
    refine WP.seq ?_
    refine WP.seq ?_
    refine WP.region ?_
    refine RW.run ttok 4 rfl ?_
    refine RW.nil ?_
    refine WP.cond (decide (s10.1 < (x0.length : Int))) rfl (fun hc => ?_) (fun hc => ?_)
    · skip
      rw [if_pos hc] at hb20
      refine WP.skip ?_
      refine WP.seq ?_
      refine WP.block ?_
      refine WP.region ?_
      refine RW.run ttok 4 rfl ?_
      obtain ⟨x25, hx26, hb20⟩ := bind_some hb20
      refine RW.idx ttok (hE.trans hS23.ext) rfl rfl rfl rfl rfl rfl (by decide) rfl rfl h0_ (idx_some hx26).1 (idx_some hx26).2 rfl rfl (fun p27 es28 ha29 hr30 => ?_)
      cases hr30
      refine RW.load1 ttok rfl rfl rfl rfl rfl (At.ext (hE.trans hS23.ext) ha29) 0 rfl rfl rfl rfl ?_
      have hS31 := hS23.bring 0 rfl
      by_cases hk32 : decide (0 ≤ s10.1 ∧ s10.1.toNat < s10.2.length) = true
      case neg => rw [if_neg hk32] at hb20; cases hb20
      rw [if_pos hk32] at hb20
      have hb33 := of_decide_eq_true hk32
      refine RW.idxOwnN ttok hS31 rfl rfl rfl rfl rfl rfl rfl rfl hb33.1 hb33.2 rfl rfl (fun q34 hq35 => ?_)
      have hS36 := hS31.flat (T := tInt) (cs := [.int .i64 x25]) (x := x25) ⟨rfl, rfl⟩
      have hS37 := hS36.bring 1 rfl
      refine RW.storeElN ttok hS37 rfl rfl rfl rfl rfl rfl hb33.2 hq35 rfl rfl (fun w38 hS39 => ?_)
      refine RW.nil ?_
      refine WP.region ?_
      refine RW.run ttok 3 rfl ?_
      refine RW.nil ?_
      cases hb20
      exact ⟨_, [(0, .slice A0_ x0.length k0_), (3, .slice A2 (List.replicate (x0.length : Int).toNat (0 : Int)).length k3), (4, .int .i64 (w64 (s10.1 + 1)))], ⟨rfl, rfl, rfl, trivial⟩, rfl, hS39, rfl⟩
    · skip
      rw [if_neg (not_t hc)] at hb20
      refine WP.exit ?_
      cases hb20
      exact ⟨_, [(3, .slice A2 (List.replicate (x0.length : Int).toNat (0 : Int)).length k3)], ⟨rfl, trivial⟩, ho21, hS23, rfl⟩

theorem enters16 : Enters Try.prog 16 := ⟨_, _, Try.func16, rfl, by kernel_rfl⟩
def m_laws_toPort (fuel : Nat) (x0 : D.Port) : Option (D.Port) := some (⟨x0.Agent, x0.Slot⟩ : D.Port)

set_option maxRecDepth 100000 in
theorem laws_toPort_ok {W w : World} (hE : Ext W w) {c0_ : List Value} {x0 : D.Port} (h0_ : ty35.ro W c0_ x0) {fuel : Nat} {r : D.Port} (hm : m_laws_toPort fuel x0 = some r) :
    Calls Try.prog 16 ⟨[.agg ⟨c0_⟩]⟩ w (Ret fun v w8 => v = .agg ⟨[.int .i64 r.Agent, .int .i64 r.Slot]⟩ ∧ St w w8 []) := by
  have e1 := ty35_open h0_; subst e1
  refine Calls.into Try.func16 rfl 11 rfl rfl _ rfl ?_
  unfold m_laws_toPort at hm
  have hS := St.start w
  refine WP.seq ?_
  refine WP.region ?_
  refine RW.new ttok hS rfl rfl rfl rfl (fun g2 w3 e4 hS5 => ?_)
  refine RW.new ttok hS5 rfl rfl rfl rfl (fun g6 w7 e10 hS11 => ?_)
  refine RW.nil ?_
  refine WP.seq ?_
  refine WP.region ?_
  refine RW.new ttok hS11 rfl rfl rfl rfl (fun g12 w13 e14 hS15 => ?_)
  refine RW.nil ?_
  refine WP.seq ?_
  refine WP.region ?_
  refine RW.run ttok 1 rfl ?_
  refine RW.load1 ttok rfl rfl rfl rfl rfl ((hS15.bring 2 rfl).box) 0 rfl rfl rfl rfl ?_
  refine RW.run ttok 1 rfl ?_
  have hS16 := hS15.bring 0 rfl
  refine RW.store ttok (A := []) hS16 rfl rfl rfl rfl rfl 0 rfl rfl rfl rfl rfl (fun w17 hS18 => ?_)
  refine RW.nil ?_
  refine WP.seq ?_
  refine WP.region ?_
  refine RW.run ttok 1 rfl ?_
  refine RW.load1 ttok rfl rfl rfl rfl rfl ((hS18.bring 2 rfl).box) 1 rfl rfl rfl rfl ?_
  refine RW.run ttok 1 rfl ?_
  have hS19 := hS18.bring 0 rfl
  refine RW.store ttok (A := []) hS19 rfl rfl rfl rfl rfl 1 rfl rfl rfl rfl rfl (fun w20 hS21 => ?_)
  refine RW.nil ?_
  refine WP.seq ?_
  refine WP.region ?_
  refine RW.loadN ttok rfl rfl rfl rfl rfl ((hS21.bring 0 rfl).box) rfl rfl rfl ?_
  have hS22 := hS21.bring 1 rfl
  refine RW.store ttok (A := []) hS22 rfl rfl rfl rfl rfl 0 rfl rfl rfl rfl rfl (fun w23 hS24 => ?_)
  refine RW.nil ?_
  refine WP.ret ?_
  cases hm
  exact ⟨_, .cons (ResIs.agg ttok rfl rfl rfl ((hS24.bring 0 rfl).box) rfl) .nil, rfl, (hS24.taken 0)⟩

theorem enters124 : Enters Try.prog 124 := ⟨_, _, Try.func124, rfl, by kernel_rfl⟩
def m_laws_toPortS_j1 (fuel : Nat) (t11 : (List D.Port)) : Option (List D.Port) := some t11
def m_laws_toPortS_b1 (fuel : Nat) (x0 : (List D.Port)) (s10 : Int × (List D.Port)) : Option (Rd (Int × (List D.Port)) ((List D.Port)) ((List D.Port))) := (if (decide (s10.1 < (x0.length : Int))) = true then ((idx x0 s10.1).bind fun x25 => ((m_laws_toPort fuel x25).bind fun r32 => (if decide (0 ≤ s10.1 ∧ s10.1.toNat < s10.2.length) = true then some (.next (w64 (s10.1 + 1), (s10.2.set s10.1.toNat r32))) else none))) else some (.brk s10.2))
def m_laws_toPortS (fuel : Nat) (x0 : (List D.Port)) : Option ((List D.Port)) := (if decide (0 ≤ (x0.length : Int) ∧ (x0.length : Int) ≤ 4294967296) = true then ((iter (m_laws_toPortS_b1 fuel x0) fuel (0, (List.replicate (x0.length : Int).toNat (⟨(0 : Int), (0 : Int)⟩ : D.Port)))).bind fun o => aft o (m_laws_toPortS_j1 fuel)) else none)

set_option maxRecDepth 100000 in
theorem laws_toPortS_ok {W w : World} (hE : Ext W w) {A0_ : Option Addr} {k0_ : Nat} {x0 : (List D.Port)} (h0_ : ty104.ro W [.slice A0_ x0.length k0_] x0) {fuel : Nat} {r : (List D.Port)} (hm : m_laws_toPortS fuel x0 = some r) :
    Calls Try.prog 124 ⟨[.slice A0_ x0.length k0_]⟩ w (Ret fun v w8 => ∃ A0 k0, v = .slice A0 r.length k0 ∧ St w w8 [Own ty110 [.slice A0 r.length k0] r]) := by
  refine Calls.into Try.func124 rfl 23 rfl rfl _ rfl ?_
  unfold m_laws_toPortS at hm
  have hS := St.start w
  refine WP.seq ?_
  refine WP.region ?_
  refine RW.run ttok 1 rfl ?_
  refine RW.nil ?_
  refine WP.seq ?_
  refine WP.region ?_
  refine RW.run ttok 2 rfl ?_
  by_cases hk1 : decide (0 ≤ (x0.length : Int) ∧ (x0.length : Int) ≤ 4294967296) = true
  case neg => rw [if_neg hk1] at hm; cases hm
  rw [if_pos hk1] at hm
  have hz7 := of_decide_eq_true hk1
  refine RW.make (U := ty38) ttok (⟨(0 : Int), (0 : Int)⟩ : D.Port) hS rfl rfl rfl rfl rfl rfl rfl rfl hz7.1 (by have := hz7.2; show _ * (16 : Int) ≤ _; omega) (by have := hz7.2; simp only [maxLen]; omega) (fun _ => (ty38_ownI (c := (⟨(0 : Int), (0 : Int)⟩ : D.Port)) rfl)) rfl rfl (fun A2 k3 w4 e5 hS6 => ?_)
  refine RW.run ttok 1 rfl ?_
  refine RW.nil ?_
  refine WP.seq ?_
  refine WP.seq ?_
  refine WP.region ?_
  refine RW.run ttok 1 rfl ?_
  refine RW.nil ?_
  obtain ⟨o14, hl15, hm⟩ := bind_some hm
  refine WP.cut (fun (t11 : (List D.Port)) F w9 => o14 = .inl t11 ∧ St w w9 [Own ty110 [.slice A2 (List.replicate (x0.length : Int).toNat (⟨(0 : Int), (0 : Int)⟩ : D.Port)).length k3] t11] ∧ F = [(3, .slice A2 (List.replicate (x0.length : Int).toNat (⟨(0 : Int), (0 : Int)⟩ : D.Port)).length k3)]) ?_ ?_
  · skip
    rintro t11 F w13 ⟨ho17, hS16, rfl⟩
    subst ho17
    rw [aft_inl] at hm
    unfold m_laws_toPortS_j1 at hm
    refine WP.seq ?_
    refine WP.region ?_
    refine RW.run ttok 2 rfl ?_
    refine RW.nil ?_
    refine WP.ret ?_
    cases hm
    have hn18 := (hS16.bring 0 rfl).lenEq
    have hS19 := (hS16.bring 0 rfl).reLen hn18
    exact ⟨_, .cons (.tmp rfl) .nil, A2, k3, (by first | (simp only [hn18]; done) | (simp only [hn18]; rfl)), hS19⟩
  · skip
    refine WP.block ?_
    refine WP.weak [(0, .slice A0_ x0.length k0_), (3, .slice A2 (List.replicate (x0.length : Int).toNat (⟨(0 : Int), (0 : Int)⟩ : D.Port)).length k3), (4, .int .i64 0)] ⟨rfl, rfl, rfl, trivial⟩ ?_
    refine WP.iter (fun (s10 : Int × (List D.Port)) F w9 => St w w9 [Own ty110 [.slice A2 (List.replicate (x0.length : Int).toNat (⟨(0 : Int), (0 : Int)⟩ : D.Port)).length k3] s10.2] ∧ F = [(0, .slice A0_ x0.length k0_), (3, .slice A2 (List.replicate (x0.length : Int).toNat (⟨(0 : Int), (0 : Int)⟩ : D.Port)).length k3), (4, .int .i64 s10.1)]) _ hl15 ⟨hS6, rfl⟩ ?_
    rintro s10 F w24 _ o22 ⟨hS23, rfl⟩ hb20 ho21
    unfold m_laws_toPortS_b1 at hb20
    refine WP.seq ?_
    refine WP.seq ?_
    refine WP.region ?_
    refine RW.run ttok 4 rfl ?_
    refine RW.nil ?_
    refine WP.cond (decide (s10.1 < (x0.length : Int))) rfl (fun hc => ?_) (fun hc => ?_)
    · skip
      rw [if_pos hc] at hb20
      refine WP.skip ?_
      refine WP.seq ?_
      refine WP.block ?_
      refine WP.region ?_
      refine RW.run ttok 4 rfl ?_
      obtain ⟨x25, hx26, hb20⟩ := bind_some hb20
      refine RW.idx ttok (hE.trans hS23.ext) rfl rfl rfl rfl rfl rfl (by decide) rfl rfl h0_ (idx_some hx26).1 (idx_some hx26).2 rfl rfl (fun p27 es28 ha29 hr30 => ?_)
      have e31 := ty35_open hr30; subst e31
      refine RW.loadN ttok rfl rfl rfl rfl rfl (At.ext (hE.trans hS23.ext) ha29) rfl rfl rfl ?_
      obtain ⟨r32, hx33, hb20⟩ := bind_some hb20
      refine RW.call rfl rfl rfl enters16 (laws_toPort_ok (hE.trans hS23.ext) hr30 hx33) (fun v34 w35 hR36 => ?_)
      obtain ⟨rfl, hR37⟩ := hR36
      have hS38 := hS23.join hR37
      have hS39 := hS38.bring 0 rfl
      by_cases hk40 : decide (0 ≤ s10.1 ∧ s10.1.toNat < s10.2.length) = true
      case neg => rw [if_neg hk40] at hb20; cases hb20
      rw [if_pos hk40] at hb20
      have hb41 := of_decide_eq_true hk40
      refine RW.idxOwnN ttok hS39 rfl rfl rfl rfl rfl rfl rfl rfl hb41.1 hb41.2 rfl rfl (fun q42 hq43 => ?_)
      have hS44 := ty38_shutS (c := r32) (B := _) hS39
      have hS45 := hS44.bring 1 rfl
      refine RW.storeElN ttok hS45 rfl rfl rfl rfl rfl rfl hb41.2 hq43 rfl rfl (fun w46 hS47 => ?_)
      refine RW.nil ?_
      refine WP.region ?_
      refine RW.run ttok 3 rfl ?_
      refine RW.nil ?_
      cases hb20
      exact ⟨_, [(0, .slice A0_ x0.length k0_), (3, .slice A2 (List.replicate (x0.length : Int).toNat (⟨(0 : Int), (0 : Int)⟩ : D.Port)).length k3), (4, .int .i64 (w64 (s10.1 + 1)))], ⟨rfl, rfl, rfl, trivial⟩, rfl, hS47, rfl⟩
    · skip
      rw [if_neg (not_t hc)] at hb20
      refine WP.exit ?_
      cases hb20
      exact ⟨_, [(3, .slice A2 (List.replicate (x0.length : Int).toNat (⟨(0 : Int), (0 : Int)⟩ : D.Port)).length k3)], ⟨rfl, trivial⟩, ho21, hS23, rfl⟩

theorem enters61 : Enters Try.prog 61 := ⟨_, _, Try.func61, rfl, by kernel_rfl⟩
def m_laws_toAgent (fuel : Nat) (x0 : D.Agent) : Option (D.Agent) := ((m_laws_toInt64S fuel x0.Data).bind fun r31 => ((m_laws_toPortS fuel x0.Ports).bind fun r43 => some (⟨x0.Kind, x0.Level, x0.Value, r31, r43⟩ : D.Agent)))

set_option maxRecDepth 100000 in
theorem laws_toAgent_ok {W w : World} (hE : Ext W w) {c0_ : List Value} {x0 : D.Agent} (h0_ : ty106.ro W c0_ x0) {fuel : Nat} {r : D.Agent} (hm : m_laws_toAgent fuel x0 = some r) :
    Calls Try.prog 61 ⟨[.agg ⟨c0_⟩]⟩ w (Ret fun v w8 => ∃ A0 k0 A1 k1, v = .agg ⟨[.int .i64 r.Kind, .int .i64 r.Level, .int .i64 r.Value, .slice A0 r.Data.length k0, .slice A1 r.Ports.length k1]⟩ ∧ St w w8 [Own ty103 [.slice A0 r.Data.length k0] r.Data, Own ty110 [.slice A1 r.Ports.length k1] r.Ports]) := by
  obtain ⟨A1, k2, A4, k5, e7, h3, h6⟩ := ty106_open h0_; subst e7
  refine Calls.into Try.func61 rfl 22 rfl rfl _ rfl ?_
  unfold m_laws_toAgent at hm
  have hS := St.start w
  refine WP.seq ?_
  refine WP.region ?_
  refine RW.new ttok hS rfl rfl rfl rfl (fun g10 w11 e12 hS13 => ?_)
  refine RW.new ttok hS13 rfl rfl rfl rfl (fun g14 w15 e16 hS17 => ?_)
  refine RW.nil ?_
  refine WP.seq ?_
  refine WP.region ?_
  refine RW.new ttok hS17 rfl rfl rfl rfl (fun g18 w19 e20 hS21 => ?_)
  refine RW.nil ?_
  refine WP.seq ?_
  refine WP.region ?_
  refine RW.run ttok 1 rfl ?_
  refine RW.load1 ttok rfl rfl rfl rfl rfl ((hS21.bring 2 rfl).box) 0 rfl rfl rfl rfl ?_
  refine RW.run ttok 1 rfl ?_
  have hS22 := hS21.bring 0 rfl
  refine RW.store ttok (A := []) hS22 rfl rfl rfl rfl rfl 0 rfl rfl rfl rfl rfl (fun w23 hS24 => ?_)
  refine RW.nil ?_
  refine WP.seq ?_
  refine WP.region ?_
  refine RW.run ttok 1 rfl ?_
  refine RW.load1 ttok rfl rfl rfl rfl rfl ((hS24.bring 2 rfl).box) 1 rfl rfl rfl rfl ?_
  refine RW.run ttok 1 rfl ?_
  have hS25 := hS24.bring 0 rfl
  refine RW.store ttok (A := []) hS25 rfl rfl rfl rfl rfl 1 rfl rfl rfl rfl rfl (fun w26 hS27 => ?_)
  refine RW.nil ?_
  refine WP.seq ?_
  refine WP.region ?_
  refine RW.run ttok 1 rfl ?_
  refine RW.load1 ttok rfl rfl rfl rfl rfl ((hS27.bring 2 rfl).box) 2 rfl rfl rfl rfl ?_
  refine RW.run ttok 1 rfl ?_
  have hS28 := hS27.bring 0 rfl
  refine RW.store ttok (A := []) hS28 rfl rfl rfl rfl rfl 2 rfl rfl rfl rfl rfl (fun w29 hS30 => ?_)
  refine RW.nil ?_
  refine WP.seq ?_
  refine WP.region ?_
  refine RW.run ttok 1 rfl ?_
  refine RW.load1 ttok rfl rfl rfl rfl rfl ((hS30.bring 2 rfl).box) 3 rfl rfl rfl rfl ?_
  obtain ⟨r31, hx32, hm⟩ := bind_some hm
  refine RW.call rfl rfl rfl enters123 (laws_toInt64S_ok (hE.trans hS30.ext) h3 hx32) (fun v33 w34 hR35 => ?_)
  obtain ⟨A36, k37, rfl, hR38⟩ := hR35
  have hS39 := hS30.join hR38
  refine RW.run ttok 1 rfl ?_
  have hS40 := hS39.bring 1 rfl
  refine RW.store ttok (A := []) hS40 rfl rfl rfl rfl rfl 3 rfl rfl rfl rfl rfl (fun w41 hS42 => ?_)
  refine RW.nil ?_
  refine WP.seq ?_
  refine WP.region ?_
  refine RW.run ttok 1 rfl ?_
  refine RW.load1 ttok rfl rfl rfl rfl rfl ((hS42.bring 3 rfl).box) 4 rfl rfl rfl rfl ?_
  obtain ⟨r43, hx44, hm⟩ := bind_some hm
  refine RW.call rfl rfl rfl enters124 (laws_toPortS_ok (hE.trans hS42.ext) h6 hx44) (fun v45 w46 hR47 => ?_)
  obtain ⟨A48, k49, rfl, hR50⟩ := hR47
  have hS51 := hS42.join hR50
  refine RW.run ttok 1 rfl ?_
  have hS52 := hS51.bring 1 rfl
  refine RW.store ttok (A := []) hS52 rfl rfl rfl rfl rfl 4 rfl rfl rfl rfl rfl (fun w53 hS54 => ?_)
  refine RW.nil ?_
  refine WP.seq ?_
  refine WP.region ?_
  refine RW.loadN ttok rfl rfl rfl rfl rfl ((hS54.bring 0 rfl).box) rfl rfl rfl ?_
  have hS55 := hS54.bring 3 rfl
  refine RW.store ttok (A := []) hS55 rfl rfl rfl rfl rfl 0 rfl rfl rfl rfl rfl (fun w56 hS57 => ?_)
  refine RW.nil ?_
  refine WP.ret ?_
  cases hm
  exact ⟨_, .cons (ResIs.agg ttok rfl rfl rfl ((hS57.bring 0 rfl).box) rfl) .nil, A36, k37, A48, k49, rfl, (((hS57.bring 2 rfl).bring 3 rfl).taken 2)⟩

theorem enters23 : Enters Try.prog 23 := ⟨_, _, Try.func23, rfl, by kernel_rfl⟩
def m_laws_toAgentS_j1 (fuel : Nat) (t11 : (List D.Agent)) : Option (List D.Agent) := some t11
def m_laws_toAgentS_b1 (fuel : Nat) (x0 : (List D.Agent)) (s10 : Int × (List D.Agent)) : Option (Rd (Int × (List D.Agent)) ((List D.Agent)) ((List D.Agent))) := (if (decide (s10.1 < (x0.length : Int))) = true then ((idx x0 s10.1).bind fun x25 => ((m_laws_toAgent fuel x25).bind fun r38 => (if decide (0 ≤ s10.1 ∧ s10.1.toNat < s10.2.length) = true then some (.next (w64 (s10.1 + 1), (s10.2.set s10.1.toNat r38))) else none))) else some (.brk s10.2))
def m_laws_toAgentS (fuel : Nat) (x0 : (List D.Agent)) : Option ((List D.Agent)) := (if decide (0 ≤ (x0.length : Int) ∧ (x0.length : Int) ≤ 4294967296) = true then ((iter (m_laws_toAgentS_b1 fuel x0) fuel (0, (List.replicate (x0.length : Int).toNat (⟨(0 : Int), (0 : Int), (0 : Int), ([] : (List Int)), ([] : (List D.Port))⟩ : D.Agent)))).bind fun o => aft o (m_laws_toAgentS_j1 fuel)) else none)

set_option maxRecDepth 100000 in
theorem laws_toAgentS_ok {W w : World} (hE : Ext W w) {A0_ : Option Addr} {k0_ : Nat} {x0 : (List D.Agent)} (h0_ : ty22.ro W [.slice A0_ x0.length k0_] x0) {fuel : Nat} {r : (List D.Agent)} (hm : m_laws_toAgentS fuel x0 = some r) :
    Calls Try.prog 23 ⟨[.slice A0_ x0.length k0_]⟩ w (Ret fun v w8 => ∃ A0 k0, v = .slice A0 r.length k0 ∧ St w w8 [Own ty28 [.slice A0 r.length k0] r]) := by
  refine Calls.into Try.func23 rfl 23 rfl rfl _ rfl ?_
  unfold m_laws_toAgentS at hm
  have hS := St.start w
  refine WP.seq ?_
  refine WP.region ?_
  refine RW.run ttok 1 rfl ?_
  refine RW.nil ?_
  refine WP.seq ?_
  refine WP.region ?_
  refine RW.run ttok 2 rfl ?_
  by_cases hk1 : decide (0 ≤ (x0.length : Int) ∧ (x0.length : Int) ≤ 4294967296) = true
  case neg => rw [if_neg hk1] at hm; cases hm
  rw [if_pos hk1] at hm
  have hz7 := of_decide_eq_true hk1
  refine RW.make (U := ty112) ttok (⟨(0 : Int), (0 : Int), (0 : Int), ([] : (List Int)), ([] : (List D.Port))⟩ : D.Agent) hS rfl rfl rfl rfl rfl rfl rfl rfl hz7.1 (by have := hz7.2; show _ * (72 : Int) ≤ _; omega) (by have := hz7.2; simp only [maxLen]; omega) (fun _ => (ty112_ownI (c := (⟨(0 : Int), (0 : Int), (0 : Int), ([] : (List Int)), ([] : (List D.Port))⟩ : D.Agent)) ⟨[], [], rfl, (slNilOwn tInt 2 _), ⟨[], [], rfl, (slNilOwn ty38 38 _), rfl⟩⟩)) rfl rfl (fun A2 k3 w4 e5 hS6 => ?_)
  refine RW.run ttok 1 rfl ?_
  refine RW.nil ?_
  refine WP.seq ?_
  refine WP.seq ?_
  refine WP.region ?_
  refine RW.run ttok 1 rfl ?_
  refine RW.nil ?_
  obtain ⟨o14, hl15, hm⟩ := bind_some hm
  refine WP.cut (fun (t11 : (List D.Agent)) F w9 => o14 = .inl t11 ∧ St w w9 [Own ty28 [.slice A2 (List.replicate (x0.length : Int).toNat (⟨(0 : Int), (0 : Int), (0 : Int), ([] : (List Int)), ([] : (List D.Port))⟩ : D.Agent)).length k3] t11] ∧ F = [(3, .slice A2 (List.replicate (x0.length : Int).toNat (⟨(0 : Int), (0 : Int), (0 : Int), ([] : (List Int)), ([] : (List D.Port))⟩ : D.Agent)).length k3)]) ?_ ?_
  · skip
    rintro t11 F w13 ⟨ho17, hS16, rfl⟩
    subst ho17
    rw [aft_inl] at hm
    unfold m_laws_toAgentS_j1 at hm
    refine WP.seq ?_
    refine WP.region ?_
    refine RW.run ttok 2 rfl ?_
    refine RW.nil ?_
    refine WP.ret ?_
    cases hm
    have hn18 := (hS16.bring 0 rfl).lenEq
    have hS19 := (hS16.bring 0 rfl).reLen hn18
    exact ⟨_, .cons (.tmp rfl) .nil, A2, k3, (by first | (simp only [hn18]; done) | (simp only [hn18]; rfl)), hS19⟩
  · skip
    refine WP.block ?_
    refine WP.weak [(0, .slice A0_ x0.length k0_), (3, .slice A2 (List.replicate (x0.length : Int).toNat (⟨(0 : Int), (0 : Int), (0 : Int), ([] : (List Int)), ([] : (List D.Port))⟩ : D.Agent)).length k3), (4, .int .i64 0)] ⟨rfl, rfl, rfl, trivial⟩ ?_
    refine WP.iter (fun (s10 : Int × (List D.Agent)) F w9 => St w w9 [Own ty28 [.slice A2 (List.replicate (x0.length : Int).toNat (⟨(0 : Int), (0 : Int), (0 : Int), ([] : (List Int)), ([] : (List D.Port))⟩ : D.Agent)).length k3] s10.2] ∧ F = [(0, .slice A0_ x0.length k0_), (3, .slice A2 (List.replicate (x0.length : Int).toNat (⟨(0 : Int), (0 : Int), (0 : Int), ([] : (List Int)), ([] : (List D.Port))⟩ : D.Agent)).length k3), (4, .int .i64 s10.1)]) _ hl15 ⟨hS6, rfl⟩ ?_
    rintro s10 F w24 _ o22 ⟨hS23, rfl⟩ hb20 ho21
    unfold m_laws_toAgentS_b1 at hb20
    refine WP.seq ?_
    refine WP.seq ?_
    refine WP.region ?_
    refine RW.run ttok 4 rfl ?_
    refine RW.nil ?_
    refine WP.cond (decide (s10.1 < (x0.length : Int))) rfl (fun hc => ?_) (fun hc => ?_)
    · skip
      rw [if_pos hc] at hb20
      refine WP.skip ?_
      refine WP.seq ?_
      refine WP.block ?_
      refine WP.region ?_
      refine RW.run ttok 4 rfl ?_
      obtain ⟨x25, hx26, hb20⟩ := bind_some hb20
      refine RW.idx ttok (hE.trans hS23.ext) rfl rfl rfl rfl rfl rfl (by decide) rfl rfl h0_ (idx_some hx26).1 (idx_some hx26).2 rfl rfl (fun p27 es28 ha29 hr30 => ?_)
      obtain ⟨A31, k32, A34, k35, e37, h33, h36⟩ := ty106_open hr30; subst e37
      refine RW.loadN ttok rfl rfl rfl rfl rfl (At.ext (hE.trans hS23.ext) ha29) rfl rfl rfl ?_
      obtain ⟨r38, hx39, hb20⟩ := bind_some hb20
      refine RW.call rfl rfl rfl enters61 (laws_toAgent_ok (hE.trans hS23.ext) hr30 hx39) (fun v40 w41 hR42 => ?_)
      obtain ⟨A43, k44, A45, k46, rfl, hR47⟩ := hR42
      have hS48 := hS23.join hR47
      have hS49 := hS48.bring 2 rfl
      by_cases hk50 : decide (0 ≤ s10.1 ∧ s10.1.toNat < s10.2.length) = true
      case neg => rw [if_neg hk50] at hb20; cases hb20
      rw [if_pos hk50] at hb20
      have hb51 := of_decide_eq_true hk50
      refine RW.idxOwnN ttok hS49 rfl rfl rfl rfl rfl rfl rfl rfl hb51.1 hb51.2 rfl rfl (fun q52 hq53 => ?_)
      have hS54 := hS49.bring 2 rfl
      have hS55 := hS54.bring 2 rfl
      have hS56 := ty112_shutS (c := r38) (B := _) hS55
      have hS57 := hS56.bring 1 rfl
      refine RW.storeElN ttok hS57 rfl rfl rfl rfl rfl rfl hb51.2 hq53 rfl rfl (fun w58 hS59 => ?_)
      refine RW.nil ?_
      refine WP.region ?_
      refine RW.run ttok 3 rfl ?_
      refine RW.nil ?_
      cases hb20
      exact ⟨_, [(0, .slice A0_ x0.length k0_), (3, .slice A2 (List.replicate (x0.length : Int).toNat (⟨(0 : Int), (0 : Int), (0 : Int), ([] : (List Int)), ([] : (List D.Port))⟩ : D.Agent)).length k3), (4, .int .i64 (w64 (s10.1 + 1)))], ⟨rfl, rfl, rfl, trivial⟩, rfl, hS59, rfl⟩
    · skip
      rw [if_neg (not_t hc)] at hb20
      refine WP.exit ?_
      cases hb20
      exact ⟨_, [(3, .slice A2 (List.replicate (x0.length : Int).toNat (⟨(0 : Int), (0 : Int), (0 : Int), ([] : (List Int)), ([] : (List D.Port))⟩ : D.Agent)).length k3)], ⟨rfl, trivial⟩, ho21, hS23, rfl⟩

theorem enters12 : Enters Try.prog 12 := ⟨_, _, Try.func12, rfl, by kernel_rfl⟩
def m_laws_toNet (fuel : Nat) (x0 : D.Net) : Option (D.Net) := ((m_laws_toAgentS fuel x0.Agents).bind fun r19 => some (⟨r19⟩ : D.Net))

set_option maxRecDepth 100000 in
theorem laws_toNet_ok {W w : World} (hE : Ext W w) {c0_ : List Value} {x0 : D.Net} (h0_ : ty24.ro W c0_ x0) {fuel : Nat} {r : D.Net} (hm : m_laws_toNet fuel x0 = some r) :
    Calls Try.prog 12 ⟨[.agg ⟨c0_⟩]⟩ w (Ret fun v w8 => ∃ A0 k0, v = .agg ⟨[.slice A0 r.Agents.length k0]⟩ ∧ St w w8 [Own ty28 [.slice A0 r.Agents.length k0] r.Agents]) := by
  obtain ⟨A1, k2, e4, h3⟩ := ty24_open h0_; subst e4
  refine Calls.into Try.func12 rfl 9 rfl rfl _ rfl ?_
  unfold m_laws_toNet at hm
  have hS := St.start w
  refine WP.seq ?_
  refine WP.region ?_
  refine RW.new ttok hS rfl rfl rfl rfl (fun g5 w6 e7 hS10 => ?_)
  refine RW.new ttok hS10 rfl rfl rfl rfl (fun g11 w12 e13 hS14 => ?_)
  refine RW.nil ?_
  refine WP.seq ?_
  refine WP.region ?_
  refine RW.new ttok hS14 rfl rfl rfl rfl (fun g15 w16 e17 hS18 => ?_)
  refine RW.nil ?_
  refine WP.seq ?_
  refine WP.region ?_
  refine RW.run ttok 1 rfl ?_
  refine RW.load1 ttok rfl rfl rfl rfl rfl ((hS18.bring 2 rfl).box) 0 rfl rfl rfl rfl ?_
  obtain ⟨r19, hx20, hm⟩ := bind_some hm
  refine RW.call rfl rfl rfl enters23 (laws_toAgentS_ok (hE.trans hS18.ext) h3 hx20) (fun v21 w22 hR23 => ?_)
  obtain ⟨A24, k25, rfl, hR26⟩ := hR23
  have hS27 := hS18.join hR26
  refine RW.run ttok 1 rfl ?_
  have hS28 := hS27.bring 1 rfl
  refine RW.store ttok (A := []) hS28 rfl rfl rfl rfl rfl 0 rfl rfl rfl rfl rfl (fun w29 hS30 => ?_)
  refine RW.nil ?_
  refine WP.seq ?_
  refine WP.region ?_
  refine RW.loadN ttok rfl rfl rfl rfl rfl ((hS30.bring 0 rfl).box) rfl rfl rfl ?_
  have hS31 := hS30.bring 2 rfl
  refine RW.store ttok (A := []) hS31 rfl rfl rfl rfl rfl 0 rfl rfl rfl rfl rfl (fun w32 hS33 => ?_)
  refine RW.nil ?_
  refine WP.ret ?_
  cases hm
  exact ⟨_, .cons (ResIs.agg ttok rfl rfl rfl ((hS33.bring 0 rfl).box) rfl) .nil, A24, k25, rfl, ((hS33.bring 2 rfl).taken 1)⟩

theorem enters161 : Enters Try.prog 161 := ⟨_, _, Try.func161, rfl, by kernel_rfl⟩
def m_spec_l00Own (fuel : Nat) (x0 : (List Int)) : Option ((List Int)) := (if decide ((([] : (List Int)).length : Int) + (x0.length : Int) ≤ 4294967296) = true then some (([] : (List Int)) ++ x0) else none)

set_option maxRecDepth 100000 in
theorem spec_l00Own_ok {W w : World} (hE : Ext W w) {A0_ : Option Addr} {k0_ : Nat} {x0 : (List Int)} (h0_ : ty103.ro W [.slice A0_ x0.length k0_] x0) {fuel : Nat} {r : (List Int)} (hm : m_spec_l00Own fuel x0 = some r) :
    Calls Try.prog 161 ⟨[.slice A0_ x0.length k0_]⟩ w (Ret fun v w8 => ∃ A0 k0, v = .slice A0 r.length k0 ∧ St w w8 [Own ty103 [.slice A0 r.length k0] r]) := by
  refine Calls.into Try.func161 rfl 6 rfl rfl _ rfl ?_
  unfold m_spec_l00Own at hm
  have hS := St.start w
  refine WP.seq ?_
  refine WP.region ?_
  refine RW.run ttok 1 rfl ?_
  refine RW.nil ?_
  refine WP.seq ?_
  refine WP.region ?_
  refine RW.newSlice0 (U := tInt) ttok hS rfl rfl rfl rfl rfl rfl rfl (fun A1 k2 w3 e4 hS5 => ?_)
  refine RW.run ttok 1 rfl ?_
  have hS6 := hS5.bring 0 rfl
  by_cases hk7 : decide ((([] : (List Int)).length : Int) + (x0.length : Int) ≤ 4294967296) = true
  case neg => rw [if_neg hk7] at hm; cases hm
  rw [if_pos hk7] at hm
  refine RW.appendRo ttok Flat.int hS6 rfl rfl rfl rfl rfl rfl (by decide) rfl rfl (ty103.ext (hE.trans hS6.ext) h0_) (of_decide_eq_true hk7) (by decide) rfl rfl (fun A10 k11 w12 hS13 => ?_)
  refine RW.run ttok 1 rfl ?_
  refine RW.nil ?_
  refine WP.ret ?_
  cases hm
  exact ⟨_, .cons (.tmp rfl) .nil, A10, k11, rfl, hS13⟩

theorem enters116 : Enters Try.prog 116 := ⟨_, _, Try.func116, rfl, by kernel_rfl⟩
def m_spec_l11OwnAgent (fuel : Nat) (x0 : D.Agent) : Option (D.Agent) := ((m_spec_l00Own fuel x0.Data).bind fun r16 => (if decide ((([] : (List D.Port)).length : Int) + (x0.Ports.length : Int) ≤ 4294967296) = true then some (⟨x0.Kind, x0.Level, x0.Value, r16, (([] : (List D.Port)) ++ x0.Ports)⟩ : D.Agent) else none))

set_option maxRecDepth 100000 in
theorem spec_l11OwnAgent_ok {W w : World} (hE : Ext W w) {p0_ : Addr} {c0_ : List Value} {x0 : D.Agent} (h0_ : ty112.ro W c0_ x0) (g0_ : At W p0_ c0_) {fuel : Nat} {r : D.Agent} (hm : m_spec_l11OwnAgent fuel x0 = some r) :
    Calls Try.prog 116 ⟨[.pointer (some p0_)]⟩ w (Ret fun v w8 => ∃ A0 k0 A1 k1, v = .agg ⟨[.int .i64 r.Kind, .int .i64 r.Level, .int .i64 r.Value, .slice A0 r.Data.length k0, .slice A1 r.Ports.length k1]⟩ ∧ St w w8 [Own ty103 [.slice A0 r.Data.length k0] r.Data, Own ty110 [.slice A1 r.Ports.length k1] r.Ports]) := by
  obtain ⟨A1, k2, A4, k5, e7, h3, h6⟩ := ty112_open h0_; subst e7
  refine Calls.into Try.func116 rfl 27 rfl rfl _ rfl ?_
  unfold m_spec_l11OwnAgent at hm
  have hS := St.start w
  refine WP.seq ?_
  refine WP.region ?_
  refine RW.new ttok hS rfl rfl rfl rfl (fun g10 w11 e12 hS13 => ?_)
  refine RW.nil ?_
  refine WP.seq ?_
  refine WP.drawnM 20971520 mixed 25 (by kernel_rfl) (by kernel_rfl) [([], 33554431), ([0], 33554430), ([1], 33554429), ([2], 33554427), ([], 33554431), ([4], 33554415), ([5], 33554399), ([6], 33554367), ([], 33554431), ([8], 33554175), ([9], 33553919), ([10], 33553407), ([], 33554431), ([12], 33550335), ([13], 33546239), ([14], 33538047), ([15], 33521663), ([], 33554431), ([], 33554431), ([18], 33292287), ([19], 33030143), ([20], 32505855), ([17, 21, 16], 31326207), ([3, 7, 11, 16, 22], 29292407), ([23, 22, 0, 1, 2, 3, 4, 5, 6, 7, 8, 9, 10, 11, 12, 13, 14, 15, 16, 17, 18, 19, 20, 21, 22, 23], 25165823)] (by kernel_rfl) hS13.ext (fun hsk14 => ?_)
  have hS15 := hS13.step (Ext.draw _)
  refine DM.run (fuel := 10) ttok hsk14 [0, 1, 2, 4, 5, 6, 8, 9, 10, 12, 13, 14, 18, 19, 20] 1865591 (by kernel_rfl) (by kernel_rfl) rfl ?_
  refine DM.weak [(2, .pointer (some ⟨g10, 0, none⟩)), (5, .pointer (some p0_)), (9, .pointer (some (p0_.add 1))), (13, .pointer (some (p0_.add 2))), (17, .pointer (some (p0_.add 3))), (23, .pointer (some (p0_.add 4)))] ⟨rfl, rfl, rfl, rfl, rfl, rfl, trivial⟩ ?_
  refine DM.quietV hsk14 3 1865599 (by kernel_rfl) (by kernel_rfl) rfl (by kernel_rfl) rfl (Quiet.load1 ttok rfl rfl rfl rfl (At.ext hE g0_) 0 rfl rfl) rfl rfl ?_
  refine DM.quietV hsk14 7 1865727 (by kernel_rfl) (by kernel_rfl) rfl (by kernel_rfl) rfl (Quiet.load1 ttok rfl rfl rfl rfl (At.ext hE g0_) 1 rfl rfl) rfl rfl ?_
  refine DM.quietV hsk14 11 1867775 (by kernel_rfl) (by kernel_rfl) rfl (by kernel_rfl) rfl (Quiet.load1 ttok rfl rfl rfl rfl (At.ext hE g0_) 2 rfl rfl) rfl rfl ?_
  refine DM.quietV hsk14 15 1900543 (by kernel_rfl) (by kernel_rfl) rfl (by kernel_rfl) rfl (Quiet.load1 ttok rfl rfl rfl rfl (At.ext hE g0_) 3 rfl rfl) rfl rfl ?_
  refine DM.load1 ttok hsk14 21 3997695 (by kernel_rfl) (by kernel_rfl) (by kernel_rfl) (by kernel_rfl) rfl (by kernel_rfl) rfl rfl rfl rfl rfl (At.ext (hE.trans hS13.ext) g0_) 4 rfl rfl rfl rfl ?_
  obtain ⟨r16, hx17, hm⟩ := bind_some hm
  by_cases hk31 : decide ((([] : (List D.Port)).length : Int) + (x0.Ports.length : Int) ≤ 4294967296) = true
  case neg => rw [if_neg hk31] at hm; cases hm
  rw [if_pos hk31] at hm
  refine DM.all hsk14 [16, 17] (by kernel_rfl) (by simp) ?_
  intro i39 hi40
  simp only [List.mem_cons, List.not_mem_nil, or_false] at hi40
  rcases hi40 with rfl | rfl
  · skip
    refine LM.call hsk14 4063231 (by kernel_rfl) (by kernel_rfl) rfl rfl rfl rfl enters161 (spec_l00Own_ok (hE.trans hS15.ext) h3 hx17) (fun v41 w42 hR43 => ?_)
    obtain ⟨A44, k45, rfl, hR46⟩ := hR43
    refine ⟨hR46.ext, ?_⟩
    have hS47 := hS15.join hR46
    refine DM.one hsk14 17 (by kernel_rfl) (LM.newSlice0 (U := ty38) ttok hS47 hsk14 4194303 (by kernel_rfl) (by kernel_rfl) rfl rfl rfl rfl rfl rfl rfl rfl (fun A48 k49 w50 e51 hS52 => ?_))
    have hS53 := hS52.bring 0 rfl
    refine DM.one hsk14 22 (by kernel_rfl) (LM.appendRo ttok (Flat.map (Flat.pair Flat.int (Flat.pair Flat.int Flat.unit))) hS53 hsk14 8388607 (by kernel_rfl) (by kernel_rfl) rfl rfl rfl rfl rfl rfl rfl (by decide) rfl rfl (ty110.ext (hE.trans hS53.ext) h6) (of_decide_eq_true hk31) (by decide) rfl rfl (fun A54 k55 w56 hS57 => ?_))
    refine DM.quietP hsk14 23 16777215 (by kernel_rfl) (by kernel_rfl) rfl (by kernel_rfl) rfl (fun _ => Quiet.build ttok rfl rfl rfl rfl rfl) rfl rfl ?_
    have hS58 := hS57.bring 2 rfl
    refine DM.one hsk14 24 (by kernel_rfl) (LM.store ttok (A := []) hS58 hsk14 33554431 (by kernel_rfl) (by kernel_rfl) rfl rfl rfl rfl rfl rfl 0 rfl rfl rfl rfl rfl (fun w59 hS60 => ?_))
    refine DM.done hsk14 (by kernel_rfl) ?_
    refine WP.ret ?_
    cases hm
    exact ⟨_, .cons (ResIs.agg ttok rfl rfl rfl ((hS60.bring 0 rfl).box) rfl) .nil, A44, k45, A54, k55, rfl, (((hS60.bring 1 rfl).bring 2 rfl).taken 2)⟩
  · skip
    refine LM.newSlice0 (U := ty38) ttok hS15 hsk14 4128767 (by kernel_rfl) (by kernel_rfl) rfl rfl rfl rfl rfl rfl rfl rfl (fun A61 k62 w63 e65 hS66 => ?_)
    refine DM.one hsk14 16 (by kernel_rfl) (LM.call hsk14 4194303 (by kernel_rfl) (by kernel_rfl) rfl rfl rfl rfl enters161 (spec_l00Own_ok (hE.trans hS66.ext) h3 hx17) (fun v67 w68 hR69 => ?_))
    obtain ⟨A70, k71, rfl, hR72⟩ := hR69
    refine ⟨hR72.ext, ?_⟩
    have hS73 := hS66.join hR72
    have hS74 := hS73.bring 1 rfl
    refine DM.one hsk14 22 (by kernel_rfl) (LM.appendRo ttok (Flat.map (Flat.pair Flat.int (Flat.pair Flat.int Flat.unit))) hS74 hsk14 8388607 (by kernel_rfl) (by kernel_rfl) rfl rfl rfl rfl rfl rfl rfl (by decide) rfl rfl (ty110.ext (hE.trans hS74.ext) h6) (of_decide_eq_true hk31) (by decide) rfl rfl (fun A75 k76 w77 hS78 => ?_))
    refine DM.quietP hsk14 23 16777215 (by kernel_rfl) (by kernel_rfl) rfl (by kernel_rfl) rfl (fun _ => Quiet.build ttok rfl rfl rfl rfl rfl) rfl rfl ?_
    have hS79 := hS78.bring 2 rfl
    refine DM.one hsk14 24 (by kernel_rfl) (LM.store ttok (A := []) hS79 hsk14 33554431 (by kernel_rfl) (by kernel_rfl) rfl rfl rfl rfl rfl rfl 0 rfl rfl rfl rfl rfl (fun w80 hS81 => ?_))
    refine DM.done hsk14 (by kernel_rfl) ?_
    refine WP.ret ?_
    cases hm
    exact ⟨_, .cons (ResIs.agg ttok rfl rfl rfl ((hS81.bring 0 rfl).box) rfl) .nil, A70, k71, A75, k76, rfl, (((hS81.bring 1 rfl).bring 2 rfl).taken 2)⟩

theorem enters51 : Enters Try.prog 51 := ⟨_, _, Try.func51, rfl, by kernel_rfl⟩
def m_spec_l11Own_j1 (fuel : Nat) (t19 : (List D.Agent)) : Option D.Net := some (⟨t19⟩ : D.Net)
def m_spec_l11Own_b1 (fuel : Nat) (x0 : D.Net) (s18 : Int × (List D.Agent)) : Option (Rd (Int × (List D.Agent)) ((List D.Agent)) (D.Net)) := (if (decide (s18.1 < (x0.Agents.length : Int))) = true then ((idx x0.Agents s18.1).bind fun x43 => ((m_spec_l11OwnAgent fuel x43).bind fun r56 => (if decide ((s18.2.length : Int) + (([r56] : (List D.Agent)).length : Int) ≤ 4294967296) = true then some (.next (w64 (s18.1 + 1), (s18.2 ++ ([r56] : (List D.Agent))))) else none))) else some (.brk s18.2))
def m_spec_l11Own (fuel : Nat) (x0 : D.Net) : Option (D.Net) := ((iter (m_spec_l11Own_b1 fuel x0) fuel (0, [])).bind fun o => aft o (m_spec_l11Own_j1 fuel))

set_option maxRecDepth 100000 in
theorem spec_l11Own_ok {W w : World} (hE : Ext W w) {p0_ : Addr} {c0_ : List Value} {x0 : D.Net} (h0_ : ty30.ro W c0_ x0) (g0_ : At W p0_ c0_) {fuel : Nat} {r : D.Net} (hm : m_spec_l11Own fuel x0 = some r) :
    Calls Try.prog 51 ⟨[.pointer (some p0_)]⟩ w (Ret fun v w8 => ∃ A0 k0, v = .agg ⟨[.slice A0 r.Agents.length k0]⟩ ∧ St w w8 [Own ty28 [.slice A0 r.Agents.length k0] r.Agents]) := by
  obtain ⟨A1, k2, e4, h3⟩ := ty30_open h0_; subst e4
  refine Calls.into Try.func51 rfl 28 rfl rfl _ rfl ?_
  unfold m_spec_l11Own at hm
  have hS := St.start w
  refine WP.seq ?_
  refine WP.region ?_
  refine RW.new ttok hS rfl rfl rfl rfl (fun g5 w6 e7 hS10 => ?_)
  refine RW.nil ?_
  refine WP.seq ?_
  refine WP.region ?_
  refine RW.quiet rfl (Quiet.build ttok rfl rfl rfl rfl rfl) rfl rfl ?_
  refine RW.new ttok hS10 rfl rfl rfl rfl (fun g11 w12 e13 hS14 => ?_)
  have hS15 := hS14.bring 0 rfl
  refine RW.store ttok (A := []) hS15 rfl rfl rfl rfl rfl 0 rfl rfl rfl rfl rfl (fun w16 hS17 => ?_)
  refine RW.nil ?_
  refine WP.seq ?_
  refine WP.seq ?_
  refine WP.region ?_
  refine RW.run ttok 1 rfl ?_
  refine RW.nil ?_
  obtain ⟨o28, hl29, hm⟩ := bind_some hm
  refine WP.cut (fun (t19 : (List D.Agent)) F w9 => ∃ A25 k26, o28 = .inl t19 ∧ St w w9 [Own ty28 [.slice A25 t19.length k26] t19, Box g11 [.slice A25 t19.length k26] 30, Box g5 [.slice none 0 0] 30] ∧ F = [(2, .pointer (some ⟨g5, 0, none⟩)), (3, .pointer (some ⟨g11, 0, none⟩))]) ?_ ?_
  · skip
    rintro t19 F w27 ⟨A25, k26, ho31, hS30, rfl⟩
    subst ho31
    rw [aft_inl] at hm
    unfold m_spec_l11Own_j1 at hm
    refine WP.seq ?_
    refine WP.region ?_
    refine RW.loadN ttok rfl rfl rfl rfl rfl ((hS30.bring 1 rfl).box) rfl rfl rfl ?_
    have hS32 := hS30.bring 2 rfl
    refine RW.store ttok (A := []) hS32 rfl rfl rfl rfl rfl 0 rfl rfl rfl rfl rfl (fun w33 hS34 => ?_)
    refine RW.nil ?_
    refine WP.ret ?_
    cases hm
    exact ⟨_, .cons (ResIs.agg ttok rfl rfl rfl ((hS34.bring 0 rfl).box) rfl) .nil, A25, k26, rfl, ((hS34.bring 1 rfl).taken 1)⟩
  · skip
    refine WP.block ?_
    have hS35 := hS17.nilSl ty112 112
    refine WP.weak [(0, .pointer (some p0_)), (2, .pointer (some ⟨g5, 0, none⟩)), (3, .pointer (some ⟨g11, 0, none⟩)), (4, .int .i64 0)] ⟨rfl, rfl, rfl, rfl, trivial⟩ ?_
    refine WP.iter (fun (s18 : Int × (List D.Agent)) F w9 => ∃ A23 k24, St w w9 [Own ty28 [.slice A23 s18.2.length k24] s18.2, Box g11 [.slice A23 s18.2.length k24] 30, Box g5 [.slice none 0 0] 30] ∧ F = [(0, .pointer (some p0_)), (2, .pointer (some ⟨g5, 0, none⟩)), (3, .pointer (some ⟨g11, 0, none⟩)), (4, .int .i64 s18.1)]) _ hl29 ⟨none, 0, hS35, rfl⟩ ?_
    rintro s18 F w40 _ o38 ⟨A23, k24, hS39, rfl⟩ hb36 ho37
    unfold m_spec_l11Own_b1 at hb36
    refine WP.seq ?_
    refine WP.seq ?_
    refine WP.region ?_
    refine RW.run ttok 4 rfl ?_
    refine RW.load1 ttok rfl rfl rfl rfl rfl (At.ext (hE.trans hS39.ext) g0_) 0 rfl rfl rfl rfl ?_
    refine RW.run ttok 2 rfl ?_
    refine RW.nil ?_
    refine WP.cond (decide (s18.1 < (x0.Agents.length : Int))) rfl (fun hc => ?_) (fun hc => ?_)
    · skip
      rw [if_pos hc] at hb36
      refine WP.skip ?_
      refine WP.seq ?_
      refine WP.block ?_
      refine WP.drawnM 5120 mixed 13 (by kernel_rfl) (by kernel_rfl) [([], 8191), ([0], 8190), ([], 8191), ([2], 8187), ([3], 8183), ([4], 8175), ([], 8191), ([5, 6], 8095), ([7], 8063), ([8], 7935), ([1, 9, 8], 7677), ([0, 1, 2, 3, 4, 5, 6, 7, 8, 9, 10], 8191), ([11, 10, 10, 0, 1, 2, 3, 4, 5, 6, 7, 8, 9, 10], 5119)] (by kernel_rfl) hS39.ext (fun hsk41 => ?_)
      have hS42 := hS39.step (Ext.draw _)
      refine DM.run (fuel := 8) ttok hsk41 [0, 2, 3, 4, 6] 93 (by kernel_rfl) (by kernel_rfl) rfl ?_
      refine DM.weak [(0, .pointer (some p0_)), (2, .pointer (some ⟨g5, 0, none⟩)), (3, .pointer (some ⟨g11, 0, none⟩)), (4, .int .i64 s18.1), (15, .pointer (some ⟨g11, 0, none⟩)), (19, .pointer (some p0_)), (21, .int .i64 s18.1)] ⟨rfl, rfl, rfl, rfl, rfl, rfl, rfl, trivial⟩ ?_
      refine DM.load1 ttok hsk41 1 95 (by kernel_rfl) (by kernel_rfl) (by kernel_rfl) (by kernel_rfl) rfl (by kernel_rfl) rfl rfl rfl rfl rfl ((hS39.bring 1 rfl).box) 0 rfl rfl rfl rfl ?_
      refine DM.quietV hsk41 5 127 (by kernel_rfl) (by kernel_rfl) rfl (by kernel_rfl) rfl (Quiet.load1 ttok rfl rfl rfl rfl (At.ext hE g0_) 0 rfl rfl) rfl rfl ?_
      obtain ⟨x43, hx44, hb36⟩ := bind_some hb36
      refine DM.idxV ttok hE hsk41 7 255 (by kernel_rfl) (by kernel_rfl) rfl (by kernel_rfl) rfl rfl rfl rfl rfl rfl (by decide) rfl rfl h3 (idx_some hx44).1 (idx_some hx44).2 rfl rfl (fun p45 es46 ha47 hr48 => ?_)
      obtain ⟨A49, k50, A52, k53, e55, h51, h54⟩ := ty112_open hr48; subst e55
      obtain ⟨r56, hx57, hb36⟩ := bind_some hb36
      refine DM.one hsk41 8 (by kernel_rfl) (LM.call hsk41 511 (by kernel_rfl) (by kernel_rfl) rfl rfl rfl rfl enters116 (spec_l11OwnAgent_ok (hE.trans hS42.ext) hr48 ha47 hx57) (fun v58 w59 hR60 => ?_))
      obtain ⟨A61, k62, A63, k65, rfl, hR66⟩ := hR60
      refine ⟨hR66.ext, ?_⟩
      have hS67 := hS42.join hR66
      have hS68 := St.noEl ty112 hS67
      have hS69 := hS68.bring 2 rfl
      have hS70 := hS69.bring 2 rfl
      have hS71 := ty112_shutS (c := r56) (B := _) hS70
      have hS72 := St.consEl hS71
      refine DM.one hsk41 9 (by kernel_rfl) (LM.newSlice (U := ty112) (els := [.int .i64 r56.Kind, .int .i64 r56.Level, .int .i64 r56.Value, .slice A61 r56.Data.length k62, .slice A63 r56.Ports.length k65]) (ys := [r56]) ttok hS72 hsk41 1023 (by kernel_rfl) (by kernel_rfl) rfl rfl rfl rfl rfl rfl rfl rfl rfl rfl rfl rfl rfl (fun A73 k74 w75 e76 hS77 => ?_))
      have hS78 := hS77.bring 1 rfl
      have hS79 := hS78.bring 1 rfl
      by_cases hk80 : decide ((s18.2.length : Int) + (([r56] : (List D.Agent)).length : Int) ≤ 4294967296) = true
      case neg => rw [if_neg hk80] at hb36; cases hb36
      rw [if_pos hk80] at hb36
      refine DM.one hsk41 10 (by kernel_rfl) (LM.appendOwn ttok hS79 hsk41 2047 (by kernel_rfl) (by kernel_rfl) rfl rfl rfl rfl rfl rfl rfl (by decide) rfl rfl (of_decide_eq_true hk80) (by decide) rfl rfl (fun A81 k82 w83 hS84 => ?_))
      refine DM.run (fuel := 1) ttok hsk41 [11] 4095 (by kernel_rfl) (by kernel_rfl) rfl ?_
      refine DM.weak [(0, .pointer (some p0_)), (2, .pointer (some ⟨g5, 0, none⟩)), (3, .pointer (some ⟨g11, 0, none⟩)), (4, .int .i64 s18.1), (25, .slice A81 (s18.2 ++ ([r56] : (List D.Agent))).length k82), (26, .pointer (some ⟨g11, 0, none⟩))] ⟨rfl, rfl, rfl, rfl, rfl, rfl, trivial⟩ ?_
      have hS85 := hS84.bring 1 rfl
      refine DM.one hsk41 12 (by kernel_rfl) (LM.store ttok (A := []) hS85 hsk41 8191 (by kernel_rfl) (by kernel_rfl) rfl rfl rfl rfl rfl rfl 0 rfl rfl rfl rfl rfl (fun w86 hS87 => ?_))
      refine DM.done hsk41 (by kernel_rfl) ?_
      refine WP.region ?_
      refine RW.run ttok 3 rfl ?_
      refine RW.nil ?_
      cases hb36
      exact ⟨_, [(0, .pointer (some p0_)), (2, .pointer (some ⟨g5, 0, none⟩)), (3, .pointer (some ⟨g11, 0, none⟩)), (4, .int .i64 (w64 (s18.1 + 1)))], ⟨rfl, rfl, rfl, rfl, trivial⟩, rfl, A81, k82, ((hS87.bring 0 rfl).bring 1 rfl), rfl⟩
    · skip
      rw [if_neg (not_t hc)] at hb36
      refine WP.exit ?_
      cases hb36
      exact ⟨_, [(2, .pointer (some ⟨g5, 0, none⟩)), (3, .pointer (some ⟨g11, 0, none⟩))], ⟨rfl, rfl, trivial⟩, A23, k24, ho37, hS39, rfl⟩

theorem enters52 : Enters Try.prog 52 := ⟨_, _, Try.func52, rfl, by kernel_rfl⟩
def m_spec_l11Peer (fuel : Nat) (x0 : D.Net) (x1 : D.Port) : Option (D.Port) := ((idx x0.Agents x1.Agent).bind fun x18 => ((idx x18.Ports x1.Slot).bind fun x31 => some (⟨x31.Agent, x31.Slot⟩ : D.Port)))

set_option maxRecDepth 100000 in
theorem spec_l11Peer_ok {W w : World} (hE : Ext W w) {p0_ : Addr} {c0_ : List Value} {x0 : D.Net} {c1_ : List Value} {x1 : D.Port} (h0_ : ty30.ro W c0_ x0) (g0_ : At W p0_ c0_) (h1_ : ty38.ro W c1_ x1) {fuel : Nat} {r : D.Port} (hm : m_spec_l11Peer fuel x0 x1 = some r) :
    Calls Try.prog 52 ⟨[.pointer (some p0_), .agg ⟨c1_⟩]⟩ w (Ret fun v w8 => v = .agg ⟨[.int .i64 r.Agent, .int .i64 r.Slot]⟩ ∧ St w w8 []) := by
  obtain ⟨A1, k2, e4, h3⟩ := ty30_open h0_; subst e4
  have e5 := ty38_open h1_; subst e5
  refine Calls.into Try.func52 rfl 18 rfl rfl _ rfl ?_
  unfold m_spec_l11Peer at hm
  have hS := St.start w
  refine WP.seq ?_
  refine WP.region ?_
  refine RW.new ttok hS rfl rfl rfl rfl (fun g6 w7 e10 hS11 => ?_)
  refine RW.new ttok hS11 rfl rfl rfl rfl (fun g12 w13 e14 hS15 => ?_)
  refine RW.nil ?_
  refine WP.seq ?_
  refine WP.drawnM 8192 mixed 14 (by kernel_rfl) (by kernel_rfl) [([], 16383), ([0], 16382), ([1], 16381), ([2], 16379), ([], 16383), ([4], 16367), ([3, 5], 16343), ([6], 16319), ([7], 16255), ([], 16383), ([9], 15871), ([8, 10], 15103), ([11], 14335), ([12, 0, 1, 2, 3, 4, 5, 6, 7, 8, 9, 10, 11, 12], 12287)] (by kernel_rfl) hS15.ext (fun hsk16 => ?_)
  have hS17 := hS15.step (Ext.draw _)
  refine DM.run (fuel := 9) ttok hsk16 [0, 1, 2, 4, 9] 535 (by kernel_rfl) (by kernel_rfl) rfl ?_
  refine DM.load1 ttok hsk16 3 543 (by kernel_rfl) (by kernel_rfl) (by kernel_rfl) (by kernel_rfl) rfl (by kernel_rfl) rfl rfl rfl rfl rfl (At.ext (hE.trans hS15.ext) g0_) 0 rfl rfl rfl rfl ?_
  refine DM.load1 ttok hsk16 5 575 (by kernel_rfl) (by kernel_rfl) (by kernel_rfl) (by kernel_rfl) rfl (by kernel_rfl) rfl rfl rfl rfl rfl ((hS15.bring 1 rfl).box) 0 rfl rfl rfl rfl ?_
  obtain ⟨x18, hx19, hm⟩ := bind_some hm
  refine DM.idx ttok (hE.trans hS15.ext) hsk16 6 639 (by kernel_rfl) (by kernel_rfl) (by kernel_rfl) (by kernel_rfl) rfl (by kernel_rfl) rfl rfl rfl rfl rfl rfl (by decide) rfl rfl h3 (idx_some hx19).1 (idx_some hx19).2 rfl rfl (fun p20 es21 ha22 hr23 => ?_)
  obtain ⟨A24, k25, A27, k28, e30, h26, h29⟩ := ty112_open hr23; subst e30
  refine DM.run (fuel := 5) ttok hsk16 [7] 767 (by kernel_rfl) (by kernel_rfl) rfl ?_
  refine DM.weak [(4, .pointer (some ⟨g12, 0, none⟩)), (12, .pointer (some (p20.add 4))), (14, .pointer (some ⟨g6, 1, none⟩))] ⟨rfl, rfl, rfl, trivial⟩ ?_
  refine DM.load1 ttok hsk16 8 1023 (by kernel_rfl) (by kernel_rfl) (by kernel_rfl) (by kernel_rfl) rfl (by kernel_rfl) rfl rfl rfl rfl rfl (At.ext (hE.trans hS15.ext) ha22) 4 rfl rfl rfl rfl ?_
  refine DM.load1 ttok hsk16 10 2047 (by kernel_rfl) (by kernel_rfl) (by kernel_rfl) (by kernel_rfl) rfl (by kernel_rfl) rfl rfl rfl rfl rfl ((hS15.bring 1 rfl).box) 1 rfl rfl rfl rfl ?_
  obtain ⟨x31, hx32, hm⟩ := bind_some hm
  refine DM.idx ttok (hE.trans hS15.ext) hsk16 11 4095 (by kernel_rfl) (by kernel_rfl) (by kernel_rfl) (by kernel_rfl) rfl (by kernel_rfl) rfl rfl rfl rfl rfl rfl (by decide) rfl rfl h29 (idx_some hx32).1 (idx_some hx32).2 rfl rfl (fun p33 es34 ha35 hr36 => ?_)
  have e37 := ty38_open hr36; subst e37
  refine DM.loadN ttok hsk16 12 8191 (by kernel_rfl) (by kernel_rfl) (by kernel_rfl) (by kernel_rfl) rfl (by kernel_rfl) rfl rfl rfl rfl rfl (At.ext (hE.trans hS15.ext) ha35) rfl rfl rfl ?_
  have hS38 := hS17.bring 0 rfl
  refine DM.one hsk16 13 (by kernel_rfl) (LM.store ttok (A := []) hS38 hsk16 16383 (by kernel_rfl) (by kernel_rfl) rfl rfl rfl rfl rfl rfl 0 rfl rfl rfl rfl rfl (fun w39 hS40 => ?_))
  refine DM.done hsk16 (by kernel_rfl) ?_
  refine WP.ret ?_
  cases hm
  exact ⟨_, .cons (ResIs.agg ttok rfl rfl rfl ((hS40.bring 0 rfl).box) rfl) .nil, rfl, (hS40.taken 0)⟩

theorem enters53 : Enters Try.prog 53 := ⟨_, _, Try.func53, rfl, by kernel_rfl⟩
def m_spec_l11Link (fuel : Nat) (x0 : D.Net) (x1 : D.Port) (x2 : D.Port) : Option (D.Net) := ((idx x0.Agents x1.Agent).bind fun x16 => (if decide (0 ≤ x1.Slot ∧ x1.Slot.toNat < x16.Ports.length) = true then ((idx (x0.Agents.set x1.Agent.toNat (⟨x16.Kind, x16.Level, x16.Value, x16.Data, (x16.Ports.set x1.Slot.toNat x2)⟩ : D.Agent)) x2.Agent).bind fun x50 => (if decide (0 ≤ x2.Slot ∧ x2.Slot.toNat < x50.Ports.length) = true then some (⟨((x0.Agents.set x1.Agent.toNat (⟨x16.Kind, x16.Level, x16.Value, x16.Data, (x16.Ports.set x1.Slot.toNat x2)⟩ : D.Agent)).set x2.Agent.toNat (⟨x50.Kind, x50.Level, x50.Value, x50.Data, (x50.Ports.set x2.Slot.toNat x1)⟩ : D.Agent))⟩ : D.Net) else none)) else none))

set_option maxRecDepth 100000 in
theorem spec_l11Link_ok {W w : World} {RR : List Res} {g0_ : Nat} {x0 : D.Net} {A0_0 : Option Addr} {k0_0 : Nat} {c1_ : List Value} {x1 : D.Port} {c2_ : List Value} {x2 : D.Port} (hS : St W w (Box g0_ [.slice A0_0 x0.Agents.length k0_0] 30 :: Own ty28 [.slice A0_0 x0.Agents.length k0_0] x0.Agents :: RR)) (h1_ : ty38.ro W c1_ x1) (h2_ : ty38.ro W c2_ x2) {fuel : Nat} {r : D.Net} (hm : m_spec_l11Link fuel x0 x1 x2 = some r) :
    Calls Try.prog 53 ⟨[.pointer (some ⟨g0_, 0, none⟩), .agg ⟨c1_⟩, .agg ⟨c2_⟩]⟩ w (Ret fun v w8 => ∃ A0 k0, v = .tuple ⟨[]⟩ ∧ St W w8 (Box g0_ [.slice A0 r.Agents.length k0] 30 :: Own ty28 [.slice A0 r.Agents.length k0] r.Agents :: RR)) := by
  have e1 := ty38_open h1_; subst e1
  have e2 := ty38_open h2_; subst e2
  refine Calls.into Try.func53 rfl 32 rfl rfl _ rfl ?_
  unfold m_spec_l11Link at hm
  refine WP.seq ?_
  refine WP.region ?_
  refine RW.new ttok hS rfl rfl rfl rfl (fun g3 w4 e5 hS6 => ?_)
  refine RW.new ttok hS6 rfl rfl rfl rfl (fun g7 w10 e11 hS12 => ?_)
  refine RW.nil ?_
  refine WP.seq ?_
  refine WP.drawnM 8192 mixed 14 (by kernel_rfl) (by kernel_rfl) [([], 16383), ([0], 16382), ([1], 16381), ([2], 16379), ([], 16383), ([4], 16367), ([3, 5], 16343), ([6], 16319), ([7], 16255), ([], 16383), ([9], 15871), ([], 16383), ([8, 10, 0, 1, 2, 3, 4, 5, 6, 7, 8, 9, 10, 11], 15103), ([12, 11, 0, 1, 2, 3, 4, 5, 6, 7, 8, 9, 10, 11], 10239)] (by kernel_rfl) hS12.ext (fun hsk13 => ?_)
  have hS14 := hS12.step (Ext.draw _)
  refine DM.run (fuel := 9) ttok hsk13 [0, 1, 2, 4, 9] 535 (by kernel_rfl) (by kernel_rfl) rfl ?_
  refine DM.load1 ttok hsk13 3 543 (by kernel_rfl) (by kernel_rfl) (by kernel_rfl) (by kernel_rfl) rfl (by kernel_rfl) rfl rfl rfl rfl rfl ((hS12.bring 2 rfl).box) 0 rfl rfl rfl rfl ?_
  refine DM.load1 ttok hsk13 5 575 (by kernel_rfl) (by kernel_rfl) (by kernel_rfl) (by kernel_rfl) rfl (by kernel_rfl) rfl rfl rfl rfl rfl ((hS12.bring 1 rfl).box) 0 rfl rfl rfl rfl ?_
  have hS15 := hS12.bring 3 rfl
  obtain ⟨x16, hx17, hm⟩ := bind_some hm
  refine DM.focus ttok hS15 hsk13 6 639 (by kernel_rfl) (by kernel_rfl) rfl (by kernel_rfl) rfl rfl rfl rfl rfl rfl rfl rfl (idx_some hx17).1 (idx_some hx17).2 rfl rfl (fun q18 es19 hq20 hS21 => ?_)
  obtain ⟨A24, k25, A26, k27, e23, hS22⟩ := ty112_openS (hS21.bring 1 rfl); subst e23
  have hS28 := hS22.step (Ext.draw _)
  refine DM.run (fuel := 5) ttok hsk13 [7] 767 (by kernel_rfl) (by kernel_rfl) rfl ?_
  refine DM.weak [(0, .pointer (some ⟨g0_, 0, none⟩)), (4, .pointer (some ⟨g3, 0, none⟩)), (5, .pointer (some ⟨g7, 0, none⟩)), (13, .pointer (some (q18.add 4))), (15, .pointer (some ⟨g3, 1, none⟩))] ⟨rfl, rfl, rfl, rfl, rfl, trivial⟩ ?_
  refine DM.load1 ttok hsk13 8 1023 (by kernel_rfl) (by kernel_rfl) (by kernel_rfl) (by kernel_rfl) rfl (by kernel_rfl) rfl rfl rfl rfl rfl ((hS22.bring 2 rfl).hole_atN hq20) 4 rfl rfl rfl rfl ?_
  refine DM.load1 ttok hsk13 10 2047 (by kernel_rfl) (by kernel_rfl) (by kernel_rfl) (by kernel_rfl) rfl (by kernel_rfl) rfl rfl rfl rfl rfl ((hS22.bring 4 rfl).box) 1 rfl rfl rfl rfl ?_
  refine DM.loadN ttok hsk13 11 4095 (by kernel_rfl) (by kernel_rfl) (by kernel_rfl) (by kernel_rfl) rfl (by kernel_rfl) rfl rfl rfl rfl rfl ((hS22.bring 3 rfl).box) rfl rfl rfl ?_
  have hS29 := hS28.bring 1 rfl
  by_cases hk30 : decide (0 ≤ x1.Slot ∧ x1.Slot.toNat < x16.Ports.length) = true
  case neg => rw [if_neg hk30] at hm; cases hm
  rw [if_pos hk30] at hm
  have hb31 := of_decide_eq_true hk30
  refine DM.idxOwnN ttok hS29 hsk13 12 8191 (by kernel_rfl) (by kernel_rfl) rfl (by kernel_rfl) rfl rfl rfl rfl rfl rfl rfl rfl hb31.1 hb31.2 rfl rfl (fun q32 hq33 => ?_)
  have hS34 := ty38_shutS (c := x2) (B := _) hS28
  have hS35 := hS34.bring 2 rfl
  refine DM.one hsk13 13 (by kernel_rfl) (LM.storeElN ttok hS35 hsk13 16383 (by kernel_rfl) (by kernel_rfl) rfl rfl rfl rfl rfl rfl rfl hb31.2 hq33 rfl rfl (fun w36 hS37 => ?_))
  refine DM.done hsk13 (by kernel_rfl) ?_
  refine WP.drawnM 8192 mixed 14 (by kernel_rfl) (by kernel_rfl) [([], 16383), ([0], 16382), ([1], 16381), ([2], 16379), ([], 16383), ([4], 16367), ([3, 5], 16343), ([6], 16319), ([7], 16255), ([], 16383), ([9], 15871), ([], 16383), ([8, 10, 0, 1, 2, 3, 4, 5, 6, 7, 8, 9, 10, 11], 15103), ([12, 11, 0, 1, 2, 3, 4, 5, 6, 7, 8, 9, 10, 11], 10239)] (by kernel_rfl) hS37.ext (fun hsk38 => ?_)
  have hS39 := hS37.step (Ext.draw _)
  refine DM.run (fuel := 9) ttok hsk38 [0, 1, 2, 4, 9] 535 (by kernel_rfl) (by kernel_rfl) rfl ?_
  refine DM.weak [(4, .pointer (some ⟨g3, 0, none⟩)), (21, .pointer (some ⟨g0_, 0, none⟩)), (23, .pointer (some ⟨g7, 0, none⟩)), (28, .pointer (some ⟨g7, 1, none⟩))] ⟨rfl, rfl, rfl, rfl, trivial⟩ ?_
  refine DM.load1 ttok hsk38 3 543 (by kernel_rfl) (by kernel_rfl) (by kernel_rfl) (by kernel_rfl) rfl (by kernel_rfl) rfl rfl rfl rfl rfl ((hS37.bring 5 rfl).box) 0 rfl rfl rfl rfl ?_
  refine DM.load1 ttok hsk38 5 575 (by kernel_rfl) (by kernel_rfl) (by kernel_rfl) (by kernel_rfl) rfl (by kernel_rfl) rfl rfl rfl rfl rfl ((hS37.bring 3 rfl).box) 0 rfl rfl rfl rfl ?_
  have hn40 := (hS37.bring 0 rfl).lenEq
  have hS41 := (hS37.bring 0 rfl).reLen hn40
  have hS42 := (hS41.bring 2 rfl).reHole (es' := [.int .i64 x16.Kind, .int .i64 x16.Level, .int .i64 x16.Value, .slice A24 x16.Data.length k25, .slice A26 (x16.Ports.set x1.Slot.toNat x2).length k27]) (by show ([.int .i64 x16.Kind, .int .i64 x16.Level, .int .i64 x16.Value, .slice A24 x16.Data.length k25, .slice A26 x16.Ports.length k27] : List Value) = [.int .i64 x16.Kind, .int .i64 x16.Level, .int .i64 x16.Value, .slice A24 x16.Data.length k25, .slice A26 (x16.Ports.set x1.Slot.toNat x2).length k27]; simp only [hn40])
  have hS43 := hS42.bring 1 rfl
  have hS44 := hS43.bring 2 rfl
  have hS45 := ty112_shutS (c := (⟨x16.Kind, x16.Level, x16.Value, x16.Data, (x16.Ports.set x1.Slot.toNat x2)⟩ : D.Agent)) (B := _) hS44
  have hS46 := hS45.bring 1 rfl
  have hS47 := St.unfocusN hS46
  have hS48 := hS47.step (Ext.draw _)
  have hS49 := hS47.bring 0 rfl
  obtain ⟨x50, hx51, hm⟩ := bind_some hm
  refine DM.focus ttok hS49 hsk38 6 639 (by kernel_rfl) (by kernel_rfl) rfl (by kernel_rfl) rfl rfl rfl rfl rfl rfl rfl rfl (idx_some hx51).1 (idx_some hx51).2 rfl rfl (fun q52 es53 hq54 hS55 => ?_)
  obtain ⟨A58, k59, A60, k61, e57, hS56⟩ := ty112_openS (hS55.bring 1 rfl); subst e57
  have hS62 := hS56.step (Ext.draw _)
  refine DM.run (fuel := 5) ttok hsk38 [7] 767 (by kernel_rfl) (by kernel_rfl) rfl ?_
  refine DM.load1 ttok hsk38 8 1023 (by kernel_rfl) (by kernel_rfl) (by kernel_rfl) (by kernel_rfl) rfl (by kernel_rfl) rfl rfl rfl rfl rfl ((hS56.bring 2 rfl).hole_atN hq54) 4 rfl rfl rfl rfl ?_
  refine DM.load1 ttok hsk38 10 2047 (by kernel_rfl) (by kernel_rfl) (by kernel_rfl) (by kernel_rfl) rfl (by kernel_rfl) rfl rfl rfl rfl rfl ((hS56.bring 3 rfl).box) 1 rfl rfl rfl rfl ?_
  refine DM.loadN ttok hsk38 11 4095 (by kernel_rfl) (by kernel_rfl) (by kernel_rfl) (by kernel_rfl) rfl (by kernel_rfl) rfl rfl rfl rfl rfl ((hS56.bring 4 rfl).box) rfl rfl rfl ?_
  have hS63 := hS62.bring 1 rfl
  by_cases hk65 : decide (0 ≤ x2.Slot ∧ x2.Slot.toNat < x50.Ports.length) = true
  case neg => rw [if_neg hk65] at hm; cases hm
  rw [if_pos hk65] at hm
  have hb66 := of_decide_eq_true hk65
  refine DM.idxOwnN ttok hS63 hsk38 12 8191 (by kernel_rfl) (by kernel_rfl) rfl (by kernel_rfl) rfl rfl rfl rfl rfl rfl rfl rfl hb66.1 hb66.2 rfl rfl (fun q67 hq68 => ?_)
  have hS69 := ty38_shutS (c := x1) (B := _) hS62
  have hS70 := hS69.bring 2 rfl
  refine DM.one hsk38 13 (by kernel_rfl) (LM.storeElN ttok hS70 hsk38 16383 (by kernel_rfl) (by kernel_rfl) rfl rfl rfl rfl rfl rfl rfl hb66.2 hq68 rfl rfl (fun w71 hS72 => ?_))
  refine DM.done hsk38 (by kernel_rfl) ?_
  have hn73 := (hS72.bring 0 rfl).lenEq
  have hS74 := (hS72.bring 0 rfl).reLen hn73
  have hS75 := (hS74.bring 2 rfl).reHole (es' := [.int .i64 x50.Kind, .int .i64 x50.Level, .int .i64 x50.Value, .slice A58 x50.Data.length k59, .slice A60 (x50.Ports.set x2.Slot.toNat x1).length k61]) (by show ([.int .i64 x50.Kind, .int .i64 x50.Level, .int .i64 x50.Value, .slice A58 x50.Data.length k59, .slice A60 x50.Ports.length k61] : List Value) = [.int .i64 x50.Kind, .int .i64 x50.Level, .int .i64 x50.Value, .slice A58 x50.Data.length k59, .slice A60 (x50.Ports.set x2.Slot.toNat x1).length k61]; simp only [hn73])
  have h76 := (show ty110.ro _ [.slice A60 x50.Ports.length k61] (x50.Ports.set x2.Slot.toNat x1) from (Eq.symm hn73) ▸ ((hS75.bring 1 rfl).own))
  have hS77 := hS75.bring 1 rfl
  have hS78 := hS77.bring 2 rfl
  have hS79 := ty112_shutS (c := (⟨x50.Kind, x50.Level, x50.Value, x50.Data, (x50.Ports.set x2.Slot.toNat x1)⟩ : D.Agent)) (B := _) hS78
  have hS80 := hS79.bring 1 rfl
  have hS81 := St.unfocusN hS80
  cases hm
  have hn82 := (hS81.bring 0 rfl).lenEq
  have hS83 := (hS81.bring 0 rfl).reLen hn82
  have hS84 := (hS83.bring 3 rfl).reBox (cs' := [.slice A0_0 ((x0.Agents.set x1.Agent.toNat (⟨x16.Kind, x16.Level, x16.Value, x16.Data, (x16.Ports.set x1.Slot.toNat x2)⟩ : D.Agent)).set x2.Agent.toNat (⟨x50.Kind, x50.Level, x50.Value, x50.Data, (x50.Ports.set x2.Slot.toNat x1)⟩ : D.Agent)).length k0_0]) (by show ([.slice A0_0 x0.Agents.length k0_0] : List Value) = [.slice A0_0 ((x0.Agents.set x1.Agent.toNat (⟨x16.Kind, x16.Level, x16.Value, x16.Data, (x16.Ports.set x1.Slot.toNat x2)⟩ : D.Agent)).set x2.Agent.toNat (⟨x50.Kind, x50.Level, x50.Value, x50.Data, (x50.Ports.set x2.Slot.toNat x1)⟩ : D.Agent)).length k0_0]; simp only [hn82])
  exact ⟨_, .nil, A0_0, k0_0, rfl, ((hS84.bring 2 rfl).drop.bring 2 rfl).drop⟩

theorem enters15 : Enters Try.prog 15 := ⟨_, _, Try.func15, rfl, by kernel_rfl⟩
def m_spec_ExchangePorts_j3 (fuel : Nat) (t95 : (List D.Agent)) : Option (D.Net × Int) := some ((⟨t95⟩ : D.Net), 0)
def m_spec_ExchangePorts_j2 (fuel : Nat) (x1 : D.Port) (x2 : D.Port) (r45 : D.Net) (r61 : D.Port) (r76 : D.Port) (t90 : Bool) : Option (D.Net × Int) := (if t90 = true then ((m_spec_l11Link fuel (⟨r45.Agents⟩ : D.Net) x1 r76).bind fun r104 => ((m_spec_l11Link fuel (⟨r104.Agents⟩ : D.Net) x2 r61).bind fun r112 => m_spec_ExchangePorts_j3 fuel r112.Agents)) else m_spec_ExchangePorts_j3 fuel r45.Agents)
def m_spec_ExchangePorts_j1 (fuel : Nat) (x0 : D.Net) (x1 : D.Port) (x2 : D.Port) (t36 : Bool) : Option (D.Net × Int) := (if t36 = true then some ((⟨[]⟩ : D.Net), 2) else ((m_spec_l11Own fuel x0).bind fun r45 => ((m_spec_l11Peer fuel (⟨r45.Agents⟩ : D.Net) x1).bind fun r61 => ((m_spec_l11Peer fuel (⟨r45.Agents⟩ : D.Net) x2).bind fun r76 => (if (!(((x1.Agent : Int) == x2.Agent) && (((x1.Slot : Int) == x2.Slot) && true))) = true then m_spec_ExchangePorts_j2 fuel x1 x2 r45 r61 r76 (!(((r61.Agent : Int) == x2.Agent) && (((r61.Slot : Int) == x2.Slot) && true))) else m_spec_ExchangePorts_j2 fuel x1 x2 r45 r61 r76 false)))))
def m_spec_ExchangePorts (fuel : Nat) (x0 : D.Net) (x1 : D.Port) (x2 : D.Port) : Option (D.Net × Int) := ((m_spec_l11Ok fuel x0).bind fun r25 => (if (!r25) = true then some ((⟨[]⟩ : D.Net), 1) else ((m_spec_l11Port fuel x0.Agents x1).bind fun r121 => (if (!r121) = true then m_spec_ExchangePorts_j1 fuel x0 x1 x2 true else ((m_spec_l11Port fuel x0.Agents x2).bind fun r129 => m_spec_ExchangePorts_j1 fuel x0 x1 x2 (!r129))))))

set_option maxRecDepth 100000 in
theorem spec_ExchangePorts_ok {W w : World} (hE : Ext W w) {c0_ : List Value} {x0 : D.Net} {c1_ : List Value} {x1 : D.Port} {c2_ : List Value} {x2 : D.Port} (h0_ : ty30.ro W c0_ x0) (h1_ : ty38.ro W c1_ x1) (h2_ : ty38.ro W c2_ x2) {fuel : Nat} {r : D.Net × Int} (hm : m_spec_ExchangePorts fuel x0 x1 x2 = some r) :
    Calls Try.prog 15 ⟨[.agg ⟨c0_⟩, .agg ⟨c1_⟩, .agg ⟨c2_⟩]⟩ w (Ret fun v w8 => ∃ A0 k0, v = .tuple ⟨[.agg ⟨[.slice A0 r.1.Agents.length k0]⟩, .int .i64 r.2]⟩ ∧ St w w8 [Own ty28 [.slice A0 r.1.Agents.length k0] r.1.Agents]) := by
  obtain ⟨A1, k2, e4, h3⟩ := ty30_open h0_; subst e4
  have e5 := ty38_open h1_; subst e5
  have e6 := ty38_open h2_; subst e6
  refine Calls.into Try.func15 rfl 47 rfl rfl _ rfl ?_
  unfold m_spec_ExchangePorts at hm
  have hS := St.start w
  refine WP.seq ?_
  refine WP.region ?_
  refine RW.new ttok hS rfl rfl rfl rfl (fun g7 w10 e11 hS12 => ?_)
  refine RW.new ttok hS12 rfl rfl rfl rfl (fun g13 w14 e15 hS16 => ?_)
  refine RW.new ttok hS16 rfl rfl rfl rfl (fun g17 w18 e19 hS20 => ?_)
  refine RW.new ttok hS20 rfl rfl rfl rfl (fun g21 w22 e23 hS24 => ?_)
  refine RW.run ttok 1 rfl ?_
  refine RW.nil ?_
  refine WP.seq ?_
  refine WP.seq ?_
  refine WP.region ?_
  obtain ⟨r25, hx26, hm⟩ := bind_some hm
  refine RW.call rfl rfl rfl enters46 (spec_l11Ok_ok (Ext.refl _) (ty30.ext (hE.trans hS24.ext) h0_) ((hS24.bring 3 rfl).box) hx26) (fun v27 w28 hR29 => ?_)
  obtain ⟨rfl, hR30⟩ := hR29
  have hS31 := hS24.join hR30
  refine RW.run ttok 1 rfl ?_
  refine RW.nil ?_
  refine WP.cond (!r25) rfl (fun hc => ?_) (fun hc => ?_)
  · skip
    rw [if_pos hc] at hm
    refine WP.seq ?_
    refine WP.region ?_
    refine RW.quiet rfl (Quiet.build ttok rfl rfl rfl rfl rfl) rfl rfl ?_
    have hS32 := hS31.bring 0 rfl
    refine RW.store ttok (A := []) hS32 rfl rfl rfl rfl rfl 0 rfl rfl rfl rfl rfl (fun w33 hS34 => ?_)
    refine RW.run ttok 1 rfl ?_
    refine RW.nil ?_
    refine WP.ret ?_
    cases hm
    have hS35 := hS34.nilSl ty112 112
    exact ⟨_, .cons (ResIs.agg ttok rfl rfl rfl ((hS34.bring 0 rfl).box) rfl) (.cons (.tmp rfl) .nil), none, 0, rfl, (hS35.taken 1)⟩
  · skip
    rw [if_neg (not_t hc)] at hm
    refine WP.skip ?_
    refine WP.seq ?_
    refine WP.seq ?_
    refine WP.cut (fun (t36 : Bool) F w9 => m_spec_ExchangePorts_j1 fuel x0 x1 x2 t36 = some r ∧ Ext w28 w9 ∧ St w w9 [Box g21 [.slice none 0 0] 30, Box g17 [.int .i64 x2.Agent, .int .i64 x2.Slot] 38, Box g13 [.int .i64 x1.Agent, .int .i64 x1.Slot] 38, Box g7 [.slice A1 x0.Agents.length k2] 30] ∧ F = [(3, .pointer (some ⟨g7, 0, none⟩)), (4, .pointer (some ⟨g13, 0, none⟩)), (5, .pointer (some ⟨g17, 0, none⟩)), (6, .pointer (some ⟨g21, 0, none⟩)), (25, .bool t36)]) ?_ ?_
    · skip
      rintro t36 F w39 ⟨hm, hE37, hS38, rfl⟩
      unfold m_spec_ExchangePorts_j1 at hm
      refine WP.cond t36 rfl (fun hc => ?_) (fun hc => ?_)
      · skip
        rw [if_pos hc] at hm
        refine WP.seq ?_
        refine WP.region ?_
        refine RW.quiet rfl (Quiet.build ttok rfl rfl rfl rfl rfl) rfl rfl ?_
        have hS41 := hS38.bring 0 rfl
        refine RW.store ttok (A := []) hS41 rfl rfl rfl rfl rfl 0 rfl rfl rfl rfl rfl (fun w42 hS43 => ?_)
        refine RW.run ttok 1 rfl ?_
        refine RW.nil ?_
        refine WP.ret ?_
        cases hm
        have hS44 := hS43.nilSl ty112 112
        exact ⟨_, .cons (ResIs.agg ttok rfl rfl rfl ((hS43.bring 0 rfl).box) rfl) (.cons (.tmp rfl) .nil), none, 0, rfl, (hS44.taken 1)⟩
      · skip
        rw [if_neg (not_t hc)] at hm
        refine WP.skip ?_
        refine WP.seq ?_
        refine WP.region ?_
        obtain ⟨r45, hx46, hm⟩ := bind_some hm
        refine RW.call rfl rfl rfl enters51 (spec_l11Own_ok (Ext.refl _) (ty30.ext (hE.trans hS38.ext) h0_) ((hS38.bring 3 rfl).box) hx46) (fun v47 w48 hR49 => ?_)
        obtain ⟨A50, k51, rfl, hR52⟩ := hR49
        have hS53 := hS38.join hR52
        refine RW.new ttok hS53 rfl rfl rfl rfl (fun g54 w55 e56 hS57 => ?_)
        have hS58 := hS57.bring 0 rfl
        refine RW.store ttok (A := []) hS58 rfl rfl rfl rfl rfl 0 rfl rfl rfl rfl rfl (fun w59 hS60 => ?_)
        refine RW.nil ?_
        refine WP.seq ?_
        refine WP.region ?_
        refine RW.loadN ttok rfl rfl rfl rfl rfl ((hS60.bring 4 rfl).box) rfl rfl rfl ?_
        obtain ⟨r61, hx62, hm⟩ := bind_some hm
        refine RW.call rfl rfl rfl enters52 (spec_l11Peer_ok (Ext.refl _) (ty30_shut (⟨r45.Agents⟩ : D.Net) ((hS60.bring 1 rfl).own)) ((hS60.bring 0 rfl).box) (ty38.ext (hE.trans hS60.ext) h1_) hx62) (fun v63 w65 hR66 => ?_)
        obtain ⟨rfl, hR67⟩ := hR66
        have hS68 := hS60.join hR67
        refine RW.new ttok hS68 rfl rfl rfl rfl (fun g69 w70 e71 hS72 => ?_)
        have hS73 := hS72.bring 0 rfl
        refine RW.store ttok (A := []) hS73 rfl rfl rfl rfl rfl 0 rfl rfl rfl rfl rfl (fun w74 hS75 => ?_)
        refine RW.nil ?_
        refine WP.seq ?_
        refine WP.region ?_
        refine RW.loadN ttok rfl rfl rfl rfl rfl ((hS75.bring 4 rfl).box) rfl rfl rfl ?_
        obtain ⟨r76, hx77, hm⟩ := bind_some hm
        refine RW.call rfl rfl rfl enters52 (spec_l11Peer_ok (Ext.refl _) (ty30_shut (⟨r45.Agents⟩ : D.Net) ((hS75.bring 2 rfl).own)) ((hS75.bring 1 rfl).box) (ty38.ext (hE.trans hS75.ext) h2_) hx77) (fun v78 w79 hR80 => ?_)
        obtain ⟨rfl, hR81⟩ := hR80
        have hS82 := hS75.join hR81
        refine RW.new ttok hS82 rfl rfl rfl rfl (fun g83 w84 e85 hS86 => ?_)
        have hS87 := hS86.bring 0 rfl
        refine RW.store ttok (A := []) hS87 rfl rfl rfl rfl rfl 0 rfl rfl rfl rfl rfl (fun w88 hS89 => ?_)
        refine RW.nil ?_
        refine WP.seq ?_
        refine WP.seq ?_
        refine WP.cut (fun (t90 : Bool) F w9 => m_spec_ExchangePorts_j2 fuel x1 x2 r45 r61 r76 t90 = some r ∧ Ext w88 w9 ∧ St w w9 [Box g83 [.int .i64 r76.Agent, .int .i64 r76.Slot] 38, Box g69 [.int .i64 r61.Agent, .int .i64 r61.Slot] 38, Box g54 [.slice A50 r45.Agents.length k51] 30, Own ty28 [.slice A50 r45.Agents.length k51] r45.Agents, Box g21 [.slice none 0 0] 30, Box g17 [.int .i64 x2.Agent, .int .i64 x2.Slot] 38, Box g13 [.int .i64 x1.Agent, .int .i64 x1.Slot] 38, Box g7 [.slice A1 x0.Agents.length k2] 30] ∧ F = [(4, .pointer (some ⟨g13, 0, none⟩)), (5, .pointer (some ⟨g17, 0, none⟩)), (6, .pointer (some ⟨g21, 0, none⟩)), (8, .pointer (some ⟨g54, 0, none⟩)), (9, .pointer (some ⟨g69, 0, none⟩)), (10, .pointer (some ⟨g83, 0, none⟩)), (39, .bool t90)]) ?_ ?_
        · skip
          rintro t90 F w93 ⟨hm, hE91, hS92, rfl⟩
          unfold m_spec_ExchangePorts_j2 at hm
          refine WP.cut (fun (t95 : (List D.Agent)) F w9 => ∃ A96 k97, m_spec_ExchangePorts_j3 fuel t95 = some r ∧ St w w9 [Box g83 [.int .i64 r76.Agent, .int .i64 r76.Slot] 38, Box g69 [.int .i64 r61.Agent, .int .i64 r61.Slot] 38, Box g54 [.slice A96 t95.length k97] 30, Own ty28 [.slice A96 t95.length k97] t95, Box g21 [.slice none 0 0] 30, Box g17 [.int .i64 x2.Agent, .int .i64 x2.Slot] 38, Box g13 [.int .i64 x1.Agent, .int .i64 x1.Slot] 38, Box g7 [.slice A1 x0.Agents.length k2] 30] ∧ F = [(6, .pointer (some ⟨g21, 0, none⟩)), (8, .pointer (some ⟨g54, 0, none⟩))]) ?_ ?_
          · skip
            rintro t95 F w99 ⟨A96, k97, hm, hS98, rfl⟩
            unfold m_spec_ExchangePorts_j3 at hm
            refine WP.seq ?_
            refine WP.region ?_
            refine RW.loadN ttok rfl rfl rfl rfl rfl ((hS98.bring 2 rfl).box) rfl rfl rfl ?_
            have hS101 := hS98.bring 4 rfl
            refine RW.store ttok (A := []) hS101 rfl rfl rfl rfl rfl 0 rfl rfl rfl rfl rfl (fun w102 hS103 => ?_)
            refine RW.run ttok 1 rfl ?_
            refine RW.nil ?_
            refine WP.ret ?_
            cases hm
            exact ⟨_, .cons (ResIs.agg ttok rfl rfl rfl ((hS103.bring 0 rfl).box) rfl) (.cons (.tmp rfl) .nil), A96, k97, rfl, ((hS103.bring 4 rfl).taken 1)⟩
          · skip
            refine WP.cond t90 rfl (fun hc => ?_) (fun hc => ?_)
            · skip
              rw [if_pos hc] at hm
              refine WP.seq ?_
              refine WP.region ?_
              refine RW.loadN ttok rfl rfl rfl rfl rfl ((hS92.bring 6 rfl).box) rfl rfl rfl ?_
              refine RW.loadN ttok rfl rfl rfl rfl rfl ((hS92.bring 0 rfl).box) rfl rfl rfl ?_
              obtain ⟨r104, hx105, hm⟩ := bind_some hm
              refine RW.call rfl rfl rfl enters53 (spec_l11Link_ok (W := w) (RR := _) (x0 := (⟨r45.Agents⟩ : D.Net)) (x1 := x1) (x2 := r76) ((hS92.bring 3 rfl).bring 3 rfl) (ty38.ext hE h1_) (ty38.ext hE (ty38_shut r76)) hx105) (fun v106 w107 hR108 => ?_)
              obtain ⟨A109, k110, rfl, hS111⟩ := hR108
              refine RW.nil ?_
              refine WP.region ?_
              refine RW.loadN ttok rfl rfl rfl rfl rfl ((hS111.bring 5 rfl).box) rfl rfl rfl ?_
              refine RW.loadN ttok rfl rfl rfl rfl rfl ((hS111.bring 3 rfl).box) rfl rfl rfl ?_
              obtain ⟨r112, hx113, hm⟩ := bind_some hm
              refine RW.call rfl rfl rfl enters53 (spec_l11Link_ok (W := w) (RR := _) (x0 := (⟨r104.Agents⟩ : D.Net)) (x1 := x2) (x2 := r61) hS111 (ty38.ext hE h2_) (ty38.ext hE (ty38_shut r61)) hx113) (fun v114 w115 hR116 => ?_)
              obtain ⟨A117, k118, rfl, hS119⟩ := hR116
              refine RW.nil ?_
              exact ⟨r112.Agents, [(6, .pointer (some ⟨g21, 0, none⟩)), (8, .pointer (some ⟨g54, 0, none⟩))], ⟨rfl, rfl, trivial⟩, A117, k118, hm, ((((hS119.bring 1 rfl).bring 1 rfl).bring 3 rfl).bring 3 rfl), rfl⟩
            · skip
              rw [if_neg (not_t hc)] at hm
              refine WP.skip ?_
              exact ⟨r45.Agents, [(6, .pointer (some ⟨g21, 0, none⟩)), (8, .pointer (some ⟨g54, 0, none⟩))], ⟨rfl, rfl, trivial⟩, A50, k51, hm, hS92, rfl⟩
        · skip
          refine WP.region ?_
          refine RW.loadN ttok rfl rfl rfl rfl rfl ((hS89.bring 6 rfl).box) rfl rfl rfl ?_
          refine RW.loadN ttok rfl rfl rfl rfl rfl ((hS89.bring 5 rfl).box) rfl rfl rfl ?_
          refine RW.run ttok 2 rfl ?_
          by_cases hg120 : (!(((x1.Agent : Int) == x2.Agent) && (((x1.Slot : Int) == x2.Slot) && true))) = true
          · skip
            rw [if_pos hg120] at hm
            refine RW.know 35 rfl (congrArg Value.bool hg120) ?_
            refine RW.loadN ttok rfl rfl rfl rfl rfl ((hS89.bring 1 rfl).box) rfl rfl rfl ?_
            refine RW.loadN ttok rfl rfl rfl rfl rfl ((hS89.bring 5 rfl).box) rfl rfl rfl ?_
            refine RW.run ttok 2 rfl ?_
            refine RW.nil ?_
            exact ⟨!(((r61.Agent : Int) == x2.Agent) && (((r61.Slot : Int) == x2.Slot) && true)), [(4, .pointer (some ⟨g13, 0, none⟩)), (5, .pointer (some ⟨g17, 0, none⟩)), (6, .pointer (some ⟨g21, 0, none⟩)), (8, .pointer (some ⟨g54, 0, none⟩)), (9, .pointer (some ⟨g69, 0, none⟩)), (10, .pointer (some ⟨g83, 0, none⟩)), (39, .bool (!(((r61.Agent : Int) == x2.Agent) && (((r61.Slot : Int) == x2.Slot) && true))))], ⟨rfl, rfl, rfl, rfl, rfl, rfl, rfl, trivial⟩, hm, (Ext.refl _), hS89, rfl⟩
          · skip
            rw [if_neg hg120] at hm
            refine RW.know 35 rfl (congrArg Value.bool (Bool.eq_false_iff.2 hg120)) ?_
            refine RW.run ttok 4 rfl ?_
            refine RW.nil ?_
            exact ⟨false, [(4, .pointer (some ⟨g13, 0, none⟩)), (5, .pointer (some ⟨g17, 0, none⟩)), (6, .pointer (some ⟨g21, 0, none⟩)), (8, .pointer (some ⟨g54, 0, none⟩)), (9, .pointer (some ⟨g69, 0, none⟩)), (10, .pointer (some ⟨g83, 0, none⟩)), (39, .bool false)], ⟨rfl, rfl, rfl, rfl, rfl, rfl, rfl, trivial⟩, hm, (Ext.refl _), hS89, rfl⟩
    · skip
      refine WP.region ?_
      refine RW.run ttok 1 rfl ?_
      refine RW.load1 ttok rfl rfl rfl rfl rfl ((hS31.bring 3 rfl).box) 0 rfl rfl rfl rfl ?_
      refine RW.loadN ttok rfl rfl rfl rfl rfl ((hS31.bring 2 rfl).box) rfl rfl rfl ?_
      obtain ⟨r121, hx122, hm⟩ := bind_some hm
      refine RW.call rfl rfl rfl enters50 (spec_l11Port_ok (hE.trans hS31.ext) h3 h1_ hx122) (fun v123 w124 hR125 => ?_)
      obtain ⟨rfl, hR126⟩ := hR125
      have hS127 := hS31.join hR126
      refine RW.run ttok 2 rfl ?_
      by_cases hg128 : (!r121) = true
      · skip
        rw [if_pos hg128] at hm
        refine RW.know 19 rfl (congrArg Value.bool hg128) ?_
        refine RW.run ttok 6 rfl ?_
        refine RW.nil ?_
        exact ⟨true, [(3, .pointer (some ⟨g7, 0, none⟩)), (4, .pointer (some ⟨g13, 0, none⟩)), (5, .pointer (some ⟨g17, 0, none⟩)), (6, .pointer (some ⟨g21, 0, none⟩)), (25, .bool true)], ⟨rfl, rfl, rfl, rfl, rfl, trivial⟩, hm, hR126.ext, hS127, rfl⟩
      · skip
        rw [if_neg hg128] at hm
        refine RW.know 19 rfl (congrArg Value.bool (Bool.eq_false_iff.2 hg128)) ?_
        refine RW.run ttok 1 rfl ?_
        refine RW.load1 ttok rfl rfl rfl rfl rfl ((hS127.bring 3 rfl).box) 0 rfl rfl rfl rfl ?_
        refine RW.loadN ttok rfl rfl rfl rfl rfl ((hS127.bring 1 rfl).box) rfl rfl rfl ?_
        obtain ⟨r129, hx130, hm⟩ := bind_some hm
        refine RW.call rfl rfl rfl enters50 (spec_l11Port_ok (hE.trans hS127.ext) h3 h2_ hx130) (fun v131 w132 hR133 => ?_)
        obtain ⟨rfl, hR134⟩ := hR133
        have hS135 := hS127.join hR134
        refine RW.run ttok 2 rfl ?_
        refine RW.nil ?_
        exact ⟨!r129, [(3, .pointer (some ⟨g7, 0, none⟩)), (4, .pointer (some ⟨g13, 0, none⟩)), (5, .pointer (some ⟨g17, 0, none⟩)), (6, .pointer (some ⟨g21, 0, none⟩)), (25, .bool (!r129))], ⟨rfl, rfl, rfl, rfl, rfl, trivial⟩, hm, (hR126.ext.trans hR134.ext), hS135, rfl⟩

theorem enters157 : Enters Try.prog 157 := ⟨_, _, Try.func157, rfl, by kernel_rfl⟩
def m_slices_Clone_int64_int64 (fuel : Nat) (x0 : (List Int)) : Option ((List Int)) := (if decide ((([] : (List Int)).length : Int) + (x0.length : Int) ≤ 4294967296) = true then some (([] : (List Int)) ++ x0) else none)

set_option maxRecDepth 100000 in
theorem slices_Clone_int64_int64_ok {W w : World} (hE : Ext W w) {A0_ : Option Addr} {k0_ : Nat} {x0 : (List Int)} (h0_ : ty103.ro W [.slice A0_ x0.length k0_] x0) {fuel : Nat} {r : (List Int)} (hm : m_slices_Clone_int64_int64 fuel x0 = some r) :
    Calls Try.prog 157 ⟨[.slice A0_ x0.length k0_]⟩ w (Ret fun v w8 => ∃ A0 k0, v = .slice A0 r.length k0 ∧ St w w8 [Own ty103 [.slice A0 r.length k0] r]) := by
  refine Calls.into Try.func157 rfl 8 rfl rfl _ rfl ?_
  unfold m_slices_Clone_int64_int64 at hm
  have hS := St.start w
  refine WP.seq ?_
  refine WP.region ?_
  refine RW.run ttok 1 rfl ?_
  refine RW.nil ?_
  refine WP.seq ?_
  refine WP.seq ?_
  refine WP.region ?_
  refine RW.run ttok 1 rfl ?_
  refine RW.quiet rfl (Quiet.nilEq ttok rfl rfl rfl rfl rfl) rfl rfl ?_
  refine RW.nil ?_
  cases A0_ with
  | none =>
    have e := sl_none (by decide) h0_
    subst e
    refine WP.cond true rfl (fun _ => ?_) (fun hc => by cases hc)
    refine WP.seq ?_
    refine WP.region ?_
    refine RW.run ttok 1 rfl ?_
    refine RW.nil ?_
    refine WP.ret ?_
    have hr : r = [] := by simpa using hm.symm
    subst hr
    exact ⟨_, .cons (.tmp rfl) .nil, none, 0, rfl, hS.nilSl tInt 2⟩
  | some p =>
    refine WP.cond false rfl (fun hc => by cases hc) (fun _ => ?_)
    refine WP.skip ?_
    refine WP.seq ?_
    refine WP.region ?_
    refine RW.newSlice0 (U := tInt) ttok hS rfl rfl rfl rfl rfl rfl rfl (fun A1 k1 w1 e1 hS1 => ?_)
    refine RW.run ttok 1 rfl ?_
    by_cases hk : decide ((([] : (List Int)).length : Int) + (x0.length : Int) ≤ 4294967296) = true
    case neg => rw [if_neg hk] at hm; cases hm
    rw [if_pos hk] at hm
    cases hm
    refine RW.appendRo ttok Flat.int hS1 rfl rfl rfl rfl rfl rfl (by decide) rfl rfl (ty103.ext (hE.trans hS1.ext) h0_) (of_decide_eq_true hk) (by decide) rfl rfl (fun A2 k2 w2 hS2 => ?_)
    refine RW.run ttok 1 rfl ?_
    refine RW.nil ?_
    refine WP.ret ?_
    exact ⟨_, .cons (.tmp rfl) .nil, A2, k2, rfl, hS2⟩

theorem enters170 : Enters Try.prog 170 := ⟨_, _, Try.func170, rfl, by kernel_rfl⟩
def m_slices_Clone_impl_Port_impl_Port (fuel : Nat) (x0 : (List D.Port)) : Option ((List D.Port)) := (if decide ((([] : (List D.Port)).length : Int) + (x0.length : Int) ≤ 4294967296) = true then some (([] : (List D.Port)) ++ x0) else none)

set_option maxRecDepth 100000 in
theorem slices_Clone_impl_Port_impl_Port_ok {W w : World} (hE : Ext W w) {A0_ : Option Addr} {k0_ : Nat} {x0 : (List D.Port)} (h0_ : ty110.ro W [.slice A0_ x0.length k0_] x0) {fuel : Nat} {r : (List D.Port)} (hm : m_slices_Clone_impl_Port_impl_Port fuel x0 = some r) :
    Calls Try.prog 170 ⟨[.slice A0_ x0.length k0_]⟩ w (Ret fun v w8 => ∃ A0 k0, v = .slice A0 r.length k0 ∧ St w w8 [Own ty110 [.slice A0 r.length k0] r]) := by
  refine Calls.into Try.func170 rfl 8 rfl rfl _ rfl ?_
  unfold m_slices_Clone_impl_Port_impl_Port at hm
  have hS := St.start w
  refine WP.seq ?_
  refine WP.region ?_
  refine RW.run ttok 1 rfl ?_
  refine RW.nil ?_
  refine WP.seq ?_
  refine WP.seq ?_
  refine WP.region ?_
  refine RW.run ttok 1 rfl ?_
  refine RW.quiet rfl (Quiet.nilEq ttok rfl rfl rfl rfl rfl) rfl rfl ?_
  refine RW.nil ?_
  cases A0_ with
  | none =>
    have e := sl_none (by decide) h0_
    subst e
    refine WP.cond true rfl (fun _ => ?_) (fun hc => by cases hc)
    refine WP.seq ?_
    refine WP.region ?_
    refine RW.run ttok 1 rfl ?_
    refine RW.nil ?_
    refine WP.ret ?_
    have hr : r = [] := by simpa using hm.symm
    subst hr
    exact ⟨_, .cons (.tmp rfl) .nil, none, 0, rfl, hS.nilSl ty38 38⟩
  | some p =>
    refine WP.cond false rfl (fun hc => by cases hc) (fun _ => ?_)
    refine WP.skip ?_
    refine WP.seq ?_
    refine WP.region ?_
    refine RW.newSlice0 (U := ty38) ttok hS rfl rfl rfl rfl rfl rfl rfl (fun A1 k1 w1 e1 hS1 => ?_)
    refine RW.run ttok 1 rfl ?_
    by_cases hk : decide ((([] : (List D.Port)).length : Int) + (x0.length : Int) ≤ 4294967296) = true
    case neg => rw [if_neg hk] at hm; cases hm
    rw [if_pos hk] at hm
    cases hm
    refine RW.appendRo ttok (Flat.map (Flat.pair Flat.int (Flat.pair Flat.int Flat.unit))) hS1 rfl rfl rfl rfl rfl rfl (by decide) rfl rfl (ty110.ext (hE.trans hS1.ext) h0_) (of_decide_eq_true hk) (by decide) rfl rfl (fun A2 k2 w2 hS2 => ?_)
    refine RW.run ttok 1 rfl ?_
    refine RW.nil ?_
    refine WP.ret ?_
    exact ⟨_, .cons (.tmp rfl) .nil, A2, k2, rfl, hS2⟩

theorem enters117 : Enters Try.prog 117 := ⟨_, _, Try.func117, rfl, by kernel_rfl⟩
def m_impl_copyAgent (fuel : Nat) (x0 : D.Agent) : Option (D.Agent) := ((m_slices_Clone_int64_int64 fuel x0.Data).bind fun r20 => ((m_slices_Clone_impl_Port_impl_Port fuel x0.Ports).bind fun r29 => some (⟨x0.Kind, x0.Level, x0.Value, r20, r29⟩ : D.Agent)))

set_option maxRecDepth 100000 in
theorem impl_copyAgent_ok {W w : World} (hE : Ext W w) {c0_ : List Value} {x0 : D.Agent} (h0_ : ty112.ro W c0_ x0) {fuel : Nat} {r : D.Agent} (hm : m_impl_copyAgent fuel x0 = some r) :
    Calls Try.prog 117 ⟨[.agg ⟨c0_⟩]⟩ w (Ret fun v w8 => ∃ A0 k0 A1 k1, v = .agg ⟨[.int .i64 r.Kind, .int .i64 r.Level, .int .i64 r.Value, .slice A0 r.Data.length k0, .slice A1 r.Ports.length k1]⟩ ∧ St w w8 [Own ty103 [.slice A0 r.Data.length k0] r.Data, Own ty110 [.slice A1 r.Ports.length k1] r.Ports]) := by
  obtain ⟨A1, k2, A4, k5, e7, h3, h6⟩ := ty112_open h0_; subst e7
  refine Calls.into Try.func117 rfl 12 rfl rfl _ rfl ?_
  unfold m_impl_copyAgent at hm
  have hS := St.start w
  refine WP.seq ?_
  refine WP.region ?_
  refine RW.new ttok hS rfl rfl rfl rfl (fun g10 w11 e12 hS13 => ?_)
  refine RW.new ttok hS13 rfl rfl rfl rfl (fun g14 w15 e16 hS17 => ?_)
  refine RW.nil ?_
  refine WP.seq ?_
  refine WP.drawnM 640 mixed 10 (by kernel_rfl) (by kernel_rfl) [([], 1023), ([0], 1022), ([1], 1021), ([], 1023), ([3], 1015), ([4, 2], 1007), ([0, 1, 2, 3, 4], 1023), ([6, 2, 5, 0, 1, 2, 3, 4], 955), ([0, 1, 2, 3, 4, 5, 6, 7], 1023), ([8, 5, 7, 0, 1, 2, 3, 4, 5, 6, 7], 735)] (by kernel_rfl) hS17.ext (fun hsk18 => ?_)
  have hS19 := hS17.step (Ext.draw _)
  refine DM.run (fuel := 8) ttok hsk18 [0, 3] 9 (by kernel_rfl) (by kernel_rfl) rfl ?_
  refine DM.load1 ttok hsk18 1 11 (by kernel_rfl) (by kernel_rfl) (by kernel_rfl) (by kernel_rfl) rfl (by kernel_rfl) rfl rfl rfl rfl rfl ((hS17.bring 1 rfl).box) 3 rfl rfl rfl rfl ?_
  refine DM.load1 ttok hsk18 4 27 (by kernel_rfl) (by kernel_rfl) (by kernel_rfl) (by kernel_rfl) rfl (by kernel_rfl) rfl rfl rfl rfl rfl ((hS17.bring 1 rfl).box) 4 rfl rfl rfl rfl ?_
  obtain ⟨r20, hx21, hm⟩ := bind_some hm
  refine DM.one hsk18 2 (by kernel_rfl) (LM.call hsk18 31 (by kernel_rfl) (by kernel_rfl) rfl rfl rfl rfl enters157 (slices_Clone_int64_int64_ok (hE.trans hS19.ext) h3 hx21) (fun v22 w23 hR24 => ?_))
  obtain ⟨A25, k26, rfl, hR27⟩ := hR24
  refine ⟨hR27.ext, ?_⟩
  have hS28 := hS19.join hR27
  refine DM.run (fuel := 4) ttok hsk18 [6] 95 (by kernel_rfl) (by kernel_rfl) rfl ?_
  obtain ⟨r29, hx30, hm⟩ := bind_some hm
  refine DM.one hsk18 5 (by kernel_rfl) (LM.call hsk18 127 (by kernel_rfl) (by kernel_rfl) rfl rfl rfl rfl enters170 (slices_Clone_impl_Port_impl_Port_ok (hE.trans hS28.ext) h6 hx30) (fun v31 w32 hR33 => ?_))
  obtain ⟨A34, k35, rfl, hR36⟩ := hR33
  refine ⟨hR36.ext, ?_⟩
  have hS37 := hS28.join hR36
  have hS38 := hS37.bring 3 rfl
  refine DM.one hsk18 7 (by kernel_rfl) (LM.store ttok (A := []) hS38 hsk18 255 (by kernel_rfl) (by kernel_rfl) rfl rfl rfl rfl rfl rfl 3 rfl rfl rfl rfl rfl (fun w39 hS40 => ?_))
  refine DM.run (fuel := 1) ttok hsk18 [8] 511 (by kernel_rfl) (by kernel_rfl) rfl ?_
  refine DM.weak [(1, .pointer (some ⟨g10, 0, none⟩)), (2, .pointer (some ⟨g14, 0, none⟩)), (8, .slice A34 r29.length k35), (10, .pointer (some ⟨g10, 4, none⟩))] ⟨rfl, rfl, rfl, rfl, trivial⟩ ?_
  have hS41 := hS40.bring 0 rfl
  refine DM.one hsk18 9 (by kernel_rfl) (LM.store ttok (A := []) hS41 hsk18 1023 (by kernel_rfl) (by kernel_rfl) rfl rfl rfl rfl rfl rfl 4 rfl rfl rfl rfl rfl (fun w42 hS43 => ?_))
  refine DM.done hsk18 (by kernel_rfl) ?_
  refine WP.seq ?_
  refine WP.region ?_
  refine RW.loadN ttok rfl rfl rfl rfl rfl ((hS43.bring 0 rfl).box) rfl rfl rfl ?_
  have hS44 := hS43.bring 3 rfl
  refine RW.store ttok (A := []) hS44 rfl rfl rfl rfl rfl 0 rfl rfl rfl rfl rfl (fun w45 hS46 => ?_)
  refine RW.nil ?_
  refine WP.ret ?_
  cases hm
  exact ⟨_, .cons (ResIs.agg ttok rfl rfl rfl ((hS46.bring 0 rfl).box) rfl) .nil, A25, k26, A34, k35, rfl, (((hS46.bring 2 rfl).bring 3 rfl).taken 2)⟩

theorem enters55 : Enters Try.prog 55 := ⟨_, _, Try.func55, rfl, by kernel_rfl⟩
def m_impl_copyNet_j1 (fuel : Nat) (t30 : (List D.Agent)) : Option D.Net := some (⟨t30⟩ : D.Net)
def m_impl_copyNet_b1 (fuel : Nat) (x0 : D.Net) (s29 : Int × (List D.Agent)) : Option (Rd (Int × (List D.Agent)) ((List D.Agent)) (D.Net)) := (if (decide (s29.1 < (x0.Agents.length : Int))) = true then ((idx x0.Agents s29.1).bind fun x51 => ((m_impl_copyAgent fuel x51).bind fun r74 => (if decide ((s29.2.length : Int) + (([r74] : (List D.Agent)).length : Int) ≤ 4294967296) = true then some (.next (w64 (s29.1 + 1), (s29.2 ++ ([r74] : (List D.Agent))))) else none))) else some (.brk s29.2))
def m_impl_copyNet (fuel : Nat) (x0 : D.Net) : Option (D.Net) := (if decide (0 ≤ (x0.Agents.length : Int) ∧ (x0.Agents.length : Int) ≤ 4294967296) = true then ((iter (m_impl_copyNet_b1 fuel x0) fuel (0, ([] : (List D.Agent)))).bind fun o => aft o (m_impl_copyNet_j1 fuel)) else none)

set_option maxRecDepth 100000 in
theorem impl_copyNet_ok {W w : World} (hE : Ext W w) {c0_ : List Value} {x0 : D.Net} (h0_ : ty30.ro W c0_ x0) {fuel : Nat} {r : D.Net} (hm : m_impl_copyNet fuel x0 = some r) :
    Calls Try.prog 55 ⟨[.agg ⟨c0_⟩]⟩ w (Ret fun v w8 => ∃ A0 k0, v = .agg ⟨[.slice A0 r.Agents.length k0]⟩ ∧ St w w8 [Own ty28 [.slice A0 r.Agents.length k0] r.Agents]) := by
  obtain ⟨A1, k2, e4, h3⟩ := ty30_open h0_; subst e4
  refine Calls.into Try.func55 rfl 27 rfl rfl _ rfl ?_
  unfold m_impl_copyNet at hm
  have hS := St.start w
  refine WP.seq ?_
  refine WP.region ?_
  refine RW.new ttok hS rfl rfl rfl rfl (fun g5 w6 e7 hS10 => ?_)
  refine RW.new ttok hS10 rfl rfl rfl rfl (fun g11 w12 e13 hS14 => ?_)
  refine RW.nil ?_
  refine WP.seq ?_
  refine WP.region ?_
  refine RW.run ttok 1 rfl ?_
  refine RW.load1 ttok rfl rfl rfl rfl rfl ((hS14.bring 1 rfl).box) 0 rfl rfl rfl rfl ?_
  refine RW.run ttok 1 rfl ?_
  by_cases hk15 : decide (0 ≤ (x0.Agents.length : Int) ∧ (x0.Agents.length : Int) ≤ 4294967296) = true
  case neg => rw [if_neg hk15] at hm; cases hm
  rw [if_pos hk15] at hm
  have hz21 := of_decide_eq_true hk15
  refine RW.makeCap (U := ty112) ttok hS14 rfl rfl rfl rfl rfl rfl rfl rfl hz21.1 (by have := hz21.2; show _ * (72 : Int) ≤ _; omega) (by have := hz21.2; simp only [maxLen]; omega) rfl rfl (fun A16 k17 w18 e19 hS20 => ?_)
  refine RW.quiet rfl (Quiet.build ttok rfl rfl rfl rfl rfl) rfl rfl ?_
  refine RW.new ttok hS20 rfl rfl rfl rfl (fun g22 w23 e24 hS25 => ?_)
  have hS26 := hS25.bring 0 rfl
  refine RW.store ttok (A := []) hS26 rfl rfl rfl rfl rfl 0 rfl rfl rfl rfl rfl (fun w27 hS28 => ?_)
  refine RW.nil ?_
  refine WP.seq ?_
  refine WP.seq ?_
  refine WP.region ?_
  refine RW.run ttok 1 rfl ?_
  refine RW.load1 ttok rfl rfl rfl rfl rfl ((hS28.bring 3 rfl).box) 0 rfl rfl rfl rfl ?_
  refine RW.run ttok 2 rfl ?_
  refine RW.nil ?_
  obtain ⟨o39, hl40, hm⟩ := bind_some hm
  refine WP.cut (fun (t30 : (List D.Agent)) F w9 => ∃ A36 k37, o39 = .inl t30 ∧ St w w9 [Box g22 [.slice A36 t30.length k37] 30, Own ty28 [.slice A36 t30.length k37] t30, Box g11 [.slice none 0 0] 30, Box g5 [.slice A1 x0.Agents.length k2] 30] ∧ F = [(2, .pointer (some ⟨g11, 0, none⟩)), (3, .pointer (some ⟨g22, 0, none⟩))]) ?_ ?_
  · skip
    rintro t30 F w38 ⟨A36, k37, ho42, hS41, rfl⟩
    subst ho42
    rw [aft_inl] at hm
    unfold m_impl_copyNet_j1 at hm
    refine WP.seq ?_
    refine WP.region ?_
    refine RW.loadN ttok rfl rfl rfl rfl rfl ((hS41.bring 0 rfl).box) rfl rfl rfl ?_
    have hS43 := hS41.bring 2 rfl
    refine RW.store ttok (A := []) hS43 rfl rfl rfl rfl rfl 0 rfl rfl rfl rfl rfl (fun w44 hS45 => ?_)
    refine RW.nil ?_
    refine WP.ret ?_
    cases hm
    exact ⟨_, .cons (ResIs.agg ttok rfl rfl rfl ((hS45.bring 0 rfl).box) rfl) .nil, A36, k37, rfl, ((hS45.bring 2 rfl).taken 1)⟩
  · skip
    refine WP.block ?_
    refine WP.weak [(2, .pointer (some ⟨g11, 0, none⟩)), (3, .pointer (some ⟨g22, 0, none⟩)), (12, .slice A1 x0.Agents.length k2), (13, .int .i64 (x0.Agents.length : Int)), (14, .int .i64 0)] ⟨rfl, rfl, rfl, rfl, rfl, trivial⟩ ?_
    refine WP.iter (fun (s29 : Int × (List D.Agent)) F w9 => ∃ A34 k35, St w w9 [Box g22 [.slice A34 s29.2.length k35] 30, Own ty28 [.slice A34 s29.2.length k35] s29.2, Box g11 [.slice none 0 0] 30, Box g5 [.slice A1 x0.Agents.length k2] 30] ∧ F = [(2, .pointer (some ⟨g11, 0, none⟩)), (3, .pointer (some ⟨g22, 0, none⟩)), (12, .slice A1 x0.Agents.length k2), (13, .int .i64 (x0.Agents.length : Int)), (14, .int .i64 s29.1)]) _ hl40 ⟨A16, k17, hS28, rfl⟩ ?_
    rintro s29 F w50 _ o48 ⟨A34, k35, hS49, rfl⟩ hb46 ho47
    unfold m_impl_copyNet_b1 at hb46
    refine WP.seq ?_
    refine WP.region ?_
    refine RW.run ttok 1 rfl ?_
    refine RW.nil ?_
    refine WP.seq ?_
    refine WP.cond (decide (s29.1 < (x0.Agents.length : Int))) rfl (fun hc => ?_) (fun hc => ?_)
    · skip
      rw [if_pos hc] at hb46
      refine WP.skip ?_
      refine WP.seq ?_
      refine WP.block ?_
      refine WP.seq ?_
      refine WP.region ?_
      obtain ⟨x51, hx52, hb46⟩ := bind_some hb46
      refine RW.idx ttok (hE.trans hS49.ext) rfl rfl rfl rfl rfl rfl (by decide) rfl rfl h3 (idx_some hx52).1 (idx_some hx52).2 rfl rfl (fun p53 es54 ha55 hr56 => ?_)
      obtain ⟨A57, k58, A60, k61, e63, h59, h62⟩ := ty112_open hr56; subst e63
      refine RW.loadN ttok rfl rfl rfl rfl rfl (At.ext (hE.trans hS49.ext) ha55) rfl rfl rfl ?_
      refine RW.new ttok hS49 rfl rfl rfl rfl (fun g65 w66 e67 hS68 => ?_)
      have hS69 := hS68.bring 0 rfl
      refine RW.store ttok (A := []) hS69 rfl rfl rfl rfl rfl 0 rfl rfl rfl rfl rfl (fun w70 hS71 => ?_)
      refine RW.nil ?_
      refine WP.drawnM 160 mixed 8 (by kernel_rfl) (by kernel_rfl) [([], 255), ([0], 254), ([], 255), ([2], 251), ([3], 247), ([1, 4, 3], 237), ([0, 1, 2, 3, 4, 5], 255), ([6, 5, 5, 0, 1, 2, 3, 4, 5], 159)] (by kernel_rfl) hS71.ext (fun hsk72 => ?_)
      have hS73 := hS71.step (Ext.draw _)
      refine DM.run (fuel := 7) ttok hsk72 [0] 1 (by kernel_rfl) (by kernel_rfl) rfl ?_
      refine DM.load1 ttok hsk72 1 3 (by kernel_rfl) (by kernel_rfl) (by kernel_rfl) (by kernel_rfl) rfl (by kernel_rfl) rfl rfl rfl rfl rfl ((hS71.bring 1 rfl).box) 0 rfl rfl rfl rfl ?_
      refine DM.one hsk72 2 (by kernel_rfl) (LM.quietL hsk72 7 (by kernel_rfl) (by kernel_rfl) rfl rfl (Quiet.loadN ttok rfl rfl rfl rfl ((hS73.bring 0 rfl).box) rfl) rfl rfl ?_)
      obtain ⟨r74, hx75, hb46⟩ := bind_some hb46
      refine DM.one hsk72 3 (by kernel_rfl) (LM.call hsk72 15 (by kernel_rfl) (by kernel_rfl) rfl rfl rfl rfl enters117 (impl_copyAgent_ok (hE.trans hS73.ext) (ty112_shut x51 h59 h62) hx75) (fun v76 w77 hR78 => ?_))
      obtain ⟨A79, k80, A81, k82, rfl, hR83⟩ := hR78
      refine ⟨hR83.ext, ?_⟩
      have hS84 := hS73.join hR83
      have hS85 := St.noEl ty112 hS84
      have hS86 := hS85.bring 2 rfl
      have hS87 := hS86.bring 2 rfl
      have hS88 := ty112_shutS (c := r74) (B := _) hS87
      have hS89 := St.consEl hS88
      refine DM.one hsk72 4 (by kernel_rfl) (LM.newSlice (U := ty112) (els := [.int .i64 r74.Kind, .int .i64 r74.Level, .int .i64 r74.Value, .slice A79 r74.Data.length k80, .slice A81 r74.Ports.length k82]) (ys := [r74]) ttok hS89 hsk72 31 (by kernel_rfl) (by kernel_rfl) rfl rfl rfl rfl rfl rfl rfl rfl rfl rfl rfl rfl rfl (fun A90 k91 w92 e93 hS94 => ?_))
      have hS95 := hS94.bring 3 rfl
      have hS96 := hS95.bring 1 rfl
      by_cases hk97 : decide ((s29.2.length : Int) + (([r74] : (List D.Agent)).length : Int) ≤ 4294967296) = true
      case neg => rw [if_neg hk97] at hb46; cases hb46
      rw [if_pos hk97] at hb46
      refine DM.one hsk72 5 (by kernel_rfl) (LM.appendOwn ttok hS96 hsk72 63 (by kernel_rfl) (by kernel_rfl) rfl rfl rfl rfl rfl rfl rfl (by decide) rfl rfl (of_decide_eq_true hk97) (by decide) rfl rfl (fun A98 k99 w100 hS101 => ?_))
      refine DM.run (fuel := 1) ttok hsk72 [6] 127 (by kernel_rfl) (by kernel_rfl) rfl ?_
      refine DM.weak [(2, .pointer (some ⟨g11, 0, none⟩)), (3, .pointer (some ⟨g22, 0, none⟩)), (12, .slice A1 x0.Agents.length k2), (13, .int .i64 (x0.Agents.length : Int)), (14, .int .i64 s29.1), (23, .slice A98 (s29.2 ++ ([r74] : (List D.Agent))).length k99), (24, .pointer (some ⟨g22, 0, none⟩))] ⟨rfl, rfl, rfl, rfl, rfl, rfl, rfl, trivial⟩ ?_
      have hS102 := hS101.bring 2 rfl
      refine DM.one hsk72 7 (by kernel_rfl) (LM.store ttok (A := []) hS102 hsk72 255 (by kernel_rfl) (by kernel_rfl) rfl rfl rfl rfl rfl rfl 0 rfl rfl rfl rfl rfl (fun w103 hS104 => ?_))
      refine DM.done hsk72 (by kernel_rfl) ?_
      refine WP.region ?_
      refine RW.run ttok 2 rfl ?_
      refine RW.nil ?_
      cases hb46
      exact ⟨_, [(2, .pointer (some ⟨g11, 0, none⟩)), (3, .pointer (some ⟨g22, 0, none⟩)), (12, .slice A1 x0.Agents.length k2), (13, .int .i64 (x0.Agents.length : Int)), (14, .int .i64 (w64 (s29.1 + 1)))], ⟨rfl, rfl, rfl, rfl, rfl, trivial⟩, rfl, A98, k99, (hS104.bring 2 rfl).drop, rfl⟩
    · skip
      rw [if_neg (not_t hc)] at hb46
      refine WP.exit ?_
      cases hb46
      exact ⟨_, [(2, .pointer (some ⟨g11, 0, none⟩)), (3, .pointer (some ⟨g22, 0, none⟩))], ⟨rfl, rfl, trivial⟩, A34, k35, ho47, hS49, rfl⟩

theorem enters57 : Enters Try.prog 57 := ⟨_, _, Try.func57, rfl, by kernel_rfl⟩
def m_impl_Net_link (fuel : Nat) (x0 : D.Net) (x1 : D.Port) (x2 : D.Port) : Option (D.Net) := ((idx x0.Agents x1.Agent).bind fun x16 => (if decide (0 ≤ x1.Slot ∧ x1.Slot.toNat < x16.Ports.length) = true then ((idx (x0.Agents.set x1.Agent.toNat (⟨x16.Kind, x16.Level, x16.Value, x16.Data, (x16.Ports.set x1.Slot.toNat x2)⟩ : D.Agent)) x2.Agent).bind fun x50 => (if decide (0 ≤ x2.Slot ∧ x2.Slot.toNat < x50.Ports.length) = true then some (⟨((x0.Agents.set x1.Agent.toNat (⟨x16.Kind, x16.Level, x16.Value, x16.Data, (x16.Ports.set x1.Slot.toNat x2)⟩ : D.Agent)).set x2.Agent.toNat (⟨x50.Kind, x50.Level, x50.Value, x50.Data, (x50.Ports.set x2.Slot.toNat x1)⟩ : D.Agent))⟩ : D.Net) else none)) else none))

set_option maxRecDepth 100000 in
theorem impl_Net_link_ok {W w : World} {RR : List Res} {g0_ : Nat} {x0 : D.Net} {A0_0 : Option Addr} {k0_0 : Nat} {c1_ : List Value} {x1 : D.Port} {c2_ : List Value} {x2 : D.Port} (hS : St W w (Box g0_ [.slice A0_0 x0.Agents.length k0_0] 30 :: Own ty28 [.slice A0_0 x0.Agents.length k0_0] x0.Agents :: RR)) (h1_ : ty38.ro W c1_ x1) (h2_ : ty38.ro W c2_ x2) {fuel : Nat} {r : D.Net} (hm : m_impl_Net_link fuel x0 x1 x2 = some r) :
    Calls Try.prog 57 ⟨[.pointer (some ⟨g0_, 0, none⟩), .agg ⟨c1_⟩, .agg ⟨c2_⟩]⟩ w (Ret fun v w8 => ∃ A0 k0, v = .tuple ⟨[]⟩ ∧ St W w8 (Box g0_ [.slice A0 r.Agents.length k0] 30 :: Own ty28 [.slice A0 r.Agents.length k0] r.Agents :: RR)) := by
  have e1 := ty38_open h1_; subst e1
  have e2 := ty38_open h2_; subst e2
  refine Calls.into Try.func57 rfl 32 rfl rfl _ rfl ?_
  unfold m_impl_Net_link at hm
  refine WP.seq ?_
  refine WP.region ?_
  refine RW.new ttok hS rfl rfl rfl rfl (fun g3 w4 e5 hS6 => ?_)
  refine RW.new ttok hS6 rfl rfl rfl rfl (fun g7 w10 e11 hS12 => ?_)
  refine RW.nil ?_
  refine WP.seq ?_
  refine WP.drawnM 8192 mixed 14 (by kernel_rfl) (by kernel_rfl) [([], 16383), ([0], 16382), ([1], 16381), ([2], 16379), ([], 16383), ([4], 16367), ([3, 5], 16343), ([6], 16319), ([7], 16255), ([], 16383), ([9], 15871), ([], 16383), ([8, 10, 0, 1, 2, 3, 4, 5, 6, 7, 8, 9, 10, 11], 15103), ([12, 11, 0, 1, 2, 3, 4, 5, 6, 7, 8, 9, 10, 11], 10239)] (by kernel_rfl) hS12.ext (fun hsk13 => ?_)
  have hS14 := hS12.step (Ext.draw _)
  refine DM.run (fuel := 9) ttok hsk13 [0, 1, 2, 4, 9] 535 (by kernel_rfl) (by kernel_rfl) rfl ?_
  refine DM.load1 ttok hsk13 3 543 (by kernel_rfl) (by kernel_rfl) (by kernel_rfl) (by kernel_rfl) rfl (by kernel_rfl) rfl rfl rfl rfl rfl ((hS12.bring 2 rfl).box) 0 rfl rfl rfl rfl ?_
  refine DM.load1 ttok hsk13 5 575 (by kernel_rfl) (by kernel_rfl) (by kernel_rfl) (by kernel_rfl) rfl (by kernel_rfl) rfl rfl rfl rfl rfl ((hS12.bring 1 rfl).box) 0 rfl rfl rfl rfl ?_
  have hS15 := hS12.bring 3 rfl
  obtain ⟨x16, hx17, hm⟩ := bind_some hm
  refine DM.focus ttok hS15 hsk13 6 639 (by kernel_rfl) (by kernel_rfl) rfl (by kernel_rfl) rfl rfl rfl rfl rfl rfl rfl rfl (idx_some hx17).1 (idx_some hx17).2 rfl rfl (fun q18 es19 hq20 hS21 => ?_)
  obtain ⟨A24, k25, A26, k27, e23, hS22⟩ := ty112_openS (hS21.bring 1 rfl); subst e23
  have hS28 := hS22.step (Ext.draw _)
  refine DM.run (fuel := 5) ttok hsk13 [7] 767 (by kernel_rfl) (by kernel_rfl) rfl ?_
  refine DM.weak [(0, .pointer (some ⟨g0_, 0, none⟩)), (4, .pointer (some ⟨g3, 0, none⟩)), (5, .pointer (some ⟨g7, 0, none⟩)), (13, .pointer (some (q18.add 4))), (15, .pointer (some ⟨g3, 1, none⟩))] ⟨rfl, rfl, rfl, rfl, rfl, trivial⟩ ?_
  refine DM.load1 ttok hsk13 8 1023 (by kernel_rfl) (by kernel_rfl) (by kernel_rfl) (by kernel_rfl) rfl (by kernel_rfl) rfl rfl rfl rfl rfl ((hS22.bring 2 rfl).hole_atN hq20) 4 rfl rfl rfl rfl ?_
  refine DM.load1 ttok hsk13 10 2047 (by kernel_rfl) (by kernel_rfl) (by kernel_rfl) (by kernel_rfl) rfl (by kernel_rfl) rfl rfl rfl rfl rfl ((hS22.bring 4 rfl).box) 1 rfl rfl rfl rfl ?_
  refine DM.loadN ttok hsk13 11 4095 (by kernel_rfl) (by kernel_rfl) (by kernel_rfl) (by kernel_rfl) rfl (by kernel_rfl) rfl rfl rfl rfl rfl ((hS22.bring 3 rfl).box) rfl rfl rfl ?_
  have hS29 := hS28.bring 1 rfl
  by_cases hk30 : decide (0 ≤ x1.Slot ∧ x1.Slot.toNat < x16.Ports.length) = true
  case neg => rw [if_neg hk30] at hm; cases hm
  rw [if_pos hk30] at hm
  have hb31 := of_decide_eq_true hk30
  refine DM.idxOwnN ttok hS29 hsk13 12 8191 (by kernel_rfl) (by kernel_rfl) rfl (by kernel_rfl) rfl rfl rfl rfl rfl rfl rfl rfl hb31.1 hb31.2 rfl rfl (fun q32 hq33 => ?_)
  have hS34 := ty38_shutS (c := x2) (B := _) hS28
  have hS35 := hS34.bring 2 rfl
  refine DM.one hsk13 13 (by kernel_rfl) (LM.storeElN ttok hS35 hsk13 16383 (by kernel_rfl) (by kernel_rfl) rfl rfl rfl rfl rfl rfl rfl hb31.2 hq33 rfl rfl (fun w36 hS37 => ?_))
  refine DM.done hsk13 (by kernel_rfl) ?_
  refine WP.drawnM 8192 mixed 14 (by kernel_rfl) (by kernel_rfl) [([], 16383), ([0], 16382), ([1], 16381), ([2], 16379), ([], 16383), ([4], 16367), ([3, 5], 16343), ([6], 16319), ([7], 16255), ([], 16383), ([9], 15871), ([], 16383), ([8, 10, 0, 1, 2, 3, 4, 5, 6, 7, 8, 9, 10, 11], 15103), ([12, 11, 0, 1, 2, 3, 4, 5, 6, 7, 8, 9, 10, 11], 10239)] (by kernel_rfl) hS37.ext (fun hsk38 => ?_)
  have hS39 := hS37.step (Ext.draw _)
  refine DM.run (fuel := 9) ttok hsk38 [0, 1, 2, 4, 9] 535 (by kernel_rfl) (by kernel_rfl) rfl ?_
  refine DM.weak [(4, .pointer (some ⟨g3, 0, none⟩)), (21, .pointer (some ⟨g0_, 0, none⟩)), (23, .pointer (some ⟨g7, 0, none⟩)), (28, .pointer (some ⟨g7, 1, none⟩))] ⟨rfl, rfl, rfl, rfl, trivial⟩ ?_
  refine DM.load1 ttok hsk38 3 543 (by kernel_rfl) (by kernel_rfl) (by kernel_rfl) (by kernel_rfl) rfl (by kernel_rfl) rfl rfl rfl rfl rfl ((hS37.bring 5 rfl).box) 0 rfl rfl rfl rfl ?_
  refine DM.load1 ttok hsk38 5 575 (by kernel_rfl) (by kernel_rfl) (by kernel_rfl) (by kernel_rfl) rfl (by kernel_rfl) rfl rfl rfl rfl rfl ((hS37.bring 3 rfl).box) 0 rfl rfl rfl rfl ?_
  have hn40 := (hS37.bring 0 rfl).lenEq
  have hS41 := (hS37.bring 0 rfl).reLen hn40
  have hS42 := (hS41.bring 2 rfl).reHole (es' := [.int .i64 x16.Kind, .int .i64 x16.Level, .int .i64 x16.Value, .slice A24 x16.Data.length k25, .slice A26 (x16.Ports.set x1.Slot.toNat x2).length k27]) (by show ([.int .i64 x16.Kind, .int .i64 x16.Level, .int .i64 x16.Value, .slice A24 x16.Data.length k25, .slice A26 x16.Ports.length k27] : List Value) = [.int .i64 x16.Kind, .int .i64 x16.Level, .int .i64 x16.Value, .slice A24 x16.Data.length k25, .slice A26 (x16.Ports.set x1.Slot.toNat x2).length k27]; simp only [hn40])
  have hS43 := hS42.bring 1 rfl
  have hS44 := hS43.bring 2 rfl
  have hS45 := ty112_shutS (c := (⟨x16.Kind, x16.Level, x16.Value, x16.Data, (x16.Ports.set x1.Slot.toNat x2)⟩ : D.Agent)) (B := _) hS44
  have hS46 := hS45.bring 1 rfl
  have hS47 := St.unfocusN hS46
  have hS48 := hS47.step (Ext.draw _)
  have hS49 := hS47.bring 0 rfl
  obtain ⟨x50, hx51, hm⟩ := bind_some hm
  refine DM.focus ttok hS49 hsk38 6 639 (by kernel_rfl) (by kernel_rfl) rfl (by kernel_rfl) rfl rfl rfl rfl rfl rfl rfl rfl (idx_some hx51).1 (idx_some hx51).2 rfl rfl (fun q52 es53 hq54 hS55 => ?_)
  obtain ⟨A58, k59, A60, k61, e57, hS56⟩ := ty112_openS (hS55.bring 1 rfl); subst e57
  have hS62 := hS56.step (Ext.draw _)
  refine DM.run (fuel := 5) ttok hsk38 [7] 767 (by kernel_rfl) (by kernel_rfl) rfl ?_
  refine DM.load1 ttok hsk38 8 1023 (by kernel_rfl) (by kernel_rfl) (by kernel_rfl) (by kernel_rfl) rfl (by kernel_rfl) rfl rfl rfl rfl rfl ((hS56.bring 2 rfl).hole_atN hq54) 4 rfl rfl rfl rfl ?_
  refine DM.load1 ttok hsk38 10 2047 (by kernel_rfl) (by kernel_rfl) (by kernel_rfl) (by kernel_rfl) rfl (by kernel_rfl) rfl rfl rfl rfl rfl ((hS56.bring 3 rfl).box) 1 rfl rfl rfl rfl ?_
  refine DM.loadN ttok hsk38 11 4095 (by kernel_rfl) (by kernel_rfl) (by kernel_rfl) (by kernel_rfl) rfl (by kernel_rfl) rfl rfl rfl rfl rfl ((hS56.bring 4 rfl).box) rfl rfl rfl ?_
  have hS63 := hS62.bring 1 rfl
  by_cases hk65 : decide (0 ≤ x2.Slot ∧ x2.Slot.toNat < x50.Ports.length) = true
  case neg => rw [if_neg hk65] at hm; cases hm
  rw [if_pos hk65] at hm
  have hb66 := of_decide_eq_true hk65
  refine DM.idxOwnN ttok hS63 hsk38 12 8191 (by kernel_rfl) (by kernel_rfl) rfl (by kernel_rfl) rfl rfl rfl rfl rfl rfl rfl rfl hb66.1 hb66.2 rfl rfl (fun q67 hq68 => ?_)
  have hS69 := ty38_shutS (c := x1) (B := _) hS62
  have hS70 := hS69.bring 2 rfl
  refine DM.one hsk38 13 (by kernel_rfl) (LM.storeElN ttok hS70 hsk38 16383 (by kernel_rfl) (by kernel_rfl) rfl rfl rfl rfl rfl rfl rfl hb66.2 hq68 rfl rfl (fun w71 hS72 => ?_))
  refine DM.done hsk38 (by kernel_rfl) ?_
  have hn73 := (hS72.bring 0 rfl).lenEq
  have hS74 := (hS72.bring 0 rfl).reLen hn73
  have hS75 := (hS74.bring 2 rfl).reHole (es' := [.int .i64 x50.Kind, .int .i64 x50.Level, .int .i64 x50.Value, .slice A58 x50.Data.length k59, .slice A60 (x50.Ports.set x2.Slot.toNat x1).length k61]) (by show ([.int .i64 x50.Kind, .int .i64 x50.Level, .int .i64 x50.Value, .slice A58 x50.Data.length k59, .slice A60 x50.Ports.length k61] : List Value) = [.int .i64 x50.Kind, .int .i64 x50.Level, .int .i64 x50.Value, .slice A58 x50.Data.length k59, .slice A60 (x50.Ports.set x2.Slot.toNat x1).length k61]; simp only [hn73])
  have h76 := (show ty110.ro _ [.slice A60 x50.Ports.length k61] (x50.Ports.set x2.Slot.toNat x1) from (Eq.symm hn73) ▸ ((hS75.bring 1 rfl).own))
  have hS77 := hS75.bring 1 rfl
  have hS78 := hS77.bring 2 rfl
  have hS79 := ty112_shutS (c := (⟨x50.Kind, x50.Level, x50.Value, x50.Data, (x50.Ports.set x2.Slot.toNat x1)⟩ : D.Agent)) (B := _) hS78
  have hS80 := hS79.bring 1 rfl
  have hS81 := St.unfocusN hS80
  cases hm
  have hn82 := (hS81.bring 0 rfl).lenEq
  have hS83 := (hS81.bring 0 rfl).reLen hn82
  have hS84 := (hS83.bring 3 rfl).reBox (cs' := [.slice A0_0 ((x0.Agents.set x1.Agent.toNat (⟨x16.Kind, x16.Level, x16.Value, x16.Data, (x16.Ports.set x1.Slot.toNat x2)⟩ : D.Agent)).set x2.Agent.toNat (⟨x50.Kind, x50.Level, x50.Value, x50.Data, (x50.Ports.set x2.Slot.toNat x1)⟩ : D.Agent)).length k0_0]) (by show ([.slice A0_0 x0.Agents.length k0_0] : List Value) = [.slice A0_0 ((x0.Agents.set x1.Agent.toNat (⟨x16.Kind, x16.Level, x16.Value, x16.Data, (x16.Ports.set x1.Slot.toNat x2)⟩ : D.Agent)).set x2.Agent.toNat (⟨x50.Kind, x50.Level, x50.Value, x50.Data, (x50.Ports.set x2.Slot.toNat x1)⟩ : D.Agent)).length k0_0]; simp only [hn82])
  exact ⟨_, .nil, A0_0, k0_0, rfl, ((hS84.bring 2 rfl).drop.bring 2 rfl).drop⟩

theorem enters17 : Enters Try.prog 17 := ⟨_, _, Try.func17, rfl, by kernel_rfl⟩
def m_impl_ExchangePorts_j4 (fuel : Nat) (t73 : (List D.Agent)) : Option (D.Net × Int) := some ((⟨t73⟩ : D.Net), 0)
def m_impl_ExchangePorts_j3 (fuel : Nat) (x1 : D.Port) (x2 : D.Port) (r45 : D.Net) (t61 : (Int × Int) × (Int × Int)) (t68 : Bool) : Option (D.Net × Int) := (if t68 = true then ((m_impl_Net_link fuel (⟨r45.Agents⟩ : D.Net) x1 (⟨t61.2.1, t61.2.2⟩ : D.Port)).bind fun r82 => ((m_impl_Net_link fuel (⟨r82.Agents⟩ : D.Net) x2 (⟨t61.1.1, t61.1.2⟩ : D.Port)).bind fun r90 => m_impl_ExchangePorts_j4 fuel r90.Agents)) else m_impl_ExchangePorts_j4 fuel r45.Agents)
def m_impl_ExchangePorts_j2 (fuel : Nat) (x1 : D.Port) (x2 : D.Port) (r45 : D.Net) (t61 : (Int × Int) × (Int × Int)) : Option (D.Net × Int) := (if (!(((x1.Agent : Int) == x2.Agent) && (((x1.Slot : Int) == x2.Slot) && true))) = true then m_impl_ExchangePorts_j3 fuel x1 x2 r45 t61 (!(((t61.1.1 : Int) == x2.Agent) && (((t61.1.2 : Int) == x2.Slot) && true))) else m_impl_ExchangePorts_j3 fuel x1 x2 r45 t61 false)
def m_impl_ExchangePorts_j1 (fuel : Nat) (x0 : D.Net) (x1 : D.Port) (x2 : D.Port) (t36 : Bool) : Option (D.Net × Int) := (if t36 = true then some ((⟨[]⟩ : D.Net), 2) else ((m_impl_copyNet fuel x0).bind fun r45 => ((m_impl_Net_peer fuel x0 x1).bind fun r101 => ((m_impl_Net_peer fuel x0 x2).bind fun r108 => m_impl_ExchangePorts_j2 fuel x1 x2 r45 ((r101.Agent, r101.Slot), (r108.Agent, r108.Slot))))))
def m_impl_ExchangePorts (fuel : Nat) (x0 : D.Net) (x1 : D.Port) (x2 : D.Port) : Option (D.Net × Int) := ((m_impl_ValidNet fuel x0).bind fun r25 => (if (!r25) = true then some ((⟨[]⟩ : D.Net), 1) else ((m_impl_hasPort fuel x0.Agents x1).bind fun r909 => (if (!r909) = true then m_impl_ExchangePorts_j1 fuel x0 x1 x2 true else ((m_impl_hasPort fuel x0.Agents x2).bind fun r917 => m_impl_ExchangePorts_j1 fuel x0 x1 x2 (!r917))))))

set_option maxRecDepth 100000 in
theorem impl_ExchangePorts_ok {W w : World} (hE : Ext W w) {c0_ : List Value} {x0 : D.Net} {c1_ : List Value} {x1 : D.Port} {c2_ : List Value} {x2 : D.Port} (h0_ : ty30.ro W c0_ x0) (h1_ : ty38.ro W c1_ x1) (h2_ : ty38.ro W c2_ x2) {fuel : Nat} {r : D.Net × Int} (hm : m_impl_ExchangePorts fuel x0 x1 x2 = some r) :
    Calls Try.prog 17 ⟨[.agg ⟨c0_⟩, .agg ⟨c1_⟩, .agg ⟨c2_⟩]⟩ w (Ret fun v w8 => ∃ A0 k0, v = .tuple ⟨[.agg ⟨[.slice A0 r.1.Agents.length k0]⟩, .int .i64 r.2]⟩ ∧ St w w8 [Own ty28 [.slice A0 r.1.Agents.length k0] r.1.Agents]) := by
  obtain ⟨A1, k2, e4, h3⟩ := ty30_open h0_; subst e4
  have e5 := ty38_open h1_; subst e5
  have e6 := ty38_open h2_; subst e6
  refine Calls.into Try.func17 rfl 49 rfl rfl _ rfl ?_
  unfold m_impl_ExchangePorts at hm
  have hS := St.start w
  refine WP.seq ?_
  refine WP.region ?_
  refine RW.new ttok hS rfl rfl rfl rfl (fun g7 w10 e11 hS12 => ?_)
  refine RW.new ttok hS12 rfl rfl rfl rfl (fun g13 w14 e15 hS16 => ?_)
  refine RW.new ttok hS16 rfl rfl rfl rfl (fun g17 w18 e19 hS20 => ?_)
  refine RW.new ttok hS20 rfl rfl rfl rfl (fun g21 w22 e23 hS24 => ?_)
  refine RW.run ttok 1 rfl ?_
  refine RW.nil ?_
  refine WP.seq ?_
  refine WP.seq ?_
  refine WP.region ?_
  refine RW.loadN ttok rfl rfl rfl rfl rfl ((hS24.bring 3 rfl).box) rfl rfl rfl ?_
  obtain ⟨r25, hx26, hm⟩ := bind_some hm
  refine RW.call rfl rfl rfl enters48 (impl_ValidNet_ok (hE.trans hS24.ext) h0_ hx26) (fun v27 w28 hR29 => ?_)
  obtain ⟨rfl, hR30⟩ := hR29
  have hS31 := hS24.join hR30
  refine RW.run ttok 1 rfl ?_
  refine RW.nil ?_
  refine WP.cond (!r25) rfl (fun hc => ?_) (fun hc => ?_)
  · skip
    rw [if_pos hc] at hm
    refine WP.seq ?_
    refine WP.region ?_
    refine RW.quiet rfl (Quiet.build ttok rfl rfl rfl rfl rfl) rfl rfl ?_
    have hS32 := hS31.bring 0 rfl
    refine RW.store ttok (A := []) hS32 rfl rfl rfl rfl rfl 0 rfl rfl rfl rfl rfl (fun w33 hS34 => ?_)
    refine RW.run ttok 1 rfl ?_
    refine RW.nil ?_
    refine WP.ret ?_
    cases hm
    have hS35 := hS34.nilSl ty112 112
    exact ⟨_, .cons (ResIs.agg ttok rfl rfl rfl ((hS34.bring 0 rfl).box) rfl) (.cons (.tmp rfl) .nil), none, 0, rfl, (hS35.taken 1)⟩
  · skip
    rw [if_neg (not_t hc)] at hm
    refine WP.skip ?_
    refine WP.seq ?_
    refine WP.seq ?_
    refine WP.cut (fun (t36 : Bool) F w9 => m_impl_ExchangePorts_j1 fuel x0 x1 x2 t36 = some r ∧ Ext w28 w9 ∧ St w w9 [Box g21 [.slice none 0 0] 30, Box g17 [.int .i64 x2.Agent, .int .i64 x2.Slot] 38, Box g13 [.int .i64 x1.Agent, .int .i64 x1.Slot] 38, Box g7 [.slice A1 x0.Agents.length k2] 30] ∧ F = [(3, .pointer (some ⟨g7, 0, none⟩)), (4, .pointer (some ⟨g13, 0, none⟩)), (5, .pointer (some ⟨g17, 0, none⟩)), (6, .pointer (some ⟨g21, 0, none⟩)), (26, .bool t36)]) ?_ ?_
    · skip
      rintro t36 F w39 ⟨hm, hE37, hS38, rfl⟩
      unfold m_impl_ExchangePorts_j1 at hm
      refine WP.cond t36 rfl (fun hc => ?_) (fun hc => ?_)
      · skip
        rw [if_pos hc] at hm
        refine WP.seq ?_
        refine WP.region ?_
        refine RW.quiet rfl (Quiet.build ttok rfl rfl rfl rfl rfl) rfl rfl ?_
        have hS41 := hS38.bring 0 rfl
        refine RW.store ttok (A := []) hS41 rfl rfl rfl rfl rfl 0 rfl rfl rfl rfl rfl (fun w42 hS43 => ?_)
        refine RW.run ttok 1 rfl ?_
        refine RW.nil ?_
        refine WP.ret ?_
        cases hm
        have hS44 := hS43.nilSl ty112 112
        exact ⟨_, .cons (ResIs.agg ttok rfl rfl rfl ((hS43.bring 0 rfl).box) rfl) (.cons (.tmp rfl) .nil), none, 0, rfl, (hS44.taken 1)⟩
      · skip
        rw [if_neg (not_t hc)] at hm
        refine WP.skip ?_
        refine WP.seq ?_
        refine WP.region ?_
        refine RW.loadN ttok rfl rfl rfl rfl rfl ((hS38.bring 3 rfl).box) rfl rfl rfl ?_
        obtain ⟨r45, hx46, hm⟩ := bind_some hm
        refine RW.call rfl rfl rfl enters55 (impl_copyNet_ok (hE.trans hS38.ext) h0_ hx46) (fun v47 w48 hR49 => ?_)
        obtain ⟨A50, k51, rfl, hR52⟩ := hR49
        have hS53 := hS38.join hR52
        refine RW.new ttok hS53 rfl rfl rfl rfl (fun g54 w55 e56 hS57 => ?_)
        have hS58 := hS57.bring 0 rfl
        refine RW.store ttok (A := []) hS58 rfl rfl rfl rfl rfl 0 rfl rfl rfl rfl rfl (fun w59 hS60 => ?_)
        refine RW.nil ?_
        refine WP.seq ?_
        refine WP.seq ?_
        refine WP.cut (fun (t61 : (Int × Int) × (Int × Int)) F w9 => ∃ g62 g63, m_impl_ExchangePorts_j2 fuel x1 x2 r45 t61 = some r ∧ St w w9 [Box g62 [.int .i64 t61.1.1, .int .i64 t61.1.2] 38, Box g63 [.int .i64 t61.2.1, .int .i64 t61.2.2] 38, Box g54 [.slice A50 r45.Agents.length k51] 30, Own ty28 [.slice A50 r45.Agents.length k51] r45.Agents, Box g21 [.slice none 0 0] 30, Box g17 [.int .i64 x2.Agent, .int .i64 x2.Slot] 38, Box g13 [.int .i64 x1.Agent, .int .i64 x1.Slot] 38, Box g7 [.slice A1 x0.Agents.length k2] 30] ∧ F = [(4, .pointer (some ⟨g13, 0, none⟩)), (5, .pointer (some ⟨g17, 0, none⟩)), (6, .pointer (some ⟨g21, 0, none⟩)), (8, .pointer (some ⟨g54, 0, none⟩)), (9, .pointer (some ⟨g62, 0, none⟩)), (10, .pointer (some ⟨g63, 0, none⟩))]) ?_ ?_
        · skip
          rintro t61 F w66 ⟨g62, g63, hm, hS65, rfl⟩
          unfold m_impl_ExchangePorts_j2 at hm
          refine WP.seq ?_
          refine WP.cut (fun (t68 : Bool) F w9 => m_impl_ExchangePorts_j3 fuel x1 x2 r45 t61 t68 = some r ∧ Ext w66 w9 ∧ St w w9 [Box g62 [.int .i64 t61.1.1, .int .i64 t61.1.2] 38, Box g63 [.int .i64 t61.2.1, .int .i64 t61.2.2] 38, Box g54 [.slice A50 r45.Agents.length k51] 30, Own ty28 [.slice A50 r45.Agents.length k51] r45.Agents, Box g21 [.slice none 0 0] 30, Box g17 [.int .i64 x2.Agent, .int .i64 x2.Slot] 38, Box g13 [.int .i64 x1.Agent, .int .i64 x1.Slot] 38, Box g7 [.slice A1 x0.Agents.length k2] 30] ∧ F = [(4, .pointer (some ⟨g13, 0, none⟩)), (5, .pointer (some ⟨g17, 0, none⟩)), (6, .pointer (some ⟨g21, 0, none⟩)), (8, .pointer (some ⟨g54, 0, none⟩)), (9, .pointer (some ⟨g62, 0, none⟩)), (10, .pointer (some ⟨g63, 0, none⟩)), (41, .bool t68)]) ?_ ?_
          · skip
            rintro t68 F w71 ⟨hm, hE69, hS70, rfl⟩
            unfold m_impl_ExchangePorts_j3 at hm
            refine WP.cut (fun (t73 : (List D.Agent)) F w9 => ∃ A74 k75, m_impl_ExchangePorts_j4 fuel t73 = some r ∧ St w w9 [Box g62 [.int .i64 t61.1.1, .int .i64 t61.1.2] 38, Box g63 [.int .i64 t61.2.1, .int .i64 t61.2.2] 38, Box g54 [.slice A74 t73.length k75] 30, Own ty28 [.slice A74 t73.length k75] t73, Box g21 [.slice none 0 0] 30, Box g17 [.int .i64 x2.Agent, .int .i64 x2.Slot] 38, Box g13 [.int .i64 x1.Agent, .int .i64 x1.Slot] 38, Box g7 [.slice A1 x0.Agents.length k2] 30] ∧ F = [(6, .pointer (some ⟨g21, 0, none⟩)), (8, .pointer (some ⟨g54, 0, none⟩))]) ?_ ?_
            · skip
              rintro t73 F w77 ⟨A74, k75, hm, hS76, rfl⟩
              unfold m_impl_ExchangePorts_j4 at hm
              refine WP.seq ?_
              refine WP.region ?_
              refine RW.loadN ttok rfl rfl rfl rfl rfl ((hS76.bring 2 rfl).box) rfl rfl rfl ?_
              have hS79 := hS76.bring 4 rfl
              refine RW.store ttok (A := []) hS79 rfl rfl rfl rfl rfl 0 rfl rfl rfl rfl rfl (fun w80 hS81 => ?_)
              refine RW.run ttok 1 rfl ?_
              refine RW.nil ?_
              refine WP.ret ?_
              cases hm
              exact ⟨_, .cons (ResIs.agg ttok rfl rfl rfl ((hS81.bring 0 rfl).box) rfl) (.cons (.tmp rfl) .nil), A74, k75, rfl, ((hS81.bring 4 rfl).taken 1)⟩
            · skip
              refine WP.cond t68 rfl (fun hc => ?_) (fun hc => ?_)
              · skip
                rw [if_pos hc] at hm
                refine WP.seq ?_
                refine WP.region ?_
                refine RW.loadN ttok rfl rfl rfl rfl rfl ((hS70.bring 6 rfl).box) rfl rfl rfl ?_
                refine RW.loadN ttok rfl rfl rfl rfl rfl ((hS70.bring 1 rfl).box) rfl rfl rfl ?_
                obtain ⟨r82, hx83, hm⟩ := bind_some hm
                refine RW.call rfl rfl rfl enters57 (impl_Net_link_ok (W := w) (RR := _) (x0 := (⟨r45.Agents⟩ : D.Net)) (x1 := x1) (x2 := (⟨t61.2.1, t61.2.2⟩ : D.Port)) ((hS70.bring 3 rfl).bring 3 rfl) (ty38.ext hE h1_) (ty38.ext hE (ty38_shut (⟨t61.2.1, t61.2.2⟩ : D.Port))) hx83) (fun v84 w85 hR86 => ?_)
                obtain ⟨A87, k88, rfl, hS89⟩ := hR86
                refine RW.nil ?_
                refine WP.region ?_
                refine RW.loadN ttok rfl rfl rfl rfl rfl ((hS89.bring 5 rfl).box) rfl rfl rfl ?_
                refine RW.loadN ttok rfl rfl rfl rfl rfl ((hS89.bring 2 rfl).box) rfl rfl rfl ?_
                obtain ⟨r90, hx91, hm⟩ := bind_some hm
                refine RW.call rfl rfl rfl enters57 (impl_Net_link_ok (W := w) (RR := _) (x0 := (⟨r82.Agents⟩ : D.Net)) (x1 := x2) (x2 := (⟨t61.1.1, t61.1.2⟩ : D.Port)) hS89 (ty38.ext hE h2_) (ty38.ext hE (ty38_shut (⟨t61.1.1, t61.1.2⟩ : D.Port))) hx91) (fun v92 w93 hR94 => ?_)
                obtain ⟨A95, k96, rfl, hS97⟩ := hR94
                refine RW.nil ?_
                exact ⟨r90.Agents, [(6, .pointer (some ⟨g21, 0, none⟩)), (8, .pointer (some ⟨g54, 0, none⟩))], ⟨rfl, rfl, trivial⟩, A95, k96, hm, ((((hS97.bring 1 rfl).bring 1 rfl).bring 3 rfl).bring 3 rfl), rfl⟩
              · skip
                rw [if_neg (not_t hc)] at hm
                refine WP.skip ?_
                exact ⟨r45.Agents, [(6, .pointer (some ⟨g21, 0, none⟩)), (8, .pointer (some ⟨g54, 0, none⟩))], ⟨rfl, rfl, trivial⟩, A50, k51, hm, hS70, rfl⟩
          · skip
            refine WP.region ?_
            refine RW.loadN ttok rfl rfl rfl rfl rfl ((hS65.bring 6 rfl).box) rfl rfl rfl ?_
            refine RW.loadN ttok rfl rfl rfl rfl rfl ((hS65.bring 5 rfl).box) rfl rfl rfl ?_
            refine RW.run ttok 2 rfl ?_
            by_cases hg98 : (!(((x1.Agent : Int) == x2.Agent) && (((x1.Slot : Int) == x2.Slot) && true))) = true
            · skip
              rw [if_pos hg98] at hm
              refine RW.know 37 rfl (congrArg Value.bool hg98) ?_
              refine RW.loadN ttok rfl rfl rfl rfl rfl ((hS65.bring 0 rfl).box) rfl rfl rfl ?_
              refine RW.loadN ttok rfl rfl rfl rfl rfl ((hS65.bring 5 rfl).box) rfl rfl rfl ?_
              refine RW.run ttok 2 rfl ?_
              refine RW.nil ?_
              exact ⟨!(((t61.1.1 : Int) == x2.Agent) && (((t61.1.2 : Int) == x2.Slot) && true)), [(4, .pointer (some ⟨g13, 0, none⟩)), (5, .pointer (some ⟨g17, 0, none⟩)), (6, .pointer (some ⟨g21, 0, none⟩)), (8, .pointer (some ⟨g54, 0, none⟩)), (9, .pointer (some ⟨g62, 0, none⟩)), (10, .pointer (some ⟨g63, 0, none⟩)), (41, .bool (!(((t61.1.1 : Int) == x2.Agent) && (((t61.1.2 : Int) == x2.Slot) && true))))], ⟨rfl, rfl, rfl, rfl, rfl, rfl, rfl, trivial⟩, hm, (Ext.refl _), hS65, rfl⟩
            · skip
              rw [if_neg hg98] at hm
              refine RW.know 37 rfl (congrArg Value.bool (Bool.eq_false_iff.2 hg98)) ?_
              refine RW.run ttok 4 rfl ?_
              refine RW.nil ?_
              exact ⟨false, [(4, .pointer (some ⟨g13, 0, none⟩)), (5, .pointer (some ⟨g17, 0, none⟩)), (6, .pointer (some ⟨g21, 0, none⟩)), (8, .pointer (some ⟨g54, 0, none⟩)), (9, .pointer (some ⟨g62, 0, none⟩)), (10, .pointer (some ⟨g63, 0, none⟩)), (41, .bool false)], ⟨rfl, rfl, rfl, rfl, rfl, rfl, rfl, trivial⟩, hm, (Ext.refl _), hS65, rfl⟩
        · skip
          refine WP.drawnM 192 mixed 8 (by kernel_rfl) (by kernel_rfl) [([], 255), ([0], 254), ([], 255), ([2, 1], 251), ([], 255), ([], 255), ([4, 1, 3, 0, 1, 4, 5], 237), ([5, 3, 6, 0, 1, 2, 3, 4, 5, 6], 215)] (by kernel_rfl) hS60.ext (fun hsk99 => ?_)
          have hS100 := hS60.step (Ext.draw _)
          refine DM.loadN ttok hsk99 0 1 (by kernel_rfl) (by kernel_rfl) (by kernel_rfl) (by kernel_rfl) rfl (by kernel_rfl) rfl rfl rfl rfl rfl ((hS60.bring 4 rfl).box) rfl rfl rfl ?_
          obtain ⟨r101, hx102, hm⟩ := bind_some hm
          obtain ⟨r108, hx109, hm⟩ := bind_some hm
          refine DM.all hsk99 [1, 2, 4, 5] (by kernel_rfl) (by simp) ?_
          intro i129 hi130
          simp only [List.mem_cons, List.not_mem_nil, or_false] at hi130
          rcases hi130 with rfl | rfl | rfl | rfl
          · skip
            refine LM.call hsk99 3 (by kernel_rfl) (by kernel_rfl) rfl rfl rfl rfl enters56 (impl_Net_peer_ok (Ext.refl _) (ty30.ext (hE.trans hS100.ext) h0_) ((hS100.bring 5 rfl).box) (ty38.ext (hE.trans hS100.ext) h1_) hx102) (fun v131 w132 hR133 => ?_)
            obtain ⟨rfl, hR134⟩ := hR133
            refine ⟨hR134.ext, ?_⟩
            have hS135 := hS100.join hR134
            refine DM.all hsk99 [2, 4, 5] (by kernel_rfl) (by simp) ?_
            intro i136 hi137
            simp only [List.mem_cons, List.not_mem_nil, or_false] at hi137
            rcases hi137 with rfl | rfl | rfl
            · skip
              refine LM.quietL hsk99 7 (by kernel_rfl) (by kernel_rfl) rfl rfl (Quiet.loadN ttok rfl rfl rfl rfl ((hS135.bring 3 rfl).box) rfl) rfl rfl ?_
              refine DM.all hsk99 [3, 4, 5] (by kernel_rfl) (by simp) ?_
              intro i138 hi139
              simp only [List.mem_cons, List.not_mem_nil, or_false] at hi139
              rcases hi139 with rfl | rfl | rfl
              · skip
                refine LM.call hsk99 15 (by kernel_rfl) (by kernel_rfl) rfl rfl rfl rfl enters56 (impl_Net_peer_ok (Ext.refl _) (ty30.ext (hE.trans hS135.ext) h0_) ((hS135.bring 5 rfl).box) (ty38.ext (hE.trans hS135.ext) h2_) hx109) (fun v140 w141 hR142 => ?_)
                obtain ⟨rfl, hR143⟩ := hR142
                refine ⟨hR143.ext, ?_⟩
                have hS144 := hS135.join hR143
                refine DM.all hsk99 [4, 5] (by kernel_rfl) (by simp) ?_
                intro i145 hi146
                simp only [List.mem_cons, List.not_mem_nil, or_false] at hi146
                rcases hi146 with rfl | rfl
                · skip
                  refine LM.new ttok hsk99 hS144 31 (by kernel_rfl) (by kernel_rfl) rfl rfl rfl rfl rfl (fun g147 w148 e149 hS150 => ?_)
                  refine DM.one hsk99 5 (by kernel_rfl) (LM.new ttok hsk99 hS150 63 (by kernel_rfl) (by kernel_rfl) rfl rfl rfl rfl rfl (fun g151 w152 e153 hS154 => ?_))
                  have hS155 := hS154.bring 1 rfl
                  refine DM.one hsk99 6 (by kernel_rfl) (LM.store ttok (A := []) hS155 hsk99 127 (by kernel_rfl) (by kernel_rfl) rfl rfl rfl rfl rfl rfl 0 rfl rfl rfl rfl rfl (fun w156 hS157 => ?_))
                  have hS158 := hS157.bring 1 rfl
                  refine DM.one hsk99 7 (by kernel_rfl) (LM.store ttok (A := []) hS158 hsk99 255 (by kernel_rfl) (by kernel_rfl) rfl rfl rfl rfl rfl rfl 0 rfl rfl rfl rfl rfl (fun w159 hS160 => ?_))
                  refine DM.done hsk99 (by kernel_rfl) ?_
                  exact ⟨((r101.Agent, r101.Slot), (r108.Agent, r108.Slot)), [(4, .pointer (some ⟨g13, 0, none⟩)), (5, .pointer (some ⟨g17, 0, none⟩)), (6, .pointer (some ⟨g21, 0, none⟩)), (8, .pointer (some ⟨g54, 0, none⟩)), (9, .pointer (some ⟨g147, 0, none⟩)), (10, .pointer (some ⟨g151, 0, none⟩))], ⟨rfl, rfl, rfl, rfl, rfl, rfl, trivial⟩, g147, g151, hm, ((hS160.bring 0 rfl).bring 1 rfl), rfl⟩
                · skip
                  refine LM.new ttok hsk99 hS144 47 (by kernel_rfl) (by kernel_rfl) rfl rfl rfl rfl rfl (fun g161 w162 e163 hS164 => ?_)
                  refine DM.one hsk99 4 (by kernel_rfl) (LM.new ttok hsk99 hS164 63 (by kernel_rfl) (by kernel_rfl) rfl rfl rfl rfl rfl (fun g165 w166 e167 hS168 => ?_))
                  have hS169 := hS168.bring 0 rfl
                  refine DM.one hsk99 6 (by kernel_rfl) (LM.store ttok (A := []) hS169 hsk99 127 (by kernel_rfl) (by kernel_rfl) rfl rfl rfl rfl rfl rfl 0 rfl rfl rfl rfl rfl (fun w170 hS171 => ?_))
                  have hS172 := hS171.bring 1 rfl
                  refine DM.one hsk99 7 (by kernel_rfl) (LM.store ttok (A := []) hS172 hsk99 255 (by kernel_rfl) (by kernel_rfl) rfl rfl rfl rfl rfl rfl 0 rfl rfl rfl rfl rfl (fun w173 hS174 => ?_))
                  refine DM.done hsk99 (by kernel_rfl) ?_
                  exact ⟨((r101.Agent, r101.Slot), (r108.Agent, r108.Slot)), [(4, .pointer (some ⟨g13, 0, none⟩)), (5, .pointer (some ⟨g17, 0, none⟩)), (6, .pointer (some ⟨g21, 0, none⟩)), (8, .pointer (some ⟨g54, 0, none⟩)), (9, .pointer (some ⟨g165, 0, none⟩)), (10, .pointer (some ⟨g161, 0, none⟩))], ⟨rfl, rfl, rfl, rfl, rfl, rfl, trivial⟩, g165, g161, hm, ((hS174.bring 0 rfl).bring 1 rfl), rfl⟩
              · skip
                refine LM.new ttok hsk99 hS135 23 (by kernel_rfl) (by kernel_rfl) rfl rfl rfl rfl rfl (fun g175 w176 e177 hS178 => ?_)
                refine DM.all hsk99 [3, 5] (by kernel_rfl) (by simp) ?_
                intro i179 hi180
                simp only [List.mem_cons, List.not_mem_nil, or_false] at hi180
                rcases hi180 with rfl | rfl
                · skip
                  refine LM.call hsk99 31 (by kernel_rfl) (by kernel_rfl) rfl rfl rfl rfl enters56 (impl_Net_peer_ok (Ext.refl _) (ty30.ext (hE.trans hS178.ext) h0_) ((hS178.bring 6 rfl).box) (ty38.ext (hE.trans hS178.ext) h2_) hx109) (fun v181 w182 hR183 => ?_)
                  obtain ⟨rfl, hR184⟩ := hR183
                  refine ⟨hR184.ext, ?_⟩
                  have hS185 := hS178.join hR184
                  refine DM.one hsk99 5 (by kernel_rfl) (LM.new ttok hsk99 hS185 63 (by kernel_rfl) (by kernel_rfl) rfl rfl rfl rfl rfl (fun g186 w187 e188 hS189 => ?_))
                  have hS190 := hS189.bring 1 rfl
                  refine DM.one hsk99 6 (by kernel_rfl) (LM.store ttok (A := []) hS190 hsk99 127 (by kernel_rfl) (by kernel_rfl) rfl rfl rfl rfl rfl rfl 0 rfl rfl rfl rfl rfl (fun w191 hS192 => ?_))
                  have hS193 := hS192.bring 1 rfl
                  refine DM.one hsk99 7 (by kernel_rfl) (LM.store ttok (A := []) hS193 hsk99 255 (by kernel_rfl) (by kernel_rfl) rfl rfl rfl rfl rfl rfl 0 rfl rfl rfl rfl rfl (fun w194 hS195 => ?_))
                  refine DM.done hsk99 (by kernel_rfl) ?_
                  exact ⟨((r101.Agent, r101.Slot), (r108.Agent, r108.Slot)), [(4, .pointer (some ⟨g13, 0, none⟩)), (5, .pointer (some ⟨g17, 0, none⟩)), (6, .pointer (some ⟨g21, 0, none⟩)), (8, .pointer (some ⟨g54, 0, none⟩)), (9, .pointer (some ⟨g175, 0, none⟩)), (10, .pointer (some ⟨g186, 0, none⟩))], ⟨rfl, rfl, rfl, rfl, rfl, rfl, trivial⟩, g175, g186, hm, ((hS195.bring 0 rfl).bring 1 rfl), rfl⟩
                · skip
                  refine LM.new ttok hsk99 hS178 55 (by kernel_rfl) (by kernel_rfl) rfl rfl rfl rfl rfl (fun g196 w197 e198 hS199 => ?_)
                  refine DM.one hsk99 3 (by kernel_rfl) (LM.call hsk99 63 (by kernel_rfl) (by kernel_rfl) rfl rfl rfl rfl enters56 (impl_Net_peer_ok (Ext.refl _) (ty30.ext (hE.trans hS199.ext) h0_) ((hS199.bring 7 rfl).box) (ty38.ext (hE.trans hS199.ext) h2_) hx109) (fun v200 w201 hR202 => ?_))
                  obtain ⟨rfl, hR203⟩ := hR202
                  refine ⟨hR203.ext, ?_⟩
                  have hS204 := hS199.join hR203
                  have hS205 := hS204.bring 1 rfl
                  refine DM.one hsk99 6 (by kernel_rfl) (LM.store ttok (A := []) hS205 hsk99 127 (by kernel_rfl) (by kernel_rfl) rfl rfl rfl rfl rfl rfl 0 rfl rfl rfl rfl rfl (fun w206 hS207 => ?_))
                  have hS208 := hS207.bring 1 rfl
                  refine DM.one hsk99 7 (by kernel_rfl) (LM.store ttok (A := []) hS208 hsk99 255 (by kernel_rfl) (by kernel_rfl) rfl rfl rfl rfl rfl rfl 0 rfl rfl rfl rfl rfl (fun w209 hS210 => ?_))
                  refine DM.done hsk99 (by kernel_rfl) ?_
                  exact ⟨((r101.Agent, r101.Slot), (r108.Agent, r108.Slot)), [(4, .pointer (some ⟨g13, 0, none⟩)), (5, .pointer (some ⟨g17, 0, none⟩)), (6, .pointer (some ⟨g21, 0, none⟩)), (8, .pointer (some ⟨g54, 0, none⟩)), (9, .pointer (some ⟨g175, 0, none⟩)), (10, .pointer (some ⟨g196, 0, none⟩))], ⟨rfl, rfl, rfl, rfl, rfl, rfl, trivial⟩, g175, g196, hm, ((hS210.bring 0 rfl).bring 1 rfl), rfl⟩
              · skip
                refine LM.new ttok hsk99 hS135 39 (by kernel_rfl) (by kernel_rfl) rfl rfl rfl rfl rfl (fun g211 w212 e213 hS214 => ?_)
                refine DM.all hsk99 [3, 4] (by kernel_rfl) (by simp) ?_
                intro i215 hi216
                simp only [List.mem_cons, List.not_mem_nil, or_false] at hi216
                rcases hi216 with rfl | rfl
                · skip
                  refine LM.call hsk99 47 (by kernel_rfl) (by kernel_rfl) rfl rfl rfl rfl enters56 (impl_Net_peer_ok (Ext.refl _) (ty30.ext (hE.trans hS214.ext) h0_) ((hS214.bring 6 rfl).box) (ty38.ext (hE.trans hS214.ext) h2_) hx109) (fun v217 w218 hR219 => ?_)
                  obtain ⟨rfl, hR220⟩ := hR219
                  refine ⟨hR220.ext, ?_⟩
                  have hS221 := hS214.join hR220
                  refine DM.one hsk99 4 (by kernel_rfl) (LM.new ttok hsk99 hS221 63 (by kernel_rfl) (by kernel_rfl) rfl rfl rfl rfl rfl (fun g222 w223 e224 hS225 => ?_))
                  have hS226 := hS225.bring 0 rfl
                  refine DM.one hsk99 6 (by kernel_rfl) (LM.store ttok (A := []) hS226 hsk99 127 (by kernel_rfl) (by kernel_rfl) rfl rfl rfl rfl rfl rfl 0 rfl rfl rfl rfl rfl (fun w227 hS228 => ?_))
                  have hS229 := hS228.bring 1 rfl
                  refine DM.one hsk99 7 (by kernel_rfl) (LM.store ttok (A := []) hS229 hsk99 255 (by kernel_rfl) (by kernel_rfl) rfl rfl rfl rfl rfl rfl 0 rfl rfl rfl rfl rfl (fun w230 hS231 => ?_))
                  refine DM.done hsk99 (by kernel_rfl) ?_
                  exact ⟨((r101.Agent, r101.Slot), (r108.Agent, r108.Slot)), [(4, .pointer (some ⟨g13, 0, none⟩)), (5, .pointer (some ⟨g17, 0, none⟩)), (6, .pointer (some ⟨g21, 0, none⟩)), (8, .pointer (some ⟨g54, 0, none⟩)), (9, .pointer (some ⟨g222, 0, none⟩)), (10, .pointer (some ⟨g211, 0, none⟩))], ⟨rfl, rfl, rfl, rfl, rfl, rfl, trivial⟩, g222, g211, hm, ((hS231.bring 0 rfl).bring 1 rfl), rfl⟩
                · skip
                  refine LM.new ttok hsk99 hS214 55 (by kernel_rfl) (by kernel_rfl) rfl rfl rfl rfl rfl (fun g232 w233 e234 hS235 => ?_)
                  refine DM.one hsk99 3 (by kernel_rfl) (LM.call hsk99 63 (by kernel_rfl) (by kernel_rfl) rfl rfl rfl rfl enters56 (impl_Net_peer_ok (Ext.refl _) (ty30.ext (hE.trans hS235.ext) h0_) ((hS235.bring 7 rfl).box) (ty38.ext (hE.trans hS235.ext) h2_) hx109) (fun v236 w237 hR238 => ?_))
                  obtain ⟨rfl, hR239⟩ := hR238
                  refine ⟨hR239.ext, ?_⟩
                  have hS240 := hS235.join hR239
                  have hS241 := hS240.bring 0 rfl
                  refine DM.one hsk99 6 (by kernel_rfl) (LM.store ttok (A := []) hS241 hsk99 127 (by kernel_rfl) (by kernel_rfl) rfl rfl rfl rfl rfl rfl 0 rfl rfl rfl rfl rfl (fun w242 hS243 => ?_))
                  have hS244 := hS243.bring 1 rfl
                  refine DM.one hsk99 7 (by kernel_rfl) (LM.store ttok (A := []) hS244 hsk99 255 (by kernel_rfl) (by kernel_rfl) rfl rfl rfl rfl rfl rfl 0 rfl rfl rfl rfl rfl (fun w245 hS246 => ?_))
                  refine DM.done hsk99 (by kernel_rfl) ?_
                  exact ⟨((r101.Agent, r101.Slot), (r108.Agent, r108.Slot)), [(4, .pointer (some ⟨g13, 0, none⟩)), (5, .pointer (some ⟨g17, 0, none⟩)), (6, .pointer (some ⟨g21, 0, none⟩)), (8, .pointer (some ⟨g54, 0, none⟩)), (9, .pointer (some ⟨g232, 0, none⟩)), (10, .pointer (some ⟨g211, 0, none⟩))], ⟨rfl, rfl, rfl, rfl, rfl, rfl, trivial⟩, g232, g211, hm, ((hS246.bring 0 rfl).bring 1 rfl), rfl⟩
            · skip
              refine LM.new ttok hsk99 hS135 19 (by kernel_rfl) (by kernel_rfl) rfl rfl rfl rfl rfl (fun g247 w248 e249 hS250 => ?_)
              refine DM.all hsk99 [2, 5] (by kernel_rfl) (by simp) ?_
              intro i251 hi252
              simp only [List.mem_cons, List.not_mem_nil, or_false] at hi252
              rcases hi252 with rfl | rfl
              · skip
                refine LM.quietL hsk99 23 (by kernel_rfl) (by kernel_rfl) rfl rfl (Quiet.loadN ttok rfl rfl rfl rfl ((hS250.bring 4 rfl).box) rfl) rfl rfl ?_
                refine DM.all hsk99 [3, 5] (by kernel_rfl) (by simp) ?_
                intro i253 hi254
                simp only [List.mem_cons, List.not_mem_nil, or_false] at hi254
                rcases hi254 with rfl | rfl
                · skip
                  refine LM.call hsk99 31 (by kernel_rfl) (by kernel_rfl) rfl rfl rfl rfl enters56 (impl_Net_peer_ok (Ext.refl _) (ty30.ext (hE.trans hS250.ext) h0_) ((hS250.bring 6 rfl).box) (ty38.ext (hE.trans hS250.ext) h2_) hx109) (fun v255 w256 hR257 => ?_)
                  obtain ⟨rfl, hR258⟩ := hR257
                  refine ⟨hR258.ext, ?_⟩
                  have hS259 := hS250.join hR258
                  refine DM.one hsk99 5 (by kernel_rfl) (LM.new ttok hsk99 hS259 63 (by kernel_rfl) (by kernel_rfl) rfl rfl rfl rfl rfl (fun g260 w261 e262 hS263 => ?_))
                  have hS264 := hS263.bring 1 rfl
                  refine DM.one hsk99 6 (by kernel_rfl) (LM.store ttok (A := []) hS264 hsk99 127 (by kernel_rfl) (by kernel_rfl) rfl rfl rfl rfl rfl rfl 0 rfl rfl rfl rfl rfl (fun w265 hS266 => ?_))
                  have hS267 := hS266.bring 1 rfl
                  refine DM.one hsk99 7 (by kernel_rfl) (LM.store ttok (A := []) hS267 hsk99 255 (by kernel_rfl) (by kernel_rfl) rfl rfl rfl rfl rfl rfl 0 rfl rfl rfl rfl rfl (fun w268 hS269 => ?_))
                  refine DM.done hsk99 (by kernel_rfl) ?_
                  exact ⟨((r101.Agent, r101.Slot), (r108.Agent, r108.Slot)), [(4, .pointer (some ⟨g13, 0, none⟩)), (5, .pointer (some ⟨g17, 0, none⟩)), (6, .pointer (some ⟨g21, 0, none⟩)), (8, .pointer (some ⟨g54, 0, none⟩)), (9, .pointer (some ⟨g247, 0, none⟩)), (10, .pointer (some ⟨g260, 0, none⟩))], ⟨rfl, rfl, rfl, rfl, rfl, rfl, trivial⟩, g247, g260, hm, ((hS269.bring 0 rfl).bring 1 rfl), rfl⟩
                · skip
                  refine LM.new ttok hsk99 hS250 55 (by kernel_rfl) (by kernel_rfl) rfl rfl rfl rfl rfl (fun g270 w271 e272 hS273 => ?_)
                  refine DM.one hsk99 3 (by kernel_rfl) (LM.call hsk99 63 (by kernel_rfl) (by kernel_rfl) rfl rfl rfl rfl enters56 (impl_Net_peer_ok (Ext.refl _) (ty30.ext (hE.trans hS273.ext) h0_) ((hS273.bring 7 rfl).box) (ty38.ext (hE.trans hS273.ext) h2_) hx109) (fun v274 w275 hR276 => ?_))
                  obtain ⟨rfl, hR277⟩ := hR276
                  refine ⟨hR277.ext, ?_⟩
                  have hS278 := hS273.join hR277
                  have hS279 := hS278.bring 1 rfl
                  refine DM.one hsk99 6 (by kernel_rfl) (LM.store ttok (A := []) hS279 hsk99 127 (by kernel_rfl) (by kernel_rfl) rfl rfl rfl rfl rfl rfl 0 rfl rfl rfl rfl rfl (fun w280 hS281 => ?_))
                  have hS282 := hS281.bring 1 rfl
                  refine DM.one hsk99 7 (by kernel_rfl) (LM.store ttok (A := []) hS282 hsk99 255 (by kernel_rfl) (by kernel_rfl) rfl rfl rfl rfl rfl rfl 0 rfl rfl rfl rfl rfl (fun w283 hS284 => ?_))
                  refine DM.done hsk99 (by kernel_rfl) ?_
                  exact ⟨((r101.Agent, r101.Slot), (r108.Agent, r108.Slot)), [(4, .pointer (some ⟨g13, 0, none⟩)), (5, .pointer (some ⟨g17, 0, none⟩)), (6, .pointer (some ⟨g21, 0, none⟩)), (8, .pointer (some ⟨g54, 0, none⟩)), (9, .pointer (some ⟨g247, 0, none⟩)), (10, .pointer (some ⟨g270, 0, none⟩))], ⟨rfl, rfl, rfl, rfl, rfl, rfl, trivial⟩, g247, g270, hm, ((hS284.bring 0 rfl).bring 1 rfl), rfl⟩
              · skip
                refine LM.new ttok hsk99 hS250 51 (by kernel_rfl) (by kernel_rfl) rfl rfl rfl rfl rfl (fun g285 w286 e287 hS288 => ?_)
                refine DM.one hsk99 2 (by kernel_rfl) (LM.quietL hsk99 55 (by kernel_rfl) (by kernel_rfl) rfl rfl (Quiet.loadN ttok rfl rfl rfl rfl ((hS288.bring 5 rfl).box) rfl) rfl rfl ?_)
                refine DM.one hsk99 3 (by kernel_rfl) (LM.call hsk99 63 (by kernel_rfl) (by kernel_rfl) rfl rfl rfl rfl enters56 (impl_Net_peer_ok (Ext.refl _) (ty30.ext (hE.trans hS288.ext) h0_) ((hS288.bring 7 rfl).box) (ty38.ext (hE.trans hS288.ext) h2_) hx109) (fun v289 w290 hR291 => ?_))
                obtain ⟨rfl, hR292⟩ := hR291
                refine ⟨hR292.ext, ?_⟩
                have hS293 := hS288.join hR292
                have hS294 := hS293.bring 1 rfl
                refine DM.one hsk99 6 (by kernel_rfl) (LM.store ttok (A := []) hS294 hsk99 127 (by kernel_rfl) (by kernel_rfl) rfl rfl rfl rfl rfl rfl 0 rfl rfl rfl rfl rfl (fun w295 hS296 => ?_))
                have hS297 := hS296.bring 1 rfl
                refine DM.one hsk99 7 (by kernel_rfl) (LM.store ttok (A := []) hS297 hsk99 255 (by kernel_rfl) (by kernel_rfl) rfl rfl rfl rfl rfl rfl 0 rfl rfl rfl rfl rfl (fun w298 hS299 => ?_))
                refine DM.done hsk99 (by kernel_rfl) ?_
                exact ⟨((r101.Agent, r101.Slot), (r108.Agent, r108.Slot)), [(4, .pointer (some ⟨g13, 0, none⟩)), (5, .pointer (some ⟨g17, 0, none⟩)), (6, .pointer (some ⟨g21, 0, none⟩)), (8, .pointer (some ⟨g54, 0, none⟩)), (9, .pointer (some ⟨g247, 0, none⟩)), (10, .pointer (some ⟨g285, 0, none⟩))], ⟨rfl, rfl, rfl, rfl, rfl, rfl, trivial⟩, g247, g285, hm, ((hS299.bring 0 rfl).bring 1 rfl), rfl⟩
            · skip
              refine LM.new ttok hsk99 hS135 35 (by kernel_rfl) (by kernel_rfl) rfl rfl rfl rfl rfl (fun g300 w301 e302 hS303 => ?_)
              refine DM.all hsk99 [2, 4] (by kernel_rfl) (by simp) ?_
              intro i304 hi305
              simp only [List.mem_cons, List.not_mem_nil, or_false] at hi305
              rcases hi305 with rfl | rfl
              · skip
                refine LM.quietL hsk99 39 (by kernel_rfl) (by kernel_rfl) rfl rfl (Quiet.loadN ttok rfl rfl rfl rfl ((hS303.bring 4 rfl).box) rfl) rfl rfl ?_
                refine DM.all hsk99 [3, 4] (by kernel_rfl) (by simp) ?_
                intro i306 hi307
                simp only [List.mem_cons, List.not_mem_nil, or_false] at hi307
                rcases hi307 with rfl | rfl
                · skip
                  refine LM.call hsk99 47 (by kernel_rfl) (by kernel_rfl) rfl rfl rfl rfl enters56 (impl_Net_peer_ok (Ext.refl _) (ty30.ext (hE.trans hS303.ext) h0_) ((hS303.bring 6 rfl).box) (ty38.ext (hE.trans hS303.ext) h2_) hx109) (fun v308 w309 hR310 => ?_)
                  obtain ⟨rfl, hR311⟩ := hR310
                  refine ⟨hR311.ext, ?_⟩
                  have hS312 := hS303.join hR311
                  refine DM.one hsk99 4 (by kernel_rfl) (LM.new ttok hsk99 hS312 63 (by kernel_rfl) (by kernel_rfl) rfl rfl rfl rfl rfl (fun g313 w314 e315 hS316 => ?_))
                  have hS317 := hS316.bring 0 rfl
                  refine DM.one hsk99 6 (by kernel_rfl) (LM.store ttok (A := []) hS317 hsk99 127 (by kernel_rfl) (by kernel_rfl) rfl rfl rfl rfl rfl rfl 0 rfl rfl rfl rfl rfl (fun w318 hS319 => ?_))
                  have hS320 := hS319.bring 1 rfl
                  refine DM.one hsk99 7 (by kernel_rfl) (LM.store ttok (A := []) hS320 hsk99 255 (by kernel_rfl) (by kernel_rfl) rfl rfl rfl rfl rfl rfl 0 rfl rfl rfl rfl rfl (fun w321 hS322 => ?_))
                  refine DM.done hsk99 (by kernel_rfl) ?_
                  exact ⟨((r101.Agent, r101.Slot), (r108.Agent, r108.Slot)), [(4, .pointer (some ⟨g13, 0, none⟩)), (5, .pointer (some ⟨g17, 0, none⟩)), (6, .pointer (some ⟨g21, 0, none⟩)), (8, .pointer (some ⟨g54, 0, none⟩)), (9, .pointer (some ⟨g313, 0, none⟩)), (10, .pointer (some ⟨g300, 0, none⟩))], ⟨rfl, rfl, rfl, rfl, rfl, rfl, trivial⟩, g313, g300, hm, ((hS322.bring 0 rfl).bring 1 rfl), rfl⟩
                · skip
                  refine LM.new ttok hsk99 hS303 55 (by kernel_rfl) (by kernel_rfl) rfl rfl rfl rfl rfl (fun g323 w324 e325 hS326 => ?_)
                  refine DM.one hsk99 3 (by kernel_rfl) (LM.call hsk99 63 (by kernel_rfl) (by kernel_rfl) rfl rfl rfl rfl enters56 (impl_Net_peer_ok (Ext.refl _) (ty30.ext (hE.trans hS326.ext) h0_) ((hS326.bring 7 rfl).box) (ty38.ext (hE.trans hS326.ext) h2_) hx109) (fun v327 w328 hR329 => ?_))
                  obtain ⟨rfl, hR330⟩ := hR329
                  refine ⟨hR330.ext, ?_⟩
                  have hS331 := hS326.join hR330
                  have hS332 := hS331.bring 0 rfl
                  refine DM.one hsk99 6 (by kernel_rfl) (LM.store ttok (A := []) hS332 hsk99 127 (by kernel_rfl) (by kernel_rfl) rfl rfl rfl rfl rfl rfl 0 rfl rfl rfl rfl rfl (fun w333 hS334 => ?_))
                  have hS335 := hS334.bring 1 rfl
                  refine DM.one hsk99 7 (by kernel_rfl) (LM.store ttok (A := []) hS335 hsk99 255 (by kernel_rfl) (by kernel_rfl) rfl rfl rfl rfl rfl rfl 0 rfl rfl rfl rfl rfl (fun w336 hS337 => ?_))
                  refine DM.done hsk99 (by kernel_rfl) ?_
                  exact ⟨((r101.Agent, r101.Slot), (r108.Agent, r108.Slot)), [(4, .pointer (some ⟨g13, 0, none⟩)), (5, .pointer (some ⟨g17, 0, none⟩)), (6, .pointer (some ⟨g21, 0, none⟩)), (8, .pointer (some ⟨g54, 0, none⟩)), (9, .pointer (some ⟨g323, 0, none⟩)), (10, .pointer (some ⟨g300, 0, none⟩))], ⟨rfl, rfl, rfl, rfl, rfl, rfl, trivial⟩, g323, g300, hm, ((hS337.bring 0 rfl).bring 1 rfl), rfl⟩
              · skip
                refine LM.new ttok hsk99 hS303 51 (by kernel_rfl) (by kernel_rfl) rfl rfl rfl rfl rfl (fun g338 w339 e340 hS341 => ?_)
                refine DM.one hsk99 2 (by kernel_rfl) (LM.quietL hsk99 55 (by kernel_rfl) (by kernel_rfl) rfl rfl (Quiet.loadN ttok rfl rfl rfl rfl ((hS341.bring 5 rfl).box) rfl) rfl rfl ?_)
                refine DM.one hsk99 3 (by kernel_rfl) (LM.call hsk99 63 (by kernel_rfl) (by kernel_rfl) rfl rfl rfl rfl enters56 (impl_Net_peer_ok (Ext.refl _) (ty30.ext (hE.trans hS341.ext) h0_) ((hS341.bring 7 rfl).box) (ty38.ext (hE.trans hS341.ext) h2_) hx109) (fun v342 w343 hR344 => ?_))
                obtain ⟨rfl, hR345⟩ := hR344
                refine ⟨hR345.ext, ?_⟩
                have hS346 := hS341.join hR345
                have hS347 := hS346.bring 0 rfl
                refine DM.one hsk99 6 (by kernel_rfl) (LM.store ttok (A := []) hS347 hsk99 127 (by kernel_rfl) (by kernel_rfl) rfl rfl rfl rfl rfl rfl 0 rfl rfl rfl rfl rfl (fun w348 hS349 => ?_))
                have hS350 := hS349.bring 1 rfl
                refine DM.one hsk99 7 (by kernel_rfl) (LM.store ttok (A := []) hS350 hsk99 255 (by kernel_rfl) (by kernel_rfl) rfl rfl rfl rfl rfl rfl 0 rfl rfl rfl rfl rfl (fun w351 hS352 => ?_))
                refine DM.done hsk99 (by kernel_rfl) ?_
                exact ⟨((r101.Agent, r101.Slot), (r108.Agent, r108.Slot)), [(4, .pointer (some ⟨g13, 0, none⟩)), (5, .pointer (some ⟨g17, 0, none⟩)), (6, .pointer (some ⟨g21, 0, none⟩)), (8, .pointer (some ⟨g54, 0, none⟩)), (9, .pointer (some ⟨g338, 0, none⟩)), (10, .pointer (some ⟨g300, 0, none⟩))], ⟨rfl, rfl, rfl, rfl, rfl, rfl, trivial⟩, g338, g300, hm, ((hS352.bring 0 rfl).bring 1 rfl), rfl⟩
          · skip
            refine LM.quietL hsk99 5 (by kernel_rfl) (by kernel_rfl) rfl rfl (Quiet.loadN ttok rfl rfl rfl rfl ((hS100.bring 3 rfl).box) rfl) rfl rfl ?_
            refine DM.all hsk99 [1, 4, 5] (by kernel_rfl) (by simp) ?_
            intro i353 hi354
            simp only [List.mem_cons, List.not_mem_nil, or_false] at hi354
            rcases hi354 with rfl | rfl | rfl
            · skip
              refine LM.call hsk99 7 (by kernel_rfl) (by kernel_rfl) rfl rfl rfl rfl enters56 (impl_Net_peer_ok (Ext.refl _) (ty30.ext (hE.trans hS100.ext) h0_) ((hS100.bring 5 rfl).box) (ty38.ext (hE.trans hS100.ext) h1_) hx102) (fun v355 w356 hR357 => ?_)
              obtain ⟨rfl, hR358⟩ := hR357
              refine ⟨hR358.ext, ?_⟩
              have hS359 := hS100.join hR358
              refine DM.all hsk99 [3, 4, 5] (by kernel_rfl) (by simp) ?_
              intro i360 hi361
              simp only [List.mem_cons, List.not_mem_nil, or_false] at hi361
              rcases hi361 with rfl | rfl | rfl
              · skip
                refine LM.call hsk99 15 (by kernel_rfl) (by kernel_rfl) rfl rfl rfl rfl enters56 (impl_Net_peer_ok (Ext.refl _) (ty30.ext (hE.trans hS359.ext) h0_) ((hS359.bring 5 rfl).box) (ty38.ext (hE.trans hS359.ext) h2_) hx109) (fun v362 w363 hR364 => ?_)
                obtain ⟨rfl, hR365⟩ := hR364
                refine ⟨hR365.ext, ?_⟩
                have hS366 := hS359.join hR365
                refine DM.all hsk99 [4, 5] (by kernel_rfl) (by simp) ?_
                intro i367 hi368
                simp only [List.mem_cons, List.not_mem_nil, or_false] at hi368
                rcases hi368 with rfl | rfl
                · skip
                  refine LM.new ttok hsk99 hS366 31 (by kernel_rfl) (by kernel_rfl) rfl rfl rfl rfl rfl (fun g369 w370 e371 hS372 => ?_)
                  refine DM.one hsk99 5 (by kernel_rfl) (LM.new ttok hsk99 hS372 63 (by kernel_rfl) (by kernel_rfl) rfl rfl rfl rfl rfl (fun g373 w374 e375 hS376 => ?_))
                  have hS377 := hS376.bring 1 rfl
                  refine DM.one hsk99 6 (by kernel_rfl) (LM.store ttok (A := []) hS377 hsk99 127 (by kernel_rfl) (by kernel_rfl) rfl rfl rfl rfl rfl rfl 0 rfl rfl rfl rfl rfl (fun w378 hS379 => ?_))
                  have hS380 := hS379.bring 1 rfl
                  refine DM.one hsk99 7 (by kernel_rfl) (LM.store ttok (A := []) hS380 hsk99 255 (by kernel_rfl) (by kernel_rfl) rfl rfl rfl rfl rfl rfl 0 rfl rfl rfl rfl rfl (fun w381 hS382 => ?_))
                  refine DM.done hsk99 (by kernel_rfl) ?_
                  exact ⟨((r101.Agent, r101.Slot), (r108.Agent, r108.Slot)), [(4, .pointer (some ⟨g13, 0, none⟩)), (5, .pointer (some ⟨g17, 0, none⟩)), (6, .pointer (some ⟨g21, 0, none⟩)), (8, .pointer (some ⟨g54, 0, none⟩)), (9, .pointer (some ⟨g369, 0, none⟩)), (10, .pointer (some ⟨g373, 0, none⟩))], ⟨rfl, rfl, rfl, rfl, rfl, rfl, trivial⟩, g369, g373, hm, ((hS382.bring 0 rfl).bring 1 rfl), rfl⟩
                · skip
                  refine LM.new ttok hsk99 hS366 47 (by kernel_rfl) (by kernel_rfl) rfl rfl rfl rfl rfl (fun g383 w384 e385 hS386 => ?_)
                  refine DM.one hsk99 4 (by kernel_rfl) (LM.new ttok hsk99 hS386 63 (by kernel_rfl) (by kernel_rfl) rfl rfl rfl rfl rfl (fun g387 w388 e389 hS390 => ?_))
                  have hS391 := hS390.bring 0 rfl
                  refine DM.one hsk99 6 (by kernel_rfl) (LM.store ttok (A := []) hS391 hsk99 127 (by kernel_rfl) (by kernel_rfl) rfl rfl rfl rfl rfl rfl 0 rfl rfl rfl rfl rfl (fun w392 hS393 => ?_))
                  have hS394 := hS393.bring 1 rfl
                  refine DM.one hsk99 7 (by kernel_rfl) (LM.store ttok (A := []) hS394 hsk99 255 (by kernel_rfl) (by kernel_rfl) rfl rfl rfl rfl rfl rfl 0 rfl rfl rfl rfl rfl (fun w395 hS396 => ?_))
                  refine DM.done hsk99 (by kernel_rfl) ?_
                  exact ⟨((r101.Agent, r101.Slot), (r108.Agent, r108.Slot)), [(4, .pointer (some ⟨g13, 0, none⟩)), (5, .pointer (some ⟨g17, 0, none⟩)), (6, .pointer (some ⟨g21, 0, none⟩)), (8, .pointer (some ⟨g54, 0, none⟩)), (9, .pointer (some ⟨g387, 0, none⟩)), (10, .pointer (some ⟨g383, 0, none⟩))], ⟨rfl, rfl, rfl, rfl, rfl, rfl, trivial⟩, g387, g383, hm, ((hS396.bring 0 rfl).bring 1 rfl), rfl⟩
              · skip
                refine LM.new ttok hsk99 hS359 23 (by kernel_rfl) (by kernel_rfl) rfl rfl rfl rfl rfl (fun g397 w398 e399 hS400 => ?_)
                refine DM.all hsk99 [3, 5] (by kernel_rfl) (by simp) ?_
                intro i401 hi402
                simp only [List.mem_cons, List.not_mem_nil, or_false] at hi402
                rcases hi402 with rfl | rfl
                · skip
                  refine LM.call hsk99 31 (by kernel_rfl) (by kernel_rfl) rfl rfl rfl rfl enters56 (impl_Net_peer_ok (Ext.refl _) (ty30.ext (hE.trans hS400.ext) h0_) ((hS400.bring 6 rfl).box) (ty38.ext (hE.trans hS400.ext) h2_) hx109) (fun v403 w404 hR405 => ?_)
                  obtain ⟨rfl, hR406⟩ := hR405
                  refine ⟨hR406.ext, ?_⟩
                  have hS407 := hS400.join hR406
                  refine DM.one hsk99 5 (by kernel_rfl) (LM.new ttok hsk99 hS407 63 (by kernel_rfl) (by kernel_rfl) rfl rfl rfl rfl rfl (fun g408 w409 e410 hS411 => ?_))
                  have hS412 := hS411.bring 1 rfl
                  refine DM.one hsk99 6 (by kernel_rfl) (LM.store ttok (A := []) hS412 hsk99 127 (by kernel_rfl) (by kernel_rfl) rfl rfl rfl rfl rfl rfl 0 rfl rfl rfl rfl rfl (fun w413 hS414 => ?_))
                  have hS415 := hS414.bring 1 rfl
                  refine DM.one hsk99 7 (by kernel_rfl) (LM.store ttok (A := []) hS415 hsk99 255 (by kernel_rfl) (by kernel_rfl) rfl rfl rfl rfl rfl rfl 0 rfl rfl rfl rfl rfl (fun w416 hS417 => ?_))
                  refine DM.done hsk99 (by kernel_rfl) ?_
                  exact ⟨((r101.Agent, r101.Slot), (r108.Agent, r108.Slot)), [(4, .pointer (some ⟨g13, 0, none⟩)), (5, .pointer (some ⟨g17, 0, none⟩)), (6, .pointer (some ⟨g21, 0, none⟩)), (8, .pointer (some ⟨g54, 0, none⟩)), (9, .pointer (some ⟨g397, 0, none⟩)), (10, .pointer (some ⟨g408, 0, none⟩))], ⟨rfl, rfl, rfl, rfl, rfl, rfl, trivial⟩, g397, g408, hm, ((hS417.bring 0 rfl).bring 1 rfl), rfl⟩
                · skip
                  refine LM.new ttok hsk99 hS400 55 (by kernel_rfl) (by kernel_rfl) rfl rfl rfl rfl rfl (fun g418 w419 e420 hS421 => ?_)
                  refine DM.one hsk99 3 (by kernel_rfl) (LM.call hsk99 63 (by kernel_rfl) (by kernel_rfl) rfl rfl rfl rfl enters56 (impl_Net_peer_ok (Ext.refl _) (ty30.ext (hE.trans hS421.ext) h0_) ((hS421.bring 7 rfl).box) (ty38.ext (hE.trans hS421.ext) h2_) hx109) (fun v422 w423 hR424 => ?_))
                  obtain ⟨rfl, hR425⟩ := hR424
                  refine ⟨hR425.ext, ?_⟩
                  have hS426 := hS421.join hR425
                  have hS427 := hS426.bring 1 rfl
                  refine DM.one hsk99 6 (by kernel_rfl) (LM.store ttok (A := []) hS427 hsk99 127 (by kernel_rfl) (by kernel_rfl) rfl rfl rfl rfl rfl rfl 0 rfl rfl rfl rfl rfl (fun w428 hS429 => ?_))
                  have hS430 := hS429.bring 1 rfl
                  refine DM.one hsk99 7 (by kernel_rfl) (LM.store ttok (A := []) hS430 hsk99 255 (by kernel_rfl) (by kernel_rfl) rfl rfl rfl rfl rfl rfl 0 rfl rfl rfl rfl rfl (fun w431 hS432 => ?_))
                  refine DM.done hsk99 (by kernel_rfl) ?_
                  exact ⟨((r101.Agent, r101.Slot), (r108.Agent, r108.Slot)), [(4, .pointer (some ⟨g13, 0, none⟩)), (5, .pointer (some ⟨g17, 0, none⟩)), (6, .pointer (some ⟨g21, 0, none⟩)), (8, .pointer (some ⟨g54, 0, none⟩)), (9, .pointer (some ⟨g397, 0, none⟩)), (10, .pointer (some ⟨g418, 0, none⟩))], ⟨rfl, rfl, rfl, rfl, rfl, rfl, trivial⟩, g397, g418, hm, ((hS432.bring 0 rfl).bring 1 rfl), rfl⟩
              · skip
                refine LM.new ttok hsk99 hS359 39 (by kernel_rfl) (by kernel_rfl) rfl rfl rfl rfl rfl (fun g433 w434 e435 hS436 => ?_)
                refine DM.all hsk99 [3, 4] (by kernel_rfl) (by simp) ?_
                intro i437 hi438
                simp only [List.mem_cons, List.not_mem_nil, or_false] at hi438
                rcases hi438 with rfl | rfl
                · skip
                  refine LM.call hsk99 47 (by kernel_rfl) (by kernel_rfl) rfl rfl rfl rfl enters56 (impl_Net_peer_ok (Ext.refl _) (ty30.ext (hE.trans hS436.ext) h0_) ((hS436.bring 6 rfl).box) (ty38.ext (hE.trans hS436.ext) h2_) hx109) (fun v439 w440 hR441 => ?_)
                  obtain ⟨rfl, hR442⟩ := hR441
                  refine ⟨hR442.ext, ?_⟩
                  have hS443 := hS436.join hR442
                  refine DM.one hsk99 4 (by kernel_rfl) (LM.new ttok hsk99 hS443 63 (by kernel_rfl) (by kernel_rfl) rfl rfl rfl rfl rfl (fun g444 w445 e446 hS447 => ?_))
                  have hS448 := hS447.bring 0 rfl
                  refine DM.one hsk99 6 (by kernel_rfl) (LM.store ttok (A := []) hS448 hsk99 127 (by kernel_rfl) (by kernel_rfl) rfl rfl rfl rfl rfl rfl 0 rfl rfl rfl rfl rfl (fun w449 hS450 => ?_))
                  have hS451 := hS450.bring 1 rfl
                  refine DM.one hsk99 7 (by kernel_rfl) (LM.store ttok (A := []) hS451 hsk99 255 (by kernel_rfl) (by kernel_rfl) rfl rfl rfl rfl rfl rfl 0 rfl rfl rfl rfl rfl (fun w452 hS453 => ?_))
                  refine DM.done hsk99 (by kernel_rfl) ?_
                  exact ⟨((r101.Agent, r101.Slot), (r108.Agent, r108.Slot)), [(4, .pointer (some ⟨g13, 0, none⟩)), (5, .pointer (some ⟨g17, 0, none⟩)), (6, .pointer (some ⟨g21, 0, none⟩)), (8, .pointer (some ⟨g54, 0, none⟩)), (9, .pointer (some ⟨g444, 0, none⟩)), (10, .pointer (some ⟨g433, 0, none⟩))], ⟨rfl, rfl, rfl, rfl, rfl, rfl, trivial⟩, g444, g433, hm, ((hS453.bring 0 rfl).bring 1 rfl), rfl⟩
                · skip
                  refine LM.new ttok hsk99 hS436 55 (by kernel_rfl) (by kernel_rfl) rfl rfl rfl rfl rfl (fun g454 w455 e456 hS457 => ?_)
                  refine DM.one hsk99 3 (by kernel_rfl) (LM.call hsk99 63 (by kernel_rfl) (by kernel_rfl) rfl rfl rfl rfl enters56 (impl_Net_peer_ok (Ext.refl _) (ty30.ext (hE.trans hS457.ext) h0_) ((hS457.bring 7 rfl).box) (ty38.ext (hE.trans hS457.ext) h2_) hx109) (fun v458 w459 hR460 => ?_))
                  obtain ⟨rfl, hR461⟩ := hR460
                  refine ⟨hR461.ext, ?_⟩
                  have hS462 := hS457.join hR461
                  have hS463 := hS462.bring 0 rfl
                  refine DM.one hsk99 6 (by kernel_rfl) (LM.store ttok (A := []) hS463 hsk99 127 (by kernel_rfl) (by kernel_rfl) rfl rfl rfl rfl rfl rfl 0 rfl rfl rfl rfl rfl (fun w464 hS465 => ?_))
                  have hS466 := hS465.bring 1 rfl
                  refine DM.one hsk99 7 (by kernel_rfl) (LM.store ttok (A := []) hS466 hsk99 255 (by kernel_rfl) (by kernel_rfl) rfl rfl rfl rfl rfl rfl 0 rfl rfl rfl rfl rfl (fun w467 hS468 => ?_))
                  refine DM.done hsk99 (by kernel_rfl) ?_
                  exact ⟨((r101.Agent, r101.Slot), (r108.Agent, r108.Slot)), [(4, .pointer (some ⟨g13, 0, none⟩)), (5, .pointer (some ⟨g17, 0, none⟩)), (6, .pointer (some ⟨g21, 0, none⟩)), (8, .pointer (some ⟨g54, 0, none⟩)), (9, .pointer (some ⟨g454, 0, none⟩)), (10, .pointer (some ⟨g433, 0, none⟩))], ⟨rfl, rfl, rfl, rfl, rfl, rfl, trivial⟩, g454, g433, hm, ((hS468.bring 0 rfl).bring 1 rfl), rfl⟩
            · skip
              refine LM.new ttok hsk99 hS100 21 (by kernel_rfl) (by kernel_rfl) rfl rfl rfl rfl rfl (fun g469 w470 e471 hS472 => ?_)
              refine DM.all hsk99 [1, 5] (by kernel_rfl) (by simp) ?_
              intro i473 hi474
              simp only [List.mem_cons, List.not_mem_nil, or_false] at hi474
              rcases hi474 with rfl | rfl
              · skip
                refine LM.call hsk99 23 (by kernel_rfl) (by kernel_rfl) rfl rfl rfl rfl enters56 (impl_Net_peer_ok (Ext.refl _) (ty30.ext (hE.trans hS472.ext) h0_) ((hS472.bring 6 rfl).box) (ty38.ext (hE.trans hS472.ext) h1_) hx102) (fun v475 w476 hR477 => ?_)
                obtain ⟨rfl, hR478⟩ := hR477
                refine ⟨hR478.ext, ?_⟩
                have hS479 := hS472.join hR478
                refine DM.all hsk99 [3, 5] (by kernel_rfl) (by simp) ?_
                intro i480 hi481
                simp only [List.mem_cons, List.not_mem_nil, or_false] at hi481
                rcases hi481 with rfl | rfl
                · skip
                  refine LM.call hsk99 31 (by kernel_rfl) (by kernel_rfl) rfl rfl rfl rfl enters56 (impl_Net_peer_ok (Ext.refl _) (ty30.ext (hE.trans hS479.ext) h0_) ((hS479.bring 6 rfl).box) (ty38.ext (hE.trans hS479.ext) h2_) hx109) (fun v482 w483 hR484 => ?_)
                  obtain ⟨rfl, hR485⟩ := hR484
                  refine ⟨hR485.ext, ?_⟩
                  have hS486 := hS479.join hR485
                  refine DM.one hsk99 5 (by kernel_rfl) (LM.new ttok hsk99 hS486 63 (by kernel_rfl) (by kernel_rfl) rfl rfl rfl rfl rfl (fun g487 w488 e489 hS490 => ?_))
                  have hS491 := hS490.bring 1 rfl
                  refine DM.one hsk99 6 (by kernel_rfl) (LM.store ttok (A := []) hS491 hsk99 127 (by kernel_rfl) (by kernel_rfl) rfl rfl rfl rfl rfl rfl 0 rfl rfl rfl rfl rfl (fun w492 hS493 => ?_))
                  have hS494 := hS493.bring 1 rfl
                  refine DM.one hsk99 7 (by kernel_rfl) (LM.store ttok (A := []) hS494 hsk99 255 (by kernel_rfl) (by kernel_rfl) rfl rfl rfl rfl rfl rfl 0 rfl rfl rfl rfl rfl (fun w495 hS496 => ?_))
                  refine DM.done hsk99 (by kernel_rfl) ?_
                  exact ⟨((r101.Agent, r101.Slot), (r108.Agent, r108.Slot)), [(4, .pointer (some ⟨g13, 0, none⟩)), (5, .pointer (some ⟨g17, 0, none⟩)), (6, .pointer (some ⟨g21, 0, none⟩)), (8, .pointer (some ⟨g54, 0, none⟩)), (9, .pointer (some ⟨g469, 0, none⟩)), (10, .pointer (some ⟨g487, 0, none⟩))], ⟨rfl, rfl, rfl, rfl, rfl, rfl, trivial⟩, g469, g487, hm, ((hS496.bring 0 rfl).bring 1 rfl), rfl⟩
                · skip
                  refine LM.new ttok hsk99 hS479 55 (by kernel_rfl) (by kernel_rfl) rfl rfl rfl rfl rfl (fun g497 w498 e499 hS500 => ?_)
                  refine DM.one hsk99 3 (by kernel_rfl) (LM.call hsk99 63 (by kernel_rfl) (by kernel_rfl) rfl rfl rfl rfl enters56 (impl_Net_peer_ok (Ext.refl _) (ty30.ext (hE.trans hS500.ext) h0_) ((hS500.bring 7 rfl).box) (ty38.ext (hE.trans hS500.ext) h2_) hx109) (fun v501 w502 hR503 => ?_))
                  obtain ⟨rfl, hR504⟩ := hR503
                  refine ⟨hR504.ext, ?_⟩
                  have hS505 := hS500.join hR504
                  have hS506 := hS505.bring 1 rfl
                  refine DM.one hsk99 6 (by kernel_rfl) (LM.store ttok (A := []) hS506 hsk99 127 (by kernel_rfl) (by kernel_rfl) rfl rfl rfl rfl rfl rfl 0 rfl rfl rfl rfl rfl (fun w507 hS508 => ?_))
                  have hS509 := hS508.bring 1 rfl
                  refine DM.one hsk99 7 (by kernel_rfl) (LM.store ttok (A := []) hS509 hsk99 255 (by kernel_rfl) (by kernel_rfl) rfl rfl rfl rfl rfl rfl 0 rfl rfl rfl rfl rfl (fun w510 hS511 => ?_))
                  refine DM.done hsk99 (by kernel_rfl) ?_
                  exact ⟨((r101.Agent, r101.Slot), (r108.Agent, r108.Slot)), [(4, .pointer (some ⟨g13, 0, none⟩)), (5, .pointer (some ⟨g17, 0, none⟩)), (6, .pointer (some ⟨g21, 0, none⟩)), (8, .pointer (some ⟨g54, 0, none⟩)), (9, .pointer (some ⟨g469, 0, none⟩)), (10, .pointer (some ⟨g497, 0, none⟩))], ⟨rfl, rfl, rfl, rfl, rfl, rfl, trivial⟩, g469, g497, hm, ((hS511.bring 0 rfl).bring 1 rfl), rfl⟩
              · skip
                refine LM.new ttok hsk99 hS472 53 (by kernel_rfl) (by kernel_rfl) rfl rfl rfl rfl rfl (fun g512 w513 e514 hS515 => ?_)
                refine DM.one hsk99 1 (by kernel_rfl) (LM.call hsk99 55 (by kernel_rfl) (by kernel_rfl) rfl rfl rfl rfl enters56 (impl_Net_peer_ok (Ext.refl _) (ty30.ext (hE.trans hS515.ext) h0_) ((hS515.bring 7 rfl).box) (ty38.ext (hE.trans hS515.ext) h1_) hx102) (fun v516 w517 hR518 => ?_))
                obtain ⟨rfl, hR519⟩ := hR518
                refine ⟨hR519.ext, ?_⟩
                have hS520 := hS515.join hR519
                refine DM.one hsk99 3 (by kernel_rfl) (LM.call hsk99 63 (by kernel_rfl) (by kernel_rfl) rfl rfl rfl rfl enters56 (impl_Net_peer_ok (Ext.refl _) (ty30.ext (hE.trans hS520.ext) h0_) ((hS520.bring 7 rfl).box) (ty38.ext (hE.trans hS520.ext) h2_) hx109) (fun v521 w522 hR523 => ?_))
                obtain ⟨rfl, hR524⟩ := hR523
                refine ⟨hR524.ext, ?_⟩
                have hS525 := hS520.join hR524
                have hS526 := hS525.bring 1 rfl
                refine DM.one hsk99 6 (by kernel_rfl) (LM.store ttok (A := []) hS526 hsk99 127 (by kernel_rfl) (by kernel_rfl) rfl rfl rfl rfl rfl rfl 0 rfl rfl rfl rfl rfl (fun w527 hS528 => ?_))
                have hS529 := hS528.bring 1 rfl
                refine DM.one hsk99 7 (by kernel_rfl) (LM.store ttok (A := []) hS529 hsk99 255 (by kernel_rfl) (by kernel_rfl) rfl rfl rfl rfl rfl rfl 0 rfl rfl rfl rfl rfl (fun w530 hS531 => ?_))
                refine DM.done hsk99 (by kernel_rfl) ?_
                exact ⟨((r101.Agent, r101.Slot), (r108.Agent, r108.Slot)), [(4, .pointer (some ⟨g13, 0, none⟩)), (5, .pointer (some ⟨g17, 0, none⟩)), (6, .pointer (some ⟨g21, 0, none⟩)), (8, .pointer (some ⟨g54, 0, none⟩)), (9, .pointer (some ⟨g469, 0, none⟩)), (10, .pointer (some ⟨g512, 0, none⟩))], ⟨rfl, rfl, rfl, rfl, rfl, rfl, trivial⟩, g469, g512, hm, ((hS531.bring 0 rfl).bring 1 rfl), rfl⟩
            · skip
              refine LM.new ttok hsk99 hS100 37 (by kernel_rfl) (by kernel_rfl) rfl rfl rfl rfl rfl (fun g532 w533 e534 hS535 => ?_)
              refine DM.all hsk99 [1, 4] (by kernel_rfl) (by simp) ?_
              intro i536 hi537
              simp only [List.mem_cons, List.not_mem_nil, or_false] at hi537
              rcases hi537 with rfl | rfl
              · skip
                refine LM.call hsk99 39 (by kernel_rfl) (by kernel_rfl) rfl rfl rfl rfl enters56 (impl_Net_peer_ok (Ext.refl _) (ty30.ext (hE.trans hS535.ext) h0_) ((hS535.bring 6 rfl).box) (ty38.ext (hE.trans hS535.ext) h1_) hx102) (fun v538 w539 hR540 => ?_)
                obtain ⟨rfl, hR541⟩ := hR540
                refine ⟨hR541.ext, ?_⟩
                have hS542 := hS535.join hR541
                refine DM.all hsk99 [3, 4] (by kernel_rfl) (by simp) ?_
                intro i543 hi544
                simp only [List.mem_cons, List.not_mem_nil, or_false] at hi544
                rcases hi544 with rfl | rfl
                · skip
                  refine LM.call hsk99 47 (by kernel_rfl) (by kernel_rfl) rfl rfl rfl rfl enters56 (impl_Net_peer_ok (Ext.refl _) (ty30.ext (hE.trans hS542.ext) h0_) ((hS542.bring 6 rfl).box) (ty38.ext (hE.trans hS542.ext) h2_) hx109) (fun v545 w546 hR547 => ?_)
                  obtain ⟨rfl, hR548⟩ := hR547
                  refine ⟨hR548.ext, ?_⟩
                  have hS549 := hS542.join hR548
                  refine DM.one hsk99 4 (by kernel_rfl) (LM.new ttok hsk99 hS549 63 (by kernel_rfl) (by kernel_rfl) rfl rfl rfl rfl rfl (fun g550 w551 e552 hS553 => ?_))
                  have hS554 := hS553.bring 0 rfl
                  refine DM.one hsk99 6 (by kernel_rfl) (LM.store ttok (A := []) hS554 hsk99 127 (by kernel_rfl) (by kernel_rfl) rfl rfl rfl rfl rfl rfl 0 rfl rfl rfl rfl rfl (fun w555 hS556 => ?_))
                  have hS557 := hS556.bring 1 rfl
                  refine DM.one hsk99 7 (by kernel_rfl) (LM.store ttok (A := []) hS557 hsk99 255 (by kernel_rfl) (by kernel_rfl) rfl rfl rfl rfl rfl rfl 0 rfl rfl rfl rfl rfl (fun w558 hS559 => ?_))
                  refine DM.done hsk99 (by kernel_rfl) ?_
                  exact ⟨((r101.Agent, r101.Slot), (r108.Agent, r108.Slot)), [(4, .pointer (some ⟨g13, 0, none⟩)), (5, .pointer (some ⟨g17, 0, none⟩)), (6, .pointer (some ⟨g21, 0, none⟩)), (8, .pointer (some ⟨g54, 0, none⟩)), (9, .pointer (some ⟨g550, 0, none⟩)), (10, .pointer (some ⟨g532, 0, none⟩))], ⟨rfl, rfl, rfl, rfl, rfl, rfl, trivial⟩, g550, g532, hm, ((hS559.bring 0 rfl).bring 1 rfl), rfl⟩
                · skip
                  refine LM.new ttok hsk99 hS542 55 (by kernel_rfl) (by kernel_rfl) rfl rfl rfl rfl rfl (fun g560 w561 e562 hS563 => ?_)
                  refine DM.one hsk99 3 (by kernel_rfl) (LM.call hsk99 63 (by kernel_rfl) (by kernel_rfl) rfl rfl rfl rfl enters56 (impl_Net_peer_ok (Ext.refl _) (ty30.ext (hE.trans hS563.ext) h0_) ((hS563.bring 7 rfl).box) (ty38.ext (hE.trans hS563.ext) h2_) hx109) (fun v564 w565 hR566 => ?_))
                  obtain ⟨rfl, hR567⟩ := hR566
                  refine ⟨hR567.ext, ?_⟩
                  have hS568 := hS563.join hR567
                  have hS569 := hS568.bring 0 rfl
                  refine DM.one hsk99 6 (by kernel_rfl) (LM.store ttok (A := []) hS569 hsk99 127 (by kernel_rfl) (by kernel_rfl) rfl rfl rfl rfl rfl rfl 0 rfl rfl rfl rfl rfl (fun w570 hS571 => ?_))
                  have hS572 := hS571.bring 1 rfl
                  refine DM.one hsk99 7 (by kernel_rfl) (LM.store ttok (A := []) hS572 hsk99 255 (by kernel_rfl) (by kernel_rfl) rfl rfl rfl rfl rfl rfl 0 rfl rfl rfl rfl rfl (fun w573 hS574 => ?_))
                  refine DM.done hsk99 (by kernel_rfl) ?_
                  exact ⟨((r101.Agent, r101.Slot), (r108.Agent, r108.Slot)), [(4, .pointer (some ⟨g13, 0, none⟩)), (5, .pointer (some ⟨g17, 0, none⟩)), (6, .pointer (some ⟨g21, 0, none⟩)), (8, .pointer (some ⟨g54, 0, none⟩)), (9, .pointer (some ⟨g560, 0, none⟩)), (10, .pointer (some ⟨g532, 0, none⟩))], ⟨rfl, rfl, rfl, rfl, rfl, rfl, trivial⟩, g560, g532, hm, ((hS574.bring 0 rfl).bring 1 rfl), rfl⟩
              · skip
                refine LM.new ttok hsk99 hS535 53 (by kernel_rfl) (by kernel_rfl) rfl rfl rfl rfl rfl (fun g575 w576 e577 hS578 => ?_)
                refine DM.one hsk99 1 (by kernel_rfl) (LM.call hsk99 55 (by kernel_rfl) (by kernel_rfl) rfl rfl rfl rfl enters56 (impl_Net_peer_ok (Ext.refl _) (ty30.ext (hE.trans hS578.ext) h0_) ((hS578.bring 7 rfl).box) (ty38.ext (hE.trans hS578.ext) h1_) hx102) (fun v579 w580 hR581 => ?_))
                obtain ⟨rfl, hR582⟩ := hR581
                refine ⟨hR582.ext, ?_⟩
                have hS583 := hS578.join hR582
                refine DM.one hsk99 3 (by kernel_rfl) (LM.call hsk99 63 (by kernel_rfl) (by kernel_rfl) rfl rfl rfl rfl enters56 (impl_Net_peer_ok (Ext.refl _) (ty30.ext (hE.trans hS583.ext) h0_) ((hS583.bring 7 rfl).box) (ty38.ext (hE.trans hS583.ext) h2_) hx109) (fun v584 w585 hR586 => ?_))
                obtain ⟨rfl, hR587⟩ := hR586
                refine ⟨hR587.ext, ?_⟩
                have hS588 := hS583.join hR587
                have hS589 := hS588.bring 0 rfl
                refine DM.one hsk99 6 (by kernel_rfl) (LM.store ttok (A := []) hS589 hsk99 127 (by kernel_rfl) (by kernel_rfl) rfl rfl rfl rfl rfl rfl 0 rfl rfl rfl rfl rfl (fun w590 hS591 => ?_))
                have hS592 := hS591.bring 1 rfl
                refine DM.one hsk99 7 (by kernel_rfl) (LM.store ttok (A := []) hS592 hsk99 255 (by kernel_rfl) (by kernel_rfl) rfl rfl rfl rfl rfl rfl 0 rfl rfl rfl rfl rfl (fun w593 hS594 => ?_))
                refine DM.done hsk99 (by kernel_rfl) ?_
                exact ⟨((r101.Agent, r101.Slot), (r108.Agent, r108.Slot)), [(4, .pointer (some ⟨g13, 0, none⟩)), (5, .pointer (some ⟨g17, 0, none⟩)), (6, .pointer (some ⟨g21, 0, none⟩)), (8, .pointer (some ⟨g54, 0, none⟩)), (9, .pointer (some ⟨g575, 0, none⟩)), (10, .pointer (some ⟨g532, 0, none⟩))], ⟨rfl, rfl, rfl, rfl, rfl, rfl, trivial⟩, g575, g532, hm, ((hS594.bring 0 rfl).bring 1 rfl), rfl⟩
          · skip
            refine LM.new ttok hsk99 hS100 17 (by kernel_rfl) (by kernel_rfl) rfl rfl rfl rfl rfl (fun g595 w596 e597 hS598 => ?_)
            refine DM.all hsk99 [1, 2, 5] (by kernel_rfl) (by simp) ?_
            intro i599 hi600
            simp only [List.mem_cons, List.not_mem_nil, or_false] at hi600
            rcases hi600 with rfl | rfl | rfl
            · skip
              refine LM.call hsk99 19 (by kernel_rfl) (by kernel_rfl) rfl rfl rfl rfl enters56 (impl_Net_peer_ok (Ext.refl _) (ty30.ext (hE.trans hS598.ext) h0_) ((hS598.bring 6 rfl).box) (ty38.ext (hE.trans hS598.ext) h1_) hx102) (fun v601 w602 hR603 => ?_)
              obtain ⟨rfl, hR604⟩ := hR603
              refine ⟨hR604.ext, ?_⟩
              have hS605 := hS598.join hR604
              refine DM.all hsk99 [2, 5] (by kernel_rfl) (by simp) ?_
              intro i606 hi607
              simp only [List.mem_cons, List.not_mem_nil, or_false] at hi607
              rcases hi607 with rfl | rfl
              · skip
                refine LM.quietL hsk99 23 (by kernel_rfl) (by kernel_rfl) rfl rfl (Quiet.loadN ttok rfl rfl rfl rfl ((hS605.bring 4 rfl).box) rfl) rfl rfl ?_
                refine DM.all hsk99 [3, 5] (by kernel_rfl) (by simp) ?_
                intro i608 hi609
                simp only [List.mem_cons, List.not_mem_nil, or_false] at hi609
                rcases hi609 with rfl | rfl
                · skip
                  refine LM.call hsk99 31 (by kernel_rfl) (by kernel_rfl) rfl rfl rfl rfl enters56 (impl_Net_peer_ok (Ext.refl _) (ty30.ext (hE.trans hS605.ext) h0_) ((hS605.bring 6 rfl).box) (ty38.ext (hE.trans hS605.ext) h2_) hx109) (fun v610 w611 hR612 => ?_)
                  obtain ⟨rfl, hR613⟩ := hR612
                  refine ⟨hR613.ext, ?_⟩
                  have hS614 := hS605.join hR613
                  refine DM.one hsk99 5 (by kernel_rfl) (LM.new ttok hsk99 hS614 63 (by kernel_rfl) (by kernel_rfl) rfl rfl rfl rfl rfl (fun g615 w616 e617 hS618 => ?_))
                  have hS619 := hS618.bring 1 rfl
                  refine DM.one hsk99 6 (by kernel_rfl) (LM.store ttok (A := []) hS619 hsk99 127 (by kernel_rfl) (by kernel_rfl) rfl rfl rfl rfl rfl rfl 0 rfl rfl rfl rfl rfl (fun w620 hS621 => ?_))
                  have hS622 := hS621.bring 1 rfl
                  refine DM.one hsk99 7 (by kernel_rfl) (LM.store ttok (A := []) hS622 hsk99 255 (by kernel_rfl) (by kernel_rfl) rfl rfl rfl rfl rfl rfl 0 rfl rfl rfl rfl rfl (fun w623 hS624 => ?_))
                  refine DM.done hsk99 (by kernel_rfl) ?_
                  exact ⟨((r101.Agent, r101.Slot), (r108.Agent, r108.Slot)), [(4, .pointer (some ⟨g13, 0, none⟩)), (5, .pointer (some ⟨g17, 0, none⟩)), (6, .pointer (some ⟨g21, 0, none⟩)), (8, .pointer (some ⟨g54, 0, none⟩)), (9, .pointer (some ⟨g595, 0, none⟩)), (10, .pointer (some ⟨g615, 0, none⟩))], ⟨rfl, rfl, rfl, rfl, rfl, rfl, trivial⟩, g595, g615, hm, ((hS624.bring 0 rfl).bring 1 rfl), rfl⟩
                · skip
                  refine LM.new ttok hsk99 hS605 55 (by kernel_rfl) (by kernel_rfl) rfl rfl rfl rfl rfl (fun g625 w626 e627 hS628 => ?_)
                  refine DM.one hsk99 3 (by kernel_rfl) (LM.call hsk99 63 (by kernel_rfl) (by kernel_rfl) rfl rfl rfl rfl enters56 (impl_Net_peer_ok (Ext.refl _) (ty30.ext (hE.trans hS628.ext) h0_) ((hS628.bring 7 rfl).box) (ty38.ext (hE.trans hS628.ext) h2_) hx109) (fun v629 w630 hR631 => ?_))
                  obtain ⟨rfl, hR632⟩ := hR631
                  refine ⟨hR632.ext, ?_⟩
                  have hS633 := hS628.join hR632
                  have hS634 := hS633.bring 1 rfl
                  refine DM.one hsk99 6 (by kernel_rfl) (LM.store ttok (A := []) hS634 hsk99 127 (by kernel_rfl) (by kernel_rfl) rfl rfl rfl rfl rfl rfl 0 rfl rfl rfl rfl rfl (fun w635 hS636 => ?_))
                  have hS637 := hS636.bring 1 rfl
                  refine DM.one hsk99 7 (by kernel_rfl) (LM.store ttok (A := []) hS637 hsk99 255 (by kernel_rfl) (by kernel_rfl) rfl rfl rfl rfl rfl rfl 0 rfl rfl rfl rfl rfl (fun w638 hS639 => ?_))
                  refine DM.done hsk99 (by kernel_rfl) ?_
                  exact ⟨((r101.Agent, r101.Slot), (r108.Agent, r108.Slot)), [(4, .pointer (some ⟨g13, 0, none⟩)), (5, .pointer (some ⟨g17, 0, none⟩)), (6, .pointer (some ⟨g21, 0, none⟩)), (8, .pointer (some ⟨g54, 0, none⟩)), (9, .pointer (some ⟨g595, 0, none⟩)), (10, .pointer (some ⟨g625, 0, none⟩))], ⟨rfl, rfl, rfl, rfl, rfl, rfl, trivial⟩, g595, g625, hm, ((hS639.bring 0 rfl).bring 1 rfl), rfl⟩
              · skip
                refine LM.new ttok hsk99 hS605 51 (by kernel_rfl) (by kernel_rfl) rfl rfl rfl rfl rfl (fun g640 w641 e642 hS643 => ?_)
                refine DM.one hsk99 2 (by kernel_rfl) (LM.quietL hsk99 55 (by kernel_rfl) (by kernel_rfl) rfl rfl (Quiet.loadN ttok rfl rfl rfl rfl ((hS643.bring 5 rfl).box) rfl) rfl rfl ?_)
                refine DM.one hsk99 3 (by kernel_rfl) (LM.call hsk99 63 (by kernel_rfl) (by kernel_rfl) rfl rfl rfl rfl enters56 (impl_Net_peer_ok (Ext.refl _) (ty30.ext (hE.trans hS643.ext) h0_) ((hS643.bring 7 rfl).box) (ty38.ext (hE.trans hS643.ext) h2_) hx109) (fun v644 w645 hR646 => ?_))
                obtain ⟨rfl, hR647⟩ := hR646
                refine ⟨hR647.ext, ?_⟩
                have hS648 := hS643.join hR647
                have hS649 := hS648.bring 1 rfl
                refine DM.one hsk99 6 (by kernel_rfl) (LM.store ttok (A := []) hS649 hsk99 127 (by kernel_rfl) (by kernel_rfl) rfl rfl rfl rfl rfl rfl 0 rfl rfl rfl rfl rfl (fun w650 hS651 => ?_))
                have hS652 := hS651.bring 1 rfl
                refine DM.one hsk99 7 (by kernel_rfl) (LM.store ttok (A := []) hS652 hsk99 255 (by kernel_rfl) (by kernel_rfl) rfl rfl rfl rfl rfl rfl 0 rfl rfl rfl rfl rfl (fun w653 hS654 => ?_))
                refine DM.done hsk99 (by kernel_rfl) ?_
                exact ⟨((r101.Agent, r101.Slot), (r108.Agent, r108.Slot)), [(4, .pointer (some ⟨g13, 0, none⟩)), (5, .pointer (some ⟨g17, 0, none⟩)), (6, .pointer (some ⟨g21, 0, none⟩)), (8, .pointer (some ⟨g54, 0, none⟩)), (9, .pointer (some ⟨g595, 0, none⟩)), (10, .pointer (some ⟨g640, 0, none⟩))], ⟨rfl, rfl, rfl, rfl, rfl, rfl, trivial⟩, g595, g640, hm, ((hS654.bring 0 rfl).bring 1 rfl), rfl⟩
            · skip
              refine LM.quietL hsk99 21 (by kernel_rfl) (by kernel_rfl) rfl rfl (Quiet.loadN ttok rfl rfl rfl rfl ((hS598.bring 4 rfl).box) rfl) rfl rfl ?_
              refine DM.all hsk99 [1, 5] (by kernel_rfl) (by simp) ?_
              intro i655 hi656
              simp only [List.mem_cons, List.not_mem_nil, or_false] at hi656
              rcases hi656 with rfl | rfl
              · skip
                refine LM.call hsk99 23 (by kernel_rfl) (by kernel_rfl) rfl rfl rfl rfl enters56 (impl_Net_peer_ok (Ext.refl _) (ty30.ext (hE.trans hS598.ext) h0_) ((hS598.bring 6 rfl).box) (ty38.ext (hE.trans hS598.ext) h1_) hx102) (fun v657 w658 hR659 => ?_)
                obtain ⟨rfl, hR660⟩ := hR659
                refine ⟨hR660.ext, ?_⟩
                have hS661 := hS598.join hR660
                refine DM.all hsk99 [3, 5] (by kernel_rfl) (by simp) ?_
                intro i662 hi663
                simp only [List.mem_cons, List.not_mem_nil, or_false] at hi663
                rcases hi663 with rfl | rfl
                · skip
                  refine LM.call hsk99 31 (by kernel_rfl) (by kernel_rfl) rfl rfl rfl rfl enters56 (impl_Net_peer_ok (Ext.refl _) (ty30.ext (hE.trans hS661.ext) h0_) ((hS661.bring 6 rfl).box) (ty38.ext (hE.trans hS661.ext) h2_) hx109) (fun v664 w665 hR666 => ?_)
                  obtain ⟨rfl, hR667⟩ := hR666
                  refine ⟨hR667.ext, ?_⟩
                  have hS668 := hS661.join hR667
                  refine DM.one hsk99 5 (by kernel_rfl) (LM.new ttok hsk99 hS668 63 (by kernel_rfl) (by kernel_rfl) rfl rfl rfl rfl rfl (fun g669 w670 e671 hS672 => ?_))
                  have hS673 := hS672.bring 1 rfl
                  refine DM.one hsk99 6 (by kernel_rfl) (LM.store ttok (A := []) hS673 hsk99 127 (by kernel_rfl) (by kernel_rfl) rfl rfl rfl rfl rfl rfl 0 rfl rfl rfl rfl rfl (fun w674 hS675 => ?_))
                  have hS676 := hS675.bring 1 rfl
                  refine DM.one hsk99 7 (by kernel_rfl) (LM.store ttok (A := []) hS676 hsk99 255 (by kernel_rfl) (by kernel_rfl) rfl rfl rfl rfl rfl rfl 0 rfl rfl rfl rfl rfl (fun w677 hS678 => ?_))
                  refine DM.done hsk99 (by kernel_rfl) ?_
                  exact ⟨((r101.Agent, r101.Slot), (r108.Agent, r108.Slot)), [(4, .pointer (some ⟨g13, 0, none⟩)), (5, .pointer (some ⟨g17, 0, none⟩)), (6, .pointer (some ⟨g21, 0, none⟩)), (8, .pointer (some ⟨g54, 0, none⟩)), (9, .pointer (some ⟨g595, 0, none⟩)), (10, .pointer (some ⟨g669, 0, none⟩))], ⟨rfl, rfl, rfl, rfl, rfl, rfl, trivial⟩, g595, g669, hm, ((hS678.bring 0 rfl).bring 1 rfl), rfl⟩
                · skip
                  refine LM.new ttok hsk99 hS661 55 (by kernel_rfl) (by kernel_rfl) rfl rfl rfl rfl rfl (fun g679 w680 e681 hS682 => ?_)
                  refine DM.one hsk99 3 (by kernel_rfl) (LM.call hsk99 63 (by kernel_rfl) (by kernel_rfl) rfl rfl rfl rfl enters56 (impl_Net_peer_ok (Ext.refl _) (ty30.ext (hE.trans hS682.ext) h0_) ((hS682.bring 7 rfl).box) (ty38.ext (hE.trans hS682.ext) h2_) hx109) (fun v683 w684 hR685 => ?_))
                  obtain ⟨rfl, hR686⟩ := hR685
                  refine ⟨hR686.ext, ?_⟩
                  have hS687 := hS682.join hR686
                  have hS688 := hS687.bring 1 rfl
                  refine DM.one hsk99 6 (by kernel_rfl) (LM.store ttok (A := []) hS688 hsk99 127 (by kernel_rfl) (by kernel_rfl) rfl rfl rfl rfl rfl rfl 0 rfl rfl rfl rfl rfl (fun w689 hS690 => ?_))
                  have hS691 := hS690.bring 1 rfl
                  refine DM.one hsk99 7 (by kernel_rfl) (LM.store ttok (A := []) hS691 hsk99 255 (by kernel_rfl) (by kernel_rfl) rfl rfl rfl rfl rfl rfl 0 rfl rfl rfl rfl rfl (fun w692 hS693 => ?_))
                  refine DM.done hsk99 (by kernel_rfl) ?_
                  exact ⟨((r101.Agent, r101.Slot), (r108.Agent, r108.Slot)), [(4, .pointer (some ⟨g13, 0, none⟩)), (5, .pointer (some ⟨g17, 0, none⟩)), (6, .pointer (some ⟨g21, 0, none⟩)), (8, .pointer (some ⟨g54, 0, none⟩)), (9, .pointer (some ⟨g595, 0, none⟩)), (10, .pointer (some ⟨g679, 0, none⟩))], ⟨rfl, rfl, rfl, rfl, rfl, rfl, trivial⟩, g595, g679, hm, ((hS693.bring 0 rfl).bring 1 rfl), rfl⟩
              · skip
                refine LM.new ttok hsk99 hS598 53 (by kernel_rfl) (by kernel_rfl) rfl rfl rfl rfl rfl (fun g694 w695 e696 hS697 => ?_)
                refine DM.one hsk99 1 (by kernel_rfl) (LM.call hsk99 55 (by kernel_rfl) (by kernel_rfl) rfl rfl rfl rfl enters56 (impl_Net_peer_ok (Ext.refl _) (ty30.ext (hE.trans hS697.ext) h0_) ((hS697.bring 7 rfl).box) (ty38.ext (hE.trans hS697.ext) h1_) hx102) (fun v698 w699 hR700 => ?_))
                obtain ⟨rfl, hR701⟩ := hR700
                refine ⟨hR701.ext, ?_⟩
                have hS702 := hS697.join hR701
                refine DM.one hsk99 3 (by kernel_rfl) (LM.call hsk99 63 (by kernel_rfl) (by kernel_rfl) rfl rfl rfl rfl enters56 (impl_Net_peer_ok (Ext.refl _) (ty30.ext (hE.trans hS702.ext) h0_) ((hS702.bring 7 rfl).box) (ty38.ext (hE.trans hS702.ext) h2_) hx109) (fun v703 w704 hR705 => ?_))
                obtain ⟨rfl, hR706⟩ := hR705
                refine ⟨hR706.ext, ?_⟩
                have hS707 := hS702.join hR706
                have hS708 := hS707.bring 1 rfl
                refine DM.one hsk99 6 (by kernel_rfl) (LM.store ttok (A := []) hS708 hsk99 127 (by kernel_rfl) (by kernel_rfl) rfl rfl rfl rfl rfl rfl 0 rfl rfl rfl rfl rfl (fun w709 hS710 => ?_))
                have hS711 := hS710.bring 1 rfl
                refine DM.one hsk99 7 (by kernel_rfl) (LM.store ttok (A := []) hS711 hsk99 255 (by kernel_rfl) (by kernel_rfl) rfl rfl rfl rfl rfl rfl 0 rfl rfl rfl rfl rfl (fun w712 hS713 => ?_))
                refine DM.done hsk99 (by kernel_rfl) ?_
                exact ⟨((r101.Agent, r101.Slot), (r108.Agent, r108.Slot)), [(4, .pointer (some ⟨g13, 0, none⟩)), (5, .pointer (some ⟨g17, 0, none⟩)), (6, .pointer (some ⟨g21, 0, none⟩)), (8, .pointer (some ⟨g54, 0, none⟩)), (9, .pointer (some ⟨g595, 0, none⟩)), (10, .pointer (some ⟨g694, 0, none⟩))], ⟨rfl, rfl, rfl, rfl, rfl, rfl, trivial⟩, g595, g694, hm, ((hS713.bring 0 rfl).bring 1 rfl), rfl⟩
            · skip
              refine LM.new ttok hsk99 hS598 49 (by kernel_rfl) (by kernel_rfl) rfl rfl rfl rfl rfl (fun g714 w715 e716 hS717 => ?_)
              refine DM.all hsk99 [1, 2] (by kernel_rfl) (by simp) ?_
              intro i718 hi719
              simp only [List.mem_cons, List.not_mem_nil, or_false] at hi719
              rcases hi719 with rfl | rfl
              · skip
                refine LM.call hsk99 51 (by kernel_rfl) (by kernel_rfl) rfl rfl rfl rfl enters56 (impl_Net_peer_ok (Ext.refl _) (ty30.ext (hE.trans hS717.ext) h0_) ((hS717.bring 7 rfl).box) (ty38.ext (hE.trans hS717.ext) h1_) hx102) (fun v720 w721 hR722 => ?_)
                obtain ⟨rfl, hR723⟩ := hR722
                refine ⟨hR723.ext, ?_⟩
                have hS724 := hS717.join hR723
                refine DM.one hsk99 2 (by kernel_rfl) (LM.quietL hsk99 55 (by kernel_rfl) (by kernel_rfl) rfl rfl (Quiet.loadN ttok rfl rfl rfl rfl ((hS724.bring 5 rfl).box) rfl) rfl rfl ?_)
                refine DM.one hsk99 3 (by kernel_rfl) (LM.call hsk99 63 (by kernel_rfl) (by kernel_rfl) rfl rfl rfl rfl enters56 (impl_Net_peer_ok (Ext.refl _) (ty30.ext (hE.trans hS724.ext) h0_) ((hS724.bring 7 rfl).box) (ty38.ext (hE.trans hS724.ext) h2_) hx109) (fun v725 w726 hR727 => ?_))
                obtain ⟨rfl, hR728⟩ := hR727
                refine ⟨hR728.ext, ?_⟩
                have hS729 := hS724.join hR728
                have hS730 := hS729.bring 1 rfl
                refine DM.one hsk99 6 (by kernel_rfl) (LM.store ttok (A := []) hS730 hsk99 127 (by kernel_rfl) (by kernel_rfl) rfl rfl rfl rfl rfl rfl 0 rfl rfl rfl rfl rfl (fun w731 hS732 => ?_))
                have hS733 := hS732.bring 1 rfl
                refine DM.one hsk99 7 (by kernel_rfl) (LM.store ttok (A := []) hS733 hsk99 255 (by kernel_rfl) (by kernel_rfl) rfl rfl rfl rfl rfl rfl 0 rfl rfl rfl rfl rfl (fun w734 hS735 => ?_))
                refine DM.done hsk99 (by kernel_rfl) ?_
                exact ⟨((r101.Agent, r101.Slot), (r108.Agent, r108.Slot)), [(4, .pointer (some ⟨g13, 0, none⟩)), (5, .pointer (some ⟨g17, 0, none⟩)), (6, .pointer (some ⟨g21, 0, none⟩)), (8, .pointer (some ⟨g54, 0, none⟩)), (9, .pointer (some ⟨g595, 0, none⟩)), (10, .pointer (some ⟨g714, 0, none⟩))], ⟨rfl, rfl, rfl, rfl, rfl, rfl, trivial⟩, g595, g714, hm, ((hS735.bring 0 rfl).bring 1 rfl), rfl⟩
              · skip
                refine LM.quietL hsk99 53 (by kernel_rfl) (by kernel_rfl) rfl rfl (Quiet.loadN ttok rfl rfl rfl rfl ((hS717.bring 5 rfl).box) rfl) rfl rfl ?_
                refine DM.one hsk99 1 (by kernel_rfl) (LM.call hsk99 55 (by kernel_rfl) (by kernel_rfl) rfl rfl rfl rfl enters56 (impl_Net_peer_ok (Ext.refl _) (ty30.ext (hE.trans hS717.ext) h0_) ((hS717.bring 7 rfl).box) (ty38.ext (hE.trans hS717.ext) h1_) hx102) (fun v736 w737 hR738 => ?_))
                obtain ⟨rfl, hR739⟩ := hR738
                refine ⟨hR739.ext, ?_⟩
                have hS740 := hS717.join hR739
                refine DM.one hsk99 3 (by kernel_rfl) (LM.call hsk99 63 (by kernel_rfl) (by kernel_rfl) rfl rfl rfl rfl enters56 (impl_Net_peer_ok (Ext.refl _) (ty30.ext (hE.trans hS740.ext) h0_) ((hS740.bring 7 rfl).box) (ty38.ext (hE.trans hS740.ext) h2_) hx109) (fun v741 w742 hR743 => ?_))
                obtain ⟨rfl, hR744⟩ := hR743
                refine ⟨hR744.ext, ?_⟩
                have hS745 := hS740.join hR744
                have hS746 := hS745.bring 1 rfl
                refine DM.one hsk99 6 (by kernel_rfl) (LM.store ttok (A := []) hS746 hsk99 127 (by kernel_rfl) (by kernel_rfl) rfl rfl rfl rfl rfl rfl 0 rfl rfl rfl rfl rfl (fun w747 hS748 => ?_))
                have hS749 := hS748.bring 1 rfl
                refine DM.one hsk99 7 (by kernel_rfl) (LM.store ttok (A := []) hS749 hsk99 255 (by kernel_rfl) (by kernel_rfl) rfl rfl rfl rfl rfl rfl 0 rfl rfl rfl rfl rfl (fun w750 hS751 => ?_))
                refine DM.done hsk99 (by kernel_rfl) ?_
                exact ⟨((r101.Agent, r101.Slot), (r108.Agent, r108.Slot)), [(4, .pointer (some ⟨g13, 0, none⟩)), (5, .pointer (some ⟨g17, 0, none⟩)), (6, .pointer (some ⟨g21, 0, none⟩)), (8, .pointer (some ⟨g54, 0, none⟩)), (9, .pointer (some ⟨g595, 0, none⟩)), (10, .pointer (some ⟨g714, 0, none⟩))], ⟨rfl, rfl, rfl, rfl, rfl, rfl, trivial⟩, g595, g714, hm, ((hS751.bring 0 rfl).bring 1 rfl), rfl⟩
          · skip
            refine LM.new ttok hsk99 hS100 33 (by kernel_rfl) (by kernel_rfl) rfl rfl rfl rfl rfl (fun g752 w753 e754 hS755 => ?_)
            refine DM.all hsk99 [1, 2, 4] (by kernel_rfl) (by simp) ?_
            intro i756 hi757
            simp only [List.mem_cons, List.not_mem_nil, or_false] at hi757
            rcases hi757 with rfl | rfl | rfl
            · skip
              refine LM.call hsk99 35 (by kernel_rfl) (by kernel_rfl) rfl rfl rfl rfl enters56 (impl_Net_peer_ok (Ext.refl _) (ty30.ext (hE.trans hS755.ext) h0_) ((hS755.bring 6 rfl).box) (ty38.ext (hE.trans hS755.ext) h1_) hx102) (fun v758 w759 hR760 => ?_)
              obtain ⟨rfl, hR761⟩ := hR760
              refine ⟨hR761.ext, ?_⟩
              have hS762 := hS755.join hR761
              refine DM.all hsk99 [2, 4] (by kernel_rfl) (by simp) ?_
              intro i763 hi764
              simp only [List.mem_cons, List.not_mem_nil, or_false] at hi764
              rcases hi764 with rfl | rfl
              · skip
                refine LM.quietL hsk99 39 (by kernel_rfl) (by kernel_rfl) rfl rfl (Quiet.loadN ttok rfl rfl rfl rfl ((hS762.bring 4 rfl).box) rfl) rfl rfl ?_
                refine DM.all hsk99 [3, 4] (by kernel_rfl) (by simp) ?_
                intro i765 hi766
                simp only [List.mem_cons, List.not_mem_nil, or_false] at hi766
                rcases hi766 with rfl | rfl
                · skip
                  refine LM.call hsk99 47 (by kernel_rfl) (by kernel_rfl) rfl rfl rfl rfl enters56 (impl_Net_peer_ok (Ext.refl _) (ty30.ext (hE.trans hS762.ext) h0_) ((hS762.bring 6 rfl).box) (ty38.ext (hE.trans hS762.ext) h2_) hx109) (fun v767 w768 hR769 => ?_)
                  obtain ⟨rfl, hR770⟩ := hR769
                  refine ⟨hR770.ext, ?_⟩
                  have hS771 := hS762.join hR770
                  refine DM.one hsk99 4 (by kernel_rfl) (LM.new ttok hsk99 hS771 63 (by kernel_rfl) (by kernel_rfl) rfl rfl rfl rfl rfl (fun g772 w773 e774 hS775 => ?_))
                  have hS776 := hS775.bring 0 rfl
                  refine DM.one hsk99 6 (by kernel_rfl) (LM.store ttok (A := []) hS776 hsk99 127 (by kernel_rfl) (by kernel_rfl) rfl rfl rfl rfl rfl rfl 0 rfl rfl rfl rfl rfl (fun w777 hS778 => ?_))
                  have hS779 := hS778.bring 1 rfl
                  refine DM.one hsk99 7 (by kernel_rfl) (LM.store ttok (A := []) hS779 hsk99 255 (by kernel_rfl) (by kernel_rfl) rfl rfl rfl rfl rfl rfl 0 rfl rfl rfl rfl rfl (fun w780 hS781 => ?_))
                  refine DM.done hsk99 (by kernel_rfl) ?_
                  exact ⟨((r101.Agent, r101.Slot), (r108.Agent, r108.Slot)), [(4, .pointer (some ⟨g13, 0, none⟩)), (5, .pointer (some ⟨g17, 0, none⟩)), (6, .pointer (some ⟨g21, 0, none⟩)), (8, .pointer (some ⟨g54, 0, none⟩)), (9, .pointer (some ⟨g772, 0, none⟩)), (10, .pointer (some ⟨g752, 0, none⟩))], ⟨rfl, rfl, rfl, rfl, rfl, rfl, trivial⟩, g772, g752, hm, ((hS781.bring 0 rfl).bring 1 rfl), rfl⟩
                · skip
                  refine LM.new ttok hsk99 hS762 55 (by kernel_rfl) (by kernel_rfl) rfl rfl rfl rfl rfl (fun g782 w783 e784 hS785 => ?_)
                  refine DM.one hsk99 3 (by kernel_rfl) (LM.call hsk99 63 (by kernel_rfl) (by kernel_rfl) rfl rfl rfl rfl enters56 (impl_Net_peer_ok (Ext.refl _) (ty30.ext (hE.trans hS785.ext) h0_) ((hS785.bring 7 rfl).box) (ty38.ext (hE.trans hS785.ext) h2_) hx109) (fun v786 w787 hR788 => ?_))
                  obtain ⟨rfl, hR789⟩ := hR788
                  refine ⟨hR789.ext, ?_⟩
                  have hS790 := hS785.join hR789
                  have hS791 := hS790.bring 0 rfl
                  refine DM.one hsk99 6 (by kernel_rfl) (LM.store ttok (A := []) hS791 hsk99 127 (by kernel_rfl) (by kernel_rfl) rfl rfl rfl rfl rfl rfl 0 rfl rfl rfl rfl rfl (fun w792 hS793 => ?_))
                  have hS794 := hS793.bring 1 rfl
                  refine DM.one hsk99 7 (by kernel_rfl) (LM.store ttok (A := []) hS794 hsk99 255 (by kernel_rfl) (by kernel_rfl) rfl rfl rfl rfl rfl rfl 0 rfl rfl rfl rfl rfl (fun w795 hS796 => ?_))
                  refine DM.done hsk99 (by kernel_rfl) ?_
                  exact ⟨((r101.Agent, r101.Slot), (r108.Agent, r108.Slot)), [(4, .pointer (some ⟨g13, 0, none⟩)), (5, .pointer (some ⟨g17, 0, none⟩)), (6, .pointer (some ⟨g21, 0, none⟩)), (8, .pointer (some ⟨g54, 0, none⟩)), (9, .pointer (some ⟨g782, 0, none⟩)), (10, .pointer (some ⟨g752, 0, none⟩))], ⟨rfl, rfl, rfl, rfl, rfl, rfl, trivial⟩, g782, g752, hm, ((hS796.bring 0 rfl).bring 1 rfl), rfl⟩
              · skip
                refine LM.new ttok hsk99 hS762 51 (by kernel_rfl) (by kernel_rfl) rfl rfl rfl rfl rfl (fun g797 w798 e799 hS800 => ?_)
                refine DM.one hsk99 2 (by kernel_rfl) (LM.quietL hsk99 55 (by kernel_rfl) (by kernel_rfl) rfl rfl (Quiet.loadN ttok rfl rfl rfl rfl ((hS800.bring 5 rfl).box) rfl) rfl rfl ?_)
                refine DM.one hsk99 3 (by kernel_rfl) (LM.call hsk99 63 (by kernel_rfl) (by kernel_rfl) rfl rfl rfl rfl enters56 (impl_Net_peer_ok (Ext.refl _) (ty30.ext (hE.trans hS800.ext) h0_) ((hS800.bring 7 rfl).box) (ty38.ext (hE.trans hS800.ext) h2_) hx109) (fun v801 w802 hR803 => ?_))
                obtain ⟨rfl, hR804⟩ := hR803
                refine ⟨hR804.ext, ?_⟩
                have hS805 := hS800.join hR804
                have hS806 := hS805.bring 0 rfl
                refine DM.one hsk99 6 (by kernel_rfl) (LM.store ttok (A := []) hS806 hsk99 127 (by kernel_rfl) (by kernel_rfl) rfl rfl rfl rfl rfl rfl 0 rfl rfl rfl rfl rfl (fun w807 hS808 => ?_))
                have hS809 := hS808.bring 1 rfl
                refine DM.one hsk99 7 (by kernel_rfl) (LM.store ttok (A := []) hS809 hsk99 255 (by kernel_rfl) (by kernel_rfl) rfl rfl rfl rfl rfl rfl 0 rfl rfl rfl rfl rfl (fun w810 hS811 => ?_))
                refine DM.done hsk99 (by kernel_rfl) ?_
                exact ⟨((r101.Agent, r101.Slot), (r108.Agent, r108.Slot)), [(4, .pointer (some ⟨g13, 0, none⟩)), (5, .pointer (some ⟨g17, 0, none⟩)), (6, .pointer (some ⟨g21, 0, none⟩)), (8, .pointer (some ⟨g54, 0, none⟩)), (9, .pointer (some ⟨g797, 0, none⟩)), (10, .pointer (some ⟨g752, 0, none⟩))], ⟨rfl, rfl, rfl, rfl, rfl, rfl, trivial⟩, g797, g752, hm, ((hS811.bring 0 rfl).bring 1 rfl), rfl⟩
            · skip
              refine LM.quietL hsk99 37 (by kernel_rfl) (by kernel_rfl) rfl rfl (Quiet.loadN ttok rfl rfl rfl rfl ((hS755.bring 4 rfl).box) rfl) rfl rfl ?_
              refine DM.all hsk99 [1, 4] (by kernel_rfl) (by simp) ?_
              intro i812 hi813
              simp only [List.mem_cons, List.not_mem_nil, or_false] at hi813
              rcases hi813 with rfl | rfl
              · skip
                refine LM.call hsk99 39 (by kernel_rfl) (by kernel_rfl) rfl rfl rfl rfl enters56 (impl_Net_peer_ok (Ext.refl _) (ty30.ext (hE.trans hS755.ext) h0_) ((hS755.bring 6 rfl).box) (ty38.ext (hE.trans hS755.ext) h1_) hx102) (fun v814 w815 hR816 => ?_)
                obtain ⟨rfl, hR817⟩ := hR816
                refine ⟨hR817.ext, ?_⟩
                have hS818 := hS755.join hR817
                refine DM.all hsk99 [3, 4] (by kernel_rfl) (by simp) ?_
                intro i819 hi820
                simp only [List.mem_cons, List.not_mem_nil, or_false] at hi820
                rcases hi820 with rfl | rfl
                · skip
                  refine LM.call hsk99 47 (by kernel_rfl) (by kernel_rfl) rfl rfl rfl rfl enters56 (impl_Net_peer_ok (Ext.refl _) (ty30.ext (hE.trans hS818.ext) h0_) ((hS818.bring 6 rfl).box) (ty38.ext (hE.trans hS818.ext) h2_) hx109) (fun v821 w822 hR823 => ?_)
                  obtain ⟨rfl, hR824⟩ := hR823
                  refine ⟨hR824.ext, ?_⟩
                  have hS825 := hS818.join hR824
                  refine DM.one hsk99 4 (by kernel_rfl) (LM.new ttok hsk99 hS825 63 (by kernel_rfl) (by kernel_rfl) rfl rfl rfl rfl rfl (fun g826 w827 e828 hS829 => ?_))
                  have hS830 := hS829.bring 0 rfl
                  refine DM.one hsk99 6 (by kernel_rfl) (LM.store ttok (A := []) hS830 hsk99 127 (by kernel_rfl) (by kernel_rfl) rfl rfl rfl rfl rfl rfl 0 rfl rfl rfl rfl rfl (fun w831 hS832 => ?_))
                  have hS833 := hS832.bring 1 rfl
                  refine DM.one hsk99 7 (by kernel_rfl) (LM.store ttok (A := []) hS833 hsk99 255 (by kernel_rfl) (by kernel_rfl) rfl rfl rfl rfl rfl rfl 0 rfl rfl rfl rfl rfl (fun w834 hS835 => ?_))
                  refine DM.done hsk99 (by kernel_rfl) ?_
                  exact ⟨((r101.Agent, r101.Slot), (r108.Agent, r108.Slot)), [(4, .pointer (some ⟨g13, 0, none⟩)), (5, .pointer (some ⟨g17, 0, none⟩)), (6, .pointer (some ⟨g21, 0, none⟩)), (8, .pointer (some ⟨g54, 0, none⟩)), (9, .pointer (some ⟨g826, 0, none⟩)), (10, .pointer (some ⟨g752, 0, none⟩))], ⟨rfl, rfl, rfl, rfl, rfl, rfl, trivial⟩, g826, g752, hm, ((hS835.bring 0 rfl).bring 1 rfl), rfl⟩
                · skip
                  refine LM.new ttok hsk99 hS818 55 (by kernel_rfl) (by kernel_rfl) rfl rfl rfl rfl rfl (fun g836 w837 e838 hS839 => ?_)
                  refine DM.one hsk99 3 (by kernel_rfl) (LM.call hsk99 63 (by kernel_rfl) (by kernel_rfl) rfl rfl rfl rfl enters56 (impl_Net_peer_ok (Ext.refl _) (ty30.ext (hE.trans hS839.ext) h0_) ((hS839.bring 7 rfl).box) (ty38.ext (hE.trans hS839.ext) h2_) hx109) (fun v840 w841 hR842 => ?_))
                  obtain ⟨rfl, hR843⟩ := hR842
                  refine ⟨hR843.ext, ?_⟩
                  have hS844 := hS839.join hR843
                  have hS845 := hS844.bring 0 rfl
                  refine DM.one hsk99 6 (by kernel_rfl) (LM.store ttok (A := []) hS845 hsk99 127 (by kernel_rfl) (by kernel_rfl) rfl rfl rfl rfl rfl rfl 0 rfl rfl rfl rfl rfl (fun w846 hS847 => ?_))
                  have hS848 := hS847.bring 1 rfl
                  refine DM.one hsk99 7 (by kernel_rfl) (LM.store ttok (A := []) hS848 hsk99 255 (by kernel_rfl) (by kernel_rfl) rfl rfl rfl rfl rfl rfl 0 rfl rfl rfl rfl rfl (fun w849 hS850 => ?_))
                  refine DM.done hsk99 (by kernel_rfl) ?_
                  exact ⟨((r101.Agent, r101.Slot), (r108.Agent, r108.Slot)), [(4, .pointer (some ⟨g13, 0, none⟩)), (5, .pointer (some ⟨g17, 0, none⟩)), (6, .pointer (some ⟨g21, 0, none⟩)), (8, .pointer (some ⟨g54, 0, none⟩)), (9, .pointer (some ⟨g836, 0, none⟩)), (10, .pointer (some ⟨g752, 0, none⟩))], ⟨rfl, rfl, rfl, rfl, rfl, rfl, trivial⟩, g836, g752, hm, ((hS850.bring 0 rfl).bring 1 rfl), rfl⟩
              · skip
                refine LM.new ttok hsk99 hS755 53 (by kernel_rfl) (by kernel_rfl) rfl rfl rfl rfl rfl (fun g851 w852 e853 hS854 => ?_)
                refine DM.one hsk99 1 (by kernel_rfl) (LM.call hsk99 55 (by kernel_rfl) (by kernel_rfl) rfl rfl rfl rfl enters56 (impl_Net_peer_ok (Ext.refl _) (ty30.ext (hE.trans hS854.ext) h0_) ((hS854.bring 7 rfl).box) (ty38.ext (hE.trans hS854.ext) h1_) hx102) (fun v855 w856 hR857 => ?_))
                obtain ⟨rfl, hR858⟩ := hR857
                refine ⟨hR858.ext, ?_⟩
                have hS859 := hS854.join hR858
                refine DM.one hsk99 3 (by kernel_rfl) (LM.call hsk99 63 (by kernel_rfl) (by kernel_rfl) rfl rfl rfl rfl enters56 (impl_Net_peer_ok (Ext.refl _) (ty30.ext (hE.trans hS859.ext) h0_) ((hS859.bring 7 rfl).box) (ty38.ext (hE.trans hS859.ext) h2_) hx109) (fun v860 w861 hR862 => ?_))
                obtain ⟨rfl, hR863⟩ := hR862
                refine ⟨hR863.ext, ?_⟩
                have hS864 := hS859.join hR863
                have hS865 := hS864.bring 0 rfl
                refine DM.one hsk99 6 (by kernel_rfl) (LM.store ttok (A := []) hS865 hsk99 127 (by kernel_rfl) (by kernel_rfl) rfl rfl rfl rfl rfl rfl 0 rfl rfl rfl rfl rfl (fun w866 hS867 => ?_))
                have hS868 := hS867.bring 1 rfl
                refine DM.one hsk99 7 (by kernel_rfl) (LM.store ttok (A := []) hS868 hsk99 255 (by kernel_rfl) (by kernel_rfl) rfl rfl rfl rfl rfl rfl 0 rfl rfl rfl rfl rfl (fun w869 hS870 => ?_))
                refine DM.done hsk99 (by kernel_rfl) ?_
                exact ⟨((r101.Agent, r101.Slot), (r108.Agent, r108.Slot)), [(4, .pointer (some ⟨g13, 0, none⟩)), (5, .pointer (some ⟨g17, 0, none⟩)), (6, .pointer (some ⟨g21, 0, none⟩)), (8, .pointer (some ⟨g54, 0, none⟩)), (9, .pointer (some ⟨g851, 0, none⟩)), (10, .pointer (some ⟨g752, 0, none⟩))], ⟨rfl, rfl, rfl, rfl, rfl, rfl, trivial⟩, g851, g752, hm, ((hS870.bring 0 rfl).bring 1 rfl), rfl⟩
            · skip
              refine LM.new ttok hsk99 hS755 49 (by kernel_rfl) (by kernel_rfl) rfl rfl rfl rfl rfl (fun g871 w872 e873 hS874 => ?_)
              refine DM.all hsk99 [1, 2] (by kernel_rfl) (by simp) ?_
              intro i875 hi876
              simp only [List.mem_cons, List.not_mem_nil, or_false] at hi876
              rcases hi876 with rfl | rfl
              · skip
                refine LM.call hsk99 51 (by kernel_rfl) (by kernel_rfl) rfl rfl rfl rfl enters56 (impl_Net_peer_ok (Ext.refl _) (ty30.ext (hE.trans hS874.ext) h0_) ((hS874.bring 7 rfl).box) (ty38.ext (hE.trans hS874.ext) h1_) hx102) (fun v877 w878 hR879 => ?_)
                obtain ⟨rfl, hR880⟩ := hR879
                refine ⟨hR880.ext, ?_⟩
                have hS881 := hS874.join hR880
                refine DM.one hsk99 2 (by kernel_rfl) (LM.quietL hsk99 55 (by kernel_rfl) (by kernel_rfl) rfl rfl (Quiet.loadN ttok rfl rfl rfl rfl ((hS881.bring 5 rfl).box) rfl) rfl rfl ?_)
                refine DM.one hsk99 3 (by kernel_rfl) (LM.call hsk99 63 (by kernel_rfl) (by kernel_rfl) rfl rfl rfl rfl enters56 (impl_Net_peer_ok (Ext.refl _) (ty30.ext (hE.trans hS881.ext) h0_) ((hS881.bring 7 rfl).box) (ty38.ext (hE.trans hS881.ext) h2_) hx109) (fun v882 w883 hR884 => ?_))
                obtain ⟨rfl, hR885⟩ := hR884
                refine ⟨hR885.ext, ?_⟩
                have hS886 := hS881.join hR885
                have hS887 := hS886.bring 0 rfl
                refine DM.one hsk99 6 (by kernel_rfl) (LM.store ttok (A := []) hS887 hsk99 127 (by kernel_rfl) (by kernel_rfl) rfl rfl rfl rfl rfl rfl 0 rfl rfl rfl rfl rfl (fun w888 hS889 => ?_))
                have hS890 := hS889.bring 1 rfl
                refine DM.one hsk99 7 (by kernel_rfl) (LM.store ttok (A := []) hS890 hsk99 255 (by kernel_rfl) (by kernel_rfl) rfl rfl rfl rfl rfl rfl 0 rfl rfl rfl rfl rfl (fun w891 hS892 => ?_))
                refine DM.done hsk99 (by kernel_rfl) ?_
                exact ⟨((r101.Agent, r101.Slot), (r108.Agent, r108.Slot)), [(4, .pointer (some ⟨g13, 0, none⟩)), (5, .pointer (some ⟨g17, 0, none⟩)), (6, .pointer (some ⟨g21, 0, none⟩)), (8, .pointer (some ⟨g54, 0, none⟩)), (9, .pointer (some ⟨g871, 0, none⟩)), (10, .pointer (some ⟨g752, 0, none⟩))], ⟨rfl, rfl, rfl, rfl, rfl, rfl, trivial⟩, g871, g752, hm, ((hS892.bring 0 rfl).bring 1 rfl), rfl⟩
              · skip
                refine LM.quietL hsk99 53 (by kernel_rfl) (by kernel_rfl) rfl rfl (Quiet.loadN ttok rfl rfl rfl rfl ((hS874.bring 5 rfl).box) rfl) rfl rfl ?_
                refine DM.one hsk99 1 (by kernel_rfl) (LM.call hsk99 55 (by kernel_rfl) (by kernel_rfl) rfl rfl rfl rfl enters56 (impl_Net_peer_ok (Ext.refl _) (ty30.ext (hE.trans hS874.ext) h0_) ((hS874.bring 7 rfl).box) (ty38.ext (hE.trans hS874.ext) h1_) hx102) (fun v893 w894 hR895 => ?_))
                obtain ⟨rfl, hR896⟩ := hR895
                refine ⟨hR896.ext, ?_⟩
                have hS897 := hS874.join hR896
                refine DM.one hsk99 3 (by kernel_rfl) (LM.call hsk99 63 (by kernel_rfl) (by kernel_rfl) rfl rfl rfl rfl enters56 (impl_Net_peer_ok (Ext.refl _) (ty30.ext (hE.trans hS897.ext) h0_) ((hS897.bring 7 rfl).box) (ty38.ext (hE.trans hS897.ext) h2_) hx109) (fun v898 w899 hR900 => ?_))
                obtain ⟨rfl, hR901⟩ := hR900
                refine ⟨hR901.ext, ?_⟩
                have hS902 := hS897.join hR901
                have hS903 := hS902.bring 0 rfl
                refine DM.one hsk99 6 (by kernel_rfl) (LM.store ttok (A := []) hS903 hsk99 127 (by kernel_rfl) (by kernel_rfl) rfl rfl rfl rfl rfl rfl 0 rfl rfl rfl rfl rfl (fun w904 hS905 => ?_))
                have hS906 := hS905.bring 1 rfl
                refine DM.one hsk99 7 (by kernel_rfl) (LM.store ttok (A := []) hS906 hsk99 255 (by kernel_rfl) (by kernel_rfl) rfl rfl rfl rfl rfl rfl 0 rfl rfl rfl rfl rfl (fun w907 hS908 => ?_))
                refine DM.done hsk99 (by kernel_rfl) ?_
                exact ⟨((r101.Agent, r101.Slot), (r108.Agent, r108.Slot)), [(4, .pointer (some ⟨g13, 0, none⟩)), (5, .pointer (some ⟨g17, 0, none⟩)), (6, .pointer (some ⟨g21, 0, none⟩)), (8, .pointer (some ⟨g54, 0, none⟩)), (9, .pointer (some ⟨g871, 0, none⟩)), (10, .pointer (some ⟨g752, 0, none⟩))], ⟨rfl, rfl, rfl, rfl, rfl, rfl, trivial⟩, g871, g752, hm, ((hS908.bring 0 rfl).bring 1 rfl), rfl⟩
    · skip
      refine WP.region ?_
      refine RW.run ttok 1 rfl ?_
      refine RW.load1 ttok rfl rfl rfl rfl rfl ((hS31.bring 3 rfl).box) 0 rfl rfl rfl rfl ?_
      refine RW.loadN ttok rfl rfl rfl rfl rfl ((hS31.bring 2 rfl).box) rfl rfl rfl ?_
      obtain ⟨r909, hx910, hm⟩ := bind_some hm
      refine RW.call rfl rfl rfl enters54 (impl_hasPort_ok (hE.trans hS31.ext) h3 h1_ hx910) (fun v911 w912 hR913 => ?_)
      obtain ⟨rfl, hR914⟩ := hR913
      have hS915 := hS31.join hR914
      refine RW.run ttok 2 rfl ?_
      by_cases hg916 : (!r909) = true
      · skip
        rw [if_pos hg916] at hm
        refine RW.know 20 rfl (congrArg Value.bool hg916) ?_
        refine RW.run ttok 6 rfl ?_
        refine RW.nil ?_
        exact ⟨true, [(3, .pointer (some ⟨g7, 0, none⟩)), (4, .pointer (some ⟨g13, 0, none⟩)), (5, .pointer (some ⟨g17, 0, none⟩)), (6, .pointer (some ⟨g21, 0, none⟩)), (26, .bool true)], ⟨rfl, rfl, rfl, rfl, rfl, trivial⟩, hm, hR914.ext, hS915, rfl⟩
      · skip
        rw [if_neg hg916] at hm
        refine RW.know 20 rfl (congrArg Value.bool (Bool.eq_false_iff.2 hg916)) ?_
        refine RW.run ttok 1 rfl ?_
        refine RW.load1 ttok rfl rfl rfl rfl rfl ((hS915.bring 3 rfl).box) 0 rfl rfl rfl rfl ?_
        refine RW.loadN ttok rfl rfl rfl rfl rfl ((hS915.bring 1 rfl).box) rfl rfl rfl ?_
        obtain ⟨r917, hx918, hm⟩ := bind_some hm
        refine RW.call rfl rfl rfl enters54 (impl_hasPort_ok (hE.trans hS915.ext) h3 h2_ hx918) (fun v919 w920 hR921 => ?_)
        obtain ⟨rfl, hR922⟩ := hR921
        have hS923 := hS915.join hR922
        refine RW.run ttok 2 rfl ?_
        refine RW.nil ?_
        exact ⟨!r917, [(3, .pointer (some ⟨g7, 0, none⟩)), (4, .pointer (some ⟨g13, 0, none⟩)), (5, .pointer (some ⟨g17, 0, none⟩)), (6, .pointer (some ⟨g21, 0, none⟩)), (26, .bool (!r917))], ⟨rfl, rfl, rfl, rfl, rfl, trivial⟩, hm, (hR914.ext.trans hR922.ext), hS923, rfl⟩

theorem enters127 : Enters Try.prog 127 := ⟨_, _, Try.func127, rfl, by kernel_rfl⟩
def m_laws_eqInt64S_j1 (fuel : Nat) (t2 : Unit) : Option Bool := some true
def m_laws_eqInt64S_b1 (fuel : Nat) (x0 : (List Int)) (x1 : (List Int)) (s1 : Int) : Option (Rd (Int) (Unit) (Bool)) := (if (decide (s1 < (x0.length : Int))) = true then ((idx x0 s1).bind fun x21 => ((idx x1 s1).bind fun x27 => (if (x21 != x27) = true then some (.ret false) else some (.next (w64 (s1 + 1)))))) else some (.brk ()))
def m_laws_eqInt64S (fuel : Nat) (x0 : (List Int)) (x1 : (List Int)) : Option (Bool) := (if ((x0.length : Int) != (x1.length : Int)) = true then some false else ((iter (m_laws_eqInt64S_b1 fuel x0 x1) fuel 0).bind fun o => aft o (m_laws_eqInt64S_j1 fuel)))

set_option maxRecDepth 100000 in
theorem laws_eqInt64S_ok {W w : World} (hE : Ext W w) {A0_ : Option Addr} {k0_ : Nat} {x0 : (List Int)} {A1_ : Option Addr} {k1_ : Nat} {x1 : (List Int)} (h0_ : ty103.ro W [.slice A0_ x0.length k0_] x0) (h1_ : ty103.ro W [.slice A1_ x1.length k1_] x1) {fuel : Nat} {r : Bool} (hm : m_laws_eqInt64S fuel x0 x1 = some r) :
    Calls Try.prog 127 ⟨[.slice A0_ x0.length k0_, .slice A1_ x1.length k1_]⟩ w (Ret fun v w8 => v = .bool r ∧ St w w8 []) := by
  refine Calls.into Try.func127 rfl 26 rfl rfl _ rfl ?_
  unfold m_laws_eqInt64S at hm
  have hS := St.start w
  refine WP.seq ?_
  refine WP.region ?_
  refine RW.run ttok 1 rfl ?_
  refine RW.nil ?_
  refine WP.seq ?_
  refine WP.seq ?_
  refine WP.region ?_
  refine RW.run ttok 5 rfl ?_
  refine RW.nil ?_
  refine WP.cond ((x0.length : Int) != (x1.length : Int)) rfl (fun hc => ?_) (fun hc => ?_)
  · skip
    rw [if_pos hc] at hm
    refine WP.seq ?_
    refine WP.region ?_
    refine RW.run ttok 1 rfl ?_
    refine RW.nil ?_
    refine WP.ret ?_
    cases hm
    exact ⟨_, .cons (.tmp rfl) .nil, rfl, hS⟩
  · skip
    rw [if_neg (not_t hc)] at hm
    refine WP.skip ?_
    refine WP.seq ?_
    refine WP.seq ?_
    refine WP.region ?_
    refine RW.run ttok 1 rfl ?_
    refine RW.nil ?_
    obtain ⟨o10, hl11, hm⟩ := bind_some hm
    refine WP.cut (fun (t2 : Unit) F w9 => o10 = .inl t2 ∧ Ext w w9 ∧ St w w9 [] ∧ F = []) ?_ ?_
    · skip
      rintro t2 F w7 ⟨ho13, hE6, hS12, rfl⟩
      subst ho13
      rw [aft_inl] at hm
      unfold m_laws_eqInt64S_j1 at hm
      refine WP.seq ?_
      refine WP.region ?_
      refine RW.run ttok 1 rfl ?_
      refine RW.nil ?_
      refine WP.ret ?_
      cases hm
      exact ⟨_, .cons (.tmp rfl) .nil, rfl, hS12⟩
    · skip
      refine WP.block ?_
      refine WP.weak [(0, .slice A0_ x0.length k0_), (1, .slice A1_ x1.length k1_), (5, .int .i64 0)] ⟨rfl, rfl, rfl, trivial⟩ ?_
      refine WP.iter (fun (s1 : Int) F w9 => Ext w w9 ∧ St w w9 [] ∧ F = [(0, .slice A0_ x0.length k0_), (1, .slice A1_ x1.length k1_), (5, .int .i64 s1)]) _ hl11 ⟨(Ext.refl _), hS, rfl⟩ ?_
      rintro s1 F w18 _ o16 ⟨hE5, hS17, rfl⟩ hb14 ho15
      unfold m_laws_eqInt64S_b1 at hb14
      refine WP.seq ?_
      refine WP.seq ?_
      refine WP.region ?_
      refine RW.run ttok 4 rfl ?_
      refine RW.nil ?_
      refine WP.cond (decide (s1 < (x0.length : Int))) rfl (fun hc => ?_) (fun hc => ?_)
      · skip
        rw [if_pos hc] at hb14
        refine WP.skip ?_
        refine WP.seq ?_
        refine WP.block ?_
        refine WP.seq ?_
        refine WP.drawnM 0 mixed 9 (by kernel_rfl) (by kernel_rfl) [([], 511), ([], 511), ([0, 1], 508), ([2], 507), ([], 511), ([], 511), ([4, 5], 463), ([6], 447), ([3, 7], 375)] (by kernel_rfl) hS17.ext (fun hsk19 => ?_)
        have hS20 := hS17.step (Ext.draw _)
        refine DM.run (fuel := 5) ttok hsk19 [0, 1, 4, 5] 51 (by kernel_rfl) (by kernel_rfl) rfl ?_
        obtain ⟨x21, hx22, hb14⟩ := bind_some hb14
        refine DM.idx ttok (hE.trans hS17.ext) hsk19 2 55 (by kernel_rfl) (by kernel_rfl) (by kernel_rfl) (by kernel_rfl) rfl (by kernel_rfl) rfl rfl rfl rfl rfl rfl (by decide) rfl rfl h0_ (idx_some hx22).1 (idx_some hx22).2 rfl rfl (fun p23 es24 ha25 hr26 => ?_)
        cases hr26
        refine DM.load1 ttok hsk19 3 63 (by kernel_rfl) (by kernel_rfl) (by kernel_rfl) (by kernel_rfl) rfl (by kernel_rfl) rfl rfl rfl rfl rfl (At.ext (hE.trans hS17.ext) ha25) 0 rfl rfl rfl rfl ?_
        obtain ⟨x27, hx28, hb14⟩ := bind_some hb14
        refine DM.idx ttok (hE.trans hS17.ext) hsk19 6 127 (by kernel_rfl) (by kernel_rfl) (by kernel_rfl) (by kernel_rfl) rfl (by kernel_rfl) rfl rfl rfl rfl rfl rfl (by decide) rfl rfl h1_ (idx_some hx28).1 (idx_some hx28).2 rfl rfl (fun p29 es30 ha31 hr32 => ?_)
        cases hr32
        refine DM.load1 ttok hsk19 7 255 (by kernel_rfl) (by kernel_rfl) (by kernel_rfl) (by kernel_rfl) rfl (by kernel_rfl) rfl rfl rfl rfl rfl (At.ext (hE.trans hS17.ext) ha31) 0 rfl rfl rfl rfl ?_
        refine DM.run (fuel := 0) ttok hsk19 [8] 511 (by kernel_rfl) (by kernel_rfl) rfl ?_
        refine DM.weak [(0, .slice A0_ x0.length k0_), (1, .slice A1_ x1.length k1_), (5, .int .i64 s1), (25, .bool (x21 != x27))] ⟨rfl, rfl, rfl, rfl, trivial⟩ ?_
        refine DM.done hsk19 (by kernel_rfl) ?_
        refine WP.cond (x21 != x27) rfl (fun hc => ?_) (fun hc => ?_)
        · skip
          rw [if_pos hc] at hb14
          refine WP.seq ?_
          refine WP.region ?_
          refine RW.run ttok 1 rfl ?_
          refine RW.nil ?_
          refine WP.ret ?_
          cases hb14
          cases ho15
          have hm : some _ = some _ := hm
          cases hm
          exact ⟨_, .cons (.tmp rfl) .nil, rfl, hS20⟩
        · skip
          rw [if_neg (not_t hc)] at hb14
          refine WP.skip ?_
          refine WP.region ?_
          refine RW.run ttok 3 rfl ?_
          refine RW.nil ?_
          cases hb14
          exact ⟨_, [(0, .slice A0_ x0.length k0_), (1, .slice A1_ x1.length k1_), (5, .int .i64 (w64 (s1 + 1)))], ⟨rfl, rfl, rfl, trivial⟩, rfl, (hE5.trans (Ext.draw _)), hS20, rfl⟩
      · skip
        rw [if_neg (not_t hc)] at hb14
        refine WP.exit ?_
        cases hb14
        exact ⟨_, [], trivial, ho15, hE5, hS17, rfl⟩

theorem enters129 : Enters Try.prog 129 := ⟨_, _, Try.func129, rfl, by kernel_rfl⟩
def m_laws_eqPort (fuel : Nat) (x0 : D.Port) (x1 : D.Port) : Option (Bool) := (if (x0.Agent != x1.Agent) = true then some false else (if (x0.Slot != x1.Slot) = true then some false else some true))

set_option maxRecDepth 100000 in
theorem laws_eqPort_ok {W w : World} (hE : Ext W w) {c0_ : List Value} {x0 : D.Port} {c1_ : List Value} {x1 : D.Port} (h0_ : ty38.ro W c0_ x0) (h1_ : ty38.ro W c1_ x1) {fuel : Nat} {r : Bool} (hm : m_laws_eqPort fuel x0 x1 = some r) :
    Calls Try.prog 129 ⟨[.agg ⟨c0_⟩, .agg ⟨c1_⟩]⟩ w (Ret fun v w8 => v = .bool r ∧ St w w8 []) := by
  have e1 := ty38_open h0_; subst e1
  have e2 := ty38_open h1_; subst e2
  refine Calls.into Try.func129 rfl 15 rfl rfl _ rfl ?_
  unfold m_laws_eqPort at hm
  have hS := St.start w
  refine WP.seq ?_
  refine WP.region ?_
  refine RW.new ttok hS rfl rfl rfl rfl (fun g3 w4 e5 hS6 => ?_)
  refine RW.new ttok hS6 rfl rfl rfl rfl (fun g7 w10 e11 hS12 => ?_)
  refine RW.run ttok 1 rfl ?_
  refine RW.nil ?_
  refine WP.seq ?_
  refine WP.seq ?_
  refine WP.region ?_
  refine RW.run ttok 1 rfl ?_
  refine RW.load1 ttok rfl rfl rfl rfl rfl ((hS12.bring 1 rfl).box) 0 rfl rfl rfl rfl ?_
  refine RW.run ttok 1 rfl ?_
  refine RW.load1 ttok rfl rfl rfl rfl rfl ((hS12.bring 0 rfl).box) 0 rfl rfl rfl rfl ?_
  refine RW.run ttok 1 rfl ?_
  refine RW.nil ?_
  refine WP.cond (x0.Agent != x1.Agent) rfl (fun hc => ?_) (fun hc => ?_)
  · skip
    rw [if_pos hc] at hm
    refine WP.seq ?_
    refine WP.region ?_
    refine RW.run ttok 1 rfl ?_
    refine RW.nil ?_
    refine WP.ret ?_
    cases hm
    exact ⟨_, .cons (.tmp rfl) .nil, rfl, (hS12.taken 0)⟩
  · skip
    rw [if_neg (not_t hc)] at hm
    refine WP.skip ?_
    refine WP.seq ?_
    refine WP.seq ?_
    refine WP.region ?_
    refine RW.run ttok 1 rfl ?_
    refine RW.load1 ttok rfl rfl rfl rfl rfl ((hS12.bring 1 rfl).box) 1 rfl rfl rfl rfl ?_
    refine RW.run ttok 1 rfl ?_
    refine RW.load1 ttok rfl rfl rfl rfl rfl ((hS12.bring 0 rfl).box) 1 rfl rfl rfl rfl ?_
    refine RW.run ttok 1 rfl ?_
    refine RW.nil ?_
    refine WP.cond (x0.Slot != x1.Slot) rfl (fun hc => ?_) (fun hc => ?_)
    · skip
      rw [if_pos hc] at hm
      refine WP.seq ?_
      refine WP.region ?_
      refine RW.run ttok 1 rfl ?_
      refine RW.nil ?_
      refine WP.ret ?_
      cases hm
      exact ⟨_, .cons (.tmp rfl) .nil, rfl, (hS12.taken 0)⟩
    · skip
      rw [if_neg (not_t hc)] at hm
      refine WP.skip ?_
      refine WP.seq ?_
      refine WP.region ?_
      refine RW.run ttok 1 rfl ?_
      refine RW.nil ?_
      refine WP.ret ?_
      cases hm
      exact ⟨_, .cons (.tmp rfl) .nil, rfl, (hS12.taken 0)⟩

theorem enters128 : Enters Try.prog 128 := ⟨_, _, Try.func128, rfl, by kernel_rfl⟩
def m_laws_eqPortS_j1 (fuel : Nat) (t2 : Unit) : Option Bool := some true
def m_laws_eqPortS_b1 (fuel : Nat) (x0 : (List D.Port)) (x1 : (List D.Port)) (s1 : Int) : Option (Rd (Int) (Unit) (Bool)) := (if (decide (s1 < (x0.length : Int))) = true then ((idx x0 s1).bind fun x21 => ((idx x1 s1).bind fun x28 => ((m_laws_eqPort fuel x21 x28).bind fun r35 => (if (!r35) = true then some (.ret false) else some (.next (w64 (s1 + 1))))))) else some (.brk ()))
def m_laws_eqPortS (fuel : Nat) (x0 : (List D.Port)) (x1 : (List D.Port)) : Option (Bool) := (if ((x0.length : Int) != (x1.length : Int)) = true then some false else ((iter (m_laws_eqPortS_b1 fuel x0 x1) fuel 0).bind fun o => aft o (m_laws_eqPortS_j1 fuel)))

set_option maxRecDepth 100000 in
theorem laws_eqPortS_ok {W w : World} (hE : Ext W w) {A0_ : Option Addr} {k0_ : Nat} {x0 : (List D.Port)} {A1_ : Option Addr} {k1_ : Nat} {x1 : (List D.Port)} (h0_ : ty110.ro W [.slice A0_ x0.length k0_] x0) (h1_ : ty110.ro W [.slice A1_ x1.length k1_] x1) {fuel : Nat} {r : Bool} (hm : m_laws_eqPortS fuel x0 x1 = some r) :
    Calls Try.prog 128 ⟨[.slice A0_ x0.length k0_, .slice A1_ x1.length k1_]⟩ w (Ret fun v w8 => v = .bool r ∧ St w w8 []) := by
  refine Calls.into Try.func128 rfl 27 rfl rfl _ rfl ?_
  unfold m_laws_eqPortS at hm
  have hS := St.start w
  refine WP.seq ?_
  refine WP.region ?_
  refine RW.run ttok 1 rfl ?_
  refine RW.nil ?_
  refine WP.seq ?_
  refine WP.seq ?_
  refine WP.region ?_
  refine RW.run ttok 5 rfl ?_
  refine RW.nil ?_
  refine WP.cond ((x0.length : Int) != (x1.length : Int)) rfl (fun hc => ?_) (fun hc => ?_)
  · skip
    rw [if_pos hc] at hm
    refine WP.seq ?_
    refine WP.region ?_
    refine RW.run ttok 1 rfl ?_
    refine RW.nil ?_
    refine WP.ret ?_
    cases hm
    exact ⟨_, .cons (.tmp rfl) .nil, rfl, hS⟩
  · skip
    rw [if_neg (not_t hc)] at hm
    refine WP.skip ?_
    refine WP.seq ?_
    refine WP.seq ?_
    refine WP.region ?_
    refine RW.run ttok 1 rfl ?_
    refine RW.nil ?_
    obtain ⟨o10, hl11, hm⟩ := bind_some hm
    refine WP.cut (fun (t2 : Unit) F w9 => o10 = .inl t2 ∧ Ext w w9 ∧ St w w9 [] ∧ F = []) ?_ ?_
    · skip
      rintro t2 F w7 ⟨ho13, hE6, hS12, rfl⟩
      subst ho13
      rw [aft_inl] at hm
      unfold m_laws_eqPortS_j1 at hm
      refine WP.seq ?_
      refine WP.region ?_
      refine RW.run ttok 1 rfl ?_
      refine RW.nil ?_
      refine WP.ret ?_
      cases hm
      exact ⟨_, .cons (.tmp rfl) .nil, rfl, hS12⟩
    · skip
      refine WP.block ?_
      refine WP.weak [(0, .slice A0_ x0.length k0_), (1, .slice A1_ x1.length k1_), (5, .int .i64 0)] ⟨rfl, rfl, rfl, trivial⟩ ?_
      refine WP.iter (fun (s1 : Int) F w9 => Ext w w9 ∧ St w w9 [] ∧ F = [(0, .slice A0_ x0.length k0_), (1, .slice A1_ x1.length k1_), (5, .int .i64 s1)]) _ hl11 ⟨(Ext.refl _), hS, rfl⟩ ?_
      rintro s1 F w18 _ o16 ⟨hE5, hS17, rfl⟩ hb14 ho15
      unfold m_laws_eqPortS_b1 at hb14
      refine WP.seq ?_
      refine WP.seq ?_
      refine WP.region ?_
      refine RW.run ttok 4 rfl ?_
      refine RW.nil ?_
      refine WP.cond (decide (s1 < (x0.length : Int))) rfl (fun hc => ?_) (fun hc => ?_)
      · skip
        rw [if_pos hc] at hb14
        refine WP.skip ?_
        refine WP.seq ?_
        refine WP.block ?_
        refine WP.seq ?_
        refine WP.drawnM 0 mixed 10 (by kernel_rfl) (by kernel_rfl) [([], 1023), ([], 1023), ([0, 1], 1020), ([2], 1019), ([], 1023), ([], 1023), ([4, 5], 975), ([6], 959), ([3, 7], 887), ([8], 767)] (by kernel_rfl) hS17.ext (fun hsk19 => ?_)
        have hS20 := hS17.step (Ext.draw _)
        refine DM.run (fuel := 6) ttok hsk19 [0, 1, 4, 5] 51 (by kernel_rfl) (by kernel_rfl) rfl ?_
        obtain ⟨x21, hx22, hb14⟩ := bind_some hb14
        refine DM.idx ttok (hE.trans hS17.ext) hsk19 2 55 (by kernel_rfl) (by kernel_rfl) (by kernel_rfl) (by kernel_rfl) rfl (by kernel_rfl) rfl rfl rfl rfl rfl rfl (by decide) rfl rfl h0_ (idx_some hx22).1 (idx_some hx22).2 rfl rfl (fun p23 es24 ha25 hr26 => ?_)
        have e27 := ty38_open hr26; subst e27
        refine DM.loadN ttok hsk19 3 63 (by kernel_rfl) (by kernel_rfl) (by kernel_rfl) (by kernel_rfl) rfl (by kernel_rfl) rfl rfl rfl rfl rfl (At.ext (hE.trans hS17.ext) ha25) rfl rfl rfl ?_
        obtain ⟨x28, hx29, hb14⟩ := bind_some hb14
        refine DM.idx ttok (hE.trans hS17.ext) hsk19 6 127 (by kernel_rfl) (by kernel_rfl) (by kernel_rfl) (by kernel_rfl) rfl (by kernel_rfl) rfl rfl rfl rfl rfl rfl (by decide) rfl rfl h1_ (idx_some hx29).1 (idx_some hx29).2 rfl rfl (fun p30 es31 ha32 hr33 => ?_)
        have e34 := ty38_open hr33; subst e34
        refine DM.loadN ttok hsk19 7 255 (by kernel_rfl) (by kernel_rfl) (by kernel_rfl) (by kernel_rfl) rfl (by kernel_rfl) rfl rfl rfl rfl rfl (At.ext (hE.trans hS17.ext) ha32) rfl rfl rfl ?_
        obtain ⟨r35, hx36, hb14⟩ := bind_some hb14
        refine DM.one hsk19 8 (by kernel_rfl) (LM.call hsk19 511 (by kernel_rfl) (by kernel_rfl) rfl rfl rfl rfl enters129 (laws_eqPort_ok (hE.trans hS20.ext) hr26 hr33 hx36) (fun v37 w38 hR39 => ?_))
        obtain ⟨rfl, hR40⟩ := hR39
        refine ⟨hR40.ext, ?_⟩
        have hS41 := hS20.join hR40
        refine DM.run (fuel := 0) ttok hsk19 [9] 1023 (by kernel_rfl) (by kernel_rfl) rfl ?_
        refine DM.weak [(0, .slice A0_ x0.length k0_), (1, .slice A1_ x1.length k1_), (5, .int .i64 s1), (26, .bool (!r35))] ⟨rfl, rfl, rfl, rfl, trivial⟩ ?_
        refine DM.done hsk19 (by kernel_rfl) ?_
        refine WP.cond (!r35) rfl (fun hc => ?_) (fun hc => ?_)
        · skip
          rw [if_pos hc] at hb14
          refine WP.seq ?_
          refine WP.region ?_
          refine RW.run ttok 1 rfl ?_
          refine RW.nil ?_
          refine WP.ret ?_
          cases hb14
          cases ho15
          have hm : some _ = some _ := hm
          cases hm
          exact ⟨_, .cons (.tmp rfl) .nil, rfl, hS41⟩
        · skip
          rw [if_neg (not_t hc)] at hb14
          refine WP.skip ?_
          refine WP.region ?_
          refine RW.run ttok 3 rfl ?_
          refine RW.nil ?_
          cases hb14
          exact ⟨_, [(0, .slice A0_ x0.length k0_), (1, .slice A1_ x1.length k1_), (5, .int .i64 (w64 (s1 + 1)))], ⟨rfl, rfl, rfl, trivial⟩, rfl, ((hE5.trans (Ext.draw _)).trans hR40.ext), hS41, rfl⟩
      · skip
        rw [if_neg (not_t hc)] at hb14
        refine WP.exit ?_
        cases hb14
        exact ⟨_, [], trivial, ho15, hE5, hS17, rfl⟩

theorem enters67 : Enters Try.prog 67 := ⟨_, _, Try.func67, rfl, by kernel_rfl⟩
def m_laws_eqAgent (fuel : Nat) (x0 : D.Agent) (x1 : D.Agent) : Option (Bool) := (if (x0.Kind != x1.Kind) = true then some false else (if (x0.Level != x1.Level) = true then some false else (if (x0.Value != x1.Value) = true then some false else ((m_laws_eqInt64S fuel x0.Data x1.Data).bind fun r25 => (if (!r25) = true then some false else ((m_laws_eqPortS fuel x0.Ports x1.Ports).bind fun r32 => (if (!r32) = true then some false else some true)))))))

set_option maxRecDepth 100000 in
theorem laws_eqAgent_ok {W w : World} (hE : Ext W w) {c0_ : List Value} {x0 : D.Agent} {c1_ : List Value} {x1 : D.Agent} (h0_ : ty112.ro W c0_ x0) (h1_ : ty112.ro W c1_ x1) {fuel : Nat} {r : Bool} (hm : m_laws_eqAgent fuel x0 x1 = some r) :
    Calls Try.prog 67 ⟨[.agg ⟨c0_⟩, .agg ⟨c1_⟩]⟩ w (Ret fun v w8 => v = .bool r ∧ St w w8 []) := by
  obtain ⟨A1, k2, A4, k5, e7, h3, h6⟩ := ty112_open h0_; subst e7
  obtain ⟨A10, k11, A13, k14, e16, h12, h15⟩ := ty112_open h1_; subst e16
  refine Calls.into Try.func67 rfl 32 rfl rfl _ rfl ?_
  unfold m_laws_eqAgent at hm
  have hS := St.start w
  refine WP.seq ?_
  refine WP.region ?_
  refine RW.new ttok hS rfl rfl rfl rfl (fun g17 w18 e19 hS20 => ?_)
  refine RW.new ttok hS20 rfl rfl rfl rfl (fun g21 w22 e23 hS24 => ?_)
  refine RW.run ttok 1 rfl ?_
  refine RW.nil ?_
  refine WP.seq ?_
  refine WP.seq ?_
  refine WP.region ?_
  refine RW.run ttok 1 rfl ?_
  refine RW.load1 ttok rfl rfl rfl rfl rfl ((hS24.bring 1 rfl).box) 0 rfl rfl rfl rfl ?_
  refine RW.run ttok 1 rfl ?_
  refine RW.load1 ttok rfl rfl rfl rfl rfl ((hS24.bring 0 rfl).box) 0 rfl rfl rfl rfl ?_
  refine RW.run ttok 1 rfl ?_
  refine RW.nil ?_
  refine WP.cond (x0.Kind != x1.Kind) rfl (fun hc => ?_) (fun hc => ?_)
  · skip
    rw [if_pos hc] at hm
    refine WP.seq ?_
    refine WP.region ?_
    refine RW.run ttok 1 rfl ?_
    refine RW.nil ?_
    refine WP.ret ?_
    cases hm
    exact ⟨_, .cons (.tmp rfl) .nil, rfl, (hS24.taken 0)⟩
  · skip
    rw [if_neg (not_t hc)] at hm
    refine WP.skip ?_
    refine WP.seq ?_
    refine WP.seq ?_
    refine WP.region ?_
    refine RW.run ttok 1 rfl ?_
    refine RW.load1 ttok rfl rfl rfl rfl rfl ((hS24.bring 1 rfl).box) 1 rfl rfl rfl rfl ?_
    refine RW.run ttok 1 rfl ?_
    refine RW.load1 ttok rfl rfl rfl rfl rfl ((hS24.bring 0 rfl).box) 1 rfl rfl rfl rfl ?_
    refine RW.run ttok 1 rfl ?_
    refine RW.nil ?_
    refine WP.cond (x0.Level != x1.Level) rfl (fun hc => ?_) (fun hc => ?_)
    · skip
      rw [if_pos hc] at hm
      refine WP.seq ?_
      refine WP.region ?_
      refine RW.run ttok 1 rfl ?_
      refine RW.nil ?_
      refine WP.ret ?_
      cases hm
      exact ⟨_, .cons (.tmp rfl) .nil, rfl, (hS24.taken 0)⟩
    · skip
      rw [if_neg (not_t hc)] at hm
      refine WP.skip ?_
      refine WP.seq ?_
      refine WP.seq ?_
      refine WP.region ?_
      refine RW.run ttok 1 rfl ?_
      refine RW.load1 ttok rfl rfl rfl rfl rfl ((hS24.bring 1 rfl).box) 2 rfl rfl rfl rfl ?_
      refine RW.run ttok 1 rfl ?_
      refine RW.load1 ttok rfl rfl rfl rfl rfl ((hS24.bring 0 rfl).box) 2 rfl rfl rfl rfl ?_
      refine RW.run ttok 1 rfl ?_
      refine RW.nil ?_
      refine WP.cond (x0.Value != x1.Value) rfl (fun hc => ?_) (fun hc => ?_)
      · skip
        rw [if_pos hc] at hm
        refine WP.seq ?_
        refine WP.region ?_
        refine RW.run ttok 1 rfl ?_
        refine RW.nil ?_
        refine WP.ret ?_
        cases hm
        exact ⟨_, .cons (.tmp rfl) .nil, rfl, (hS24.taken 0)⟩
      · skip
        rw [if_neg (not_t hc)] at hm
        refine WP.skip ?_
        refine WP.seq ?_
        refine WP.seq ?_
        refine WP.region ?_
        refine RW.run ttok 1 rfl ?_
        refine RW.load1 ttok rfl rfl rfl rfl rfl ((hS24.bring 1 rfl).box) 3 rfl rfl rfl rfl ?_
        refine RW.run ttok 1 rfl ?_
        refine RW.load1 ttok rfl rfl rfl rfl rfl ((hS24.bring 0 rfl).box) 3 rfl rfl rfl rfl ?_
        obtain ⟨r25, hx26, hm⟩ := bind_some hm
        refine RW.call rfl rfl rfl enters127 (laws_eqInt64S_ok (hE.trans hS24.ext) h3 h12 hx26) (fun v27 w28 hR29 => ?_)
        obtain ⟨rfl, hR30⟩ := hR29
        have hS31 := hS24.join hR30
        refine RW.run ttok 1 rfl ?_
        refine RW.nil ?_
        refine WP.cond (!r25) rfl (fun hc => ?_) (fun hc => ?_)
        · skip
          rw [if_pos hc] at hm
          refine WP.seq ?_
          refine WP.region ?_
          refine RW.run ttok 1 rfl ?_
          refine RW.nil ?_
          refine WP.ret ?_
          cases hm
          exact ⟨_, .cons (.tmp rfl) .nil, rfl, (hS31.taken 0)⟩
        · skip
          rw [if_neg (not_t hc)] at hm
          refine WP.skip ?_
          refine WP.seq ?_
          refine WP.seq ?_
          refine WP.region ?_
          refine RW.run ttok 1 rfl ?_
          refine RW.load1 ttok rfl rfl rfl rfl rfl ((hS31.bring 1 rfl).box) 4 rfl rfl rfl rfl ?_
          refine RW.run ttok 1 rfl ?_
          refine RW.load1 ttok rfl rfl rfl rfl rfl ((hS31.bring 0 rfl).box) 4 rfl rfl rfl rfl ?_
          obtain ⟨r32, hx33, hm⟩ := bind_some hm
          refine RW.call rfl rfl rfl enters128 (laws_eqPortS_ok (hE.trans hS31.ext) h6 h15 hx33) (fun v34 w35 hR36 => ?_)
          obtain ⟨rfl, hR37⟩ := hR36
          have hS38 := hS31.join hR37
          refine RW.run ttok 1 rfl ?_
          refine RW.nil ?_
          refine WP.cond (!r32) rfl (fun hc => ?_) (fun hc => ?_)
          · skip
            rw [if_pos hc] at hm
            refine WP.seq ?_
            refine WP.region ?_
            refine RW.run ttok 1 rfl ?_
            refine RW.nil ?_
            refine WP.ret ?_
            cases hm
            exact ⟨_, .cons (.tmp rfl) .nil, rfl, (hS38.taken 0)⟩
          · skip
            rw [if_neg (not_t hc)] at hm
            refine WP.skip ?_
            refine WP.seq ?_
            refine WP.region ?_
            refine RW.run ttok 1 rfl ?_
            refine RW.nil ?_
            refine WP.ret ?_
            cases hm
            exact ⟨_, .cons (.tmp rfl) .nil, rfl, (hS38.taken 0)⟩

end Go.E
