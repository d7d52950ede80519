/- Models of functions and proofs that the code runs as they say (written by program). Conditions: the model gives a value. -/
import Derived.Test.YtomgmnacnchbeaaIter
namespace Go.E
open Go.RowKit Go.Proofs
set_option linter.unusedVariables false
set_option linter.unusedSimpArgs false
set_option maxHeartbeats 2000000

theorem enters172 : Enters Try.prog 172 := ⟨_, _, Try.func172, rfl, by kernel_rfl⟩
def m_spec_l11Fields (fuel : Nat) (x0 : D.Agent) : Option (Int) := (if (x0.Kind == 9) = true then some (w64 ((x0.Ports.length : Int) - 1)) else some 0)

set_option maxRecDepth 100000 in
theorem spec_l11Fields_ok {W w : World} (hE : Ext W w) {p0_ : Addr} {c0_ : List Value} {x0 : D.Agent} (h0_ : ty112.ro W c0_ x0) (g0_ : At W p0_ c0_) {fuel : Nat} {r : Int} (hm : m_spec_l11Fields fuel x0 = some r) :
    Calls Try.prog 172 ⟨[.pointer (some p0_)]⟩ w (Ret fun v w8 => v = .int .i64 r ∧ St w w8 []) := by
  obtain ⟨A1, k2, A4, k5, e7, h3, h6⟩ := ty112_open h0_; subst e7
  refine Calls.into Try.func172 rfl 14 rfl rfl _ rfl ?_
  unfold m_spec_l11Fields at hm
  have hS := St.start w
  refine WP.seq ?_
  refine WP.region ?_
  refine RW.run ttok 1 rfl ?_
  refine RW.nil ?_
  refine WP.seq ?_
  refine WP.seq ?_
  refine WP.region ?_
  refine RW.run ttok 3 rfl ?_
  refine RW.load1 ttok rfl rfl rfl rfl rfl (At.ext (hE.trans hS.ext) g0_) 0 rfl rfl rfl rfl ?_
  refine RW.run ttok 1 rfl ?_
  refine RW.nil ?_
  refine WP.cond (x0.Kind == 9) rfl (fun hc => ?_) (fun hc => ?_)
  · skip
    rw [if_pos hc] at hm
    refine WP.seq ?_
    refine WP.region ?_
    refine RW.run ttok 3 rfl ?_
    refine RW.load1 ttok rfl rfl rfl rfl rfl (At.ext (hE.trans hS.ext) g0_) 4 rfl rfl rfl rfl ?_
    refine RW.run ttok 3 rfl ?_
    refine RW.nil ?_
    refine WP.ret ?_
    cases hm
    exact ⟨_, .cons (.tmp rfl) .nil, rfl, hS⟩
  · skip
    rw [if_neg (not_t hc)] at hm
    refine WP.skip ?_
    refine WP.seq ?_
    refine WP.region ?_
    refine RW.run ttok 1 rfl ?_
    refine RW.nil ?_
    refine WP.ret ?_
    cases hm
    exact ⟨_, .cons (.tmp rfl) .nil, rfl, hS⟩

theorem enters102 : Enters Try.prog 102 := ⟨_, _, Try.func102, rfl, by kernel_rfl⟩
def m_spec_l00In (fuel : Nat) (x0 : Int) (x1 : Int) (x2 : Int) : Option (Bool) := (if (decide (x0 ≥ x1)) = true then some (decide (x0 ≤ x2)) else some false)

set_option maxRecDepth 100000 in
theorem spec_l00In_ok {W w : World} (hE : Ext W w) {x0 : Int} {x1 : Int} {x2 : Int}  {fuel : Nat} {r : Bool} (hm : m_spec_l00In fuel x0 x1 x2 = some r) :
    Calls Try.prog 102 ⟨[.int .i64 x0, .int .i64 x1, .int .i64 x2]⟩ w (Ret fun v w8 => v = .bool r ∧ St w w8 []) := by
  refine Calls.into Try.func102 rfl 15 rfl rfl _ rfl ?_
  unfold m_spec_l00In at hm
  have hS := St.start w
  refine WP.seq ?_
  refine WP.region ?_
  refine RW.run ttok 1 rfl ?_
  refine RW.nil ?_
  refine WP.seq ?_
  refine WP.region ?_
  refine RW.run ttok 4 rfl ?_
  by_cases hg1 : (decide (x0 ≥ x1)) = true
  · skip
    rw [if_pos hg1] at hm
    refine RW.know 10 rfl (congrArg Value.bool hg1) ?_
    refine RW.run ttok 5 rfl ?_
    refine RW.nil ?_
    refine WP.ret ?_
    cases hm
    exact ⟨_, .cons (.tmp rfl) .nil, rfl, hS⟩
  · skip
    rw [if_neg hg1] at hm
    refine RW.know 10 rfl (congrArg Value.bool (Bool.eq_false_iff.2 hg1)) ?_
    refine RW.run ttok 5 rfl ?_
    refine RW.nil ?_
    refine WP.ret ?_
    cases hm
    exact ⟨_, .cons (.tmp rfl) .nil, rfl, hS⟩

theorem enters171 : Enters Try.prog 171 := ⟨_, _, Try.func171, rfl, by kernel_rfl⟩
def m_spec_PortsOf_j3 (fuel : Nat) (t20 : Bool) : Option Int := (if t20 = true then some 3 else some 0)
def m_spec_PortsOf_j4 (fuel : Nat) (t25 : Bool) : Option Int := m_spec_PortsOf_j3 fuel t25
def m_spec_PortsOf_j5 (fuel : Nat) (t30 : Bool) : Option Int := m_spec_PortsOf_j4 fuel t30
def m_spec_PortsOf_j2 (fuel : Nat) (x0 : Int) (t15 : Bool) : Option Int := (if t15 = true then some 2 else (if (x0 == 2) = true then m_spec_PortsOf_j3 fuel (x0 == 2) else (if (x0 == 3) = true then m_spec_PortsOf_j4 fuel (x0 == 3) else (if (x0 == 4) = true then m_spec_PortsOf_j5 fuel (x0 == 4) else m_spec_PortsOf_j5 fuel (x0 == 7)))))
def m_spec_PortsOf_j6 (fuel : Nat) (x0 : Int) (t35 : Bool) : Option Int := m_spec_PortsOf_j2 fuel x0 t35
def m_spec_PortsOf_j1 (fuel : Nat) (x0 : Int) (t10 : Bool) : Option Int := (if t10 = true then some 1 else (if (x0 == 8) = true then m_spec_PortsOf_j2 fuel x0 (x0 == 8) else (if (x0 == 10) = true then m_spec_PortsOf_j6 fuel x0 (x0 == 10) else m_spec_PortsOf_j6 fuel x0 (x0 == 11))))
def m_spec_PortsOf_j7 (fuel : Nat) (x0 : Int) (t40 : Bool) : Option Int := m_spec_PortsOf_j1 fuel x0 t40
def m_spec_PortsOf_j8 (fuel : Nat) (x0 : Int) (t45 : Bool) : Option Int := m_spec_PortsOf_j7 fuel x0 t45
def m_spec_PortsOf (fuel : Nat) (x0 : Int) (x1 : Int) : Option (Int) := (if (x0 == 9) = true then ((m_spec_l00In fuel x1 0 3).bind fun r1 => (if r1 = true then some (w64 (1 + x1)) else some 0)) else (if (x1 != 0) = true then some 0 else (if (x0 == 1) = true then m_spec_PortsOf_j1 fuel x0 (x0 == 1) else (if (x0 == 5) = true then m_spec_PortsOf_j7 fuel x0 (x0 == 5) else (if (x0 == 6) = true then m_spec_PortsOf_j8 fuel x0 (x0 == 6) else m_spec_PortsOf_j8 fuel x0 (x0 == 12))))))

set_option maxRecDepth 100000 in
theorem spec_PortsOf_ok {W w : World} (hE : Ext W w) {x0 : Int} {x1 : Int}  {fuel : Nat} {r : Int} (hm : m_spec_PortsOf fuel x0 x1 = some r) :
    Calls Try.prog 171 ⟨[.int .i64 x0, .int .i64 x1]⟩ w (Ret fun v w8 => v = .int .i64 r ∧ St w w8 []) := by
  refine Calls.into Try.func171 rfl 28 rfl rfl _ rfl ?_
  unfold m_spec_PortsOf at hm
  have hS := St.start w
  refine WP.seq ?_
  refine WP.region ?_
  refine RW.run ttok 1 rfl ?_
  refine RW.nil ?_
  refine WP.seq ?_
  refine WP.seq ?_
  refine WP.region ?_
  refine RW.run ttok 2 rfl ?_
  refine RW.nil ?_
  refine WP.cond (x0 == 9) rfl (fun hc => ?_) (fun hc => ?_)
  · skip
    rw [if_pos hc] at hm
    refine WP.seq ?_
    refine WP.seq ?_
    refine WP.region ?_
    refine RW.run ttok 1 rfl ?_
    obtain ⟨r1, hx2, hm⟩ := bind_some hm
    refine RW.call rfl rfl rfl enters102 (spec_l00In_ok (hE.trans hS.ext)  hx2) (fun v3 w4 hR5 => ?_)
    obtain ⟨rfl, hR6⟩ := hR5
    have hS7 := hS.join hR6
    refine RW.nil ?_
    refine WP.cond r1 rfl (fun hc => ?_) (fun hc => ?_)
    · skip
      rw [if_pos hc] at hm
      refine WP.seq ?_
      refine WP.region ?_
      refine RW.run ttok 3 rfl ?_
      refine RW.nil ?_
      refine WP.ret ?_
      cases hm
      exact ⟨_, .cons (.tmp rfl) .nil, rfl, hS7⟩
    · skip
      rw [if_neg (not_t hc)] at hm
      refine WP.skip ?_
      refine WP.seq ?_
      refine WP.region ?_
      refine RW.run ttok 1 rfl ?_
      refine RW.nil ?_
      refine WP.ret ?_
      cases hm
      exact ⟨_, .cons (.tmp rfl) .nil, rfl, hS7⟩
  · skip
    rw [if_neg (not_t hc)] at hm
    refine WP.skip ?_
    refine WP.seq ?_
    refine WP.seq ?_
    refine WP.region ?_
    refine RW.run ttok 2 rfl ?_
    refine RW.nil ?_
    refine WP.cond (x1 != 0) rfl (fun hc => ?_) (fun hc => ?_)
    · skip
      rw [if_pos hc] at hm
      refine WP.seq ?_
      refine WP.region ?_
      refine RW.run ttok 1 rfl ?_
      refine RW.nil ?_
      refine WP.ret ?_
      cases hm
      exact ⟨_, .cons (.tmp rfl) .nil, rfl, hS⟩
    · skip
      rw [if_neg (not_t hc)] at hm
      refine WP.skip ?_
      refine WP.seq ?_
      refine WP.seq ?_
      refine WP.region ?_
      refine RW.run ttok 1 rfl ?_
      refine RW.nil ?_
      refine WP.block ?_
      refine WP.seq ?_
      refine WP.seq ?_
      refine WP.region ?_
      refine RW.run ttok 2 rfl ?_
      refine RW.nil ?_
      refine WP.cut (fun (t10 : Bool) F w9 => m_spec_PortsOf_j1 fuel x0 t10 = some r ∧ Ext w w9 ∧ St w w9 [] ∧ F = [(13, .int .i64 x0), (14, .bool t10)]) ?_ ?_
      · skip
        rintro t10 F w13 ⟨hm, hE11, hS12, rfl⟩
        unfold m_spec_PortsOf_j1 at hm
        refine WP.cond t10 rfl (fun hc => ?_) (fun hc => ?_)
        · skip
          rw [if_pos hc] at hm
          refine WP.seq ?_
          refine WP.region ?_
          refine RW.run ttok 1 rfl ?_
          refine RW.nil ?_
          refine WP.ret ?_
          cases hm
          exact ⟨_, .cons (.tmp rfl) .nil, rfl, hS12⟩
        · skip
          rw [if_neg (not_t hc)] at hm
          refine WP.seq ?_
          refine WP.seq ?_
          refine WP.region ?_
          refine RW.run ttok 2 rfl ?_
          refine RW.nil ?_
          refine WP.cut (fun (t15 : Bool) F w9 => m_spec_PortsOf_j2 fuel x0 t15 = some r ∧ Ext w13 w9 ∧ St w w9 [] ∧ F = [(13, .int .i64 x0), (19, .bool t15)]) ?_ ?_
          · skip
            rintro t15 F w18 ⟨hm, hE16, hS17, rfl⟩
            unfold m_spec_PortsOf_j2 at hm
            refine WP.cond t15 rfl (fun hc => ?_) (fun hc => ?_)
            · skip
              rw [if_pos hc] at hm
              refine WP.seq ?_
              refine WP.region ?_
              refine RW.run ttok 1 rfl ?_
              refine RW.nil ?_
              refine WP.ret ?_
              cases hm
              exact ⟨_, .cons (.tmp rfl) .nil, rfl, hS17⟩
            · skip
              rw [if_neg (not_t hc)] at hm
              refine WP.seq ?_
              refine WP.seq ?_
              refine WP.region ?_
              refine RW.run ttok 2 rfl ?_
              refine RW.nil ?_
              refine WP.cut (fun (t20 : Bool) F w9 => m_spec_PortsOf_j3 fuel t20 = some r ∧ Ext w18 w9 ∧ St w w9 [] ∧ F = [(23, .bool t20)]) ?_ ?_
              · skip
                rintro t20 F w23 ⟨hm, hE21, hS22, rfl⟩
                unfold m_spec_PortsOf_j3 at hm
                refine WP.cond t20 rfl (fun hc => ?_) (fun hc => ?_)
                · skip
                  rw [if_pos hc] at hm
                  refine WP.seq ?_
                  refine WP.region ?_
                  refine RW.run ttok 1 rfl ?_
                  refine RW.nil ?_
                  refine WP.ret ?_
                  cases hm
                  exact ⟨_, .cons (.tmp rfl) .nil, rfl, hS22⟩
                · skip
                  rw [if_neg (not_t hc)] at hm
                  refine WP.skip ?_
                  refine WP.seq ?_
                  refine WP.region ?_
                  refine RW.run ttok 1 rfl ?_
                  refine RW.nil ?_
                  refine WP.ret ?_
                  cases hm
                  exact ⟨_, .cons (.tmp rfl) .nil, rfl, hS22⟩
              · skip
                refine WP.cond (x0 == 2) rfl (fun hc => ?_) (fun hc => ?_)
                · skip
                  rw [if_pos hc] at hm
                  refine WP.skip ?_
                  exact ⟨(x0 == 2), [(23, .bool (x0 == 2))], ⟨rfl, trivial⟩, hm, (Ext.refl _), hS17, rfl⟩
                · skip
                  rw [if_neg (not_t hc)] at hm
                  refine WP.seq ?_
                  refine WP.region ?_
                  refine RW.run ttok 2 rfl ?_
                  refine RW.nil ?_
                  refine WP.cut (fun (t25 : Bool) F w9 => m_spec_PortsOf_j4 fuel t25 = some r ∧ Ext w18 w9 ∧ St w w9 [] ∧ F = [(23, .bool t25)]) ?_ ?_
                  · skip
                    rintro t25 F w28 ⟨hm, hE26, hS27, rfl⟩
                    unfold m_spec_PortsOf_j4 at hm
                    exact ⟨t25, [(23, .bool t25)], ⟨rfl, trivial⟩, hm, hE26, hS27, rfl⟩
                  · skip
                    refine WP.cond (x0 == 3) rfl (fun hc => ?_) (fun hc => ?_)
                    · skip
                      rw [if_pos hc] at hm
                      refine WP.skip ?_
                      exact ⟨(x0 == 3), [(23, .bool (x0 == 3))], ⟨rfl, trivial⟩, hm, (Ext.refl _), hS17, rfl⟩
                    · skip
                      rw [if_neg (not_t hc)] at hm
                      refine WP.seq ?_
                      refine WP.region ?_
                      refine RW.run ttok 2 rfl ?_
                      refine RW.nil ?_
                      refine WP.cut (fun (t30 : Bool) F w9 => m_spec_PortsOf_j5 fuel t30 = some r ∧ Ext w18 w9 ∧ St w w9 [] ∧ F = [(23, .bool t30)]) ?_ ?_
                      · skip
                        rintro t30 F w33 ⟨hm, hE31, hS32, rfl⟩
                        unfold m_spec_PortsOf_j5 at hm
                        exact ⟨t30, [(23, .bool t30)], ⟨rfl, trivial⟩, hm, hE31, hS32, rfl⟩
                      · skip
                        refine WP.cond (x0 == 4) rfl (fun hc => ?_) (fun hc => ?_)
                        · skip
                          rw [if_pos hc] at hm
                          refine WP.skip ?_
                          exact ⟨(x0 == 4), [(23, .bool (x0 == 4))], ⟨rfl, trivial⟩, hm, (Ext.refl _), hS17, rfl⟩
                        · skip
                          rw [if_neg (not_t hc)] at hm
                          refine WP.region ?_
                          refine RW.run ttok 2 rfl ?_
                          refine RW.nil ?_
                          exact ⟨(x0 == 7), [(23, .bool (x0 == 7))], ⟨rfl, trivial⟩, hm, (Ext.refl _), hS17, rfl⟩
          · skip
            refine WP.cond (x0 == 8) rfl (fun hc => ?_) (fun hc => ?_)
            · skip
              rw [if_pos hc] at hm
              refine WP.skip ?_
              exact ⟨(x0 == 8), [(13, .int .i64 x0), (19, .bool (x0 == 8))], ⟨rfl, rfl, trivial⟩, hm, (Ext.refl _), hS12, rfl⟩
            · skip
              rw [if_neg (not_t hc)] at hm
              refine WP.seq ?_
              refine WP.region ?_
              refine RW.run ttok 2 rfl ?_
              refine RW.nil ?_
              refine WP.cut (fun (t35 : Bool) F w9 => m_spec_PortsOf_j6 fuel x0 t35 = some r ∧ Ext w13 w9 ∧ St w w9 [] ∧ F = [(13, .int .i64 x0), (19, .bool t35)]) ?_ ?_
              · skip
                rintro t35 F w38 ⟨hm, hE36, hS37, rfl⟩
                unfold m_spec_PortsOf_j6 at hm
                exact ⟨t35, [(13, .int .i64 x0), (19, .bool t35)], ⟨rfl, rfl, trivial⟩, hm, hE36, hS37, rfl⟩
              · skip
                refine WP.cond (x0 == 10) rfl (fun hc => ?_) (fun hc => ?_)
                · skip
                  rw [if_pos hc] at hm
                  refine WP.skip ?_
                  exact ⟨(x0 == 10), [(13, .int .i64 x0), (19, .bool (x0 == 10))], ⟨rfl, rfl, trivial⟩, hm, (Ext.refl _), hS12, rfl⟩
                · skip
                  rw [if_neg (not_t hc)] at hm
                  refine WP.region ?_
                  refine RW.run ttok 2 rfl ?_
                  refine RW.nil ?_
                  exact ⟨(x0 == 11), [(13, .int .i64 x0), (19, .bool (x0 == 11))], ⟨rfl, rfl, trivial⟩, hm, (Ext.refl _), hS12, rfl⟩
      · skip
        refine WP.cond (x0 == 1) rfl (fun hc => ?_) (fun hc => ?_)
        · skip
          rw [if_pos hc] at hm
          refine WP.skip ?_
          exact ⟨(x0 == 1), [(13, .int .i64 x0), (14, .bool (x0 == 1))], ⟨rfl, rfl, trivial⟩, hm, (Ext.refl _), hS, rfl⟩
        · skip
          rw [if_neg (not_t hc)] at hm
          refine WP.seq ?_
          refine WP.region ?_
          refine RW.run ttok 2 rfl ?_
          refine RW.nil ?_
          refine WP.cut (fun (t40 : Bool) F w9 => m_spec_PortsOf_j7 fuel x0 t40 = some r ∧ Ext w w9 ∧ St w w9 [] ∧ F = [(13, .int .i64 x0), (14, .bool t40)]) ?_ ?_
          · skip
            rintro t40 F w43 ⟨hm, hE41, hS42, rfl⟩
            unfold m_spec_PortsOf_j7 at hm
            exact ⟨t40, [(13, .int .i64 x0), (14, .bool t40)], ⟨rfl, rfl, trivial⟩, hm, hE41, hS42, rfl⟩
          · skip
            refine WP.cond (x0 == 5) rfl (fun hc => ?_) (fun hc => ?_)
            · skip
              rw [if_pos hc] at hm
              refine WP.skip ?_
              exact ⟨(x0 == 5), [(13, .int .i64 x0), (14, .bool (x0 == 5))], ⟨rfl, rfl, trivial⟩, hm, (Ext.refl _), hS, rfl⟩
            · skip
              rw [if_neg (not_t hc)] at hm
              refine WP.seq ?_
              refine WP.region ?_
              refine RW.run ttok 2 rfl ?_
              refine RW.nil ?_
              refine WP.cut (fun (t45 : Bool) F w9 => m_spec_PortsOf_j8 fuel x0 t45 = some r ∧ Ext w w9 ∧ St w w9 [] ∧ F = [(13, .int .i64 x0), (14, .bool t45)]) ?_ ?_
              · skip
                rintro t45 F w48 ⟨hm, hE46, hS47, rfl⟩
                unfold m_spec_PortsOf_j8 at hm
                exact ⟨t45, [(13, .int .i64 x0), (14, .bool t45)], ⟨rfl, rfl, trivial⟩, hm, hE46, hS47, rfl⟩
              · skip
                refine WP.cond (x0 == 6) rfl (fun hc => ?_) (fun hc => ?_)
                · skip
                  rw [if_pos hc] at hm
                  refine WP.skip ?_
                  exact ⟨(x0 == 6), [(13, .int .i64 x0), (14, .bool (x0 == 6))], ⟨rfl, rfl, trivial⟩, hm, (Ext.refl _), hS, rfl⟩
                · skip
                  rw [if_neg (not_t hc)] at hm
                  refine WP.region ?_
                  refine RW.run ttok 2 rfl ?_
                  refine RW.nil ?_
                  exact ⟨(x0 == 12), [(13, .int .i64 x0), (14, .bool (x0 == 12))], ⟨rfl, rfl, trivial⟩, hm, (Ext.refl _), hS, rfl⟩

theorem enters162 : Enters Try.prog 162 := ⟨_, _, Try.func162, rfl, by kernel_rfl⟩
def m_spec_HasLevel_j1 (fuel : Nat) (t1 : Bool) : Option Bool := (if t1 = true then some true else some false)
def m_spec_HasLevel_j2 (fuel : Nat) (t6 : Bool) : Option Bool := m_spec_HasLevel_j1 fuel t6
def m_spec_HasLevel_j3 (fuel : Nat) (t13 : Bool) : Option Bool := m_spec_HasLevel_j2 fuel t13
def m_spec_HasLevel_j4 (fuel : Nat) (t18 : Bool) : Option Bool := m_spec_HasLevel_j3 fuel t18
def m_spec_HasLevel_j5 (fuel : Nat) (t23 : Bool) : Option Bool := m_spec_HasLevel_j4 fuel t23
def m_spec_HasLevel_j6 (fuel : Nat) (t28 : Bool) : Option Bool := m_spec_HasLevel_j5 fuel t28
def m_spec_HasLevel_j7 (fuel : Nat) (t33 : Bool) : Option Bool := m_spec_HasLevel_j6 fuel t33
def m_spec_HasLevel_j8 (fuel : Nat) (t38 : Bool) : Option Bool := m_spec_HasLevel_j7 fuel t38
def m_spec_HasLevel (fuel : Nat) (x0 : Int) : Option (Bool) := (if (x0 == 2) = true then m_spec_HasLevel_j1 fuel (x0 == 2) else (if (x0 == 3) = true then m_spec_HasLevel_j2 fuel (x0 == 3) else (if (x0 == 4) = true then m_spec_HasLevel_j3 fuel (x0 == 4) else (if (x0 == 7) = true then m_spec_HasLevel_j4 fuel (x0 == 7) else (if (x0 == 8) = true then m_spec_HasLevel_j5 fuel (x0 == 8) else (if (x0 == 9) = true then m_spec_HasLevel_j6 fuel (x0 == 9) else (if (x0 == 10) = true then m_spec_HasLevel_j7 fuel (x0 == 10) else (if (x0 == 11) = true then m_spec_HasLevel_j8 fuel (x0 == 11) else m_spec_HasLevel_j8 fuel (x0 == 12)))))))))

set_option maxRecDepth 100000 in
theorem spec_HasLevel_ok {W w : World} (hE : Ext W w) {x0 : Int}  {fuel : Nat} {r : Bool} (hm : m_spec_HasLevel fuel x0 = some r) :
    Calls Try.prog 162 ⟨[.int .i64 x0]⟩ w (Ret fun v w8 => v = .bool r ∧ St w w8 []) := by
  refine Calls.into Try.func162 rfl 14 rfl rfl _ rfl ?_
  unfold m_spec_HasLevel at hm
  have hS := St.start w
  refine WP.seq ?_
  refine WP.region ?_
  refine RW.run ttok 1 rfl ?_
  refine RW.nil ?_
  refine WP.seq ?_
  refine WP.seq ?_
  refine WP.region ?_
  refine RW.run ttok 1 rfl ?_
  refine RW.nil ?_
  refine WP.block ?_
  refine WP.seq ?_
  refine WP.seq ?_
  refine WP.region ?_
  refine RW.run ttok 2 rfl ?_
  refine RW.nil ?_
  refine WP.cut (fun (t1 : Bool) F w9 => m_spec_HasLevel_j1 fuel t1 = some r ∧ Ext w w9 ∧ St w w9 [] ∧ F = [(4, .bool t1)]) ?_ ?_
  · skip
    rintro t1 F w4 ⟨hm, hE2, hS3, rfl⟩
    unfold m_spec_HasLevel_j1 at hm
    refine WP.cond t1 rfl (fun hc => ?_) (fun hc => ?_)
    · skip
      rw [if_pos hc] at hm
      refine WP.seq ?_
      refine WP.region ?_
      refine RW.run ttok 1 rfl ?_
      refine RW.nil ?_
      refine WP.ret ?_
      cases hm
      exact ⟨_, .cons (.tmp rfl) .nil, rfl, hS3⟩
    · skip
      rw [if_neg (not_t hc)] at hm
      refine WP.skip ?_
      refine WP.seq ?_
      refine WP.region ?_
      refine RW.run ttok 1 rfl ?_
      refine RW.nil ?_
      refine WP.ret ?_
      cases hm
      exact ⟨_, .cons (.tmp rfl) .nil, rfl, hS3⟩
  · skip
    refine WP.cond (x0 == 2) rfl (fun hc => ?_) (fun hc => ?_)
    · skip
      rw [if_pos hc] at hm
      refine WP.skip ?_
      exact ⟨(x0 == 2), [(4, .bool (x0 == 2))], ⟨rfl, trivial⟩, hm, (Ext.refl _), hS, rfl⟩
    · skip
      rw [if_neg (not_t hc)] at hm
      refine WP.seq ?_
      refine WP.region ?_
      refine RW.run ttok 2 rfl ?_
      refine RW.nil ?_
      refine WP.cut (fun (t6 : Bool) F w9 => m_spec_HasLevel_j2 fuel t6 = some r ∧ Ext w w9 ∧ St w w9 [] ∧ F = [(4, .bool t6)]) ?_ ?_
      · skip
        rintro t6 F w11 ⟨hm, hE7, hS10, rfl⟩
        unfold m_spec_HasLevel_j2 at hm
        exact ⟨t6, [(4, .bool t6)], ⟨rfl, trivial⟩, hm, hE7, hS10, rfl⟩
      · skip
        refine WP.cond (x0 == 3) rfl (fun hc => ?_) (fun hc => ?_)
        · skip
          rw [if_pos hc] at hm
          refine WP.skip ?_
          exact ⟨(x0 == 3), [(4, .bool (x0 == 3))], ⟨rfl, trivial⟩, hm, (Ext.refl _), hS, rfl⟩
        · skip
          rw [if_neg (not_t hc)] at hm
          refine WP.seq ?_
          refine WP.region ?_
          refine RW.run ttok 2 rfl ?_
          refine RW.nil ?_
          refine WP.cut (fun (t13 : Bool) F w9 => m_spec_HasLevel_j3 fuel t13 = some r ∧ Ext w w9 ∧ St w w9 [] ∧ F = [(4, .bool t13)]) ?_ ?_
          · skip
            rintro t13 F w16 ⟨hm, hE14, hS15, rfl⟩
            unfold m_spec_HasLevel_j3 at hm
            exact ⟨t13, [(4, .bool t13)], ⟨rfl, trivial⟩, hm, hE14, hS15, rfl⟩
          · skip
            refine WP.cond (x0 == 4) rfl (fun hc => ?_) (fun hc => ?_)
            · skip
              rw [if_pos hc] at hm
              refine WP.skip ?_
              exact ⟨(x0 == 4), [(4, .bool (x0 == 4))], ⟨rfl, trivial⟩, hm, (Ext.refl _), hS, rfl⟩
            · skip
              rw [if_neg (not_t hc)] at hm
              refine WP.seq ?_
              refine WP.region ?_
              refine RW.run ttok 2 rfl ?_
              refine RW.nil ?_
              refine WP.cut (fun (t18 : Bool) F w9 => m_spec_HasLevel_j4 fuel t18 = some r ∧ Ext w w9 ∧ St w w9 [] ∧ F = [(4, .bool t18)]) ?_ ?_
              · skip
                rintro t18 F w21 ⟨hm, hE19, hS20, rfl⟩
                unfold m_spec_HasLevel_j4 at hm
                exact ⟨t18, [(4, .bool t18)], ⟨rfl, trivial⟩, hm, hE19, hS20, rfl⟩
              · skip
                refine WP.cond (x0 == 7) rfl (fun hc => ?_) (fun hc => ?_)
                · skip
                  rw [if_pos hc] at hm
                  refine WP.skip ?_
                  exact ⟨(x0 == 7), [(4, .bool (x0 == 7))], ⟨rfl, trivial⟩, hm, (Ext.refl _), hS, rfl⟩
                · skip
                  rw [if_neg (not_t hc)] at hm
                  refine WP.seq ?_
                  refine WP.region ?_
                  refine RW.run ttok 2 rfl ?_
                  refine RW.nil ?_
                  refine WP.cut (fun (t23 : Bool) F w9 => m_spec_HasLevel_j5 fuel t23 = some r ∧ Ext w w9 ∧ St w w9 [] ∧ F = [(4, .bool t23)]) ?_ ?_
                  · skip
                    rintro t23 F w26 ⟨hm, hE24, hS25, rfl⟩
                    unfold m_spec_HasLevel_j5 at hm
                    exact ⟨t23, [(4, .bool t23)], ⟨rfl, trivial⟩, hm, hE24, hS25, rfl⟩
                  · skip
                    refine WP.cond (x0 == 8) rfl (fun hc => ?_) (fun hc => ?_)
                    · skip
                      rw [if_pos hc] at hm
                      refine WP.skip ?_
                      exact ⟨(x0 == 8), [(4, .bool (x0 == 8))], ⟨rfl, trivial⟩, hm, (Ext.refl _), hS, rfl⟩
                    · skip
                      rw [if_neg (not_t hc)] at hm
                      refine WP.seq ?_
                      refine WP.region ?_
                      refine RW.run ttok 2 rfl ?_
                      refine RW.nil ?_
                      refine WP.cut (fun (t28 : Bool) F w9 => m_spec_HasLevel_j6 fuel t28 = some r ∧ Ext w w9 ∧ St w w9 [] ∧ F = [(4, .bool t28)]) ?_ ?_
                      · skip
                        rintro t28 F w31 ⟨hm, hE29, hS30, rfl⟩
                        unfold m_spec_HasLevel_j6 at hm
                        exact ⟨t28, [(4, .bool t28)], ⟨rfl, trivial⟩, hm, hE29, hS30, rfl⟩
                      · skip
                        refine WP.cond (x0 == 9) rfl (fun hc => ?_) (fun hc => ?_)
                        · skip
                          rw [if_pos hc] at hm
                          refine WP.skip ?_
                          exact ⟨(x0 == 9), [(4, .bool (x0 == 9))], ⟨rfl, trivial⟩, hm, (Ext.refl _), hS, rfl⟩
                        · skip
                          rw [if_neg (not_t hc)] at hm
                          refine WP.seq ?_
                          refine WP.region ?_
                          refine RW.run ttok 2 rfl ?_
                          refine RW.nil ?_
                          refine WP.cut (fun (t33 : Bool) F w9 => m_spec_HasLevel_j7 fuel t33 = some r ∧ Ext w w9 ∧ St w w9 [] ∧ F = [(4, .bool t33)]) ?_ ?_
                          · skip
                            rintro t33 F w36 ⟨hm, hE34, hS35, rfl⟩
                            unfold m_spec_HasLevel_j7 at hm
                            exact ⟨t33, [(4, .bool t33)], ⟨rfl, trivial⟩, hm, hE34, hS35, rfl⟩
                          · skip
                            refine WP.cond (x0 == 10) rfl (fun hc => ?_) (fun hc => ?_)
                            · skip
                              rw [if_pos hc] at hm
                              refine WP.skip ?_
                              exact ⟨(x0 == 10), [(4, .bool (x0 == 10))], ⟨rfl, trivial⟩, hm, (Ext.refl _), hS, rfl⟩
                            · skip
                              rw [if_neg (not_t hc)] at hm
                              refine WP.seq ?_
                              refine WP.region ?_
                              refine RW.run ttok 2 rfl ?_
                              refine RW.nil ?_
                              refine WP.cut (fun (t38 : Bool) F w9 => m_spec_HasLevel_j8 fuel t38 = some r ∧ Ext w w9 ∧ St w w9 [] ∧ F = [(4, .bool t38)]) ?_ ?_
                              · skip
                                rintro t38 F w41 ⟨hm, hE39, hS40, rfl⟩
                                unfold m_spec_HasLevel_j8 at hm
                                exact ⟨t38, [(4, .bool t38)], ⟨rfl, trivial⟩, hm, hE39, hS40, rfl⟩
                              · skip
                                refine WP.cond (x0 == 11) rfl (fun hc => ?_) (fun hc => ?_)
                                · skip
                                  rw [if_pos hc] at hm
                                  refine WP.skip ?_
                                  exact ⟨(x0 == 11), [(4, .bool (x0 == 11))], ⟨rfl, trivial⟩, hm, (Ext.refl _), hS, rfl⟩
                                · skip
                                  rw [if_neg (not_t hc)] at hm
                                  refine WP.region ?_
                                  refine RW.run ttok 2 rfl ?_
                                  refine RW.nil ?_
                                  exact ⟨(x0 == 12), [(4, .bool (x0 == 12))], ⟨rfl, trivial⟩, hm, (Ext.refl _), hS, rfl⟩

theorem enters238 : Enters Try.prog 238 := ⟨_, _, Try.func238, rfl, by kernel_rfl⟩
def m_spec_l10Kind (fuel : Nat) (x0 : Int) : Option (Bool) := ((m_spec_l00In fuel x0 1 12).bind fun r1 => some r1)

set_option maxRecDepth 100000 in
theorem spec_l10Kind_ok {W w : World} (hE : Ext W w) {x0 : Int}  {fuel : Nat} {r : Bool} (hm : m_spec_l10Kind fuel x0 = some r) :
    Calls Try.prog 238 ⟨[.int .i64 x0]⟩ w (Ret fun v w8 => v = .bool r ∧ St w w8 []) := by
  refine Calls.into Try.func238 rfl 5 rfl rfl _ rfl ?_
  unfold m_spec_l10Kind at hm
  have hS := St.start w
  refine WP.seq ?_
  refine WP.region ?_
  refine RW.run ttok 1 rfl ?_
  refine RW.nil ?_
  refine WP.seq ?_
  refine WP.region ?_
  refine RW.run ttok 1 rfl ?_
  obtain ⟨r1, hx2, hm⟩ := bind_some hm
  refine RW.call rfl rfl rfl enters102 (spec_l00In_ok (hE.trans hS.ext)  hx2) (fun v3 w4 hR5 => ?_)
  obtain ⟨rfl, hR6⟩ := hR5
  have hS7 := hS.join hR6
  refine RW.run ttok 1 rfl ?_
  refine RW.nil ?_
  refine WP.ret ?_
  cases hm
  exact ⟨_, .cons (.tmp rfl) .nil, rfl, hS7⟩

theorem enters173 : Enters Try.prog 173 := ⟨_, _, Try.func173, rfl, by kernel_rfl⟩
def m_spec_l10Level (fuel : Nat) (x0 : Int) (x1 : Int) : Option (Bool) := ((m_spec_HasLevel fuel x0).bind fun r1 => (if r1 = true then ((m_spec_l00In fuel x1 0 8).bind fun r10 => some r10) else ((m_spec_l10Kind fuel x0).bind fun r17 => (if r17 = true then some (x1 == 0) else some false))))

set_option maxRecDepth 100000 in
theorem spec_l10Level_ok {W w : World} (hE : Ext W w) {x0 : Int} {x1 : Int}  {fuel : Nat} {r : Bool} (hm : m_spec_l10Level fuel x0 x1 = some r) :
    Calls Try.prog 173 ⟨[.int .i64 x0, .int .i64 x1]⟩ w (Ret fun v w8 => v = .bool r ∧ St w w8 []) := by
  refine Calls.into Try.func173 rfl 15 rfl rfl _ rfl ?_
  unfold m_spec_l10Level at hm
  have hS := St.start w
  refine WP.seq ?_
  refine WP.region ?_
  refine RW.run ttok 1 rfl ?_
  refine RW.nil ?_
  refine WP.seq ?_
  refine WP.seq ?_
  refine WP.region ?_
  refine RW.run ttok 1 rfl ?_
  obtain ⟨r1, hx2, hm⟩ := bind_some hm
  refine RW.call rfl rfl rfl enters162 (spec_HasLevel_ok (hE.trans hS.ext)  hx2) (fun v3 w4 hR5 => ?_)
  obtain ⟨rfl, hR6⟩ := hR5
  have hS7 := hS.join hR6
  refine RW.nil ?_
  refine WP.cond r1 rfl (fun hc => ?_) (fun hc => ?_)
  · skip
    rw [if_pos hc] at hm
    refine WP.seq ?_
    refine WP.region ?_
    refine RW.run ttok 1 rfl ?_
    obtain ⟨r10, hx11, hm⟩ := bind_some hm
    refine RW.call rfl rfl rfl enters102 (spec_l00In_ok (hE.trans hS7.ext)  hx11) (fun v12 w13 hR14 => ?_)
    obtain ⟨rfl, hR15⟩ := hR14
    have hS16 := hS7.join hR15
    refine RW.run ttok 1 rfl ?_
    refine RW.nil ?_
    refine WP.ret ?_
    cases hm
    exact ⟨_, .cons (.tmp rfl) .nil, rfl, hS16⟩
  · skip
    rw [if_neg (not_t hc)] at hm
    refine WP.skip ?_
    refine WP.seq ?_
    refine WP.region ?_
    refine RW.run ttok 1 rfl ?_
    obtain ⟨r17, hx18, hm⟩ := bind_some hm
    refine RW.call rfl rfl rfl enters238 (spec_l10Kind_ok (hE.trans hS7.ext)  hx18) (fun v19 w20 hR21 => ?_)
    obtain ⟨rfl, hR22⟩ := hR21
    have hS23 := hS7.join hR22
    refine RW.run ttok 1 rfl ?_
    by_cases hg24 : r17 = true
    · skip
      rw [if_pos hg24] at hm
      refine RW.know 11 rfl (congrArg Value.bool hg24) ?_
      refine RW.run ttok 4 rfl ?_
      refine RW.nil ?_
      refine WP.ret ?_
      cases hm
      exact ⟨_, .cons (.tmp rfl) .nil, rfl, hS23⟩
    · skip
      rw [if_neg hg24] at hm
      refine RW.know 11 rfl (congrArg Value.bool (Bool.eq_false_iff.2 hg24)) ?_
      refine RW.run ttok 4 rfl ?_
      refine RW.nil ?_
      refine WP.ret ?_
      cases hm
      exact ⟨_, .cons (.tmp rfl) .nil, rfl, hS23⟩

theorem enters239 : Enters Try.prog 239 := ⟨_, _, Try.func239, rfl, by kernel_rfl⟩
def m_spec_l11Def (fuel : Nat) (x0 : Int) : Option (Bool) := ((m_spec_l00In fuel x0 0 23).bind fun r1 => some r1)

set_option maxRecDepth 100000 in
theorem spec_l11Def_ok {W w : World} (hE : Ext W w) {x0 : Int}  {fuel : Nat} {r : Bool} (hm : m_spec_l11Def fuel x0 = some r) :
    Calls Try.prog 239 ⟨[.int .i64 x0]⟩ w (Ret fun v w8 => v = .bool r ∧ St w w8 []) := by
  refine Calls.into Try.func239 rfl 5 rfl rfl _ rfl ?_
  unfold m_spec_l11Def at hm
  have hS := St.start w
  refine WP.seq ?_
  refine WP.region ?_
  refine RW.run ttok 1 rfl ?_
  refine RW.nil ?_
  refine WP.seq ?_
  refine WP.region ?_
  refine RW.run ttok 1 rfl ?_
  obtain ⟨r1, hx2, hm⟩ := bind_some hm
  refine RW.call rfl rfl rfl enters102 (spec_l00In_ok (hE.trans hS.ext)  hx2) (fun v3 w4 hR5 => ?_)
  obtain ⟨rfl, hR6⟩ := hR5
  have hS7 := hS.join hR6
  refine RW.run ttok 1 rfl ?_
  refine RW.nil ?_
  refine WP.ret ?_
  cases hm
  exact ⟨_, .cons (.tmp rfl) .nil, rfl, hS7⟩

theorem enters174 : Enters Try.prog 174 := ⟨_, _, Try.func174, rfl, by kernel_rfl⟩
def m_spec_l11Content_j3 (fuel : Nat) (t76 : Unit) : Option Bool := some true
def m_spec_l11Content_b1 (fuel : Nat) (x0 : D.Agent) (s75 : Int) : Option (Rd (Int) (Unit) (Bool)) := (if (decide (s75 < (x0.Data.length : Int))) = true then ((idx x0.Data s75).bind fun x91 => ((m_spec_l11Def fuel x91).bind fun r97 => (if (!r97) = true then some (.ret false) else some (.next (w64 (s75 + 1)))))) else some (.brk ()))
def m_spec_l11Content_j2 (fuel : Nat) (x0 : D.Agent) (t70 : Bool) : Option Bool := (if t70 = true then some false else ((iter (m_spec_l11Content_b1 fuel x0) fuel 0).bind fun o => aft o (m_spec_l11Content_j3 fuel)))
def m_spec_l11Content_j1 (fuel : Nat) (x0 : D.Agent) (t65 : Bool) : Option Bool := (if t65 = true then (if (x0.Value != 0) = true then m_spec_l11Content_j2 fuel x0 true else (if (x0.Kind == 11) = true then (if ((x0.Data.length : Int) != 2) = true then m_spec_l11Content_j2 fuel x0 true else (if (x0.Kind == 10) = true then ((m_spec_l00In fuel (x0.Data.length : Int) 1 4).bind fun r108 => m_spec_l11Content_j2 fuel x0 (!r108)) else m_spec_l11Content_j2 fuel x0 false)) else (if (x0.Kind == 10) = true then ((m_spec_l00In fuel (x0.Data.length : Int) 1 4).bind fun r116 => m_spec_l11Content_j2 fuel x0 (!r116)) else m_spec_l11Content_j2 fuel x0 false))) else (if (x0.Value == 0) = true then some ((x0.Data.length : Int) == 0) else some false))
def m_spec_l11Content (fuel : Nat) (x0 : D.Agent) : Option (Bool) := (if (x0.Kind == 6) = true then (if ((x0.Data.length : Int) == 0) = true then ((m_spec_l00In fuel x0.Value (-2147483648) 2147483647).bind fun r11 => some r11) else some false) else (if (x0.Kind == 7) = true then (if ((x0.Data.length : Int) == 0) = true then ((m_spec_l00In fuel x0.Value 1 6).bind fun r19 => some r19) else some false) else (if (x0.Kind == 8) = true then (if ((x0.Data.length : Int) == 1) = true then ((m_spec_l00In fuel x0.Value 1 6).bind fun r27 => (if r27 = true then ((idx x0.Data 0).bind fun x35 => ((m_spec_l00In fuel x35 (-2147483648) 2147483647).bind fun r41 => some r41)) else some false)) else some false) else (if (x0.Kind == 9) = true then (if ((x0.Data.length : Int) == 0) = true then ((m_spec_l00In fuel x0.Value 0 3).bind fun r49 => some r49) else some false) else (if (x0.Kind == 12) = true then (if ((x0.Data.length : Int) == 0) = true then ((m_spec_l11Def fuel x0.Value).bind fun r57 => some r57) else some false) else (if (x0.Kind == 10) = true then m_spec_l11Content_j1 fuel x0 (x0.Kind == 10) else m_spec_l11Content_j1 fuel x0 (x0.Kind == 11)))))))

set_option maxRecDepth 100000 in
theorem spec_l11Content_ok {W w : World} (hE : Ext W w) {p0_ : Addr} {c0_ : List Value} {x0 : D.Agent} (h0_ : ty112.ro W c0_ x0) (g0_ : At W p0_ c0_) {fuel : Nat} {r : Bool} (hm : m_spec_l11Content fuel x0 = some r) :
    Calls Try.prog 174 ⟨[.pointer (some p0_)]⟩ w (Ret fun v w8 => v = .bool r ∧ St w w8 []) := by
  obtain ⟨A1, k2, A4, k5, e7, h3, h6⟩ := ty112_open h0_; subst e7
  refine Calls.into Try.func174 rfl 162 rfl rfl _ rfl ?_
  unfold m_spec_l11Content at hm
  have hS := St.start w
  refine WP.seq ?_
  refine WP.region ?_
  refine RW.run ttok 1 rfl ?_
  refine RW.nil ?_
  refine WP.seq ?_
  refine WP.seq ?_
  refine WP.region ?_
  refine RW.run ttok 3 rfl ?_
  refine RW.load1 ttok rfl rfl rfl rfl rfl (At.ext (hE.trans hS.ext) g0_) 0 rfl rfl rfl rfl ?_
  refine RW.nil ?_
  refine WP.block ?_
  refine WP.seq ?_
  refine WP.region ?_
  refine RW.run ttok 2 rfl ?_
  refine RW.nil ?_
  refine WP.cond (x0.Kind == 6) rfl (fun hc => ?_) (fun hc => ?_)
  · skip
    rw [if_pos hc] at hm
    refine WP.seq ?_
    refine WP.region ?_
    refine RW.run ttok 3 rfl ?_
    refine RW.load1 ttok rfl rfl rfl rfl rfl (At.ext (hE.trans hS.ext) g0_) 3 rfl rfl rfl rfl ?_
    refine RW.run ttok 3 rfl ?_
    by_cases hg10 : ((x0.Data.length : Int) == 0) = true
    · skip
      rw [if_pos hg10] at hm
      refine RW.know 16 rfl (congrArg Value.bool hg10) ?_
      refine RW.run ttok 3 rfl ?_
      refine RW.load1 ttok rfl rfl rfl rfl rfl (At.ext (hE.trans hS.ext) g0_) 2 rfl rfl rfl rfl ?_
      obtain ⟨r11, hx12, hm⟩ := bind_some hm
      refine RW.call rfl rfl rfl enters102 (spec_l00In_ok (hE.trans hS.ext)  hx12) (fun v13 w14 hR15 => ?_)
      obtain ⟨rfl, hR16⟩ := hR15
      have hS17 := hS.join hR16
      refine RW.run ttok 2 rfl ?_
      refine RW.nil ?_
      refine WP.ret ?_
      cases hm
      exact ⟨_, .cons (.tmp rfl) .nil, rfl, hS17⟩
    · skip
      rw [if_neg hg10] at hm
      refine RW.know 16 rfl (congrArg Value.bool (Bool.eq_false_iff.2 hg10)) ?_
      refine RW.run ttok 7 rfl ?_
      refine RW.nil ?_
      refine WP.ret ?_
      cases hm
      exact ⟨_, .cons (.tmp rfl) .nil, rfl, hS⟩
  · skip
    rw [if_neg (not_t hc)] at hm
    refine WP.seq ?_
    refine WP.region ?_
    refine RW.run ttok 2 rfl ?_
    refine RW.nil ?_
    refine WP.cond (x0.Kind == 7) rfl (fun hc => ?_) (fun hc => ?_)
    · skip
      rw [if_pos hc] at hm
      refine WP.seq ?_
      refine WP.region ?_
      refine RW.run ttok 3 rfl ?_
      refine RW.load1 ttok rfl rfl rfl rfl rfl (At.ext (hE.trans hS.ext) g0_) 3 rfl rfl rfl rfl ?_
      refine RW.run ttok 3 rfl ?_
      by_cases hg18 : ((x0.Data.length : Int) == 0) = true
      · skip
        rw [if_pos hg18] at hm
        refine RW.know 31 rfl (congrArg Value.bool hg18) ?_
        refine RW.run ttok 3 rfl ?_
        refine RW.load1 ttok rfl rfl rfl rfl rfl (At.ext (hE.trans hS.ext) g0_) 2 rfl rfl rfl rfl ?_
        obtain ⟨r19, hx20, hm⟩ := bind_some hm
        refine RW.call rfl rfl rfl enters102 (spec_l00In_ok (hE.trans hS.ext)  hx20) (fun v21 w22 hR23 => ?_)
        obtain ⟨rfl, hR24⟩ := hR23
        have hS25 := hS.join hR24
        refine RW.run ttok 2 rfl ?_
        refine RW.nil ?_
        refine WP.ret ?_
        cases hm
        exact ⟨_, .cons (.tmp rfl) .nil, rfl, hS25⟩
      · skip
        rw [if_neg hg18] at hm
        refine RW.know 31 rfl (congrArg Value.bool (Bool.eq_false_iff.2 hg18)) ?_
        refine RW.run ttok 7 rfl ?_
        refine RW.nil ?_
        refine WP.ret ?_
        cases hm
        exact ⟨_, .cons (.tmp rfl) .nil, rfl, hS⟩
    · skip
      rw [if_neg (not_t hc)] at hm
      refine WP.seq ?_
      refine WP.region ?_
      refine RW.run ttok 2 rfl ?_
      refine RW.nil ?_
      refine WP.cond (x0.Kind == 8) rfl (fun hc => ?_) (fun hc => ?_)
      · skip
        rw [if_pos hc] at hm
        refine WP.seq ?_
        refine WP.region ?_
        refine RW.run ttok 3 rfl ?_
        refine RW.load1 ttok rfl rfl rfl rfl rfl (At.ext (hE.trans hS.ext) g0_) 3 rfl rfl rfl rfl ?_
        refine RW.run ttok 3 rfl ?_
        by_cases hg26 : ((x0.Data.length : Int) == 1) = true
        · skip
          rw [if_pos hg26] at hm
          refine RW.know 46 rfl (congrArg Value.bool hg26) ?_
          refine RW.run ttok 3 rfl ?_
          refine RW.load1 ttok rfl rfl rfl rfl rfl (At.ext (hE.trans hS.ext) g0_) 2 rfl rfl rfl rfl ?_
          obtain ⟨r27, hx28, hm⟩ := bind_some hm
          refine RW.call rfl rfl rfl enters102 (spec_l00In_ok (hE.trans hS.ext)  hx28) (fun v29 w30 hR31 => ?_)
          obtain ⟨rfl, hR32⟩ := hR31
          have hS33 := hS.join hR32
          refine RW.run ttok 2 rfl ?_
          by_cases hg34 : r27 = true
          · skip
            rw [if_pos hg34] at hm
            refine RW.know 53 rfl (congrArg Value.bool hg34) ?_
            refine RW.run ttok 3 rfl ?_
            refine RW.load1 ttok rfl rfl rfl rfl rfl (At.ext (hE.trans hS33.ext) g0_) 3 rfl rfl rfl rfl ?_
            obtain ⟨x35, hx36, hm⟩ := bind_some hm
            refine RW.idx ttok (hE.trans hS33.ext) rfl rfl rfl rfl rfl rfl (by decide) rfl rfl h3 (idx_some hx36).1 (idx_some hx36).2 rfl rfl (fun p37 es38 ha39 hr40 => ?_)
            cases hr40
            refine RW.load1 ttok rfl rfl rfl rfl rfl (At.ext (hE.trans hS33.ext) ha39) 0 rfl rfl rfl rfl ?_
            obtain ⟨r41, hx42, hm⟩ := bind_some hm
            refine RW.call rfl rfl rfl enters102 (spec_l00In_ok (hE.trans hS33.ext)  hx42) (fun v43 w44 hR45 => ?_)
            obtain ⟨rfl, hR46⟩ := hR45
            have hS47 := hS33.join hR46
            refine RW.run ttok 2 rfl ?_
            refine RW.nil ?_
            refine WP.ret ?_
            cases hm
            exact ⟨_, .cons (.tmp rfl) .nil, rfl, hS47⟩
          · skip
            rw [if_neg hg34] at hm
            refine RW.know 53 rfl (congrArg Value.bool (Bool.eq_false_iff.2 hg34)) ?_
            refine RW.run ttok 9 rfl ?_
            refine RW.nil ?_
            refine WP.ret ?_
            cases hm
            exact ⟨_, .cons (.tmp rfl) .nil, rfl, hS33⟩
        · skip
          rw [if_neg hg26] at hm
          refine RW.know 46 rfl (congrArg Value.bool (Bool.eq_false_iff.2 hg26)) ?_
          refine RW.run ttok 16 rfl ?_
          refine RW.nil ?_
          refine WP.ret ?_
          cases hm
          exact ⟨_, .cons (.tmp rfl) .nil, rfl, hS⟩
      · skip
        rw [if_neg (not_t hc)] at hm
        refine WP.seq ?_
        refine WP.region ?_
        refine RW.run ttok 2 rfl ?_
        refine RW.nil ?_
        refine WP.cond (x0.Kind == 9) rfl (fun hc => ?_) (fun hc => ?_)
        · skip
          rw [if_pos hc] at hm
          refine WP.seq ?_
          refine WP.region ?_
          refine RW.run ttok 3 rfl ?_
          refine RW.load1 ttok rfl rfl rfl rfl rfl (At.ext (hE.trans hS.ext) g0_) 3 rfl rfl rfl rfl ?_
          refine RW.run ttok 3 rfl ?_
          by_cases hg48 : ((x0.Data.length : Int) == 0) = true
          · skip
            rw [if_pos hg48] at hm
            refine RW.know 70 rfl (congrArg Value.bool hg48) ?_
            refine RW.run ttok 3 rfl ?_
            refine RW.load1 ttok rfl rfl rfl rfl rfl (At.ext (hE.trans hS.ext) g0_) 2 rfl rfl rfl rfl ?_
            obtain ⟨r49, hx50, hm⟩ := bind_some hm
            refine RW.call rfl rfl rfl enters102 (spec_l00In_ok (hE.trans hS.ext)  hx50) (fun v51 w52 hR53 => ?_)
            obtain ⟨rfl, hR54⟩ := hR53
            have hS55 := hS.join hR54
            refine RW.run ttok 2 rfl ?_
            refine RW.nil ?_
            refine WP.ret ?_
            cases hm
            exact ⟨_, .cons (.tmp rfl) .nil, rfl, hS55⟩
          · skip
            rw [if_neg hg48] at hm
            refine RW.know 70 rfl (congrArg Value.bool (Bool.eq_false_iff.2 hg48)) ?_
            refine RW.run ttok 7 rfl ?_
            refine RW.nil ?_
            refine WP.ret ?_
            cases hm
            exact ⟨_, .cons (.tmp rfl) .nil, rfl, hS⟩
        · skip
          rw [if_neg (not_t hc)] at hm
          refine WP.seq ?_
          refine WP.region ?_
          refine RW.run ttok 2 rfl ?_
          refine RW.nil ?_
          refine WP.cond (x0.Kind == 12) rfl (fun hc => ?_) (fun hc => ?_)
          · skip
            rw [if_pos hc] at hm
            refine WP.seq ?_
            refine WP.region ?_
            refine RW.run ttok 3 rfl ?_
            refine RW.load1 ttok rfl rfl rfl rfl rfl (At.ext (hE.trans hS.ext) g0_) 3 rfl rfl rfl rfl ?_
            refine RW.run ttok 3 rfl ?_
            by_cases hg56 : ((x0.Data.length : Int) == 0) = true
            · skip
              rw [if_pos hg56] at hm
              refine RW.know 85 rfl (congrArg Value.bool hg56) ?_
              refine RW.run ttok 3 rfl ?_
              refine RW.load1 ttok rfl rfl rfl rfl rfl (At.ext (hE.trans hS.ext) g0_) 2 rfl rfl rfl rfl ?_
              obtain ⟨r57, hx58, hm⟩ := bind_some hm
              refine RW.call rfl rfl rfl enters239 (spec_l11Def_ok (hE.trans hS.ext)  hx58) (fun v59 w60 hR61 => ?_)
              obtain ⟨rfl, hR62⟩ := hR61
              have hS63 := hS.join hR62
              refine RW.run ttok 2 rfl ?_
              refine RW.nil ?_
              refine WP.ret ?_
              cases hm
              exact ⟨_, .cons (.tmp rfl) .nil, rfl, hS63⟩
            · skip
              rw [if_neg hg56] at hm
              refine RW.know 85 rfl (congrArg Value.bool (Bool.eq_false_iff.2 hg56)) ?_
              refine RW.run ttok 7 rfl ?_
              refine RW.nil ?_
              refine WP.ret ?_
              cases hm
              exact ⟨_, .cons (.tmp rfl) .nil, rfl, hS⟩
          · skip
            rw [if_neg (not_t hc)] at hm
            refine WP.seq ?_
            refine WP.seq ?_
            refine WP.region ?_
            refine RW.run ttok 2 rfl ?_
            refine RW.nil ?_
            refine WP.cut (fun (t65 : Bool) F w9 => m_spec_l11Content_j1 fuel x0 t65 = some r ∧ Ext w w9 ∧ St w w9 [] ∧ F = [(0, .pointer (some p0_)), (92, .bool t65)]) ?_ ?_
            · skip
              rintro t65 F w68 ⟨hm, hE66, hS67, rfl⟩
              unfold m_spec_l11Content_j1 at hm
              refine WP.cond t65 rfl (fun hc => ?_) (fun hc => ?_)
              · skip
                rw [if_pos hc] at hm
                refine WP.seq ?_
                refine WP.seq ?_
                refine WP.cut (fun (t70 : Bool) F w9 => m_spec_l11Content_j2 fuel x0 t70 = some r ∧ Ext w68 w9 ∧ St w w9 [] ∧ F = [(0, .pointer (some p0_)), (130, .bool t70)]) ?_ ?_
                · skip
                  rintro t70 F w73 ⟨hm, hE71, hS72, rfl⟩
                  unfold m_spec_l11Content_j2 at hm
                  refine WP.cond t70 rfl (fun hc => ?_) (fun hc => ?_)
                  · skip
                    rw [if_pos hc] at hm
                    refine WP.seq ?_
                    refine WP.region ?_
                    refine RW.run ttok 1 rfl ?_
                    refine RW.nil ?_
                    refine WP.ret ?_
                    cases hm
                    exact ⟨_, .cons (.tmp rfl) .nil, rfl, hS72⟩
                  · skip
                    rw [if_neg (not_t hc)] at hm
                    refine WP.skip ?_
                    refine WP.seq ?_
                    refine WP.seq ?_
                    refine WP.region ?_
                    refine RW.run ttok 1 rfl ?_
                    refine RW.nil ?_
                    obtain ⟨o82, hl83, hm⟩ := bind_some hm
                    refine WP.cut (fun (t76 : Unit) F w9 => o82 = .inl t76 ∧ Ext w73 w9 ∧ St w w9 [] ∧ F = []) ?_ ?_
                    · skip
                      rintro t76 F w81 ⟨ho85, hE80, hS84, rfl⟩
                      subst ho85
                      rw [aft_inl] at hm
                      unfold m_spec_l11Content_j3 at hm
                      refine WP.seq ?_
                      refine WP.region ?_
                      refine RW.run ttok 1 rfl ?_
                      refine RW.nil ?_
                      refine WP.ret ?_
                      cases hm
                      exact ⟨_, .cons (.tmp rfl) .nil, rfl, hS84⟩
                    · skip
                      refine WP.block ?_
                      refine WP.weak [(0, .pointer (some p0_)), (3, .int .i64 0)] ⟨rfl, rfl, trivial⟩ ?_
                      refine WP.iter (fun (s75 : Int) F w9 => Ext w73 w9 ∧ St w w9 [] ∧ F = [(0, .pointer (some p0_)), (3, .int .i64 s75)]) _ hl83 ⟨(Ext.refl _), hS72, rfl⟩ ?_
                      rintro s75 F w90 _ o88 ⟨hE79, hS89, rfl⟩ hb86 ho87
                      unfold m_spec_l11Content_b1 at hb86
                      refine WP.seq ?_
                      refine WP.seq ?_
                      refine WP.region ?_
                      refine RW.run ttok 4 rfl ?_
                      refine RW.load1 ttok rfl rfl rfl rfl rfl (At.ext (hE.trans hS89.ext) g0_) 3 rfl rfl rfl rfl ?_
                      refine RW.run ttok 2 rfl ?_
                      refine RW.nil ?_
                      refine WP.cond (decide (s75 < (x0.Data.length : Int))) rfl (fun hc => ?_) (fun hc => ?_)
                      · skip
                        rw [if_pos hc] at hb86
                        refine WP.skip ?_
                        refine WP.seq ?_
                        refine WP.block ?_
                        refine WP.seq ?_
                        refine WP.region ?_
                        refine RW.run ttok 3 rfl ?_
                        refine RW.load1 ttok rfl rfl rfl rfl rfl (At.ext (hE.trans hS89.ext) g0_) 3 rfl rfl rfl rfl ?_
                        refine RW.run ttok 1 rfl ?_
                        obtain ⟨x91, hx92, hb86⟩ := bind_some hb86
                        refine RW.idx ttok (hE.trans hS89.ext) rfl rfl rfl rfl rfl rfl (by decide) rfl rfl h3 (idx_some hx92).1 (idx_some hx92).2 rfl rfl (fun p93 es94 ha95 hr96 => ?_)
                        cases hr96
                        refine RW.load1 ttok rfl rfl rfl rfl rfl (At.ext (hE.trans hS89.ext) ha95) 0 rfl rfl rfl rfl ?_
                        obtain ⟨r97, hx98, hb86⟩ := bind_some hb86
                        refine RW.call rfl rfl rfl enters239 (spec_l11Def_ok (hE.trans hS89.ext)  hx98) (fun v99 w100 hR101 => ?_)
                        obtain ⟨rfl, hR102⟩ := hR101
                        have hS103 := hS89.join hR102
                        refine RW.run ttok 1 rfl ?_
                        refine RW.nil ?_
                        refine WP.cond (!r97) rfl (fun hc => ?_) (fun hc => ?_)
                        · skip
                          rw [if_pos hc] at hb86
                          refine WP.seq ?_
                          refine WP.region ?_
                          refine RW.run ttok 1 rfl ?_
                          refine RW.nil ?_
                          refine WP.ret ?_
                          cases hb86
                          cases ho87
                          have hm : some _ = some _ := hm
                          cases hm
                          exact ⟨_, .cons (.tmp rfl) .nil, rfl, hS103⟩
                        · skip
                          rw [if_neg (not_t hc)] at hb86
                          refine WP.skip ?_
                          refine WP.region ?_
                          refine RW.run ttok 3 rfl ?_
                          refine RW.nil ?_
                          cases hb86
                          exact ⟨_, [(0, .pointer (some p0_)), (3, .int .i64 (w64 (s75 + 1)))], ⟨rfl, rfl, trivial⟩, rfl, (hE79.trans hR102.ext), hS103, rfl⟩
                      · skip
                        rw [if_neg (not_t hc)] at hb86
                        refine WP.exit ?_
                        cases hb86
                        exact ⟨_, [], trivial, ho87, hE79, hS89, rfl⟩
                · skip
                  refine WP.region ?_
                  refine RW.run ttok 3 rfl ?_
                  refine RW.load1 ttok rfl rfl rfl rfl rfl (At.ext (hE.trans hS67.ext) g0_) 2 rfl rfl rfl rfl ?_
                  refine RW.run ttok 2 rfl ?_
                  by_cases hg104 : (x0.Value != 0) = true
                  · skip
                    rw [if_pos hg104] at hm
                    refine RW.know 100 rfl (congrArg Value.bool hg104) ?_
                    refine RW.run ttok 30 rfl ?_
                    refine RW.nil ?_
                    exact ⟨true, [(0, .pointer (some p0_)), (130, .bool true)], ⟨rfl, rfl, trivial⟩, hm, (Ext.refl _), hS67, rfl⟩
                  · skip
                    rw [if_neg hg104] at hm
                    refine RW.know 100 rfl (congrArg Value.bool (Bool.eq_false_iff.2 hg104)) ?_
                    refine RW.run ttok 3 rfl ?_
                    refine RW.load1 ttok rfl rfl rfl rfl rfl (At.ext (hE.trans hS67.ext) g0_) 0 rfl rfl rfl rfl ?_
                    refine RW.run ttok 2 rfl ?_
                    by_cases hg105 : (x0.Kind == 11) = true
                    · skip
                      rw [if_pos hg105] at hm
                      refine RW.know 106 rfl (congrArg Value.bool hg105) ?_
                      refine RW.run ttok 3 rfl ?_
                      refine RW.load1 ttok rfl rfl rfl rfl rfl (At.ext (hE.trans hS67.ext) g0_) 3 rfl rfl rfl rfl ?_
                      refine RW.run ttok 5 rfl ?_
                      by_cases hg106 : ((x0.Data.length : Int) != 2) = true
                      · skip
                        rw [if_pos hg106] at hm
                        refine RW.know 115 rfl (congrArg Value.bool hg106) ?_
                        refine RW.run ttok 15 rfl ?_
                        refine RW.nil ?_
                        exact ⟨true, [(0, .pointer (some p0_)), (130, .bool true)], ⟨rfl, rfl, trivial⟩, hm, (Ext.refl _), hS67, rfl⟩
                      · skip
                        rw [if_neg hg106] at hm
                        refine RW.know 115 rfl (congrArg Value.bool (Bool.eq_false_iff.2 hg106)) ?_
                        refine RW.run ttok 3 rfl ?_
                        refine RW.load1 ttok rfl rfl rfl rfl rfl (At.ext (hE.trans hS67.ext) g0_) 0 rfl rfl rfl rfl ?_
                        refine RW.run ttok 2 rfl ?_
                        by_cases hg107 : (x0.Kind == 10) = true
                        · skip
                          rw [if_pos hg107] at hm
                          refine RW.know 121 rfl (congrArg Value.bool hg107) ?_
                          refine RW.run ttok 3 rfl ?_
                          refine RW.load1 ttok rfl rfl rfl rfl rfl (At.ext (hE.trans hS67.ext) g0_) 3 rfl rfl rfl rfl ?_
                          refine RW.run ttok 1 rfl ?_
                          obtain ⟨r108, hx109, hm⟩ := bind_some hm
                          refine RW.call rfl rfl rfl enters102 (spec_l00In_ok (hE.trans hS67.ext)  hx109) (fun v110 w111 hR112 => ?_)
                          obtain ⟨rfl, hR113⟩ := hR112
                          have hS114 := hS67.join hR113
                          refine RW.run ttok 3 rfl ?_
                          refine RW.nil ?_
                          exact ⟨!r108, [(0, .pointer (some p0_)), (130, .bool (!r108))], ⟨rfl, rfl, trivial⟩, hm, hR113.ext, hS114, rfl⟩
                        · skip
                          rw [if_neg hg107] at hm
                          refine RW.know 121 rfl (congrArg Value.bool (Bool.eq_false_iff.2 hg107)) ?_
                          refine RW.run ttok 9 rfl ?_
                          refine RW.nil ?_
                          exact ⟨false, [(0, .pointer (some p0_)), (130, .bool false)], ⟨rfl, rfl, trivial⟩, hm, (Ext.refl _), hS67, rfl⟩
                    · skip
                      rw [if_neg hg105] at hm
                      refine RW.know 106 rfl (congrArg Value.bool (Bool.eq_false_iff.2 hg105)) ?_
                      refine RW.run ttok 12 rfl ?_
                      refine RW.load1 ttok rfl rfl rfl rfl rfl (At.ext (hE.trans hS67.ext) g0_) 0 rfl rfl rfl rfl ?_
                      refine RW.run ttok 2 rfl ?_
                      by_cases hg115 : (x0.Kind == 10) = true
                      · skip
                        rw [if_pos hg115] at hm
                        refine RW.know 121 rfl (congrArg Value.bool hg115) ?_
                        refine RW.run ttok 3 rfl ?_
                        refine RW.load1 ttok rfl rfl rfl rfl rfl (At.ext (hE.trans hS67.ext) g0_) 3 rfl rfl rfl rfl ?_
                        refine RW.run ttok 1 rfl ?_
                        obtain ⟨r116, hx117, hm⟩ := bind_some hm
                        refine RW.call rfl rfl rfl enters102 (spec_l00In_ok (hE.trans hS67.ext)  hx117) (fun v118 w119 hR120 => ?_)
                        obtain ⟨rfl, hR121⟩ := hR120
                        have hS122 := hS67.join hR121
                        refine RW.run ttok 3 rfl ?_
                        refine RW.nil ?_
                        exact ⟨!r116, [(0, .pointer (some p0_)), (130, .bool (!r116))], ⟨rfl, rfl, trivial⟩, hm, hR121.ext, hS122, rfl⟩
                      · skip
                        rw [if_neg hg115] at hm
                        refine RW.know 121 rfl (congrArg Value.bool (Bool.eq_false_iff.2 hg115)) ?_
                        refine RW.run ttok 9 rfl ?_
                        refine RW.nil ?_
                        exact ⟨false, [(0, .pointer (some p0_)), (130, .bool false)], ⟨rfl, rfl, trivial⟩, hm, (Ext.refl _), hS67, rfl⟩
              · skip
                rw [if_neg (not_t hc)] at hm
                refine WP.skip ?_
                refine WP.seq ?_
                refine WP.region ?_
                refine RW.run ttok 3 rfl ?_
                refine RW.load1 ttok rfl rfl rfl rfl rfl (At.ext (hE.trans hS67.ext) g0_) 2 rfl rfl rfl rfl ?_
                refine RW.run ttok 2 rfl ?_
                by_cases hg123 : (x0.Value == 0) = true
                · skip
                  rw [if_pos hg123] at hm
                  refine RW.know 154 rfl (congrArg Value.bool hg123) ?_
                  refine RW.run ttok 3 rfl ?_
                  refine RW.load1 ttok rfl rfl rfl rfl rfl (At.ext (hE.trans hS67.ext) g0_) 3 rfl rfl rfl rfl ?_
                  refine RW.run ttok 4 rfl ?_
                  refine RW.nil ?_
                  refine WP.ret ?_
                  cases hm
                  exact ⟨_, .cons (.tmp rfl) .nil, rfl, hS67⟩
                · skip
                  rw [if_neg hg123] at hm
                  refine RW.know 154 rfl (congrArg Value.bool (Bool.eq_false_iff.2 hg123)) ?_
                  refine RW.run ttok 8 rfl ?_
                  refine RW.nil ?_
                  refine WP.ret ?_
                  cases hm
                  exact ⟨_, .cons (.tmp rfl) .nil, rfl, hS67⟩
            · skip
              refine WP.cond (x0.Kind == 10) rfl (fun hc => ?_) (fun hc => ?_)
              · skip
                rw [if_pos hc] at hm
                refine WP.skip ?_
                exact ⟨(x0.Kind == 10), [(0, .pointer (some p0_)), (92, .bool (x0.Kind == 10))], ⟨rfl, rfl, trivial⟩, hm, (Ext.refl _), hS, rfl⟩
              · skip
                rw [if_neg (not_t hc)] at hm
                refine WP.region ?_
                refine RW.run ttok 2 rfl ?_
                refine RW.nil ?_
                exact ⟨(x0.Kind == 11), [(0, .pointer (some p0_)), (92, .bool (x0.Kind == 11))], ⟨rfl, rfl, trivial⟩, hm, (Ext.refl _), hS, rfl⟩

theorem enters122 : Enters Try.prog 122 := ⟨_, _, Try.func122, rfl, by kernel_rfl⟩
def m_spec_l11Agent (fuel : Nat) (x0 : D.Agent) : Option (Bool) := ((m_spec_l11Fields fuel x0).bind fun r12 => ((m_spec_PortsOf fuel x0.Kind r12).bind fun r19 => (if (decide (r19 > 0)) = true then (if ((x0.Ports.length : Int) == r19) = true then ((m_spec_l10Level fuel x0.Kind x0.Level).bind fun r30 => (if r30 = true then ((m_spec_l11Content fuel x0).bind fun r38 => some r38) else some false)) else some false) else some false)))

set_option maxRecDepth 100000 in
theorem spec_l11Agent_ok {W w : World} (hE : Ext W w) {p0_ : Addr} {c0_ : List Value} {x0 : D.Agent} (h0_ : ty112.ro W c0_ x0) (g0_ : At W p0_ c0_) {fuel : Nat} {r : Bool} (hm : m_spec_l11Agent fuel x0 = some r) :
    Calls Try.prog 122 ⟨[.pointer (some p0_)]⟩ w (Ret fun v w8 => v = .bool r ∧ St w w8 []) := by
  obtain ⟨A1, k2, A4, k5, e7, h3, h6⟩ := ty112_open h0_; subst e7
  refine Calls.into Try.func122 rfl 37 rfl rfl _ rfl ?_
  unfold m_spec_l11Agent at hm
  have hS := St.start w
  refine WP.seq ?_
  refine WP.region ?_
  refine RW.run ttok 1 rfl ?_
  refine RW.nil ?_
  refine WP.seq ?_
  refine WP.drawnM 0 mixed 8 (by kernel_rfl) (by kernel_rfl) [([], 255), ([0], 254), ([1], 253), ([2], 251), ([], 255), ([4], 239), ([3, 5, 5], 215), ([6, 6, 0, 1, 2, 3, 4, 5, 6], 191)] (by kernel_rfl) hS.ext (fun hsk10 => ?_)
  have hS11 := hS.step (Ext.draw _)
  refine DM.run (fuel := 4) ttok hsk10 [0, 1, 2, 4] 23 (by kernel_rfl) (by kernel_rfl) rfl ?_
  refine DM.load1 ttok hsk10 3 31 (by kernel_rfl) (by kernel_rfl) (by kernel_rfl) (by kernel_rfl) rfl (by kernel_rfl) rfl rfl rfl rfl rfl (At.ext (hE.trans hS.ext) g0_) 0 rfl rfl rfl rfl ?_
  obtain ⟨r12, hx13, hm⟩ := bind_some hm
  refine DM.one hsk10 5 (by kernel_rfl) (LM.call hsk10 63 (by kernel_rfl) (by kernel_rfl) rfl rfl rfl rfl enters172 (spec_l11Fields_ok (hE.trans hS11.ext) h0_ g0_ hx13) (fun v14 w15 hR16 => ?_))
  obtain ⟨rfl, hR17⟩ := hR16
  refine ⟨hR17.ext, ?_⟩
  have hS18 := hS11.join hR17
  obtain ⟨r19, hx20, hm⟩ := bind_some hm
  refine DM.one hsk10 6 (by kernel_rfl) (LM.call hsk10 127 (by kernel_rfl) (by kernel_rfl) rfl rfl rfl rfl enters171 (spec_PortsOf_ok (hE.trans hS18.ext)  hx20) (fun v21 w22 hR23 => ?_))
  obtain ⟨rfl, hR24⟩ := hR23
  refine ⟨hR24.ext, ?_⟩
  have hS25 := hS18.join hR24
  refine DM.run (fuel := 0) ttok hsk10 [7] 255 (by kernel_rfl) (by kernel_rfl) rfl ?_
  refine DM.weak [(0, .pointer (some p0_)), (3, .int .i64 r19)] ⟨rfl, rfl, trivial⟩ ?_
  refine DM.done hsk10 (by kernel_rfl) ?_
  refine WP.seq ?_
  refine WP.drawnM 0 mixed 27 (by kernel_rfl) (by kernel_rfl) [([], 134217727), ([0], 134217726), ([1], 134217725), ([2], 134217723), ([3, 2], 134217715), ([4, 2], 134217707), ([5, 2], 134217691), ([6, 2], 134217659), ([2], 134217723), ([7, 8, 2], 134217339), ([2, 9], 134217211), ([10, 2], 134216703), ([11], 134215679), ([12, 11], 134211583), ([13, 11], 134207487), ([14, 11], 134199295), ([11], 134215679), ([16, 11], 134150143), ([17, 11], 134084607), ([18, 11], 133953535), ([15, 19, 11, 11], 133658623), ([11, 20], 133167103), ([21, 20], 132120575), ([22], 130023423), ([23, 22, 22], 121634815), ([22, 24], 113246207), ([25, 24, 0, 1, 2, 3, 4, 5, 6, 7, 8, 9, 10, 11, 12, 13, 14, 15, 16, 17, 18, 19, 20, 21, 22, 23, 24, 25], 100663295)] (by kernel_rfl) hS25.ext (fun hsk26 => ?_)
  have hS27 := hS25.step (Ext.draw _)
  refine DM.run (fuel := 24) ttok hsk26 [0, 1, 2] 7 (by kernel_rfl) (by kernel_rfl) rfl ?_
  by_cases hg28 : (decide (r19 > 0)) = true
  · skip
    rw [if_pos hg28] at hm
    refine DM.know 13 rfl (congrArg Value.bool hg28) ?_
    refine DM.run (fuel := 20) ttok hsk26 [3, 4, 5, 8] 319 (by kernel_rfl) (by kernel_rfl) rfl ?_
    refine DM.load1 ttok hsk26 6 383 (by kernel_rfl) (by kernel_rfl) (by kernel_rfl) (by kernel_rfl) rfl (by kernel_rfl) rfl rfl rfl rfl rfl (At.ext (hE.trans hS25.ext) g0_) 4 rfl rfl rfl rfl ?_
    refine DM.run (fuel := 15) ttok hsk26 [7, 9, 10, 11] 4095 (by kernel_rfl) (by kernel_rfl) rfl ?_
    refine DM.weak [(0, .pointer (some p0_)), (22, .bool ((x0.Ports.length : Int) == r19))] ⟨rfl, rfl, trivial⟩ ?_
    by_cases hg29 : ((x0.Ports.length : Int) == r19) = true
    · skip
      rw [if_pos hg29] at hm
      refine DM.know 22 rfl (congrArg Value.bool hg29) ?_
      refine DM.run (fuel := 9) ttok hsk26 [12, 13, 14, 16, 17, 18] 491519 (by kernel_rfl) (by kernel_rfl) rfl ?_
      refine DM.load1 ttok hsk26 15 524287 (by kernel_rfl) (by kernel_rfl) (by kernel_rfl) (by kernel_rfl) rfl (by kernel_rfl) rfl rfl rfl rfl rfl (At.ext (hE.trans hS25.ext) g0_) 0 rfl rfl rfl rfl ?_
      refine DM.load1 ttok hsk26 19 1048575 (by kernel_rfl) (by kernel_rfl) (by kernel_rfl) (by kernel_rfl) rfl (by kernel_rfl) rfl rfl rfl rfl rfl (At.ext (hE.trans hS25.ext) g0_) 1 rfl rfl rfl rfl ?_
      obtain ⟨r30, hx31, hm⟩ := bind_some hm
      refine DM.one hsk26 20 (by kernel_rfl) (LM.call hsk26 2097151 (by kernel_rfl) (by kernel_rfl) rfl rfl rfl rfl enters173 (spec_l10Level_ok (hE.trans hS27.ext)  hx31) (fun v32 w33 hR34 => ?_))
      obtain ⟨rfl, hR35⟩ := hR34
      refine ⟨hR35.ext, ?_⟩
      have hS36 := hS27.join hR35
      refine DM.run (fuel := 4) ttok hsk26 [21, 22] 8388607 (by kernel_rfl) (by kernel_rfl) rfl ?_
      refine DM.weak [(0, .pointer (some p0_)), (33, .bool r30)] ⟨rfl, rfl, trivial⟩ ?_
      by_cases hg37 : r30 = true
      · skip
        rw [if_pos hg37] at hm
        refine DM.know 33 rfl (congrArg Value.bool hg37) ?_
        refine DM.run (fuel := 3) ttok hsk26 [23] 16777215 (by kernel_rfl) (by kernel_rfl) rfl ?_
        obtain ⟨r38, hx39, hm⟩ := bind_some hm
        refine DM.one hsk26 24 (by kernel_rfl) (LM.call hsk26 33554431 (by kernel_rfl) (by kernel_rfl) rfl rfl rfl rfl enters174 (spec_l11Content_ok (hE.trans hS36.ext) h0_ g0_ hx39) (fun v40 w41 hR42 => ?_))
        obtain ⟨rfl, hR43⟩ := hR42
        refine ⟨hR43.ext, ?_⟩
        have hS44 := hS36.join hR43
        refine DM.run (fuel := 0) ttok hsk26 [25, 26] 134217727 (by kernel_rfl) (by kernel_rfl) rfl ?_
        refine DM.done hsk26 (by kernel_rfl) ?_
        refine WP.ret ?_
        cases hm
        exact ⟨_, .cons (.tmp rfl) .nil, rfl, hS44⟩
      · skip
        rw [if_neg hg37] at hm
        refine DM.know 33 rfl (congrArg Value.bool (Bool.eq_false_iff.2 hg37)) ?_
        refine DM.run (fuel := 0) ttok hsk26 [23, 24, 25, 26] 134217727 (by kernel_rfl) (by kernel_rfl) rfl ?_
        refine DM.done hsk26 (by kernel_rfl) ?_
        refine WP.ret ?_
        cases hm
        exact ⟨_, .cons (.tmp rfl) .nil, rfl, hS36⟩
    · skip
      rw [if_neg hg29] at hm
      refine DM.know 22 rfl (congrArg Value.bool (Bool.eq_false_iff.2 hg29)) ?_
      refine DM.run (fuel := 0) ttok hsk26 [12, 13, 14, 15, 16, 17, 18, 19, 20, 21, 22, 23, 24, 25, 26] 134217727 (by kernel_rfl) (by kernel_rfl) rfl ?_
      refine DM.weak [(2, .bool false)] ⟨rfl, trivial⟩ ?_
      refine DM.done hsk26 (by kernel_rfl) ?_
      refine WP.ret ?_
      cases hm
      exact ⟨_, .cons (.tmp rfl) .nil, rfl, hS27⟩
  · skip
    rw [if_neg hg28] at hm
    refine DM.know 13 rfl (congrArg Value.bool (Bool.eq_false_iff.2 hg28)) ?_
    refine DM.run (fuel := 0) ttok hsk26 [3, 4, 5, 6, 7, 8, 9, 10, 11, 12, 13, 14, 15, 16, 17, 18, 19, 20, 21, 22, 23, 24, 25, 26] 134217727 (by kernel_rfl) (by kernel_rfl) rfl ?_
    refine DM.weak [(2, .bool false)] ⟨rfl, trivial⟩ ?_
    refine DM.done hsk26 (by kernel_rfl) ?_
    refine WP.ret ?_
    cases hm
    exact ⟨_, .cons (.tmp rfl) .nil, rfl, hS27⟩

theorem enters176 : Enters Try.prog 176 := ⟨_, _, Try.func176, rfl, by kernel_rfl⟩
def m_impl_fieldsOf (fuel : Nat) (x0 : Int) (x1 : Int) : Option (Int) := (if (x0 == 9) = true then some (w64 (x1 - 1)) else some 0)

set_option maxRecDepth 100000 in
theorem impl_fieldsOf_ok {W w : World} (hE : Ext W w) {x0 : Int} {x1 : Int}  {fuel : Nat} {r : Int} (hm : m_impl_fieldsOf fuel x0 x1 = some r) :
    Calls Try.prog 176 ⟨[.int .i64 x0, .int .i64 x1]⟩ w (Ret fun v w8 => v = .int .i64 r ∧ St w w8 []) := by
  refine Calls.into Try.func176 rfl 9 rfl rfl _ rfl ?_
  unfold m_impl_fieldsOf at hm
  have hS := St.start w
  refine WP.seq ?_
  refine WP.region ?_
  refine RW.run ttok 1 rfl ?_
  refine RW.nil ?_
  refine WP.seq ?_
  refine WP.seq ?_
  refine WP.region ?_
  refine RW.run ttok 2 rfl ?_
  refine RW.nil ?_
  refine WP.cond (x0 == 9) rfl (fun hc => ?_) (fun hc => ?_)
  · skip
    rw [if_pos hc] at hm
    refine WP.seq ?_
    refine WP.region ?_
    refine RW.run ttok 3 rfl ?_
    refine RW.nil ?_
    refine WP.ret ?_
    cases hm
    exact ⟨_, .cons (.tmp rfl) .nil, rfl, hS⟩
  · skip
    rw [if_neg (not_t hc)] at hm
    refine WP.skip ?_
    refine WP.seq ?_
    refine WP.region ?_
    refine RW.run ttok 1 rfl ?_
    refine RW.nil ?_
    refine WP.ret ?_
    cases hm
    exact ⟨_, .cons (.tmp rfl) .nil, rfl, hS⟩

theorem enters240 : Enters Try.prog 240 := ⟨_, _, Try.func240, rfl, by kernel_rfl⟩
def m_impl_isKind (fuel : Nat) (x0 : Int) : Option (Bool) := (if (decide (x0 ≥ 1)) = true then some (decide (x0 ≤ 12)) else some false)

set_option maxRecDepth 100000 in
theorem impl_isKind_ok {W w : World} (hE : Ext W w) {x0 : Int}  {fuel : Nat} {r : Bool} (hm : m_impl_isKind fuel x0 = some r) :
    Calls Try.prog 240 ⟨[.int .i64 x0]⟩ w (Ret fun v w8 => v = .bool r ∧ St w w8 []) := by
  refine Calls.into Try.func240 rfl 9 rfl rfl _ rfl ?_
  unfold m_impl_isKind at hm
  have hS := St.start w
  refine WP.seq ?_
  refine WP.region ?_
  refine RW.run ttok 1 rfl ?_
  refine RW.nil ?_
  refine WP.seq ?_
  refine WP.region ?_
  refine RW.run ttok 3 rfl ?_
  by_cases hg1 : (decide (x0 ≥ 1)) = true
  · skip
    rw [if_pos hg1] at hm
    refine RW.know 5 rfl (congrArg Value.bool hg1) ?_
    refine RW.run ttok 4 rfl ?_
    refine RW.nil ?_
    refine WP.ret ?_
    cases hm
    exact ⟨_, .cons (.tmp rfl) .nil, rfl, hS⟩
  · skip
    rw [if_neg hg1] at hm
    refine RW.know 5 rfl (congrArg Value.bool (Bool.eq_false_iff.2 hg1)) ?_
    refine RW.run ttok 4 rfl ?_
    refine RW.nil ?_
    refine WP.ret ?_
    cases hm
    exact ⟨_, .cons (.tmp rfl) .nil, rfl, hS⟩

theorem enters175 : Enters Try.prog 175 := ⟨_, _, Try.func175, rfl, by kernel_rfl⟩
def m_impl_PortsOf_j2 (fuel : Nat) (x0 : Int) (t6 : Bool) : Option Int := (if t6 = true then some 0 else ((idx ([0, 1, 3, 3, 3, 1, 1, 3, 2, 0, 2, 2, 1] : List Int) x0).bind fun x13 => some x13))
def m_impl_PortsOf_j1 (fuel : Nat) (x0 : Int) (x1 : Int) (t1 : Bool) : Option Int := (if t1 = true then some (w64 (x1 + 1)) else ((m_impl_isKind fuel x0).bind fun r15 => (if (!r15) = true then m_impl_PortsOf_j2 fuel x0 true else (if (x0 == 9) = true then m_impl_PortsOf_j2 fuel x0 true else m_impl_PortsOf_j2 fuel x0 (x1 != 0)))))
def m_impl_PortsOf (fuel : Nat) (x0 : Int) (x1 : Int) : Option (Int) := (if (x0 == 9) = true then (if (decide (x1 ≥ 0)) = true then m_impl_PortsOf_j1 fuel x0 x1 (decide (x1 ≤ 3)) else m_impl_PortsOf_j1 fuel x0 x1 false) else m_impl_PortsOf_j1 fuel x0 x1 false)

set_option maxRecDepth 100000 in
theorem impl_PortsOf_ok {W w : World} (hE : Ext W w) {x0 : Int} {x1 : Int}  {fuel : Nat} {r : Int} (hm : m_impl_PortsOf fuel x0 x1 = some r) :
    Calls Try.prog 175 ⟨[.int .i64 x0, .int .i64 x1]⟩ w (Ret fun v w8 => v = .int .i64 r ∧ St w w8 []) := by
  refine Calls.into Try.func175 rfl 33 rfl rfl _ rfl ?_
  unfold m_impl_PortsOf at hm
  have hS := St.start w
  refine WP.seq ?_
  refine WP.region ?_
  refine RW.run ttok 1 rfl ?_
  refine RW.nil ?_
  refine WP.seq ?_
  refine WP.block ?_
  refine WP.seq ?_
  refine WP.cut (fun (t1 : Bool) F w9 => m_impl_PortsOf_j1 fuel x0 x1 t1 = some r ∧ Ext w w9 ∧ St w w9 [] ∧ F = [(0, .int .i64 x0), (1, .int .i64 x1), (5, .bool t1)]) ?_ ?_
  · skip
    rintro t1 F w4 ⟨hm, hE2, hS3, rfl⟩
    unfold m_impl_PortsOf_j1 at hm
    refine WP.cond t1 rfl (fun hc => ?_) (fun hc => ?_)
    · skip
      rw [if_pos hc] at hm
      refine WP.seq ?_
      refine WP.region ?_
      refine RW.run ttok 3 rfl ?_
      refine RW.nil ?_
      refine WP.ret ?_
      cases hm
      exact ⟨_, .cons (.tmp rfl) .nil, rfl, hS3⟩
    · skip
      rw [if_neg (not_t hc)] at hm
      refine WP.seq ?_
      refine WP.cut (fun (t6 : Bool) F w9 => m_impl_PortsOf_j2 fuel x0 t6 = some r ∧ Ext w4 w9 ∧ St w w9 [] ∧ F = [(0, .int .i64 x0), (18, .bool t6)]) ?_ ?_
      · skip
        rintro t6 F w11 ⟨hm, hE7, hS10, rfl⟩
        unfold m_impl_PortsOf_j2 at hm
        refine WP.cond t6 rfl (fun hc => ?_) (fun hc => ?_)
        · skip
          rw [if_pos hc] at hm
          refine WP.seq ?_
          refine WP.region ?_
          refine RW.run ttok 1 rfl ?_
          refine RW.nil ?_
          refine WP.ret ?_
          cases hm
          exact ⟨_, .cons (.tmp rfl) .nil, rfl, hS10⟩
        · skip
          rw [if_neg (not_t hc)] at hm
          refine WP.skip ?_
          refine WP.seq ?_
          refine WP.region ?_
          refine RW.quiet rfl (Quiet.buildK (cs := [.int .i64 0, .int .i64 1, .int .i64 3, .int .i64 3, .int .i64 3, .int .i64 1, .int .i64 1, .int .i64 3, .int .i64 2, .int .i64 0, .int .i64 2, .int .i64 2, .int .i64 1]) rfl rfl (by kernel_rfl)) rfl rfl ?_
          refine RW.run ttok 1 rfl ?_
          obtain ⟨x13, hx14, hm⟩ := bind_some hm
          refine RW.quiet rfl (Quiet.arrIdx ttok (xs := ([0, 1, 3, 3, 3, 1, 1, 3, 2, 0, 2, 2, 1] : List Int)) (e := 2) rfl (by kernel_rfl) rfl rfl rfl rfl rfl rfl (idx_some hx14).1 (idx_some hx14).2) rfl rfl ?_
          refine RW.run ttok 1 rfl ?_
          refine RW.nil ?_
          refine WP.ret ?_
          cases hm
          exact ⟨_, .cons (.tmp rfl) .nil, rfl, hS10⟩
      · skip
        refine WP.region ?_
        refine RW.run ttok 1 rfl ?_
        obtain ⟨r15, hx16, hm⟩ := bind_some hm
        refine RW.call rfl rfl rfl enters240 (impl_isKind_ok (hE.trans hS3.ext)  hx16) (fun v17 w18 hR19 => ?_)
        obtain ⟨rfl, hR20⟩ := hR19
        have hS21 := hS3.join hR20
        refine RW.run ttok 2 rfl ?_
        by_cases hg22 : (!r15) = true
        · skip
          rw [if_pos hg22] at hm
          refine RW.know 22 rfl (congrArg Value.bool hg22) ?_
          refine RW.run ttok 8 rfl ?_
          refine RW.nil ?_
          exact ⟨true, [(0, .int .i64 x0), (18, .bool true)], ⟨rfl, rfl, trivial⟩, hm, hR20.ext, hS21, rfl⟩
        · skip
          rw [if_neg hg22] at hm
          refine RW.know 22 rfl (congrArg Value.bool (Bool.eq_false_iff.2 hg22)) ?_
          refine RW.run ttok 4 rfl ?_
          by_cases hg23 : (x0 == 9) = true
          · skip
            rw [if_pos hg23] at hm
            refine RW.know 26 rfl (congrArg Value.bool hg23) ?_
            refine RW.run ttok 4 rfl ?_
            refine RW.nil ?_
            exact ⟨true, [(0, .int .i64 x0), (18, .bool true)], ⟨rfl, rfl, trivial⟩, hm, hR20.ext, hS21, rfl⟩
          · skip
            rw [if_neg hg23] at hm
            refine RW.know 26 rfl (congrArg Value.bool (Bool.eq_false_iff.2 hg23)) ?_
            refine RW.run ttok 4 rfl ?_
            refine RW.nil ?_
            exact ⟨(x1 != 0), [(0, .int .i64 x0), (18, .bool (x1 != 0))], ⟨rfl, rfl, trivial⟩, hm, hR20.ext, hS21, rfl⟩
  · skip
    refine WP.region ?_
    refine RW.run ttok 3 rfl ?_
    by_cases hg24 : (x0 == 9) = true
    · skip
      rw [if_pos hg24] at hm
      refine RW.know 8 rfl (congrArg Value.bool hg24) ?_
      refine RW.run ttok 4 rfl ?_
      by_cases hg25 : (decide (x1 ≥ 0)) = true
      · skip
        rw [if_pos hg25] at hm
        refine RW.know 12 rfl (congrArg Value.bool hg25) ?_
        refine RW.run ttok 4 rfl ?_
        refine RW.nil ?_
        exact ⟨decide (x1 ≤ 3), [(0, .int .i64 x0), (1, .int .i64 x1), (5, .bool (decide (x1 ≤ 3)))], ⟨rfl, rfl, rfl, trivial⟩, hm, (Ext.refl _), hS, rfl⟩
      · skip
        rw [if_neg hg25] at hm
        refine RW.know 12 rfl (congrArg Value.bool (Bool.eq_false_iff.2 hg25)) ?_
        refine RW.run ttok 4 rfl ?_
        refine RW.nil ?_
        exact ⟨false, [(0, .int .i64 x0), (1, .int .i64 x1), (5, .bool false)], ⟨rfl, rfl, rfl, trivial⟩, hm, (Ext.refl _), hS, rfl⟩
    · skip
      rw [if_neg hg24] at hm
      refine RW.know 8 rfl (congrArg Value.bool (Bool.eq_false_iff.2 hg24)) ?_
      refine RW.run ttok 8 rfl ?_
      refine RW.nil ?_
      exact ⟨false, [(0, .int .i64 x0), (1, .int .i64 x1), (5, .bool false)], ⟨rfl, rfl, rfl, trivial⟩, hm, (Ext.refl _), hS, rfl⟩

theorem enters241 : Enters Try.prog 241 := ⟨_, _, Try.func241, rfl, by kernel_rfl⟩
def m_impl_HasLevel (fuel : Nat) (x0 : Int) : Option (Bool) := ((m_impl_isKind fuel x0).bind fun r1 => (if r1 = true then (if (x0 != 1) = true then (if (x0 != 5) = true then some (x0 != 6) else some false) else some false) else some false))

set_option maxRecDepth 100000 in
theorem impl_HasLevel_ok {W w : World} (hE : Ext W w) {x0 : Int}  {fuel : Nat} {r : Bool} (hm : m_impl_HasLevel fuel x0 = some r) :
    Calls Try.prog 241 ⟨[.int .i64 x0]⟩ w (Ret fun v w8 => v = .bool r ∧ St w w8 []) := by
  refine Calls.into Try.func241 rfl 17 rfl rfl _ rfl ?_
  unfold m_impl_HasLevel at hm
  have hS := St.start w
  refine WP.seq ?_
  refine WP.region ?_
  refine RW.run ttok 1 rfl ?_
  refine RW.nil ?_
  refine WP.seq ?_
  refine WP.region ?_
  refine RW.run ttok 1 rfl ?_
  obtain ⟨r1, hx2, hm⟩ := bind_some hm
  refine RW.call rfl rfl rfl enters240 (impl_isKind_ok (hE.trans hS.ext)  hx2) (fun v3 w4 hR5 => ?_)
  obtain ⟨rfl, hR6⟩ := hR5
  have hS7 := hS.join hR6
  refine RW.run ttok 1 rfl ?_
  by_cases hg10 : r1 = true
  · skip
    rw [if_pos hg10] at hm
    refine RW.know 5 rfl (congrArg Value.bool hg10) ?_
    refine RW.run ttok 4 rfl ?_
    by_cases hg11 : (x0 != 1) = true
    · skip
      rw [if_pos hg11] at hm
      refine RW.know 9 rfl (congrArg Value.bool hg11) ?_
      refine RW.run ttok 4 rfl ?_
      by_cases hg12 : (x0 != 5) = true
      · skip
        rw [if_pos hg12] at hm
        refine RW.know 13 rfl (congrArg Value.bool hg12) ?_
        refine RW.run ttok 4 rfl ?_
        refine RW.nil ?_
        refine WP.ret ?_
        cases hm
        exact ⟨_, .cons (.tmp rfl) .nil, rfl, hS7⟩
      · skip
        rw [if_neg hg12] at hm
        refine RW.know 13 rfl (congrArg Value.bool (Bool.eq_false_iff.2 hg12)) ?_
        refine RW.run ttok 4 rfl ?_
        refine RW.nil ?_
        refine WP.ret ?_
        cases hm
        exact ⟨_, .cons (.tmp rfl) .nil, rfl, hS7⟩
    · skip
      rw [if_neg hg11] at hm
      refine RW.know 9 rfl (congrArg Value.bool (Bool.eq_false_iff.2 hg11)) ?_
      refine RW.run ttok 8 rfl ?_
      refine RW.nil ?_
      refine WP.ret ?_
      cases hm
      exact ⟨_, .cons (.tmp rfl) .nil, rfl, hS7⟩
  · skip
    rw [if_neg hg10] at hm
    refine RW.know 5 rfl (congrArg Value.bool (Bool.eq_false_iff.2 hg10)) ?_
    refine RW.run ttok 12 rfl ?_
    refine RW.nil ?_
    refine WP.ret ?_
    cases hm
    exact ⟨_, .cons (.tmp rfl) .nil, rfl, hS7⟩

theorem enters242 : Enters Try.prog 242 := ⟨_, _, Try.func242, rfl, by kernel_rfl⟩
def m_impl_isLevel (fuel : Nat) (x0 : Int) : Option (Bool) := (if (decide (x0 ≥ 0)) = true then some (decide (x0 ≤ 8)) else some false)

set_option maxRecDepth 100000 in
theorem impl_isLevel_ok {W w : World} (hE : Ext W w) {x0 : Int}  {fuel : Nat} {r : Bool} (hm : m_impl_isLevel fuel x0 = some r) :
    Calls Try.prog 242 ⟨[.int .i64 x0]⟩ w (Ret fun v w8 => v = .bool r ∧ St w w8 []) := by
  refine Calls.into Try.func242 rfl 9 rfl rfl _ rfl ?_
  unfold m_impl_isLevel at hm
  have hS := St.start w
  refine WP.seq ?_
  refine WP.region ?_
  refine RW.run ttok 1 rfl ?_
  refine RW.nil ?_
  refine WP.seq ?_
  refine WP.region ?_
  refine RW.run ttok 3 rfl ?_
  by_cases hg1 : (decide (x0 ≥ 0)) = true
  · skip
    rw [if_pos hg1] at hm
    refine RW.know 5 rfl (congrArg Value.bool hg1) ?_
    refine RW.run ttok 4 rfl ?_
    refine RW.nil ?_
    refine WP.ret ?_
    cases hm
    exact ⟨_, .cons (.tmp rfl) .nil, rfl, hS⟩
  · skip
    rw [if_neg hg1] at hm
    refine RW.know 5 rfl (congrArg Value.bool (Bool.eq_false_iff.2 hg1)) ?_
    refine RW.run ttok 4 rfl ?_
    refine RW.nil ?_
    refine WP.ret ?_
    cases hm
    exact ⟨_, .cons (.tmp rfl) .nil, rfl, hS⟩

theorem enters177 : Enters Try.prog 177 := ⟨_, _, Try.func177, rfl, by kernel_rfl⟩
def m_impl_isAllowed (fuel : Nat) (x0 : Int) (x1 : Int) : Option (Bool) := ((m_impl_isKind fuel x0).bind fun r1 => (if r1 = true then (if (x1 == 0) = true then some true else ((m_impl_HasLevel fuel x0).bind fun r12 => (if r12 = true then ((m_impl_isLevel fuel x1).bind fun r20 => some r20) else some false))) else some false))

set_option maxRecDepth 100000 in
theorem impl_isAllowed_ok {W w : World} (hE : Ext W w) {x0 : Int} {x1 : Int}  {fuel : Nat} {r : Bool} (hm : m_impl_isAllowed fuel x0 x1 = some r) :
    Calls Try.prog 177 ⟨[.int .i64 x0, .int .i64 x1]⟩ w (Ret fun v w8 => v = .bool r ∧ St w w8 []) := by
  refine Calls.into Try.func177 rfl 19 rfl rfl _ rfl ?_
  unfold m_impl_isAllowed at hm
  have hS := St.start w
  refine WP.seq ?_
  refine WP.region ?_
  refine RW.run ttok 1 rfl ?_
  refine RW.nil ?_
  refine WP.seq ?_
  refine WP.region ?_
  refine RW.run ttok 1 rfl ?_
  obtain ⟨r1, hx2, hm⟩ := bind_some hm
  refine RW.call rfl rfl rfl enters240 (impl_isKind_ok (hE.trans hS.ext)  hx2) (fun v3 w4 hR5 => ?_)
  obtain ⟨rfl, hR6⟩ := hR5
  have hS7 := hS.join hR6
  refine RW.run ttok 1 rfl ?_
  by_cases hg10 : r1 = true
  · skip
    rw [if_pos hg10] at hm
    refine RW.know 7 rfl (congrArg Value.bool hg10) ?_
    refine RW.run ttok 3 rfl ?_
    by_cases hg11 : (x1 == 0) = true
    · skip
      rw [if_pos hg11] at hm
      refine RW.know 10 rfl (congrArg Value.bool hg11) ?_
      refine RW.run ttok 9 rfl ?_
      refine RW.nil ?_
      refine WP.ret ?_
      cases hm
      exact ⟨_, .cons (.tmp rfl) .nil, rfl, hS7⟩
    · skip
      rw [if_neg hg11] at hm
      refine RW.know 10 rfl (congrArg Value.bool (Bool.eq_false_iff.2 hg11)) ?_
      refine RW.run ttok 1 rfl ?_
      obtain ⟨r12, hx13, hm⟩ := bind_some hm
      refine RW.call rfl rfl rfl enters241 (impl_HasLevel_ok (hE.trans hS7.ext)  hx13) (fun v14 w15 hR16 => ?_)
      obtain ⟨rfl, hR17⟩ := hR16
      have hS18 := hS7.join hR17
      refine RW.run ttok 1 rfl ?_
      by_cases hg19 : r12 = true
      · skip
        rw [if_pos hg19] at hm
        refine RW.know 13 rfl (congrArg Value.bool hg19) ?_
        refine RW.run ttok 1 rfl ?_
        obtain ⟨r20, hx21, hm⟩ := bind_some hm
        refine RW.call rfl rfl rfl enters242 (impl_isLevel_ok (hE.trans hS18.ext)  hx21) (fun v22 w23 hR24 => ?_)
        obtain ⟨rfl, hR25⟩ := hR24
        have hS26 := hS18.join hR25
        refine RW.run ttok 4 rfl ?_
        refine RW.nil ?_
        refine WP.ret ?_
        cases hm
        exact ⟨_, .cons (.tmp rfl) .nil, rfl, hS26⟩
      · skip
        rw [if_neg hg19] at hm
        refine RW.know 13 rfl (congrArg Value.bool (Bool.eq_false_iff.2 hg19)) ?_
        refine RW.run ttok 6 rfl ?_
        refine RW.nil ?_
        refine WP.ret ?_
        cases hm
        exact ⟨_, .cons (.tmp rfl) .nil, rfl, hS18⟩
  · skip
    rw [if_neg hg10] at hm
    refine RW.know 7 rfl (congrArg Value.bool (Bool.eq_false_iff.2 hg10)) ?_
    refine RW.run ttok 12 rfl ?_
    refine RW.nil ?_
    refine WP.ret ?_
    cases hm
    exact ⟨_, .cons (.tmp rfl) .nil, rfl, hS7⟩

theorem enters243 : Enters Try.prog 243 := ⟨_, _, Try.func243, rfl, by kernel_rfl⟩
def m_slices_IndexFunc_int64_int64_j1 (fuel : Nat) (t2 : Unit) : Option Int := some (-1)
def m_slices_IndexFunc_int64_int64_b1 (fuel : Nat) (x0 : (List Int)) (x1 : Int → Option Bool) (s1 : Int) : Option (Rd (Int) (Unit) (Int)) := (if (decide (s1 < (x0.length : Int))) = true then ((idx x0 s1).bind fun x19 => ((x1 x19).bind fun r25 => (if r25 = true then some (.ret s1) else some (.next (w64 (s1 + 1)))))) else some (.brk ()))
def m_slices_IndexFunc_int64_int64 (fuel : Nat) (x0 : (List Int)) (x1 : Int → Option Bool) : Option (Int) := ((iter (m_slices_IndexFunc_int64_int64_b1 fuel x0 x1) fuel 0).bind fun o => aft o (m_slices_IndexFunc_int64_int64_j1 fuel))

set_option maxRecDepth 100000 in
theorem slices_IndexFunc_int64_int64_ok {W w : World} (hE : Ext W w) {A0_ : Option Addr} {k0_ : Nat} {x0 : (List Int)} {f1_ : Nat} {u1_ : List Value} {x1 : Int → Option Bool} (h0_ : ty103.ro W [.slice A0_ x0.length k0_] x0) (h1_ : Enters Try.prog f1_ ∧ ∀ {w9 : World}, Ext W w9 → ∀ {z0 : Int} {y9 : Bool}, x1 z0 = some y9 → Calls Try.prog f1_ ⟨[.int .i64 z0] ++ u1_⟩ w9 (Ret fun v w8 => v = .bool y9 ∧ St w9 w8 [])) {fuel : Nat} {r : Int} (hm : m_slices_IndexFunc_int64_int64 fuel x0 x1 = some r) :
    Calls Try.prog 243 ⟨[.slice A0_ x0.length k0_, .func (.func f1_) #[] ⟨u1_⟩]⟩ w (Ret fun v w8 => v = .int .i64 r ∧ St w w8 []) := by
  refine Calls.into Try.func243 rfl 19 rfl rfl _ rfl ?_
  unfold m_slices_IndexFunc_int64_int64 at hm
  have hS := St.start w
  refine WP.seq ?_
  refine WP.region ?_
  refine RW.run ttok 1 rfl ?_
  refine RW.nil ?_
  refine WP.seq ?_
  refine WP.seq ?_
  refine WP.region ?_
  refine RW.run ttok 3 rfl ?_
  refine RW.nil ?_
  obtain ⟨o10, hl11, hm⟩ := bind_some hm
  refine WP.cut (fun (t2 : Unit) F w9 => o10 = .inl t2 ∧ Ext w w9 ∧ St w w9 [] ∧ F = []) ?_ ?_
  · skip
    rintro t2 F w7 ⟨ho13, hE6, hS12, rfl⟩
    subst ho13
    rw [aft_inl] at hm
    unfold m_slices_IndexFunc_int64_int64_j1 at hm
    refine WP.seq ?_
    refine WP.region ?_
    refine RW.run ttok 1 rfl ?_
    refine RW.nil ?_
    refine WP.ret ?_
    cases hm
    exact ⟨_, .cons (.tmp rfl) .nil, rfl, hS12⟩
  · skip
    refine WP.block ?_
    refine WP.weak [(0, .slice A0_ x0.length k0_), (1, .func (.func f1_) #[] ⟨u1_⟩), (7, .int .i64 (x0.length : Int)), (8, .int .i64 0)] ⟨rfl, rfl, rfl, rfl, trivial⟩ ?_
    refine WP.iter (fun (s1 : Int) F w9 => Ext w w9 ∧ St w w9 [] ∧ F = [(0, .slice A0_ x0.length k0_), (1, .func (.func f1_) #[] ⟨u1_⟩), (7, .int .i64 (x0.length : Int)), (8, .int .i64 s1)]) _ hl11 ⟨(Ext.refl _), hS, rfl⟩ ?_
    rintro s1 F w18 _ o16 ⟨hE5, hS17, rfl⟩ hb14 ho15
    unfold m_slices_IndexFunc_int64_int64_b1 at hb14
    refine WP.seq ?_
    refine WP.region ?_
    refine RW.run ttok 1 rfl ?_
    refine RW.nil ?_
    refine WP.seq ?_
    refine WP.cond (decide (s1 < (x0.length : Int))) rfl (fun hc => ?_) (fun hc => ?_)
    · skip
      rw [if_pos hc] at hb14
      refine WP.skip ?_
      refine WP.seq ?_
      refine WP.block ?_
      refine WP.seq ?_
      refine WP.region ?_
      refine RW.run ttok 2 rfl ?_
      refine RW.nil ?_
      refine WP.seq ?_
      refine WP.region ?_
      refine RW.run ttok 3 rfl ?_
      obtain ⟨x19, hx20, hb14⟩ := bind_some hb14
      refine RW.idx ttok (hE.trans hS17.ext) rfl rfl rfl rfl rfl rfl (by decide) rfl rfl h0_ (idx_some hx20).1 (idx_some hx20).2 rfl rfl (fun p21 es22 ha23 hr24 => ?_)
      cases hr24
      refine RW.load1 ttok rfl rfl rfl rfl rfl (At.ext (hE.trans hS17.ext) ha23) 0 rfl rfl rfl rfl ?_
      obtain ⟨r25, hx26, hb14⟩ := bind_some hb14
      refine RW.call rfl rfl rfl h1_.1 (h1_.2 (hE.trans hS17.ext)  hx26) (fun v27 w28 hR29 => ?_)
      obtain ⟨rfl, hR30⟩ := hR29
      have hS31 := hS17.join hR30
      refine RW.nil ?_
      refine WP.cond r25 rfl (fun hc => ?_) (fun hc => ?_)
      · skip
        rw [if_pos hc] at hb14
        refine WP.seq ?_
        refine WP.region ?_
        refine RW.run ttok 2 rfl ?_
        refine RW.nil ?_
        refine WP.ret ?_
        cases hb14
        cases ho15
        have hm : some _ = some _ := hm
        cases hm
        exact ⟨_, .cons (.tmp rfl) .nil, rfl, hS31⟩
      · skip
        rw [if_neg (not_t hc)] at hb14
        refine WP.skip ?_
        refine WP.region ?_
        refine RW.run ttok 2 rfl ?_
        refine RW.nil ?_
        cases hb14
        exact ⟨_, [(0, .slice A0_ x0.length k0_), (1, .func (.func f1_) #[] ⟨u1_⟩), (7, .int .i64 (x0.length : Int)), (8, .int .i64 (w64 (s1 + 1)))], ⟨rfl, rfl, rfl, rfl, trivial⟩, rfl, (hE5.trans hR30.ext), hS31, rfl⟩
    · skip
      rw [if_neg (not_t hc)] at hb14
      refine WP.exit ?_
      cases hb14
      exact ⟨_, [], trivial, ho15, hE5, hS17, rfl⟩

theorem enters178 : Enters Try.prog 178 := ⟨_, _, Try.func178, rfl, by kernel_rfl⟩
def m_slices_ContainsFunc_int64_int64 (fuel : Nat) (x0 : (List Int)) (x1 : Int → Option Bool) : Option (Bool) := ((m_slices_IndexFunc_int64_int64 fuel x0 x1).bind fun r1 => some (decide (r1 ≥ 0)))

set_option maxRecDepth 100000 in
theorem slices_ContainsFunc_int64_int64_ok {W w : World} (hE : Ext W w) {A0_ : Option Addr} {k0_ : Nat} {x0 : (List Int)} {f1_ : Nat} {u1_ : List Value} {x1 : Int → Option Bool} (h0_ : ty103.ro W [.slice A0_ x0.length k0_] x0) (h1_ : Enters Try.prog f1_ ∧ ∀ {w9 : World}, Ext W w9 → ∀ {z0 : Int} {y9 : Bool}, x1 z0 = some y9 → Calls Try.prog f1_ ⟨[.int .i64 z0] ++ u1_⟩ w9 (Ret fun v w8 => v = .bool y9 ∧ St w9 w8 [])) {fuel : Nat} {r : Bool} (hm : m_slices_ContainsFunc_int64_int64 fuel x0 x1 = some r) :
    Calls Try.prog 178 ⟨[.slice A0_ x0.length k0_, .func (.func f1_) #[] ⟨u1_⟩]⟩ w (Ret fun v w8 => v = .bool r ∧ St w w8 []) := by
  refine Calls.into Try.func178 rfl 9 rfl rfl _ rfl ?_
  unfold m_slices_ContainsFunc_int64_int64 at hm
  have hS := St.start w
  refine WP.seq ?_
  refine WP.region ?_
  refine RW.run ttok 1 rfl ?_
  refine RW.nil ?_
  refine WP.seq ?_
  refine WP.region ?_
  refine RW.run ttok 2 rfl ?_
  obtain ⟨r1, hx2, hm⟩ := bind_some hm
  refine RW.call rfl rfl rfl enters243 (slices_IndexFunc_int64_int64_ok (hE.trans hS.ext) h0_ h1_ hx2) (fun v3 w4 hR5 => ?_)
  obtain ⟨rfl, hR6⟩ := hR5
  have hS7 := hS.join hR6
  refine RW.run ttok 2 rfl ?_
  refine RW.nil ?_
  refine WP.ret ?_
  cases hm
  exact ⟨_, .cons (.tmp rfl) .nil, rfl, hS7⟩

theorem enters180 : Enters Try.prog 180 := ⟨_, _, Try.func180, rfl, by kernel_rfl⟩
def m_impl_isDefIndex (fuel : Nat) (x0 : Int) : Option (Bool) := (if (decide (x0 ≥ 0)) = true then some (decide (x0 < 24)) else some false)

set_option maxRecDepth 100000 in
theorem impl_isDefIndex_ok {W w : World} (hE : Ext W w) {x0 : Int}  {fuel : Nat} {r : Bool} (hm : m_impl_isDefIndex fuel x0 = some r) :
    Calls Try.prog 180 ⟨[.int .i64 x0]⟩ w (Ret fun v w8 => v = .bool r ∧ St w w8 []) := by
  refine Calls.into Try.func180 rfl 9 rfl rfl _ rfl ?_
  unfold m_impl_isDefIndex at hm
  have hS := St.start w
  refine WP.seq ?_
  refine WP.region ?_
  refine RW.run ttok 1 rfl ?_
  refine RW.nil ?_
  refine WP.seq ?_
  refine WP.region ?_
  refine RW.run ttok 3 rfl ?_
  by_cases hg1 : (decide (x0 ≥ 0)) = true
  · skip
    rw [if_pos hg1] at hm
    refine RW.know 5 rfl (congrArg Value.bool hg1) ?_
    refine RW.run ttok 4 rfl ?_
    refine RW.nil ?_
    refine WP.ret ?_
    cases hm
    exact ⟨_, .cons (.tmp rfl) .nil, rfl, hS⟩
  · skip
    rw [if_neg hg1] at hm
    refine RW.know 5 rfl (congrArg Value.bool (Bool.eq_false_iff.2 hg1)) ?_
    refine RW.run ttok 4 rfl ?_
    refine RW.nil ?_
    refine WP.ret ?_
    cases hm
    exact ⟨_, .cons (.tmp rfl) .nil, rfl, hS⟩

theorem enters179 : Enters Try.prog 179 := ⟨_, _, Try.func179, rfl, by kernel_rfl⟩
def m_impl_wellFormed_c1 (fuel : Nat) (x0 : Int) : Option (Bool) := ((m_impl_isDefIndex fuel x0).bind fun r1 => some (!r1))

set_option maxRecDepth 100000 in
theorem impl_wellFormed_c1_ok {W w : World} (hE : Ext W w) {x0 : Int}  {fuel : Nat} {r : Bool} (hm : m_impl_wellFormed_c1 fuel x0 = some r) :
    Calls Try.prog 179 ⟨[.int .i64 x0]⟩ w (Ret fun v w8 => v = .bool r ∧ St w w8 []) := by
  refine Calls.into Try.func179 rfl 6 rfl rfl _ rfl ?_
  unfold m_impl_wellFormed_c1 at hm
  have hS := St.start w
  refine WP.seq ?_
  refine WP.region ?_
  refine RW.run ttok 1 rfl ?_
  refine RW.nil ?_
  refine WP.seq ?_
  refine WP.region ?_
  refine RW.run ttok 1 rfl ?_
  obtain ⟨r1, hx2, hm⟩ := bind_some hm
  refine RW.call rfl rfl rfl enters180 (impl_isDefIndex_ok (hE.trans hS.ext)  hx2) (fun v3 w4 hR5 => ?_)
  obtain ⟨rfl, hR6⟩ := hR5
  have hS7 := hS.join hR6
  refine RW.run ttok 2 rfl ?_
  refine RW.nil ?_
  refine WP.ret ?_
  cases hm
  exact ⟨_, .cons (.tmp rfl) .nil, rfl, hS7⟩

theorem enters181 : Enters Try.prog 181 := ⟨_, _, Try.func181, rfl, by kernel_rfl⟩
def m_impl_isInt (fuel : Nat) (x0 : Int) : Option (Bool) := (if (decide (x0 ≥ (-2147483648))) = true then some (decide (x0 ≤ 2147483647)) else some false)

set_option maxRecDepth 100000 in
theorem impl_isInt_ok {W w : World} (hE : Ext W w) {x0 : Int}  {fuel : Nat} {r : Bool} (hm : m_impl_isInt fuel x0 = some r) :
    Calls Try.prog 181 ⟨[.int .i64 x0]⟩ w (Ret fun v w8 => v = .bool r ∧ St w w8 []) := by
  refine Calls.into Try.func181 rfl 9 rfl rfl _ rfl ?_
  unfold m_impl_isInt at hm
  have hS := St.start w
  refine WP.seq ?_
  refine WP.region ?_
  refine RW.run ttok 1 rfl ?_
  refine RW.nil ?_
  refine WP.seq ?_
  refine WP.region ?_
  refine RW.run ttok 3 rfl ?_
  by_cases hg1 : (decide (x0 ≥ (-2147483648))) = true
  · skip
    rw [if_pos hg1] at hm
    refine RW.know 5 rfl (congrArg Value.bool hg1) ?_
    refine RW.run ttok 4 rfl ?_
    refine RW.nil ?_
    refine WP.ret ?_
    cases hm
    exact ⟨_, .cons (.tmp rfl) .nil, rfl, hS⟩
  · skip
    rw [if_neg hg1] at hm
    refine RW.know 5 rfl (congrArg Value.bool (Bool.eq_false_iff.2 hg1)) ?_
    refine RW.run ttok 4 rfl ?_
    refine RW.nil ?_
    refine WP.ret ?_
    cases hm
    exact ⟨_, .cons (.tmp rfl) .nil, rfl, hS⟩

theorem enters182 : Enters Try.prog 182 := ⟨_, _, Try.func182, rfl, by kernel_rfl⟩
def m_impl_isOperator (fuel : Nat) (x0 : Int) : Option (Bool) := (if (decide (x0 ≥ 1)) = true then some (decide (x0 ≤ 6)) else some false)

set_option maxRecDepth 100000 in
theorem impl_isOperator_ok {W w : World} (hE : Ext W w) {x0 : Int}  {fuel : Nat} {r : Bool} (hm : m_impl_isOperator fuel x0 = some r) :
    Calls Try.prog 182 ⟨[.int .i64 x0]⟩ w (Ret fun v w8 => v = .bool r ∧ St w w8 []) := by
  refine Calls.into Try.func182 rfl 9 rfl rfl _ rfl ?_
  unfold m_impl_isOperator at hm
  have hS := St.start w
  refine WP.seq ?_
  refine WP.region ?_
  refine RW.run ttok 1 rfl ?_
  refine RW.nil ?_
  refine WP.seq ?_
  refine WP.region ?_
  refine RW.run ttok 3 rfl ?_
  by_cases hg1 : (decide (x0 ≥ 1)) = true
  · skip
    rw [if_pos hg1] at hm
    refine RW.know 5 rfl (congrArg Value.bool hg1) ?_
    refine RW.run ttok 4 rfl ?_
    refine RW.nil ?_
    refine WP.ret ?_
    cases hm
    exact ⟨_, .cons (.tmp rfl) .nil, rfl, hS⟩
  · skip
    rw [if_neg hg1] at hm
    refine RW.know 5 rfl (congrArg Value.bool (Bool.eq_false_iff.2 hg1)) ?_
    refine RW.run ttok 4 rfl ?_
    refine RW.nil ?_
    refine WP.ret ?_
    cases hm
    exact ⟨_, .cons (.tmp rfl) .nil, rfl, hS⟩

theorem enters125 : Enters Try.prog 125 := ⟨_, _, Try.func125, rfl, by kernel_rfl⟩
def m_impl_wellFormed_j2 (fuel : Nat) (t28 : Bool × Bool) : Option Bool := (if t28.1 = true then some t28.2 else some false)
def m_impl_wellFormed_j3 (fuel : Nat) (t41 : Bool × Bool) : Option Bool := m_impl_wellFormed_j2 fuel (t41.1, t41.2)
def m_impl_wellFormed_j4 (fuel : Nat) (t76 : Bool × Bool) : Option Bool := m_impl_wellFormed_j3 fuel (t76.1, t76.2)
def m_impl_wellFormed_j5 (fuel : Nat) (x0 : D.Agent) (t81 : Bool) : Option Bool := m_impl_wellFormed_j4 fuel (t81, ((x0.Data.length : Int) == 0))
def m_impl_wellFormed_j6 (fuel : Nat) (t87 : Bool × Bool) : Option Bool := m_impl_wellFormed_j4 fuel (t87.1, t87.2)
def m_impl_wellFormed_j7 (fuel : Nat) (x0 : D.Agent) (t92 : Bool) : Option Bool := m_impl_wellFormed_j6 fuel ((x0.Value == 0), t92)
def m_impl_wellFormed_j8 (fuel : Nat) (t99 : Bool × Bool) : Option Bool := m_impl_wellFormed_j6 fuel (t99.1, t99.2)
def m_impl_wellFormed_j9 (fuel : Nat) (x0 : D.Agent) (t104 : Bool) : Option Bool := m_impl_wellFormed_j8 fuel ((x0.Value == 0), t104)
def m_impl_wellFormed_j10 (fuel : Nat) (x0 : D.Agent) (t110 : Bool) : Option Bool := m_impl_wellFormed_j8 fuel (t110, ((x0.Data.length : Int) == 0))
def m_impl_wellFormed_j1 (fuel : Nat) (x0 : D.Agent) (t14 : Bool) : Option Bool := (if t14 = true then some false else ((m_slices_ContainsFunc_int64_int64 fuel x0.Data (fun y0 => m_impl_wellFormed_c1 fuel y0)).bind fun r21 => (if (x0.Kind == 6) = true then ((m_impl_isInt fuel x0.Value).bind fun r34 => m_impl_wellFormed_j2 fuel (r34, ((x0.Data.length : Int) == 0))) else (if (x0.Kind == 7) = true then ((m_impl_isOperator fuel x0.Value).bind fun r46 => m_impl_wellFormed_j3 fuel (r46, ((x0.Data.length : Int) == 0))) else (if (x0.Kind == 8) = true then ((m_impl_isOperator fuel x0.Value).bind fun r53 => (if r53 = true then (if ((x0.Data.length : Int) == 1) = true then ((idx x0.Data 0).bind fun x62 => ((m_impl_isInt fuel x62).bind fun r69 => some r69)) else some false) else some false)) else (if (x0.Kind == 9) = true then (if (decide (x0.Value ≥ 0)) = true then m_impl_wellFormed_j5 fuel x0 (decide (x0.Value < 4)) else m_impl_wellFormed_j5 fuel x0 false) else (if (x0.Kind == 10) = true then (if (decide ((x0.Data.length : Int) ≥ 1)) = true then (if (decide ((x0.Data.length : Int) ≤ 4)) = true then m_impl_wellFormed_j7 fuel x0 (!r21) else m_impl_wellFormed_j7 fuel x0 false) else m_impl_wellFormed_j7 fuel x0 false) else (if (x0.Kind == 11) = true then (if ((x0.Data.length : Int) == 2) = true then m_impl_wellFormed_j9 fuel x0 (!r21) else m_impl_wellFormed_j9 fuel x0 false) else (if (x0.Kind == 12) = true then ((m_impl_isDefIndex fuel x0.Value).bind fun r115 => m_impl_wellFormed_j10 fuel x0 r115) else m_impl_wellFormed_j10 fuel x0 (x0.Value == 0))))))))))
def m_impl_wellFormed (fuel : Nat) (x0 : D.Agent) : Option (Bool) := (if ((x0.Ports.length : Int) == 0) = true then m_impl_wellFormed_j1 fuel x0 true else ((m_impl_fieldsOf fuel x0.Kind (x0.Ports.length : Int)).bind fun r125 => ((m_impl_PortsOf fuel x0.Kind r125).bind fun r132 => (if (r132 != (x0.Ports.length : Int)) = true then m_impl_wellFormed_j1 fuel x0 true else ((m_impl_isAllowed fuel x0.Kind x0.Level).bind fun r140 => m_impl_wellFormed_j1 fuel x0 (!r140))))))

set_option maxRecDepth 100000 in
theorem impl_wellFormed_ok {W w : World} (hE : Ext W w) {c0_ : List Value} {x0 : D.Agent} (h0_ : ty112.ro W c0_ x0) {fuel : Nat} {r : Bool} (hm : m_impl_wellFormed fuel x0 = some r) :
    Calls Try.prog 125 ⟨[.agg ⟨c0_⟩]⟩ w (Ret fun v w8 => v = .bool r ∧ St w w8 []) := by
  obtain ⟨A1, k2, A4, k5, e7, h3, h6⟩ := ty112_open h0_; subst e7
  refine Calls.into Try.func125 rfl 117 rfl rfl _ rfl ?_
  unfold m_impl_wellFormed at hm
  have hS := St.start w
  refine WP.seq ?_
  refine WP.region ?_
  refine RW.new ttok hS rfl rfl rfl rfl (fun g10 w11 e12 hS13 => ?_)
  refine RW.run ttok 1 rfl ?_
  refine RW.nil ?_
  refine WP.seq ?_
  refine WP.seq ?_
  refine WP.cut (fun (t14 : Bool) F w9 => m_impl_wellFormed_j1 fuel x0 t14 = some r ∧ Ext w11 w9 ∧ St w w9 [Box g10 [.int .i64 x0.Kind, .int .i64 x0.Level, .int .i64 x0.Value, .slice A1 x0.Data.length k2, .slice A4 x0.Ports.length k5] 112] ∧ F = [(1, .pointer (some ⟨g10, 0, none⟩)), (32, .bool t14)]) ?_ ?_
  · skip
    rintro t14 F w17 ⟨hm, hE15, hS16, rfl⟩
    unfold m_impl_wellFormed_j1 at hm
    refine WP.cond t14 rfl (fun hc => ?_) (fun hc => ?_)
    · skip
      rw [if_pos hc] at hm
      refine WP.seq ?_
      refine WP.region ?_
      refine RW.run ttok 1 rfl ?_
      refine RW.nil ?_
      refine WP.ret ?_
      cases hm
      exact ⟨_, .cons (.tmp rfl) .nil, rfl, (hS16.taken 0)⟩
    · skip
      rw [if_neg (not_t hc)] at hm
      refine WP.skip ?_
      refine WP.seq ?_
      refine WP.drawnM 0 mixed 9 (by kernel_rfl) (by kernel_rfl) [([], 511), ([0], 510), ([1], 509), ([], 511), ([3], 503), ([4], 495), ([5], 479), ([2, 0, 1, 2], 507), ([6, 7, 0, 1, 2, 3, 4, 5, 6, 7], 447)] (by kernel_rfl) hS16.ext (fun hsk19 => ?_)
      have hS20 := hS16.step (Ext.draw _)
      refine DM.run (fuel := 7) ttok hsk19 [0, 3] 9 (by kernel_rfl) (by kernel_rfl) rfl ?_
      refine DM.load1 ttok hsk19 1 11 (by kernel_rfl) (by kernel_rfl) (by kernel_rfl) (by kernel_rfl) rfl (by kernel_rfl) rfl rfl rfl rfl rfl ((hS16.bring 0 rfl).box) 2 rfl rfl rfl rfl ?_
      refine DM.run (fuel := 4) ttok hsk19 [2, 7] 143 (by kernel_rfl) (by kernel_rfl) rfl ?_
      refine DM.load1 ttok hsk19 4 159 (by kernel_rfl) (by kernel_rfl) (by kernel_rfl) (by kernel_rfl) rfl (by kernel_rfl) rfl rfl rfl rfl rfl ((hS16.bring 0 rfl).box) 3 rfl rfl rfl rfl ?_
      refine DM.run (fuel := 0) ttok hsk19 [5, 6, 8] 511 (by kernel_rfl) (by kernel_rfl) rfl ?_
      refine DM.weak [(1, .pointer (some ⟨g10, 0, none⟩)), (3, .bool (x0.Value == 0)), (4, .bool ((x0.Data.length : Int) == 0))] ⟨rfl, rfl, rfl, trivial⟩ ?_
      refine DM.done hsk19 (by kernel_rfl) ?_
      refine WP.seq ?_
      refine WP.region ?_
      refine RW.run ttok 1 rfl ?_
      refine RW.load1 ttok rfl rfl rfl rfl rfl ((hS20.bring 0 rfl).box) 3 rfl rfl rfl rfl ?_
      obtain ⟨r21, hx22, hm⟩ := bind_some hm
      refine RW.call rfl rfl rfl enters178 (slices_ContainsFunc_int64_int64_ok (hE.trans hS20.ext) h3 ⟨enters179, fun e9 => (fun  hx9 => impl_wellFormed_c1_ok (Ext.refl _)  hx9)⟩ hx22) (fun v23 w24 hR25 => ?_)
      obtain ⟨rfl, hR26⟩ := hR25
      have hS27 := hS20.join hR26
      refine RW.run ttok 2 rfl ?_
      refine RW.nil ?_
      refine WP.seq ?_
      refine WP.seq ?_
      refine WP.region ?_
      refine RW.run ttok 1 rfl ?_
      refine RW.load1 ttok rfl rfl rfl rfl rfl ((hS27.bring 0 rfl).box) 0 rfl rfl rfl rfl ?_
      refine RW.nil ?_
      refine WP.block ?_
      refine WP.seq ?_
      refine WP.region ?_
      refine RW.run ttok 2 rfl ?_
      refine RW.nil ?_
      refine WP.cut (fun (t28 : Bool × Bool) F w9 => m_impl_wellFormed_j2 fuel t28 = some r ∧ Ext w24 w9 ∧ St w w9 [Box g10 [.int .i64 x0.Kind, .int .i64 x0.Level, .int .i64 x0.Value, .slice A1 x0.Data.length k2, .slice A4 x0.Ports.length k5] 112] ∧ F = [(3, .bool t28.1), (4, .bool t28.2)]) ?_ ?_
      · skip
        rintro t28 F w31 ⟨hm, hE29, hS30, rfl⟩
        unfold m_impl_wellFormed_j2 at hm
        refine WP.seq ?_
        refine WP.region ?_
        refine RW.run ttok 2 rfl ?_
        by_cases hg33 : t28.1 = true
        · skip
          rw [if_pos hg33] at hm
          refine RW.know 114 rfl (congrArg Value.bool hg33) ?_
          refine RW.run ttok 3 rfl ?_
          refine RW.nil ?_
          refine WP.ret ?_
          cases hm
          exact ⟨_, .cons (.tmp rfl) .nil, rfl, (hS30.taken 0)⟩
        · skip
          rw [if_neg hg33] at hm
          refine RW.know 114 rfl (congrArg Value.bool (Bool.eq_false_iff.2 hg33)) ?_
          refine RW.run ttok 3 rfl ?_
          refine RW.nil ?_
          refine WP.ret ?_
          cases hm
          exact ⟨_, .cons (.tmp rfl) .nil, rfl, (hS30.taken 0)⟩
      · skip
        refine WP.cond (x0.Kind == 6) rfl (fun hc => ?_) (fun hc => ?_)
        · skip
          rw [if_pos hc] at hm
          refine WP.region ?_
          refine RW.run ttok 1 rfl ?_
          refine RW.load1 ttok rfl rfl rfl rfl rfl ((hS27.bring 0 rfl).box) 2 rfl rfl rfl rfl ?_
          obtain ⟨r34, hx35, hm⟩ := bind_some hm
          refine RW.call rfl rfl rfl enters181 (impl_isInt_ok (hE.trans hS27.ext)  hx35) (fun v36 w37 hR38 => ?_)
          obtain ⟨rfl, hR39⟩ := hR38
          have hS40 := hS27.join hR39
          refine RW.run ttok 1 rfl ?_
          refine RW.nil ?_
          exact ⟨(r34, ((x0.Data.length : Int) == 0)), [(3, .bool r34), (4, .bool ((x0.Data.length : Int) == 0))], ⟨rfl, rfl, trivial⟩, hm, hR39.ext, hS40, rfl⟩
        · skip
          rw [if_neg (not_t hc)] at hm
          refine WP.seq ?_
          refine WP.region ?_
          refine RW.run ttok 2 rfl ?_
          refine RW.nil ?_
          refine WP.cut (fun (t41 : Bool × Bool) F w9 => m_impl_wellFormed_j3 fuel t41 = some r ∧ Ext w24 w9 ∧ St w w9 [Box g10 [.int .i64 x0.Kind, .int .i64 x0.Level, .int .i64 x0.Value, .slice A1 x0.Data.length k2, .slice A4 x0.Ports.length k5] 112] ∧ F = [(3, .bool t41.1), (4, .bool t41.2)]) ?_ ?_
          · skip
            rintro t41 F w44 ⟨hm, hE42, hS43, rfl⟩
            unfold m_impl_wellFormed_j3 at hm
            exact ⟨(t41.1, t41.2), [(3, .bool t41.1), (4, .bool t41.2)], ⟨rfl, rfl, trivial⟩, hm, hE42, hS43, rfl⟩
          · skip
            refine WP.cond (x0.Kind == 7) rfl (fun hc => ?_) (fun hc => ?_)
            · skip
              rw [if_pos hc] at hm
              refine WP.region ?_
              refine RW.run ttok 1 rfl ?_
              refine RW.load1 ttok rfl rfl rfl rfl rfl ((hS27.bring 0 rfl).box) 2 rfl rfl rfl rfl ?_
              obtain ⟨r46, hx47, hm⟩ := bind_some hm
              refine RW.call rfl rfl rfl enters182 (impl_isOperator_ok (hE.trans hS27.ext)  hx47) (fun v48 w49 hR50 => ?_)
              obtain ⟨rfl, hR51⟩ := hR50
              have hS52 := hS27.join hR51
              refine RW.run ttok 1 rfl ?_
              refine RW.nil ?_
              exact ⟨(r46, ((x0.Data.length : Int) == 0)), [(3, .bool r46), (4, .bool ((x0.Data.length : Int) == 0))], ⟨rfl, rfl, trivial⟩, hm, hR51.ext, hS52, rfl⟩
            · skip
              rw [if_neg (not_t hc)] at hm
              refine WP.seq ?_
              refine WP.region ?_
              refine RW.run ttok 2 rfl ?_
              refine RW.nil ?_
              refine WP.cond (x0.Kind == 8) rfl (fun hc => ?_) (fun hc => ?_)
              · skip
                rw [if_pos hc] at hm
                refine WP.seq ?_
                refine WP.region ?_
                refine RW.run ttok 1 rfl ?_
                refine RW.load1 ttok rfl rfl rfl rfl rfl ((hS27.bring 0 rfl).box) 2 rfl rfl rfl rfl ?_
                obtain ⟨r53, hx54, hm⟩ := bind_some hm
                refine RW.call rfl rfl rfl enters182 (impl_isOperator_ok (hE.trans hS27.ext)  hx54) (fun v55 w56 hR57 => ?_)
                obtain ⟨rfl, hR58⟩ := hR57
                have hS59 := hS27.join hR58
                refine RW.run ttok 1 rfl ?_
                by_cases hg60 : r53 = true
                · skip
                  rw [if_pos hg60] at hm
                  refine RW.know 61 rfl (congrArg Value.bool hg60) ?_
                  refine RW.run ttok 1 rfl ?_
                  refine RW.load1 ttok rfl rfl rfl rfl rfl ((hS59.bring 0 rfl).box) 3 rfl rfl rfl rfl ?_
                  refine RW.run ttok 4 rfl ?_
                  by_cases hg61 : ((x0.Data.length : Int) == 1) = true
                  · skip
                    rw [if_pos hg61] at hm
                    refine RW.know 67 rfl (congrArg Value.bool hg61) ?_
                    refine RW.run ttok 1 rfl ?_
                    refine RW.load1 ttok rfl rfl rfl rfl rfl ((hS59.bring 0 rfl).box) 3 rfl rfl rfl rfl ?_
                    obtain ⟨x62, hx63, hm⟩ := bind_some hm
                    refine RW.idx ttok (hE.trans hS59.ext) rfl rfl rfl rfl rfl rfl (by decide) rfl rfl h3 (idx_some hx63).1 (idx_some hx63).2 rfl rfl (fun p65 es66 ha67 hr68 => ?_)
                    cases hr68
                    refine RW.load1 ttok rfl rfl rfl rfl rfl (At.ext (hE.trans hS59.ext) ha67) 0 rfl rfl rfl rfl ?_
                    obtain ⟨r69, hx70, hm⟩ := bind_some hm
                    refine RW.call rfl rfl rfl enters181 (impl_isInt_ok (hE.trans hS59.ext)  hx70) (fun v71 w72 hR73 => ?_)
                    obtain ⟨rfl, hR74⟩ := hR73
                    have hS75 := hS59.join hR74
                    refine RW.run ttok 2 rfl ?_
                    refine RW.nil ?_
                    refine WP.ret ?_
                    cases hm
                    exact ⟨_, .cons (.tmp rfl) .nil, rfl, (hS75.taken 0)⟩
                  · skip
                    rw [if_neg hg61] at hm
                    refine RW.know 67 rfl (congrArg Value.bool (Bool.eq_false_iff.2 hg61)) ?_
                    refine RW.run ttok 7 rfl ?_
                    refine RW.nil ?_
                    refine WP.ret ?_
                    cases hm
                    exact ⟨_, .cons (.tmp rfl) .nil, rfl, (hS59.taken 0)⟩
                · skip
                  rw [if_neg hg60] at hm
                  refine RW.know 61 rfl (congrArg Value.bool (Bool.eq_false_iff.2 hg60)) ?_
                  refine RW.run ttok 13 rfl ?_
                  refine RW.nil ?_
                  refine WP.ret ?_
                  cases hm
                  exact ⟨_, .cons (.tmp rfl) .nil, rfl, (hS59.taken 0)⟩
              · skip
                rw [if_neg (not_t hc)] at hm
                refine WP.seq ?_
                refine WP.region ?_
                refine RW.run ttok 2 rfl ?_
                refine RW.nil ?_
                refine WP.cut (fun (t76 : Bool × Bool) F w9 => m_impl_wellFormed_j4 fuel t76 = some r ∧ Ext w24 w9 ∧ St w w9 [Box g10 [.int .i64 x0.Kind, .int .i64 x0.Level, .int .i64 x0.Value, .slice A1 x0.Data.length k2, .slice A4 x0.Ports.length k5] 112] ∧ F = [(3, .bool t76.1), (4, .bool t76.2)]) ?_ ?_
                · skip
                  rintro t76 F w79 ⟨hm, hE77, hS78, rfl⟩
                  unfold m_impl_wellFormed_j4 at hm
                  exact ⟨(t76.1, t76.2), [(3, .bool t76.1), (4, .bool t76.2)], ⟨rfl, rfl, trivial⟩, hm, hE77, hS78, rfl⟩
                · skip
                  refine WP.cond (x0.Kind == 9) rfl (fun hc => ?_) (fun hc => ?_)
                  · skip
                    rw [if_pos hc] at hm
                    refine WP.cut (fun (t81 : Bool) F w9 => m_impl_wellFormed_j5 fuel x0 t81 = some r ∧ Ext w24 w9 ∧ St w w9 [Box g10 [.int .i64 x0.Kind, .int .i64 x0.Level, .int .i64 x0.Value, .slice A1 x0.Data.length k2, .slice A4 x0.Ports.length k5] 112] ∧ F = [(3, .bool t81), (4, .bool ((x0.Data.length : Int) == 0))]) ?_ ?_
                    · skip
                      rintro t81 F w84 ⟨hm, hE82, hS83, rfl⟩
                      unfold m_impl_wellFormed_j5 at hm
                      exact ⟨(t81, ((x0.Data.length : Int) == 0)), [(3, .bool t81), (4, .bool ((x0.Data.length : Int) == 0))], ⟨rfl, rfl, trivial⟩, hm, hE82, hS83, rfl⟩
                    · skip
                      refine WP.region ?_
                      refine RW.run ttok 1 rfl ?_
                      refine RW.load1 ttok rfl rfl rfl rfl rfl ((hS27.bring 0 rfl).box) 2 rfl rfl rfl rfl ?_
                      refine RW.run ttok 2 rfl ?_
                      by_cases hg86 : (decide (x0.Value ≥ 0)) = true
                      · skip
                        rw [if_pos hg86] at hm
                        refine RW.know 79 rfl (congrArg Value.bool hg86) ?_
                        refine RW.run ttok 1 rfl ?_
                        refine RW.load1 ttok rfl rfl rfl rfl rfl ((hS27.bring 0 rfl).box) 2 rfl rfl rfl rfl ?_
                        refine RW.run ttok 3 rfl ?_
                        refine RW.nil ?_
                        exact ⟨decide (x0.Value < 4), [(3, .bool (decide (x0.Value < 4))), (4, .bool ((x0.Data.length : Int) == 0))], ⟨rfl, rfl, trivial⟩, hm, (Ext.refl _), hS27, rfl⟩
                      · skip
                        rw [if_neg hg86] at hm
                        refine RW.know 79 rfl (congrArg Value.bool (Bool.eq_false_iff.2 hg86)) ?_
                        refine RW.run ttok 5 rfl ?_
                        refine RW.nil ?_
                        exact ⟨false, [(3, .bool false), (4, .bool ((x0.Data.length : Int) == 0))], ⟨rfl, rfl, trivial⟩, hm, (Ext.refl _), hS27, rfl⟩
                  · skip
                    rw [if_neg (not_t hc)] at hm
                    refine WP.seq ?_
                    refine WP.region ?_
                    refine RW.run ttok 2 rfl ?_
                    refine RW.nil ?_
                    refine WP.cut (fun (t87 : Bool × Bool) F w9 => m_impl_wellFormed_j6 fuel t87 = some r ∧ Ext w24 w9 ∧ St w w9 [Box g10 [.int .i64 x0.Kind, .int .i64 x0.Level, .int .i64 x0.Value, .slice A1 x0.Data.length k2, .slice A4 x0.Ports.length k5] 112] ∧ F = [(3, .bool t87.1), (4, .bool t87.2)]) ?_ ?_
                    · skip
                      rintro t87 F w90 ⟨hm, hE88, hS89, rfl⟩
                      unfold m_impl_wellFormed_j6 at hm
                      exact ⟨(t87.1, t87.2), [(3, .bool t87.1), (4, .bool t87.2)], ⟨rfl, rfl, trivial⟩, hm, hE88, hS89, rfl⟩
                    · skip
                      refine WP.cond (x0.Kind == 10) rfl (fun hc => ?_) (fun hc => ?_)
                      · skip
                        rw [if_pos hc] at hm
                        refine WP.cut (fun (t92 : Bool) F w9 => m_impl_wellFormed_j7 fuel x0 t92 = some r ∧ Ext w24 w9 ∧ St w w9 [Box g10 [.int .i64 x0.Kind, .int .i64 x0.Level, .int .i64 x0.Value, .slice A1 x0.Data.length k2, .slice A4 x0.Ports.length k5] 112] ∧ F = [(3, .bool (x0.Value == 0)), (4, .bool t92)]) ?_ ?_
                        · skip
                          rintro t92 F w95 ⟨hm, hE93, hS94, rfl⟩
                          unfold m_impl_wellFormed_j7 at hm
                          exact ⟨((x0.Value == 0), t92), [(3, .bool (x0.Value == 0)), (4, .bool t92)], ⟨rfl, rfl, trivial⟩, hm, hE93, hS94, rfl⟩
                        · skip
                          refine WP.region ?_
                          refine RW.run ttok 1 rfl ?_
                          refine RW.load1 ttok rfl rfl rfl rfl rfl ((hS27.bring 0 rfl).box) 3 rfl rfl rfl rfl ?_
                          refine RW.run ttok 3 rfl ?_
                          by_cases hg97 : (decide ((x0.Data.length : Int) ≥ 1)) = true
                          · skip
                            rw [if_pos hg97] at hm
                            refine RW.know 90 rfl (congrArg Value.bool hg97) ?_
                            refine RW.run ttok 1 rfl ?_
                            refine RW.load1 ttok rfl rfl rfl rfl rfl ((hS27.bring 0 rfl).box) 3 rfl rfl rfl rfl ?_
                            refine RW.run ttok 4 rfl ?_
                            by_cases hg98 : (decide ((x0.Data.length : Int) ≤ 4)) = true
                            · skip
                              rw [if_pos hg98] at hm
                              refine RW.know 96 rfl (congrArg Value.bool hg98) ?_
                              refine RW.run ttok 3 rfl ?_
                              refine RW.nil ?_
                              exact ⟨!r21, [(3, .bool (x0.Value == 0)), (4, .bool (!r21))], ⟨rfl, rfl, trivial⟩, hm, (Ext.refl _), hS27, rfl⟩
                            · skip
                              rw [if_neg hg98] at hm
                              refine RW.know 96 rfl (congrArg Value.bool (Bool.eq_false_iff.2 hg98)) ?_
                              refine RW.run ttok 3 rfl ?_
                              refine RW.nil ?_
                              exact ⟨false, [(3, .bool (x0.Value == 0)), (4, .bool false)], ⟨rfl, rfl, trivial⟩, hm, (Ext.refl _), hS27, rfl⟩
                          · skip
                            rw [if_neg hg97] at hm
                            refine RW.know 90 rfl (congrArg Value.bool (Bool.eq_false_iff.2 hg97)) ?_
                            refine RW.run ttok 9 rfl ?_
                            refine RW.nil ?_
                            exact ⟨false, [(3, .bool (x0.Value == 0)), (4, .bool false)], ⟨rfl, rfl, trivial⟩, hm, (Ext.refl _), hS27, rfl⟩
                      · skip
                        rw [if_neg (not_t hc)] at hm
                        refine WP.seq ?_
                        refine WP.region ?_
                        refine RW.run ttok 2 rfl ?_
                        refine RW.nil ?_
                        refine WP.cut (fun (t99 : Bool × Bool) F w9 => m_impl_wellFormed_j8 fuel t99 = some r ∧ Ext w24 w9 ∧ St w w9 [Box g10 [.int .i64 x0.Kind, .int .i64 x0.Level, .int .i64 x0.Value, .slice A1 x0.Data.length k2, .slice A4 x0.Ports.length k5] 112] ∧ F = [(3, .bool t99.1), (4, .bool t99.2)]) ?_ ?_
                        · skip
                          rintro t99 F w102 ⟨hm, hE100, hS101, rfl⟩
                          unfold m_impl_wellFormed_j8 at hm
                          exact ⟨(t99.1, t99.2), [(3, .bool t99.1), (4, .bool t99.2)], ⟨rfl, rfl, trivial⟩, hm, hE100, hS101, rfl⟩
                        · skip
                          refine WP.cond (x0.Kind == 11) rfl (fun hc => ?_) (fun hc => ?_)
                          · skip
                            rw [if_pos hc] at hm
                            refine WP.cut (fun (t104 : Bool) F w9 => m_impl_wellFormed_j9 fuel x0 t104 = some r ∧ Ext w24 w9 ∧ St w w9 [Box g10 [.int .i64 x0.Kind, .int .i64 x0.Level, .int .i64 x0.Value, .slice A1 x0.Data.length k2, .slice A4 x0.Ports.length k5] 112] ∧ F = [(3, .bool (x0.Value == 0)), (4, .bool t104)]) ?_ ?_
                            · skip
                              rintro t104 F w107 ⟨hm, hE105, hS106, rfl⟩
                              unfold m_impl_wellFormed_j9 at hm
                              exact ⟨((x0.Value == 0), t104), [(3, .bool (x0.Value == 0)), (4, .bool t104)], ⟨rfl, rfl, trivial⟩, hm, hE105, hS106, rfl⟩
                            · skip
                              refine WP.region ?_
                              refine RW.run ttok 1 rfl ?_
                              refine RW.load1 ttok rfl rfl rfl rfl rfl ((hS27.bring 0 rfl).box) 3 rfl rfl rfl rfl ?_
                              refine RW.run ttok 3 rfl ?_
                              by_cases hg109 : ((x0.Data.length : Int) == 2) = true
                              · skip
                                rw [if_pos hg109] at hm
                                refine RW.know 105 rfl (congrArg Value.bool hg109) ?_
                                refine RW.run ttok 3 rfl ?_
                                refine RW.nil ?_
                                exact ⟨!r21, [(3, .bool (x0.Value == 0)), (4, .bool (!r21))], ⟨rfl, rfl, trivial⟩, hm, (Ext.refl _), hS27, rfl⟩
                              · skip
                                rw [if_neg hg109] at hm
                                refine RW.know 105 rfl (congrArg Value.bool (Bool.eq_false_iff.2 hg109)) ?_
                                refine RW.run ttok 3 rfl ?_
                                refine RW.nil ?_
                                exact ⟨false, [(3, .bool (x0.Value == 0)), (4, .bool false)], ⟨rfl, rfl, trivial⟩, hm, (Ext.refl _), hS27, rfl⟩
                          · skip
                            rw [if_neg (not_t hc)] at hm
                            refine WP.seq ?_
                            refine WP.region ?_
                            refine RW.run ttok 2 rfl ?_
                            refine RW.nil ?_
                            refine WP.cut (fun (t110 : Bool) F w9 => m_impl_wellFormed_j10 fuel x0 t110 = some r ∧ Ext w24 w9 ∧ St w w9 [Box g10 [.int .i64 x0.Kind, .int .i64 x0.Level, .int .i64 x0.Value, .slice A1 x0.Data.length k2, .slice A4 x0.Ports.length k5] 112] ∧ F = [(3, .bool t110), (4, .bool ((x0.Data.length : Int) == 0))]) ?_ ?_
                            · skip
                              rintro t110 F w113 ⟨hm, hE111, hS112, rfl⟩
                              unfold m_impl_wellFormed_j10 at hm
                              exact ⟨(t110, ((x0.Data.length : Int) == 0)), [(3, .bool t110), (4, .bool ((x0.Data.length : Int) == 0))], ⟨rfl, rfl, trivial⟩, hm, hE111, hS112, rfl⟩
                            · skip
                              refine WP.cond (x0.Kind == 12) rfl (fun hc => ?_) (fun hc => ?_)
                              · skip
                                rw [if_pos hc] at hm
                                refine WP.region ?_
                                refine RW.run ttok 1 rfl ?_
                                refine RW.load1 ttok rfl rfl rfl rfl rfl ((hS27.bring 0 rfl).box) 2 rfl rfl rfl rfl ?_
                                obtain ⟨r115, hx116, hm⟩ := bind_some hm
                                refine RW.call rfl rfl rfl enters180 (impl_isDefIndex_ok (hE.trans hS27.ext)  hx116) (fun v117 w118 hR119 => ?_)
                                obtain ⟨rfl, hR120⟩ := hR119
                                have hS121 := hS27.join hR120
                                refine RW.run ttok 1 rfl ?_
                                refine RW.nil ?_
                                exact ⟨r115, [(3, .bool r115), (4, .bool ((x0.Data.length : Int) == 0))], ⟨rfl, rfl, trivial⟩, hm, hR120.ext, hS121, rfl⟩
                              · skip
                                rw [if_neg (not_t hc)] at hm
                                refine WP.skip ?_
                                exact ⟨(x0.Value == 0), [(3, .bool (x0.Value == 0)), (4, .bool ((x0.Data.length : Int) == 0))], ⟨rfl, rfl, trivial⟩, hm, (Ext.refl _), hS27, rfl⟩
  · skip
    refine WP.drawnM 0 mixed 27 (by kernel_rfl) (by kernel_rfl) [([], 134217727), ([0], 134217726), ([1], 134217725), ([2], 134217723), ([3], 134217719), ([4], 134217711), ([5, 4], 134217679), ([4], 134217711), ([7, 4], 134217583), ([4], 134217711), ([9, 4], 134217199), ([10, 4], 134216687), ([8, 11, 4, 4], 134215407), ([6, 12, 12, 4], 134213551), ([4], 134217711), ([14, 4], 134201327), ([15, 4], 134184943), ([13, 16, 4], 134143983), ([4, 17], 134086639), ([18, 13], 133955583), ([19], 133693439), ([20, 19], 132644863), ([19], 133693439), ([22, 19], 129499135), ([21, 23, 19, 19], 123207679), ([24, 19], 116916223), ([19, 25], 100139007)] (by kernel_rfl) hS13.ext (fun hsk122 => ?_)
    have hS123 := hS13.step (Ext.draw _)
    refine DM.run (fuel := 26) ttok hsk122 [0] 1 (by kernel_rfl) (by kernel_rfl) rfl ?_
    refine DM.load1 ttok hsk122 1 3 (by kernel_rfl) (by kernel_rfl) (by kernel_rfl) (by kernel_rfl) rfl (by kernel_rfl) rfl rfl rfl rfl rfl ((hS13.bring 0 rfl).box) 4 rfl rfl rfl rfl ?_
    refine DM.run (fuel := 22) ttok hsk122 [2, 3, 4] 31 (by kernel_rfl) (by kernel_rfl) rfl ?_
    refine DM.weak [(1, .pointer (some ⟨g10, 0, none⟩)), (10, .bool ((x0.Ports.length : Int) == 0))] ⟨rfl, rfl, trivial⟩ ?_
    by_cases hg124 : ((x0.Ports.length : Int) == 0) = true
    · skip
      rw [if_pos hg124] at hm
      refine DM.know 10 rfl (congrArg Value.bool hg124) ?_
      refine DM.run (fuel := 0) ttok hsk122 [5, 6, 7, 8, 9, 10, 11, 12, 13, 14, 15, 16, 17, 18, 19, 20, 21, 22, 23, 24, 25, 26] 134217727 (by kernel_rfl) (by kernel_rfl) rfl ?_
      refine DM.weak [(1, .pointer (some ⟨g10, 0, none⟩)), (32, .bool true)] ⟨rfl, rfl, trivial⟩ ?_
      refine DM.done hsk122 (by kernel_rfl) ?_
      exact ⟨true, [(1, .pointer (some ⟨g10, 0, none⟩)), (32, .bool true)], ⟨rfl, rfl, trivial⟩, hm, (Ext.draw _), hS123, rfl⟩
    · skip
      rw [if_neg hg124] at hm
      refine DM.know 10 rfl (congrArg Value.bool (Bool.eq_false_iff.2 hg124)) ?_
      refine DM.run (fuel := 18) ttok hsk122 [5, 7, 9, 14] 17087 (by kernel_rfl) (by kernel_rfl) rfl ?_
      refine DM.load1 ttok hsk122 6 17151 (by kernel_rfl) (by kernel_rfl) (by kernel_rfl) (by kernel_rfl) rfl (by kernel_rfl) rfl rfl rfl rfl rfl ((hS13.bring 0 rfl).box) 0 rfl rfl rfl rfl ?_
      refine DM.load1 ttok hsk122 8 17407 (by kernel_rfl) (by kernel_rfl) (by kernel_rfl) (by kernel_rfl) rfl (by kernel_rfl) rfl rfl rfl rfl rfl ((hS13.bring 0 rfl).box) 0 rfl rfl rfl rfl ?_
      refine DM.load1 ttok hsk122 10 18431 (by kernel_rfl) (by kernel_rfl) (by kernel_rfl) (by kernel_rfl) rfl (by kernel_rfl) rfl rfl rfl rfl rfl ((hS13.bring 0 rfl).box) 4 rfl rfl rfl rfl ?_
      refine DM.run (fuel := 14) ttok hsk122 [11] 20479 (by kernel_rfl) (by kernel_rfl) rfl ?_
      refine DM.load1 ttok hsk122 15 53247 (by kernel_rfl) (by kernel_rfl) (by kernel_rfl) (by kernel_rfl) rfl (by kernel_rfl) rfl rfl rfl rfl rfl ((hS13.bring 0 rfl).box) 4 rfl rfl rfl rfl ?_
      refine DM.run (fuel := 12) ttok hsk122 [16] 118783 (by kernel_rfl) (by kernel_rfl) rfl ?_
      refine DM.weak [(1, .pointer (some ⟨g10, 0, none⟩)), (10, .bool false), (12, .int .i64 x0.Kind), (14, .int .i64 x0.Kind), (17, .int .i64 (x0.Ports.length : Int)), (22, .int .i64 (x0.Ports.length : Int))] ⟨rfl, rfl, rfl, rfl, rfl, rfl, trivial⟩ ?_
      obtain ⟨r125, hx126, hm⟩ := bind_some hm
      refine DM.one hsk122 12 (by kernel_rfl) (LM.call hsk122 122879 (by kernel_rfl) (by kernel_rfl) rfl rfl rfl rfl enters176 (impl_fieldsOf_ok (hE.trans hS123.ext)  hx126) (fun v127 w128 hR129 => ?_))
      obtain ⟨rfl, hR130⟩ := hR129
      refine ⟨hR130.ext, ?_⟩
      have hS131 := hS123.join hR130
      obtain ⟨r132, hx133, hm⟩ := bind_some hm
      refine DM.one hsk122 13 (by kernel_rfl) (LM.call hsk122 131071 (by kernel_rfl) (by kernel_rfl) rfl rfl rfl rfl enters175 (impl_PortsOf_ok (hE.trans hS131.ext)  hx133) (fun v134 w135 hR136 => ?_))
      obtain ⟨rfl, hR137⟩ := hR136
      refine ⟨hR137.ext, ?_⟩
      have hS138 := hS131.join hR137
      refine DM.run (fuel := 7) ttok hsk122 [17, 18, 19] 1048575 (by kernel_rfl) (by kernel_rfl) rfl ?_
      refine DM.weak [(1, .pointer (some ⟨g10, 0, none⟩)), (25, .bool (r132 != (x0.Ports.length : Int)))] ⟨rfl, rfl, trivial⟩ ?_
      by_cases hg139 : (r132 != (x0.Ports.length : Int)) = true
      · skip
        rw [if_pos hg139] at hm
        refine DM.know 25 rfl (congrArg Value.bool hg139) ?_
        refine DM.run (fuel := 0) ttok hsk122 [20, 21, 22, 23, 24, 25, 26] 134217727 (by kernel_rfl) (by kernel_rfl) rfl ?_
        refine DM.weak [(1, .pointer (some ⟨g10, 0, none⟩)), (32, .bool true)] ⟨rfl, rfl, trivial⟩ ?_
        refine DM.done hsk122 (by kernel_rfl) ?_
        exact ⟨true, [(1, .pointer (some ⟨g10, 0, none⟩)), (32, .bool true)], ⟨rfl, rfl, trivial⟩, hm, (((Ext.draw _).trans hR130.ext).trans hR137.ext), hS138, rfl⟩
      · skip
        rw [if_neg hg139] at hm
        refine DM.know 25 rfl (congrArg Value.bool (Bool.eq_false_iff.2 hg139)) ?_
        refine DM.run (fuel := 5) ttok hsk122 [20, 22] 6291455 (by kernel_rfl) (by kernel_rfl) rfl ?_
        refine DM.load1 ttok hsk122 21 8388607 (by kernel_rfl) (by kernel_rfl) (by kernel_rfl) (by kernel_rfl) rfl (by kernel_rfl) rfl rfl rfl rfl rfl ((hS13.bring 0 rfl).box) 0 rfl rfl rfl rfl ?_
        refine DM.load1 ttok hsk122 23 16777215 (by kernel_rfl) (by kernel_rfl) (by kernel_rfl) (by kernel_rfl) rfl (by kernel_rfl) rfl rfl rfl rfl rfl ((hS13.bring 0 rfl).box) 1 rfl rfl rfl rfl ?_
        obtain ⟨r140, hx141, hm⟩ := bind_some hm
        refine DM.one hsk122 24 (by kernel_rfl) (LM.call hsk122 33554431 (by kernel_rfl) (by kernel_rfl) rfl rfl rfl rfl enters177 (impl_isAllowed_ok (hE.trans hS138.ext)  hx141) (fun v142 w143 hR144 => ?_))
        obtain ⟨rfl, hR145⟩ := hR144
        refine ⟨hR145.ext, ?_⟩
        have hS146 := hS138.join hR145
        refine DM.run (fuel := 0) ttok hsk122 [25, 26] 134217727 (by kernel_rfl) (by kernel_rfl) rfl ?_
        refine DM.weak [(1, .pointer (some ⟨g10, 0, none⟩)), (32, .bool (!r140))] ⟨rfl, rfl, trivial⟩ ?_
        refine DM.done hsk122 (by kernel_rfl) ?_
        exact ⟨!r140, [(1, .pointer (some ⟨g10, 0, none⟩)), (32, .bool (!r140))], ⟨rfl, rfl, trivial⟩, hm, ((((Ext.draw _).trans hR130.ext).trans hR137.ext).trans hR145.ext), hS146, rfl⟩

end Go.E
