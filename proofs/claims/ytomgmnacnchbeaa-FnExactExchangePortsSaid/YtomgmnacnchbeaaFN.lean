/- Models of functions and proofs that the code runs as they say (written by program). Conditions: the model gives a value. -/
import Derived.Test.YtomgmnacnchbeaaFA
namespace Go.E
open Go.RowKit Go.Proofs
set_option linter.unusedVariables false
set_option linter.unusedSimpArgs false
set_option maxHeartbeats 2000000

theorem enters60 : Enters Try.prog 60 := ⟨_, _, Try.func60, rfl, by kernel_rfl⟩
def m_spec_l11Agents_j1 (fuel : Nat) (t11 : Unit) : Option Bool := some true
def m_spec_l11Agents_j2 (fuel : Nat) (s10 : Int) (t26 : Bool) : Option (Rd (Int) (Unit) (Bool)) := (if t26 = true then some (.ret false) else some (.next (w64 (s10 + 1))))
def m_spec_l11Agents_b1 (fuel : Nat) (x0 : (List D.Agent)) (s10 : Int) : Option (Rd (Int) (Unit) (Bool)) := (if (decide (s10 < (x0.length : Int))) = true then ((idx x0 s10).bind fun x31 => ((m_spec_l11Agent fuel x31).bind fun r44 => (if (!r44) = true then m_spec_l11Agents_j2 fuel s10 true else ((idx x0 s10).bind fun x52 => m_spec_l11Agents_j2 fuel s10 (!((x52.Kind == 1) == (s10 == 0))))))) else some (.brk ()))
def m_spec_l11Agents (fuel : Nat) (x0 : (List D.Agent)) : Option (Bool) := ((m_spec_l00In fuel (x0.length : Int) 1 600).bind fun r1 => (if (!r1) = true then some false else ((iter (m_spec_l11Agents_b1 fuel x0) fuel 0).bind fun o => aft o (m_spec_l11Agents_j1 fuel))))

set_option maxRecDepth 100000 in
theorem spec_l11Agents_ok {W w : World} (hE : Ext W w) {A0_ : Option Addr} {k0_ : Nat} {x0 : (List D.Agent)} (h0_ : ty28.ro W [.slice A0_ x0.length k0_] x0) {fuel : Nat} {r : Bool} (hm : m_spec_l11Agents fuel x0 = some r) :
    Calls Try.prog 60 ⟨[.slice A0_ x0.length k0_]⟩ w (Ret fun v w8 => v = .bool r ∧ St w w8 []) := by
  refine Calls.into Try.func60 rfl 30 rfl rfl _ rfl ?_
  unfold m_spec_l11Agents at hm
  have hS := St.start w
  refine WP.seq ?_
  refine WP.region ?_
  refine RW.run ttok 1 rfl ?_
  refine RW.nil ?_
  refine WP.seq ?_
  refine WP.seq ?_
  refine WP.region ?_
  refine RW.run ttok 2 rfl ?_
  obtain ⟨r1, hx2, hm⟩ := bind_some hm
  refine RW.call rfl rfl rfl enters102 (spec_l00In_ok (hE.trans hS.ext)  hx2) (fun v3 w4 hR5 => ?_)
  obtain ⟨rfl, hR6⟩ := hR5
  have hS7 := hS.join hR6
  refine RW.run ttok 1 rfl ?_
  refine RW.nil ?_
  refine WP.cond (!r1) rfl (fun hc => ?_) (fun hc => ?_)
  · skip
    rw [if_pos hc] at hm
    refine WP.seq ?_
    refine WP.region ?_
    refine RW.run ttok 1 rfl ?_
    refine RW.nil ?_
    refine WP.ret ?_
    cases hm
    exact ⟨_, .cons (.tmp rfl) .nil, rfl, hS7⟩
  · skip
    rw [if_neg (not_t hc)] at hm
    refine WP.skip ?_
    refine WP.seq ?_
    refine WP.seq ?_
    refine WP.region ?_
    refine RW.run ttok 1 rfl ?_
    refine RW.nil ?_
    obtain ⟨o17, hl18, hm⟩ := bind_some hm
    refine WP.cut (fun (t11 : Unit) F w9 => o17 = .inl t11 ∧ Ext w4 w9 ∧ St w w9 [] ∧ F = []) ?_ ?_
    · skip
      rintro t11 F w16 ⟨ho20, hE15, hS19, rfl⟩
      subst ho20
      rw [aft_inl] at hm
      unfold m_spec_l11Agents_j1 at hm
      refine WP.seq ?_
      refine WP.region ?_
      refine RW.run ttok 1 rfl ?_
      refine RW.nil ?_
      refine WP.ret ?_
      cases hm
      exact ⟨_, .cons (.tmp rfl) .nil, rfl, hS19⟩
    · skip
      refine WP.block ?_
      refine WP.weak [(0, .slice A0_ x0.length k0_), (3, .int .i64 0)] ⟨rfl, rfl, trivial⟩ ?_
      refine WP.iter (fun (s10 : Int) F w9 => Ext w4 w9 ∧ St w w9 [] ∧ F = [(0, .slice A0_ x0.length k0_), (3, .int .i64 s10)]) _ hl18 ⟨(Ext.refl _), hS7, rfl⟩ ?_
      rintro s10 F w25 _ o23 ⟨hE14, hS24, rfl⟩ hb21 ho22
      unfold m_spec_l11Agents_b1 at hb21
      refine WP.seq ?_
      refine WP.seq ?_
      refine WP.region ?_
      refine RW.run ttok 4 rfl ?_
      refine RW.nil ?_
      refine WP.cond (decide (s10 < (x0.length : Int))) rfl (fun hc => ?_) (fun hc => ?_)
      · skip
        rw [if_pos hc] at hb21
        refine WP.skip ?_
        refine WP.seq ?_
        refine WP.block ?_
        refine WP.seq ?_
        refine WP.cut (fun (t26 : Bool) F w9 => m_spec_l11Agents_j2 fuel s10 t26 = some o23 ∧ Ext w25 w9 ∧ St w w9 [] ∧ F = [(0, .slice A0_ x0.length k0_), (3, .int .i64 s10), (29, .bool t26)]) ?_ ?_
        · skip
          rintro t26 F w29 ⟨hb21, hE27, hS28, rfl⟩
          unfold m_spec_l11Agents_j2 at hb21
          refine WP.cond t26 rfl (fun hc => ?_) (fun hc => ?_)
          · skip
            rw [if_pos hc] at hb21
            refine WP.seq ?_
            refine WP.region ?_
            refine RW.run ttok 1 rfl ?_
            refine RW.nil ?_
            refine WP.ret ?_
            cases hb21
            cases ho22
            have hm : some _ = some _ := hm
            cases hm
            exact ⟨_, .cons (.tmp rfl) .nil, rfl, hS28⟩
          · skip
            rw [if_neg (not_t hc)] at hb21
            refine WP.skip ?_
            refine WP.region ?_
            refine RW.run ttok 3 rfl ?_
            refine RW.nil ?_
            cases hb21
            exact ⟨_, [(0, .slice A0_ x0.length k0_), (3, .int .i64 (w64 (s10 + 1)))], ⟨rfl, rfl, trivial⟩, rfl, (hE14.trans hE27), hS28, rfl⟩
        · skip
          refine WP.region ?_
          refine RW.run ttok 2 rfl ?_
          obtain ⟨x31, hx32, hb21⟩ := bind_some hb21
          refine RW.idx ttok (hE.trans hS24.ext) rfl rfl rfl rfl rfl rfl (by decide) rfl rfl h0_ (idx_some hx32).1 (idx_some hx32).2 rfl rfl (fun p33 es34 ha35 hr36 => ?_)
          obtain ⟨A37, k38, A40, k41, e43, h39, h42⟩ := ty112_open hr36; subst e43
          obtain ⟨r44, hx45, hb21⟩ := bind_some hb21
          refine RW.call rfl rfl rfl enters122 (spec_l11Agent_ok (hE.trans hS24.ext) hr36 ha35 hx45) (fun v46 w47 hR48 => ?_)
          obtain ⟨rfl, hR49⟩ := hR48
          have hS50 := hS24.join hR49
          refine RW.run ttok 2 rfl ?_
          by_cases hg51 : (!r44) = true
          · skip
            rw [if_pos hg51] at hb21
            refine RW.know 19 rfl (congrArg Value.bool hg51) ?_
            refine RW.run ttok 10 rfl ?_
            refine RW.nil ?_
            exact ⟨true, [(0, .slice A0_ x0.length k0_), (3, .int .i64 s10), (29, .bool true)], ⟨rfl, rfl, rfl, trivial⟩, hb21, hR49.ext, hS50, rfl⟩
          · skip
            rw [if_neg hg51] at hb21
            refine RW.know 19 rfl (congrArg Value.bool (Bool.eq_false_iff.2 hg51)) ?_
            refine RW.run ttok 2 rfl ?_
            obtain ⟨x52, hx53, hb21⟩ := bind_some hb21
            refine RW.idx ttok (hE.trans hS50.ext) rfl rfl rfl rfl rfl rfl (by decide) rfl rfl h0_ (idx_some hx53).1 (idx_some hx53).2 rfl rfl (fun p54 es55 ha56 hr57 => ?_)
            obtain ⟨A58, k59, A61, k62, e65, h60, h63⟩ := ty112_open hr57; subst e65
            refine RW.run ttok 1 rfl ?_
            refine RW.load1 ttok rfl rfl rfl rfl rfl (At.ext (hE.trans hS50.ext) ha56) 0 rfl rfl rfl rfl ?_
            refine RW.run ttok 5 rfl ?_
            refine RW.nil ?_
            exact ⟨!((x52.Kind == 1) == (s10 == 0)), [(0, .slice A0_ x0.length k0_), (3, .int .i64 s10), (29, .bool (!((x52.Kind == 1) == (s10 == 0))))], ⟨rfl, rfl, rfl, trivial⟩, hb21, hR49.ext, hS50, rfl⟩
      · skip
        rw [if_neg (not_t hc)] at hb21
        refine WP.exit ?_
        cases hb21
        exact ⟨_, [], trivial, ho22, hE14, hS24, rfl⟩

theorem enters50 : Enters Try.prog 50 := ⟨_, _, Try.func50, rfl, by kernel_rfl⟩
def m_spec_l11Port (fuel : Nat) (x0 : (List D.Agent)) (x1 : D.Port) : Option (Bool) := ((m_spec_l00In fuel x1.Agent 0 (w64 ((x0.length : Int) - 1))).bind fun r10 => (if r10 = true then ((idx x0 x1.Agent).bind fun x18 => ((m_spec_l00In fuel x1.Slot 0 (w64 ((x18.Ports.length : Int) - 1))).bind fun r31 => some r31)) else some false))

set_option maxRecDepth 100000 in
theorem spec_l11Port_ok {W w : World} (hE : Ext W w) {A0_ : Option Addr} {k0_ : Nat} {x0 : (List D.Agent)} {c1_ : List Value} {x1 : D.Port} (h0_ : ty28.ro W [.slice A0_ x0.length k0_] x0) (h1_ : ty38.ro W c1_ x1) {fuel : Nat} {r : Bool} (hm : m_spec_l11Port fuel x0 x1 = some r) :
    Calls Try.prog 50 ⟨[.slice A0_ x0.length k0_, .agg ⟨c1_⟩]⟩ w (Ret fun v w8 => v = .bool r ∧ St w w8 []) := by
  have e1 := ty38_open h1_; subst e1
  refine Calls.into Try.func50 rfl 24 rfl rfl _ rfl ?_
  unfold m_spec_l11Port at hm
  have hS := St.start w
  refine WP.seq ?_
  refine WP.region ?_
  refine RW.new ttok hS rfl rfl rfl rfl (fun g2 w3 e4 hS5 => ?_)
  refine RW.run ttok 1 rfl ?_
  refine RW.nil ?_
  refine WP.seq ?_
  refine WP.drawnM 0 mixed 20 (by kernel_rfl) (by kernel_rfl) [([], 1048575), ([0], 1048574), ([], 1048575), ([2], 1048571), ([3], 1048567), ([1, 4], 1048557), ([5, 5], 1048543), ([6], 1048511), ([7, 6], 1048383), ([6], 1048511), ([6], 1048511), ([10, 6], 1047487), ([9, 11, 6], 1045951), ([12, 6], 1044415), ([13, 6], 1040319), ([14, 6], 1032127), ([15, 6], 1015743), ([8, 16, 6, 6], 982719), ([6, 17], 917439), ([18, 17, 0, 1, 2, 3, 4, 5, 6, 7, 8, 9, 10, 11, 12, 13, 14, 15, 16, 17, 18], 786431)] (by kernel_rfl) hS5.ext (fun hsk6 => ?_)
  have hS7 := hS5.step (Ext.draw _)
  refine DM.run (fuel := 16) ttok hsk6 [0, 2, 3, 4] 29 (by kernel_rfl) (by kernel_rfl) rfl ?_
  refine DM.load1 ttok hsk6 1 31 (by kernel_rfl) (by kernel_rfl) (by kernel_rfl) (by kernel_rfl) rfl (by kernel_rfl) rfl rfl rfl rfl rfl ((hS5.bring 0 rfl).box) 0 rfl rfl rfl rfl ?_
  obtain ⟨r10, hx11, hm⟩ := bind_some hm
  refine DM.one hsk6 5 (by kernel_rfl) (LM.call hsk6 63 (by kernel_rfl) (by kernel_rfl) rfl rfl rfl rfl enters102 (spec_l00In_ok (hE.trans hS7.ext)  hx11) (fun v12 w13 hR14 => ?_))
  obtain ⟨rfl, hR15⟩ := hR14
  refine ⟨hR15.ext, ?_⟩
  have hS16 := hS7.join hR15
  refine DM.run (fuel := 13) ttok hsk6 [6] 127 (by kernel_rfl) (by kernel_rfl) rfl ?_
  refine DM.weak [(0, .slice A0_ x0.length k0_), (3, .pointer (some ⟨g2, 0, none⟩)), (4, .bool false), (11, .bool r10)] ⟨rfl, rfl, rfl, rfl, trivial⟩ ?_
  by_cases hg17 : r10 = true
  · skip
    rw [if_pos hg17] at hm
    refine DM.know 11 rfl (congrArg Value.bool hg17) ?_
    refine DM.run (fuel := 10) ttok hsk6 [7, 9, 10] 1791 (by kernel_rfl) (by kernel_rfl) rfl ?_
    refine DM.load1 ttok hsk6 8 2047 (by kernel_rfl) (by kernel_rfl) (by kernel_rfl) (by kernel_rfl) rfl (by kernel_rfl) rfl rfl rfl rfl rfl ((hS5.bring 0 rfl).box) 1 rfl rfl rfl rfl ?_
    refine DM.load1 ttok hsk6 11 4095 (by kernel_rfl) (by kernel_rfl) (by kernel_rfl) (by kernel_rfl) rfl (by kernel_rfl) rfl rfl rfl rfl rfl ((hS5.bring 0 rfl).box) 0 rfl rfl rfl rfl ?_
    obtain ⟨x18, hx19, hm⟩ := bind_some hm
    refine DM.idx ttok (hE.trans hS5.ext) hsk6 12 8191 (by kernel_rfl) (by kernel_rfl) (by kernel_rfl) (by kernel_rfl) rfl (by kernel_rfl) rfl rfl rfl rfl rfl rfl (by decide) rfl rfl h0_ (idx_some hx19).1 (idx_some hx19).2 rfl rfl (fun p20 es21 ha22 hr23 => ?_)
    obtain ⟨A24, k25, A27, k28, e30, h26, h29⟩ := ty112_open hr23; subst e30
    refine DM.run (fuel := 6) ttok hsk6 [13] 16383 (by kernel_rfl) (by kernel_rfl) rfl ?_
    refine DM.weak [(4, .bool false), (11, .bool true), (13, .int .i64 x1.Slot), (18, .pointer (some (p20.add 4)))] ⟨rfl, rfl, rfl, rfl, trivial⟩ ?_
    refine DM.load1 ttok hsk6 14 32767 (by kernel_rfl) (by kernel_rfl) (by kernel_rfl) (by kernel_rfl) rfl (by kernel_rfl) rfl rfl rfl rfl rfl (At.ext (hE.trans hS5.ext) ha22) 4 rfl rfl rfl rfl ?_
    refine DM.run (fuel := 3) ttok hsk6 [15, 16] 131071 (by kernel_rfl) (by kernel_rfl) rfl ?_
    obtain ⟨r31, hx32, hm⟩ := bind_some hm
    refine DM.one hsk6 17 (by kernel_rfl) (LM.call hsk6 262143 (by kernel_rfl) (by kernel_rfl) rfl rfl rfl rfl enters102 (spec_l00In_ok (hE.trans hS16.ext)  hx32) (fun v33 w34 hR35 => ?_))
    obtain ⟨rfl, hR36⟩ := hR35
    refine ⟨hR36.ext, ?_⟩
    have hS37 := hS16.join hR36
    refine DM.run (fuel := 0) ttok hsk6 [18, 19] 1048575 (by kernel_rfl) (by kernel_rfl) rfl ?_
    refine DM.weak [(4, .bool r31)] ⟨rfl, trivial⟩ ?_
    refine DM.done hsk6 (by kernel_rfl) ?_
    refine WP.ret ?_
    cases hm
    exact ⟨_, .cons (.tmp rfl) .nil, rfl, (hS37.taken 0)⟩
  · skip
    rw [if_neg hg17] at hm
    refine DM.know 11 rfl (congrArg Value.bool (Bool.eq_false_iff.2 hg17)) ?_
    refine DM.run (fuel := 0) ttok hsk6 [7, 8, 9, 10, 11, 12, 13, 14, 15, 16, 17, 18, 19] 1048575 (by kernel_rfl) (by kernel_rfl) rfl ?_
    refine DM.weak [(4, .bool false)] ⟨rfl, trivial⟩ ?_
    refine DM.done hsk6 (by kernel_rfl) ?_
    refine WP.ret ?_
    cases hm
    exact ⟨_, .cons (.tmp rfl) .nil, rfl, (hS16.taken 0)⟩

theorem enters46 : Enters Try.prog 46 := ⟨_, _, Try.func46, rfl, by kernel_rfl⟩
def m_spec_l11Ok_j1 (fuel : Nat) (t15 : Unit) : Option Bool := some true
def m_spec_l11Ok_j2 (fuel : Nat) (s14 : Int) (t41 : Unit) : Option (Rd (Int) (Unit) (Bool)) := some (.next (w64 (s14 + 1)))
def m_spec_l11Ok_j3 (fuel : Nat) (s40 : Int) (t75 : Bool) : Option (Rd (Int) (Unit) (Rd (Int) (Unit) (Bool))) := (if t75 = true then some (.ret (.ret false)) else some (.next (w64 (s40 + 1))))
def m_spec_l11Ok_b2 (fuel : Nat) (x0 : D.Net) (s14 : Int) (x27 : D.Agent) (s40 : Int) : Option (Rd (Int) (Unit) (Rd (Int) (Unit) (Bool))) := (if (decide (s40 < (x27.Ports.length : Int))) = true then ((idx x27.Ports s40).bind fun x60 => (if (((x60.Agent : Int) == s14) && (((x60.Slot : Int) == s40) && true)) = true then m_spec_l11Ok_j3 fuel s40 true else ((m_spec_l11Port fuel x0.Agents x60).bind fun r83 => (if (!r83) = true then m_spec_l11Ok_j3 fuel s40 true else ((idx x0.Agents x60.Agent).bind fun x91 => ((idx x91.Ports x60.Slot).bind fun x104 => m_spec_l11Ok_j3 fuel s40 (!(((x104.Agent : Int) == s14) && (((x104.Slot : Int) == s40) && true))))))))) else some (.brk ()))
def m_spec_l11Ok_b1 (fuel : Nat) (x0 : D.Net) (s14 : Int) : Option (Rd (Int) (Unit) (Bool)) := (if (decide (s14 < (x0.Agents.length : Int))) = true then ((idx x0.Agents s14).bind fun x27 => ((iter (m_spec_l11Ok_b2 fuel x0 s14 x27) fuel 0).bind fun o => aft o (m_spec_l11Ok_j2 fuel s14))) else some (.brk ()))
def m_spec_l11Ok (fuel : Nat) (x0 : D.Net) : Option (Bool) := ((m_spec_l11Agents fuel x0.Agents).bind fun r5 => (if (!r5) = true then some false else ((iter (m_spec_l11Ok_b1 fuel x0) fuel 0).bind fun o => aft o (m_spec_l11Ok_j1 fuel))))

set_option maxRecDepth 100000 in
theorem spec_l11Ok_ok {W w : World} (hE : Ext W w) {p0_ : Addr} {c0_ : List Value} {x0 : D.Net} (h0_ : ty30.ro W c0_ x0) (g0_ : At W p0_ c0_) {fuel : Nat} {r : Bool} (hm : m_spec_l11Ok fuel x0 = some r) :
    Calls Try.prog 46 ⟨[.pointer (some p0_)]⟩ w (Ret fun v w8 => v = .bool r ∧ St w w8 []) := by
  obtain ⟨A1, k2, e4, h3⟩ := ty30_open h0_; subst e4
  refine Calls.into Try.func46 rfl 77 rfl rfl _ rfl ?_
  unfold m_spec_l11Ok at hm
  have hS := St.start w
  refine WP.seq ?_
  refine WP.region ?_
  refine RW.run ttok 1 rfl ?_
  refine RW.nil ?_
  refine WP.seq ?_
  refine WP.seq ?_
  refine WP.region ?_
  refine RW.run ttok 3 rfl ?_
  refine RW.load1 ttok rfl rfl rfl rfl rfl (At.ext (hE.trans hS.ext) g0_) 0 rfl rfl rfl rfl ?_
  obtain ⟨r5, hx6, hm⟩ := bind_some hm
  refine RW.call rfl rfl rfl enters60 (spec_l11Agents_ok (hE.trans hS.ext) h3 hx6) (fun v7 w10 hR11 => ?_)
  obtain ⟨rfl, hR12⟩ := hR11
  have hS13 := hS.join hR12
  refine RW.run ttok 1 rfl ?_
  refine RW.nil ?_
  refine WP.cond (!r5) rfl (fun hc => ?_) (fun hc => ?_)
  · skip
    rw [if_pos hc] at hm
    refine WP.seq ?_
    refine WP.region ?_
    refine RW.run ttok 1 rfl ?_
    refine RW.nil ?_
    refine WP.ret ?_
    cases hm
    exact ⟨_, .cons (.tmp rfl) .nil, rfl, hS13⟩
  · skip
    rw [if_neg (not_t hc)] at hm
    refine WP.skip ?_
    refine WP.seq ?_
    refine WP.seq ?_
    refine WP.region ?_
    refine RW.run ttok 1 rfl ?_
    refine RW.nil ?_
    obtain ⟨o18, hl19, hm⟩ := bind_some hm
    refine WP.cut (fun (t15 : Unit) F w9 => o18 = .inl t15 ∧ St w w9 [] ∧ F = []) ?_ ?_
    · skip
      rintro t15 F w17 ⟨ho21, hS20, rfl⟩
      subst ho21
      rw [aft_inl] at hm
      unfold m_spec_l11Ok_j1 at hm
      refine WP.seq ?_
      refine WP.region ?_
      refine RW.run ttok 1 rfl ?_
      refine RW.nil ?_
      refine WP.ret ?_
      cases hm
      exact ⟨_, .cons (.tmp rfl) .nil, rfl, hS20⟩
    · skip
      refine WP.block ?_
      refine WP.weak [(0, .pointer (some p0_)), (3, .int .i64 0)] ⟨rfl, rfl, trivial⟩ ?_
      refine WP.iter (fun (s14 : Int) F w9 => St w w9 [] ∧ F = [(0, .pointer (some p0_)), (3, .int .i64 s14)]) _ hl19 ⟨hS13, rfl⟩ ?_
      rintro s14 F w26 _ o24 ⟨hS25, rfl⟩ hb22 ho23
      unfold m_spec_l11Ok_b1 at hb22
      refine WP.seq ?_
      refine WP.seq ?_
      refine WP.region ?_
      refine RW.run ttok 4 rfl ?_
      refine RW.load1 ttok rfl rfl rfl rfl rfl (At.ext (hE.trans hS25.ext) g0_) 0 rfl rfl rfl rfl ?_
      refine RW.run ttok 2 rfl ?_
      refine RW.nil ?_
      refine WP.cond (decide (s14 < (x0.Agents.length : Int))) rfl (fun hc => ?_) (fun hc => ?_)
      · skip
        rw [if_pos hc] at hb22
        refine WP.skip ?_
        refine WP.seq ?_
        refine WP.block ?_
        refine WP.seq ?_
        refine WP.region ?_
        refine RW.run ttok 3 rfl ?_
        refine RW.load1 ttok rfl rfl rfl rfl rfl (At.ext (hE.trans hS25.ext) g0_) 0 rfl rfl rfl rfl ?_
        refine RW.run ttok 1 rfl ?_
        obtain ⟨x27, hx28, hb22⟩ := bind_some hb22
        refine RW.idx ttok (hE.trans hS25.ext) rfl rfl rfl rfl rfl rfl (by decide) rfl rfl h3 (idx_some hx28).1 (idx_some hx28).2 rfl rfl (fun p29 es30 ha31 hr32 => ?_)
        obtain ⟨A33, k34, A36, k37, e39, h35, h38⟩ := ty112_open hr32; subst e39
        refine RW.run ttok 1 rfl ?_
        refine RW.nil ?_
        refine WP.seq ?_
        refine WP.region ?_
        refine RW.run ttok 1 rfl ?_
        refine RW.nil ?_
        obtain ⟨o44, hl45, hb22⟩ := bind_some hb22
        refine WP.cut (fun (t41 : Unit) F w9 => o44 = .inl t41 ∧ St w w9 [] ∧ F = [(0, .pointer (some p0_)), (3, .int .i64 s14)]) ?_ ?_
        · skip
          rintro t41 F w43 ⟨ho47, hS46, rfl⟩
          subst ho47
          rw [aft_inl] at hb22
          unfold m_spec_l11Ok_j2 at hb22
          refine WP.region ?_
          refine RW.run ttok 3 rfl ?_
          refine RW.nil ?_
          cases hb22
          exact ⟨_, [(0, .pointer (some p0_)), (3, .int .i64 (w64 (s14 + 1)))], ⟨rfl, rfl, trivial⟩, rfl, hS46, rfl⟩
        · skip
          refine WP.block ?_
          refine WP.weak [(0, .pointer (some p0_)), (3, .int .i64 s14), (4, .pointer (some p29)), (5, .int .i64 0)] ⟨rfl, rfl, rfl, rfl, trivial⟩ ?_
          refine WP.iter (fun (s40 : Int) F w9 => St w w9 [] ∧ F = [(0, .pointer (some p0_)), (3, .int .i64 s14), (4, .pointer (some p29)), (5, .int .i64 s40)]) _ hl45 ⟨hS25, rfl⟩ ?_
          rintro s40 F w52 _ o50 ⟨hS51, rfl⟩ hb48 ho49
          unfold m_spec_l11Ok_b2 at hb48
          refine WP.seq ?_
          refine WP.seq ?_
          refine WP.region ?_
          refine RW.run ttok 4 rfl ?_
          refine RW.load1 ttok rfl rfl rfl rfl rfl (At.ext (hE.trans hS51.ext) ha31) 4 rfl rfl rfl rfl ?_
          refine RW.run ttok 2 rfl ?_
          refine RW.nil ?_
          refine WP.cond (decide (s40 < (x27.Ports.length : Int))) rfl (fun hc => ?_) (fun hc => ?_)
          · skip
            rw [if_pos hc] at hb48
            refine WP.skip ?_
            refine WP.seq ?_
            refine WP.block ?_
            refine WP.seq ?_
            refine WP.region ?_
            refine RW.run ttok 2 rfl ?_
            refine RW.quiet rfl (Quiet.build ttok rfl rfl rfl rfl rfl) rfl rfl ?_
            refine RW.new ttok hS51 rfl rfl rfl rfl (fun g53 w54 e55 hS56 => ?_)
            have hS57 := hS56.bring 0 rfl
            refine RW.store ttok (A := []) hS57 rfl rfl rfl rfl rfl 0 rfl rfl rfl rfl rfl (fun w58 hS59 => ?_)
            refine RW.nil ?_
            refine WP.seq ?_
            refine WP.region ?_
            refine RW.run ttok 3 rfl ?_
            refine RW.load1 ttok rfl rfl rfl rfl rfl (At.ext (hE.trans hS59.ext) ha31) 4 rfl rfl rfl rfl ?_
            refine RW.run ttok 1 rfl ?_
            obtain ⟨x60, hx61, hb48⟩ := bind_some hb48
            refine RW.idx ttok (hE.trans hS59.ext) rfl rfl rfl rfl rfl rfl (by decide) rfl rfl h38 (idx_some hx61).1 (idx_some hx61).2 rfl rfl (fun p62 es63 ha65 hr66 => ?_)
            have e67 := ty38_open hr66; subst e67
            refine RW.loadN ttok rfl rfl rfl rfl rfl (At.ext (hE.trans hS59.ext) ha65) rfl rfl rfl ?_
            refine RW.new ttok hS59 rfl rfl rfl rfl (fun g68 w69 e70 hS71 => ?_)
            have hS72 := hS71.bring 0 rfl
            refine RW.store ttok (A := []) hS72 rfl rfl rfl rfl rfl 0 rfl rfl rfl rfl rfl (fun w73 hS74 => ?_)
            refine RW.nil ?_
            refine WP.seq ?_
            refine WP.cut (fun (t75 : Bool) F w9 => m_spec_l11Ok_j3 fuel s40 t75 = some o50 ∧ Ext w73 w9 ∧ St w w9 [Box g68 [.int .i64 x60.Agent, .int .i64 x60.Slot] 38, Box g53 [.int .i64 s14, .int .i64 s40] 38] ∧ F = [(0, .pointer (some p0_)), (3, .int .i64 s14), (4, .pointer (some p29)), (5, .int .i64 s40), (76, .bool t75)]) ?_ ?_
            · skip
              rintro t75 F w78 ⟨hb48, hE76, hS77, rfl⟩
              unfold m_spec_l11Ok_j3 at hb48
              refine WP.cond t75 rfl (fun hc => ?_) (fun hc => ?_)
              · skip
                rw [if_pos hc] at hb48
                refine WP.seq ?_
                refine WP.region ?_
                refine RW.run ttok 1 rfl ?_
                refine RW.nil ?_
                refine WP.ret ?_
                cases hb48
                cases ho49
                have hb22 : some _ = some _ := hb22
                cases hb22
                cases ho23
                have hm : some _ = some _ := hm
                cases hm
                exact ⟨_, .cons (.tmp rfl) .nil, rfl, (hS77.taken 0)⟩
              · skip
                rw [if_neg (not_t hc)] at hb48
                refine WP.skip ?_
                refine WP.region ?_
                refine RW.run ttok 3 rfl ?_
                refine RW.nil ?_
                cases hb48
                exact ⟨_, [(0, .pointer (some p0_)), (3, .int .i64 s14), (4, .pointer (some p29)), (5, .int .i64 (w64 (s40 + 1)))], ⟨rfl, rfl, rfl, rfl, trivial⟩, rfl, (hS77.taken 0), rfl⟩
            · skip
              refine WP.drawnM 0 mixed 29 (by kernel_rfl) (by kernel_rfl) [([], 536870911), ([], 536870911), ([0, 1], 536870908), ([2], 536870907), ([3], 536870903), ([4, 3], 536870887), ([5, 3], 536870871), ([6, 3], 536870839), ([3], 536870903), ([7, 8, 3, 3], 536870519), ([9, 3], 536870391), ([3, 10], 536869879), ([11, 9], 536868863), ([12], 536866815), ([13, 12], 536858623), ([14, 12], 536850431), ([15, 12], 536834047), ([12], 536866815), ([17, 12], 536735743), ([16, 18, 12], 536539135), ([19, 12], 536342527), ([20, 12], 535818239), ([12], 536866815), ([22, 12], 532672511), ([21, 23, 12], 526381055), ([24, 12], 520089599), ([12], 536866815), ([25, 26, 12], 436203519), ([12, 27], 402649087)] (by kernel_rfl) hS74.ext (fun hsk80 => ?_)
              have hS81 := hS74.step (Ext.draw _)
              refine DM.loadN ttok hsk80 0 1 (by kernel_rfl) (by kernel_rfl) (by kernel_rfl) (by kernel_rfl) rfl (by kernel_rfl) rfl rfl rfl rfl rfl ((hS74.bring 0 rfl).box) rfl rfl rfl ?_
              refine DM.loadN ttok hsk80 1 3 (by kernel_rfl) (by kernel_rfl) (by kernel_rfl) (by kernel_rfl) rfl (by kernel_rfl) rfl rfl rfl rfl rfl ((hS74.bring 1 rfl).box) rfl rfl rfl ?_
              refine DM.run (fuel := 25) ttok hsk80 [2, 3] 15 (by kernel_rfl) (by kernel_rfl) rfl ?_
              refine DM.weak [(0, .pointer (some p0_)), (3, .int .i64 s14), (4, .pointer (some p29)), (5, .int .i64 s40), (6, .pointer (some ⟨g53, 0, none⟩)), (7, .pointer (some ⟨g68, 0, none⟩)), (51, .bool (((x60.Agent : Int) == s14) && (((x60.Slot : Int) == s40) && true)))] ⟨rfl, rfl, rfl, rfl, rfl, rfl, rfl, trivial⟩ ?_
              by_cases hg82 : (((x60.Agent : Int) == s14) && (((x60.Slot : Int) == s40) && true)) = true
              · skip
                rw [if_pos hg82] at hb48
                refine DM.know 51 rfl (congrArg Value.bool hg82) ?_
                refine DM.run (fuel := 0) ttok hsk80 [4, 5, 6, 7, 8, 9, 10, 11, 12, 13, 14, 15, 16, 17, 18, 19, 20, 21, 22, 23, 24, 25, 26, 27, 28] 536870911 (by kernel_rfl) (by kernel_rfl) rfl ?_
                refine DM.weak [(0, .pointer (some p0_)), (3, .int .i64 s14), (4, .pointer (some p29)), (5, .int .i64 s40), (76, .bool true)] ⟨rfl, rfl, rfl, rfl, rfl, trivial⟩ ?_
                refine DM.done hsk80 (by kernel_rfl) ?_
                exact ⟨true, [(0, .pointer (some p0_)), (3, .int .i64 s14), (4, .pointer (some p29)), (5, .int .i64 s40), (76, .bool true)], ⟨rfl, rfl, rfl, rfl, rfl, trivial⟩, hb48, (Ext.draw _), hS81, rfl⟩
              · skip
                rw [if_neg hg82] at hb48
                refine DM.know 51 rfl (congrArg Value.bool (Bool.eq_false_iff.2 hg82)) ?_
                refine DM.run (fuel := 22) ttok hsk80 [4, 5, 6] 127 (by kernel_rfl) (by kernel_rfl) rfl ?_
                refine DM.load1 ttok hsk80 7 255 (by kernel_rfl) (by kernel_rfl) (by kernel_rfl) (by kernel_rfl) rfl (by kernel_rfl) rfl rfl rfl rfl rfl (At.ext (hE.trans hS74.ext) g0_) 0 rfl rfl rfl rfl ?_
                refine DM.loadN ttok hsk80 8 511 (by kernel_rfl) (by kernel_rfl) (by kernel_rfl) (by kernel_rfl) rfl (by kernel_rfl) rfl rfl rfl rfl rfl ((hS74.bring 0 rfl).box) rfl rfl rfl ?_
                obtain ⟨r83, hx84, hb48⟩ := bind_some hb48
                refine DM.one hsk80 9 (by kernel_rfl) (LM.call hsk80 1023 (by kernel_rfl) (by kernel_rfl) rfl rfl rfl rfl enters50 (spec_l11Port_ok (hE.trans hS81.ext) h3 (ty38_shut x60) hx84) (fun v85 w86 hR87 => ?_))
                obtain ⟨rfl, hR88⟩ := hR87
                refine ⟨hR88.ext, ?_⟩
                have hS89 := hS81.join hR88
                refine DM.run (fuel := 16) ttok hsk80 [10, 11, 12] 8191 (by kernel_rfl) (by kernel_rfl) rfl ?_
                refine DM.weak [(0, .pointer (some p0_)), (3, .int .i64 s14), (4, .pointer (some p29)), (5, .int .i64 s40), (6, .pointer (some ⟨g53, 0, none⟩)), (7, .pointer (some ⟨g68, 0, none⟩)), (60, .bool (!r83))] ⟨rfl, rfl, rfl, rfl, rfl, rfl, rfl, trivial⟩ ?_
                by_cases hg90 : (!r83) = true
                · skip
                  rw [if_pos hg90] at hb48
                  refine DM.know 60 rfl (congrArg Value.bool hg90) ?_
                  refine DM.run (fuel := 0) ttok hsk80 [13, 14, 15, 16, 17, 18, 19, 20, 21, 22, 23, 24, 25, 26, 27, 28] 536870911 (by kernel_rfl) (by kernel_rfl) rfl ?_
                  refine DM.weak [(0, .pointer (some p0_)), (3, .int .i64 s14), (4, .pointer (some p29)), (5, .int .i64 s40), (76, .bool true)] ⟨rfl, rfl, rfl, rfl, rfl, trivial⟩ ?_
                  refine DM.done hsk80 (by kernel_rfl) ?_
                  exact ⟨true, [(0, .pointer (some p0_)), (3, .int .i64 s14), (4, .pointer (some p29)), (5, .int .i64 s40), (76, .bool true)], ⟨rfl, rfl, rfl, rfl, rfl, trivial⟩, hb48, ((Ext.draw _).trans hR88.ext), hS89, rfl⟩
                · skip
                  rw [if_neg hg90] at hb48
                  refine DM.know 60 rfl (congrArg Value.bool (Bool.eq_false_iff.2 hg90)) ?_
                  refine DM.run (fuel := 11) ttok hsk80 [13, 14, 15, 17, 22] 4390911 (by kernel_rfl) (by kernel_rfl) rfl ?_
                  refine DM.load1 ttok hsk80 16 4456447 (by kernel_rfl) (by kernel_rfl) (by kernel_rfl) (by kernel_rfl) rfl (by kernel_rfl) rfl rfl rfl rfl rfl (At.ext (hE.trans hS74.ext) g0_) 0 rfl rfl rfl rfl ?_
                  refine DM.load1 ttok hsk80 18 4718591 (by kernel_rfl) (by kernel_rfl) (by kernel_rfl) (by kernel_rfl) rfl (by kernel_rfl) rfl rfl rfl rfl rfl ((hS74.bring 0 rfl).box) 0 rfl rfl rfl rfl ?_
                  obtain ⟨x91, hx92, hb48⟩ := bind_some hb48
                  refine DM.idx ttok (hE.trans hS74.ext) hsk80 19 5242879 (by kernel_rfl) (by kernel_rfl) (by kernel_rfl) (by kernel_rfl) rfl (by kernel_rfl) rfl rfl rfl rfl rfl rfl (by decide) rfl rfl h3 (idx_some hx92).1 (idx_some hx92).2 rfl rfl (fun p93 es94 ha95 hr96 => ?_)
                  obtain ⟨A97, k98, A100, k101, e103, h99, h102⟩ := ty112_open hr96; subst e103
                  refine DM.run (fuel := 7) ttok hsk80 [20] 6291455 (by kernel_rfl) (by kernel_rfl) rfl ?_
                  refine DM.weak [(0, .pointer (some p0_)), (3, .int .i64 s14), (4, .pointer (some p29)), (5, .int .i64 s40), (6, .pointer (some ⟨g53, 0, none⟩)), (60, .bool false), (68, .pointer (some (p93.add 4))), (70, .pointer (some ⟨g68, 1, none⟩))] ⟨rfl, rfl, rfl, rfl, rfl, rfl, rfl, rfl, trivial⟩ ?_
                  refine DM.load1 ttok hsk80 21 8388607 (by kernel_rfl) (by kernel_rfl) (by kernel_rfl) (by kernel_rfl) rfl (by kernel_rfl) rfl rfl rfl rfl rfl (At.ext (hE.trans hS74.ext) ha95) 4 rfl rfl rfl rfl ?_
                  refine DM.load1 ttok hsk80 23 16777215 (by kernel_rfl) (by kernel_rfl) (by kernel_rfl) (by kernel_rfl) rfl (by kernel_rfl) rfl rfl rfl rfl rfl ((hS74.bring 0 rfl).box) 1 rfl rfl rfl rfl ?_
                  obtain ⟨x104, hx105, hb48⟩ := bind_some hb48
                  refine DM.idx ttok (hE.trans hS74.ext) hsk80 24 33554431 (by kernel_rfl) (by kernel_rfl) (by kernel_rfl) (by kernel_rfl) rfl (by kernel_rfl) rfl rfl rfl rfl rfl rfl (by decide) rfl rfl h102 (idx_some hx105).1 (idx_some hx105).2 rfl rfl (fun p106 es107 ha108 hr109 => ?_)
                  have e110 := ty38_open hr109; subst e110
                  refine DM.loadN ttok hsk80 25 67108863 (by kernel_rfl) (by kernel_rfl) (by kernel_rfl) (by kernel_rfl) rfl (by kernel_rfl) rfl rfl rfl rfl rfl (At.ext (hE.trans hS74.ext) ha108) rfl rfl rfl ?_
                  refine DM.loadN ttok hsk80 26 134217727 (by kernel_rfl) (by kernel_rfl) (by kernel_rfl) (by kernel_rfl) rfl (by kernel_rfl) rfl rfl rfl rfl rfl ((hS74.bring 1 rfl).box) rfl rfl rfl ?_
                  refine DM.run (fuel := 0) ttok hsk80 [27, 28] 536870911 (by kernel_rfl) (by kernel_rfl) rfl ?_
                  refine DM.weak [(0, .pointer (some p0_)), (3, .int .i64 s14), (4, .pointer (some p29)), (5, .int .i64 s40), (76, .bool (!(((x104.Agent : Int) == s14) && (((x104.Slot : Int) == s40) && true))))] ⟨rfl, rfl, rfl, rfl, rfl, trivial⟩ ?_
                  refine DM.done hsk80 (by kernel_rfl) ?_
                  exact ⟨!(((x104.Agent : Int) == s14) && (((x104.Slot : Int) == s40) && true)), [(0, .pointer (some p0_)), (3, .int .i64 s14), (4, .pointer (some p29)), (5, .int .i64 s40), (76, .bool (!(((x104.Agent : Int) == s14) && (((x104.Slot : Int) == s40) && true))))], ⟨rfl, rfl, rfl, rfl, rfl, trivial⟩, hb48, ((Ext.draw _).trans hR88.ext), hS89, rfl⟩
          · skip
            rw [if_neg (not_t hc)] at hb48
            refine WP.exit ?_
            cases hb48
            exact ⟨_, [(0, .pointer (some p0_)), (3, .int .i64 s14)], ⟨rfl, rfl, trivial⟩, ho49, hS51, rfl⟩
      · skip
        rw [if_neg (not_t hc)] at hb22
        refine WP.exit ?_
        cases hb22
        exact ⟨_, [], trivial, ho23, hS25, rfl⟩

theorem enters63 : Enters Try.prog 63 := ⟨_, _, Try.func63, rfl, by kernel_rfl⟩
def m_impl_areAgents_j2 (fuel : Nat) (t7 : Unit) : Option Bool := some true
def m_impl_areAgents_j3 (fuel : Nat) (s6 : Int) (t41 : Bool) : Option (Rd (Int) (Unit) (Bool)) := (if t41 = true then some (.ret false) else some (.next (w64 (s6 + 1))))
def m_impl_areAgents_b1 (fuel : Nat) (x0 : (List D.Agent)) (s6 : Int) : Option (Rd (Int) (Unit) (Bool)) := (if (decide (s6 < (x0.length : Int))) = true then ((idx x0 s6).bind fun x21 => ((m_impl_wellFormed fuel x21).bind fun r46 => (if (!r46) = true then m_impl_areAgents_j3 fuel s6 true else m_impl_areAgents_j3 fuel s6 (!((x21.Kind == 1) == (s6 == 0)))))) else some (.brk ()))
def m_impl_areAgents_j1 (fuel : Nat) (x0 : (List D.Agent)) (t1 : Bool) : Option Bool := (if t1 = true then some false else ((iter (m_impl_areAgents_b1 fuel x0) fuel 0).bind fun o => aft o (m_impl_areAgents_j2 fuel)))
def m_impl_areAgents (fuel : Nat) (x0 : (List D.Agent)) : Option (Bool) := (if (decide ((x0.length : Int) < 1)) = true then m_impl_areAgents_j1 fuel x0 true else m_impl_areAgents_j1 fuel x0 (decide ((x0.length : Int) > 600)))

set_option maxRecDepth 100000 in
theorem impl_areAgents_ok {W w : World} (hE : Ext W w) {A0_ : Option Addr} {k0_ : Nat} {x0 : (List D.Agent)} (h0_ : ty28.ro W [.slice A0_ x0.length k0_] x0) {fuel : Nat} {r : Bool} (hm : m_impl_areAgents fuel x0 = some r) :
    Calls Try.prog 63 ⟨[.slice A0_ x0.length k0_]⟩ w (Ret fun v w8 => v = .bool r ∧ St w w8 []) := by
  refine Calls.into Try.func63 rfl 32 rfl rfl _ rfl ?_
  unfold m_impl_areAgents at hm
  have hS := St.start w
  refine WP.seq ?_
  refine WP.region ?_
  refine RW.run ttok 1 rfl ?_
  refine RW.nil ?_
  refine WP.seq ?_
  refine WP.seq ?_
  refine WP.cut (fun (t1 : Bool) F w9 => m_impl_areAgents_j1 fuel x0 t1 = some r ∧ Ext w w9 ∧ St w w9 [] ∧ F = [(0, .slice A0_ x0.length k0_), (12, .bool t1)]) ?_ ?_
  · skip
    rintro t1 F w4 ⟨hm, hE2, hS3, rfl⟩
    unfold m_impl_areAgents_j1 at hm
    refine WP.cond t1 rfl (fun hc => ?_) (fun hc => ?_)
    · skip
      rw [if_pos hc] at hm
      refine WP.seq ?_
      refine WP.region ?_
      refine RW.run ttok 1 rfl ?_
      refine RW.nil ?_
      refine WP.ret ?_
      cases hm
      exact ⟨_, .cons (.tmp rfl) .nil, rfl, hS3⟩
    · skip
      rw [if_neg (not_t hc)] at hm
      refine WP.skip ?_
      refine WP.seq ?_
      refine WP.seq ?_
      refine WP.region ?_
      refine RW.run ttok 3 rfl ?_
      refine RW.nil ?_
      obtain ⟨o12, hl13, hm⟩ := bind_some hm
      refine WP.cut (fun (t7 : Unit) F w9 => o12 = .inl t7 ∧ St w w9 [] ∧ F = []) ?_ ?_
      · skip
        rintro t7 F w11 ⟨ho15, hS14, rfl⟩
        subst ho15
        rw [aft_inl] at hm
        unfold m_impl_areAgents_j2 at hm
        refine WP.seq ?_
        refine WP.region ?_
        refine RW.run ttok 1 rfl ?_
        refine RW.nil ?_
        refine WP.ret ?_
        cases hm
        exact ⟨_, .cons (.tmp rfl) .nil, rfl, hS14⟩
      · skip
        refine WP.block ?_
        refine WP.weak [(13, .slice A0_ x0.length k0_), (14, .int .i64 (x0.length : Int)), (15, .int .i64 0)] ⟨rfl, rfl, rfl, trivial⟩ ?_
        refine WP.iter (fun (s6 : Int) F w9 => St w w9 [] ∧ F = [(13, .slice A0_ x0.length k0_), (14, .int .i64 (x0.length : Int)), (15, .int .i64 s6)]) _ hl13 ⟨hS3, rfl⟩ ?_
        rintro s6 F w20 _ o18 ⟨hS19, rfl⟩ hb16 ho17
        unfold m_impl_areAgents_b1 at hb16
        refine WP.seq ?_
        refine WP.region ?_
        refine RW.run ttok 1 rfl ?_
        refine RW.nil ?_
        refine WP.seq ?_
        refine WP.cond (decide (s6 < (x0.length : Int))) rfl (fun hc => ?_) (fun hc => ?_)
        · skip
          rw [if_pos hc] at hb16
          refine WP.skip ?_
          refine WP.seq ?_
          refine WP.block ?_
          refine WP.seq ?_
          refine WP.region ?_
          refine RW.run ttok 1 rfl ?_
          obtain ⟨x21, hx22, hb16⟩ := bind_some hb16
          refine RW.idx ttok (hE.trans hS19.ext) rfl rfl rfl rfl rfl rfl (by decide) rfl rfl h0_ (idx_some hx22).1 (idx_some hx22).2 rfl rfl (fun p23 es24 ha25 hr26 => ?_)
          obtain ⟨A27, k28, A30, k31, e33, h29, h32⟩ := ty112_open hr26; subst e33
          refine RW.loadN ttok rfl rfl rfl rfl rfl (At.ext (hE.trans hS19.ext) ha25) rfl rfl rfl ?_
          refine RW.new ttok hS19 rfl rfl rfl rfl (fun g34 w35 e36 hS37 => ?_)
          refine RW.run ttok 1 rfl ?_
          have hS38 := hS37.bring 0 rfl
          refine RW.store ttok (A := []) hS38 rfl rfl rfl rfl rfl 0 rfl rfl rfl rfl rfl (fun w39 hS40 => ?_)
          refine RW.nil ?_
          refine WP.seq ?_
          refine WP.cut (fun (t41 : Bool) F w9 => m_impl_areAgents_j3 fuel s6 t41 = some o18 ∧ Ext w39 w9 ∧ St w w9 [Box g34 [.int .i64 x21.Kind, .int .i64 x21.Level, .int .i64 x21.Value, .slice A27 x21.Data.length k28, .slice A30 x21.Ports.length k31] 112] ∧ F = [(13, .slice A0_ x0.length k0_), (14, .int .i64 (x0.length : Int)), (15, .int .i64 s6), (30, .bool t41)]) ?_ ?_
          · skip
            rintro t41 F w44 ⟨hb16, hE42, hS43, rfl⟩
            unfold m_impl_areAgents_j3 at hb16
            refine WP.cond t41 rfl (fun hc => ?_) (fun hc => ?_)
            · skip
              rw [if_pos hc] at hb16
              refine WP.seq ?_
              refine WP.region ?_
              refine RW.run ttok 1 rfl ?_
              refine RW.nil ?_
              refine WP.ret ?_
              cases hb16
              cases ho17
              have hm : some _ = some _ := hm
              cases hm
              exact ⟨_, .cons (.tmp rfl) .nil, rfl, (hS43.taken 0)⟩
            · skip
              rw [if_neg (not_t hc)] at hb16
              refine WP.skip ?_
              refine WP.region ?_
              refine RW.run ttok 2 rfl ?_
              refine RW.nil ?_
              cases hb16
              exact ⟨_, [(13, .slice A0_ x0.length k0_), (14, .int .i64 (x0.length : Int)), (15, .int .i64 (w64 (s6 + 1)))], ⟨rfl, rfl, rfl, trivial⟩, rfl, (hS43.taken 0), rfl⟩
          · skip
            refine WP.region ?_
            refine RW.loadN ttok rfl rfl rfl rfl rfl ((hS40.bring 0 rfl).box) rfl rfl rfl ?_
            obtain ⟨r46, hx47, hb16⟩ := bind_some hb16
            refine RW.call rfl rfl rfl enters125 (impl_wellFormed_ok (hE.trans hS40.ext) (ty112_shut x21 h29 h32) hx47) (fun v48 w49 hR50 => ?_)
            obtain ⟨rfl, hR51⟩ := hR50
            have hS52 := hS40.join hR51
            refine RW.run ttok 2 rfl ?_
            by_cases hg53 : (!r46) = true
            · skip
              rw [if_pos hg53] at hb16
              refine RW.know 23 rfl (congrArg Value.bool hg53) ?_
              refine RW.run ttok 7 rfl ?_
              refine RW.nil ?_
              exact ⟨true, [(13, .slice A0_ x0.length k0_), (14, .int .i64 (x0.length : Int)), (15, .int .i64 s6), (30, .bool true)], ⟨rfl, rfl, rfl, rfl, trivial⟩, hb16, hR51.ext, hS52, rfl⟩
            · skip
              rw [if_neg hg53] at hb16
              refine RW.know 23 rfl (congrArg Value.bool (Bool.eq_false_iff.2 hg53)) ?_
              refine RW.run ttok 1 rfl ?_
              refine RW.load1 ttok rfl rfl rfl rfl rfl ((hS52.bring 0 rfl).box) 0 rfl rfl rfl rfl ?_
              refine RW.run ttok 5 rfl ?_
              refine RW.nil ?_
              exact ⟨!((x21.Kind == 1) == (s6 == 0)), [(13, .slice A0_ x0.length k0_), (14, .int .i64 (x0.length : Int)), (15, .int .i64 s6), (30, .bool (!((x21.Kind == 1) == (s6 == 0))))], ⟨rfl, rfl, rfl, rfl, trivial⟩, hb16, hR51.ext, hS52, rfl⟩
        · skip
          rw [if_neg (not_t hc)] at hb16
          refine WP.exit ?_
          cases hb16
          exact ⟨_, [], trivial, ho17, hS19, rfl⟩
  · skip
    refine WP.region ?_
    refine RW.run ttok 4 rfl ?_
    by_cases hg54 : (decide ((x0.length : Int) < 1)) = true
    · skip
      rw [if_pos hg54] at hm
      refine RW.know 8 rfl (congrArg Value.bool hg54) ?_
      refine RW.run ttok 4 rfl ?_
      refine RW.nil ?_
      exact ⟨true, [(0, .slice A0_ x0.length k0_), (12, .bool true)], ⟨rfl, rfl, trivial⟩, hm, (Ext.refl _), hS, rfl⟩
    · skip
      rw [if_neg hg54] at hm
      refine RW.know 8 rfl (congrArg Value.bool (Bool.eq_false_iff.2 hg54)) ?_
      refine RW.run ttok 4 rfl ?_
      refine RW.nil ?_
      exact ⟨decide ((x0.length : Int) > 600), [(0, .slice A0_ x0.length k0_), (12, .bool (decide ((x0.length : Int) > 600)))], ⟨rfl, rfl, trivial⟩, hm, (Ext.refl _), hS, rfl⟩

theorem enters66 : Enters Try.prog 66 := ⟨_, _, Try.func66, rfl, by kernel_rfl⟩
def m_impl_Net_ports_j1 (fuel : Nat) (t6 : (List D.Port)) : Option (List D.Port) := some t6
def m_impl_Net_ports_j2 (fuel : Nat) (s5 : (List D.Port) × Int) (t48 : (List D.Port)) : Option (Rd ((List D.Port) × Int) ((List D.Port)) ((List D.Port))) := some (.next (t48, w64 (s5.2 + 1)))
def m_impl_Net_ports_b2 (fuel : Nat) (s5 : (List D.Port) × Int) (x27 : D.Agent) (s47 : Int × (List D.Port)) : Option (Rd (Int × (List D.Port)) ((List D.Port)) (Rd ((List D.Port) × Int) ((List D.Port)) ((List D.Port)))) := (if (decide (s47.1 < (x27.Ports.length : Int))) = true then (if decide ((s47.2.length : Int) + (([(⟨s5.2, s47.1⟩ : D.Port)] : (List D.Port)).length : Int) ≤ 4294967296) = true then some (.next (w64 (s47.1 + 1), (s47.2 ++ ([(⟨s5.2, s47.1⟩ : D.Port)] : (List D.Port))))) else none) else some (.brk s47.2))
def m_impl_Net_ports_b1 (fuel : Nat) (x0 : D.Net) (s5 : (List D.Port) × Int) : Option (Rd ((List D.Port) × Int) ((List D.Port)) ((List D.Port))) := (if (decide (s5.2 < (x0.Agents.length : Int))) = true then ((idx x0.Agents s5.2).bind fun x27 => ((iter (m_impl_Net_ports_b2 fuel s5 x27) fuel (0, s5.1)).bind fun o => aft o (m_impl_Net_ports_j2 fuel s5))) else some (.brk s5.1))
def m_impl_Net_ports (fuel : Nat) (x0 : D.Net) : Option ((List D.Port)) := ((iter (m_impl_Net_ports_b1 fuel x0) fuel ([], 0)).bind fun o => aft o (m_impl_Net_ports_j1 fuel))

set_option maxRecDepth 100000 in
theorem impl_Net_ports_ok {W w : World} (hE : Ext W w) {p0_ : Addr} {c0_ : List Value} {x0 : D.Net} (h0_ : ty30.ro W c0_ x0) (g0_ : At W p0_ c0_) {fuel : Nat} {r : (List D.Port)} (hm : m_impl_Net_ports fuel x0 = some r) :
    Calls Try.prog 66 ⟨[.pointer (some p0_)]⟩ w (Ret fun v w8 => ∃ A0 k0, v = .slice A0 r.length k0 ∧ St w w8 [Own ty110 [.slice A0 r.length k0] r]) := by
  obtain ⟨A1, k2, e4, h3⟩ := ty30_open h0_; subst e4
  refine Calls.into Try.func66 rfl 32 rfl rfl _ rfl ?_
  unfold m_impl_Net_ports at hm
  have hS := St.start w
  refine WP.seq ?_
  refine WP.region ?_
  refine RW.run ttok 1 rfl ?_
  refine RW.nil ?_
  refine WP.seq ?_
  refine WP.region ?_
  refine RW.run ttok 1 rfl ?_
  refine RW.nil ?_
  refine WP.seq ?_
  refine WP.seq ?_
  refine WP.region ?_
  refine RW.run ttok 3 rfl ?_
  refine RW.load1 ttok rfl rfl rfl rfl rfl (At.ext (hE.trans hS.ext) g0_) 0 rfl rfl rfl rfl ?_
  refine RW.run ttok 2 rfl ?_
  refine RW.nil ?_
  obtain ⟨o17, hl18, hm⟩ := bind_some hm
  refine WP.cut (fun (t6 : (List D.Port)) F w9 => ∃ A14 k15, o17 = .inl t6 ∧ St w w9 [Own ty110 [.slice A14 t6.length k15] t6] ∧ F = [(3, .slice A14 t6.length k15)]) ?_ ?_
  · skip
    rintro t6 F w16 ⟨A14, k15, ho20, hS19, rfl⟩
    subst ho20
    rw [aft_inl] at hm
    unfold m_impl_Net_ports_j1 at hm
    refine WP.seq ?_
    refine WP.region ?_
    refine RW.run ttok 2 rfl ?_
    refine RW.nil ?_
    refine WP.ret ?_
    cases hm
    exact ⟨_, .cons (.tmp rfl) .nil, A14, k15, rfl, hS19⟩
  · skip
    refine WP.block ?_
    have hS21 := hS.nilSl ty38 38
    refine WP.weak [(3, .slice none 0 0), (10, .slice A1 x0.Agents.length k2), (11, .int .i64 (x0.Agents.length : Int)), (12, .int .i64 0)] ⟨rfl, rfl, rfl, rfl, trivial⟩ ?_
    refine WP.iter (fun (s5 : (List D.Port) × Int) F w9 => ∃ A12 k13, St w w9 [Own ty110 [.slice A12 s5.1.length k13] s5.1] ∧ F = [(3, .slice A12 s5.1.length k13), (10, .slice A1 x0.Agents.length k2), (11, .int .i64 (x0.Agents.length : Int)), (12, .int .i64 s5.2)]) _ hl18 ⟨none, 0, hS21, rfl⟩ ?_
    rintro s5 F w26 _ o24 ⟨A12, k13, hS25, rfl⟩ hb22 ho23
    unfold m_impl_Net_ports_b1 at hb22
    refine WP.seq ?_
    refine WP.region ?_
    refine RW.run ttok 1 rfl ?_
    refine RW.nil ?_
    refine WP.seq ?_
    refine WP.cond (decide (s5.2 < (x0.Agents.length : Int))) rfl (fun hc => ?_) (fun hc => ?_)
    · skip
      rw [if_pos hc] at hb22
      refine WP.skip ?_
      refine WP.seq ?_
      refine WP.block ?_
      refine WP.seq ?_
      refine WP.region ?_
      refine RW.run ttok 1 rfl ?_
      obtain ⟨x27, hx28, hb22⟩ := bind_some hb22
      refine RW.idx ttok (hE.trans hS25.ext) rfl rfl rfl rfl rfl rfl (by decide) rfl rfl h3 (idx_some hx28).1 (idx_some hx28).2 rfl rfl (fun p29 es30 ha31 hr32 => ?_)
      obtain ⟨A33, k34, A36, k37, e39, h35, h38⟩ := ty112_open hr32; subst e39
      refine RW.loadN ttok rfl rfl rfl rfl rfl (At.ext (hE.trans hS25.ext) ha31) rfl rfl rfl ?_
      refine RW.new ttok hS25 rfl rfl rfl rfl (fun g40 w41 e42 hS43 => ?_)
      refine RW.run ttok 1 rfl ?_
      have hS44 := hS43.bring 0 rfl
      refine RW.store ttok (A := []) hS44 rfl rfl rfl rfl rfl 0 rfl rfl rfl rfl rfl (fun w45 hS46 => ?_)
      refine RW.nil ?_
      refine WP.seq ?_
      refine WP.region ?_
      refine RW.run ttok 1 rfl ?_
      refine RW.load1 ttok rfl rfl rfl rfl rfl ((hS46.bring 0 rfl).box) 4 rfl rfl rfl rfl ?_
      refine RW.run ttok 2 rfl ?_
      refine RW.nil ?_
      obtain ⟨o57, hl58, hb22⟩ := bind_some hb22
      refine WP.cut (fun (t48 : (List D.Port)) F w9 => ∃ A54 k55, o57 = .inl t48 ∧ St w w9 [Box g40 [.int .i64 x27.Kind, .int .i64 x27.Level, .int .i64 x27.Value, .slice A33 x27.Data.length k34, .slice A36 x27.Ports.length k37] 112, Own ty110 [.slice A54 t48.length k55] t48] ∧ F = [(3, .slice A54 t48.length k55), (10, .slice A1 x0.Agents.length k2), (11, .int .i64 (x0.Agents.length : Int)), (12, .int .i64 s5.2)]) ?_ ?_
      · skip
        rintro t48 F w56 ⟨A54, k55, ho60, hS59, rfl⟩
        subst ho60
        rw [aft_inl] at hb22
        unfold m_impl_Net_ports_j2 at hb22
        refine WP.region ?_
        refine RW.run ttok 2 rfl ?_
        refine RW.nil ?_
        cases hb22
        exact ⟨_, [(3, .slice A54 t48.length k55), (10, .slice A1 x0.Agents.length k2), (11, .int .i64 (x0.Agents.length : Int)), (12, .int .i64 (w64 (s5.2 + 1)))], ⟨rfl, rfl, rfl, rfl, trivial⟩, rfl, A54, k55, ((hS59.bring 1 rfl).taken 1), rfl⟩
      · skip
        refine WP.block ?_
        refine WP.weak [(3, .slice A12 s5.1.length k13), (4, .int .i64 s5.2), (10, .slice A1 x0.Agents.length k2), (11, .int .i64 (x0.Agents.length : Int)), (12, .int .i64 s5.2), (19, .int .i64 (x27.Ports.length : Int)), (20, .int .i64 0)] ⟨rfl, rfl, rfl, rfl, rfl, rfl, rfl, trivial⟩ ?_
        refine WP.iter (fun (s47 : Int × (List D.Port)) F w9 => ∃ A52 k53, St w w9 [Box g40 [.int .i64 x27.Kind, .int .i64 x27.Level, .int .i64 x27.Value, .slice A33 x27.Data.length k34, .slice A36 x27.Ports.length k37] 112, Own ty110 [.slice A52 s47.2.length k53] s47.2] ∧ F = [(3, .slice A52 s47.2.length k53), (4, .int .i64 s5.2), (10, .slice A1 x0.Agents.length k2), (11, .int .i64 (x0.Agents.length : Int)), (12, .int .i64 s5.2), (19, .int .i64 (x27.Ports.length : Int)), (20, .int .i64 s47.1)]) _ hl58 ⟨A12, k13, hS46, rfl⟩ ?_
        rintro s47 F w66 _ o63 ⟨A52, k53, hS65, rfl⟩ hb61 ho62
        unfold m_impl_Net_ports_b2 at hb61
        refine WP.seq ?_
        refine WP.region ?_
        refine RW.run ttok 1 rfl ?_
        refine RW.nil ?_
        refine WP.seq ?_
        refine WP.cond (decide (s47.1 < (x27.Ports.length : Int))) rfl (fun hc => ?_) (fun hc => ?_)
        · skip
          rw [if_pos hc] at hb61
          refine WP.skip ?_
          refine WP.seq ?_
          refine WP.block ?_
          refine WP.seq ?_
          refine WP.region ?_
          refine RW.run ttok 2 rfl ?_
          refine RW.nil ?_
          refine WP.region ?_
          refine RW.run ttok 3 rfl ?_
          refine RW.quiet rfl (Quiet.build ttok rfl rfl rfl rfl rfl) rfl rfl ?_
          refine RW.newSlice (U := ty38) (els := [.int .i64 s5.2, .int .i64 s47.1]) (ys := [(⟨s5.2, s47.1⟩ : D.Port)]) ttok (hS65.flatEls (U := ty38) (els := [.int .i64 s5.2, .int .i64 s47.1]) (ys := [(⟨s5.2, s47.1⟩ : D.Port)]) ⟨[.int .i64 s5.2, .int .i64 s47.1], _, [], [], rfl, rfl, (ty38_ownI (c := (⟨s5.2, s47.1⟩ : D.Port)) rfl), ⟨rfl, rfl⟩⟩) rfl rfl rfl rfl rfl rfl rfl rfl rfl rfl rfl rfl (fun A67 k68 w69 e70 hS71 => ?_)
          have hS72 := hS71.bring 2 rfl
          by_cases hk73 : decide ((s47.2.length : Int) + (([(⟨s5.2, s47.1⟩ : D.Port)] : (List D.Port)).length : Int) ≤ 4294967296) = true
          case neg => rw [if_neg hk73] at hb61; cases hb61
          rw [if_pos hk73] at hb61
          refine RW.appendRo ttok (Flat.map (Flat.pair Flat.int (Flat.pair Flat.int Flat.unit))) hS72 rfl rfl rfl rfl rfl rfl (by decide) rfl rfl ((hS72.bring 1 rfl).own) (of_decide_eq_true hk73) (by decide) rfl rfl (fun A74 k75 w76 hS77 => ?_)
          refine RW.run ttok 1 rfl ?_
          refine RW.nil ?_
          refine WP.region ?_
          refine RW.run ttok 2 rfl ?_
          refine RW.nil ?_
          cases hb61
          exact ⟨_, [(3, .slice A74 (s47.2 ++ ([(⟨s5.2, s47.1⟩ : D.Port)] : (List D.Port))).length k75), (4, .int .i64 s5.2), (10, .slice A1 x0.Agents.length k2), (11, .int .i64 (x0.Agents.length : Int)), (12, .int .i64 s5.2), (19, .int .i64 (x27.Ports.length : Int)), (20, .int .i64 (w64 (s47.1 + 1)))], ⟨rfl, rfl, rfl, rfl, rfl, rfl, rfl, trivial⟩, rfl, A74, k75, (((hS77.bring 0 rfl).bring 2 rfl).taken 2), rfl⟩
        · skip
          rw [if_neg (not_t hc)] at hb61
          refine WP.exit ?_
          cases hb61
          exact ⟨_, [(3, .slice A52 s47.2.length k53), (10, .slice A1 x0.Agents.length k2), (11, .int .i64 (x0.Agents.length : Int)), (12, .int .i64 s5.2)], ⟨rfl, rfl, rfl, rfl, trivial⟩, A52, k53, ho62, hS65, rfl⟩
    · skip
      rw [if_neg (not_t hc)] at hb22
      refine WP.exit ?_
      cases hb22
      exact ⟨_, [(3, .slice A12 s5.1.length k13)], ⟨rfl, trivial⟩, A12, k13, ho23, hS25, rfl⟩

theorem enters169 : Enters Try.prog 169 := ⟨_, _, Try.func169, rfl, by kernel_rfl⟩
def m_slices_IndexFunc_impl_Port_impl_Port_j1 (fuel : Nat) (t2 : Unit) : Option Int := some (-1)
def m_slices_IndexFunc_impl_Port_impl_Port_b1 (fuel : Nat) (x0 : (List D.Port)) (x1 : D.Port → Option Bool) (s1 : Int) : Option (Rd (Int) (Unit) (Int)) := (if (decide (s1 < (x0.length : Int))) = true then ((idx x0 s1).bind fun x19 => ((x1 x19).bind fun r26 => (if r26 = true then some (.ret s1) else some (.next (w64 (s1 + 1)))))) else some (.brk ()))
def m_slices_IndexFunc_impl_Port_impl_Port (fuel : Nat) (x0 : (List D.Port)) (x1 : D.Port → Option Bool) : Option (Int) := ((iter (m_slices_IndexFunc_impl_Port_impl_Port_b1 fuel x0 x1) fuel 0).bind fun o => aft o (m_slices_IndexFunc_impl_Port_impl_Port_j1 fuel))

set_option maxRecDepth 100000 in
theorem slices_IndexFunc_impl_Port_impl_Port_ok {W w : World} (hE : Ext W w) {A0_ : Option Addr} {k0_ : Nat} {x0 : (List D.Port)} {f1_ : Nat} {u1_ : List Value} {x1 : D.Port → Option Bool} (h0_ : ty110.ro W [.slice A0_ x0.length k0_] x0) (h1_ : Enters Try.prog f1_ ∧ ∀ {w9 : World}, Ext W w9 → ∀ {cz0 : List Value} {z0 : D.Port} {y9 : Bool}, ty38.ro w9 cz0 z0 → x1 z0 = some y9 → Calls Try.prog f1_ ⟨[.agg ⟨cz0⟩] ++ u1_⟩ w9 (Ret fun v w8 => v = .bool y9 ∧ St w9 w8 [])) {fuel : Nat} {r : Int} (hm : m_slices_IndexFunc_impl_Port_impl_Port fuel x0 x1 = some r) :
    Calls Try.prog 169 ⟨[.slice A0_ x0.length k0_, .func (.func f1_) #[] ⟨u1_⟩]⟩ w (Ret fun v w8 => v = .int .i64 r ∧ St w w8 []) := by
  refine Calls.into Try.func169 rfl 19 rfl rfl _ rfl ?_
  unfold m_slices_IndexFunc_impl_Port_impl_Port at hm
  have hS := St.start w
  refine WP.seq ?_
  refine WP.region ?_
  refine RW.run ttok 1 rfl ?_
  refine RW.nil ?_
  refine WP.seq ?_
  refine WP.seq ?_
  refine WP.region ?_
  refine RW.run ttok 3 rfl ?_
  refine RW.nil ?_
  obtain ⟨o10, hl11, hm⟩ := bind_some hm
  refine WP.cut (fun (t2 : Unit) F w9 => o10 = .inl t2 ∧ Ext w w9 ∧ St w w9 [] ∧ F = []) ?_ ?_
  · skip
    rintro t2 F w7 ⟨ho13, hE6, hS12, rfl⟩
    subst ho13
    rw [aft_inl] at hm
    unfold m_slices_IndexFunc_impl_Port_impl_Port_j1 at hm
    refine WP.seq ?_
    refine WP.region ?_
    refine RW.run ttok 1 rfl ?_
    refine RW.nil ?_
    refine WP.ret ?_
    cases hm
    exact ⟨_, .cons (.tmp rfl) .nil, rfl, hS12⟩
  · skip
    refine WP.block ?_
    refine WP.weak [(0, .slice A0_ x0.length k0_), (1, .func (.func f1_) #[] ⟨u1_⟩), (7, .int .i64 (x0.length : Int)), (8, .int .i64 0)] ⟨rfl, rfl, rfl, rfl, trivial⟩ ?_
    refine WP.iter (fun (s1 : Int) F w9 => Ext w w9 ∧ St w w9 [] ∧ F = [(0, .slice A0_ x0.length k0_), (1, .func (.func f1_) #[] ⟨u1_⟩), (7, .int .i64 (x0.length : Int)), (8, .int .i64 s1)]) _ hl11 ⟨(Ext.refl _), hS, rfl⟩ ?_
    rintro s1 F w18 _ o16 ⟨hE5, hS17, rfl⟩ hb14 ho15
    unfold m_slices_IndexFunc_impl_Port_impl_Port_b1 at hb14
    refine WP.seq ?_
    refine WP.region ?_
    refine RW.run ttok 1 rfl ?_
    refine RW.nil ?_
    refine WP.seq ?_
    refine WP.cond (decide (s1 < (x0.length : Int))) rfl (fun hc => ?_) (fun hc => ?_)
    · skip
      rw [if_pos hc] at hb14
      refine WP.skip ?_
      refine WP.seq ?_
      refine WP.block ?_
      refine WP.seq ?_
      refine WP.region ?_
      refine RW.run ttok 2 rfl ?_
      refine RW.nil ?_
      refine WP.seq ?_
      refine WP.region ?_
      refine RW.run ttok 3 rfl ?_
      obtain ⟨x19, hx20, hb14⟩ := bind_some hb14
      refine RW.idx ttok (hE.trans hS17.ext) rfl rfl rfl rfl rfl rfl (by decide) rfl rfl h0_ (idx_some hx20).1 (idx_some hx20).2 rfl rfl (fun p21 es22 ha23 hr24 => ?_)
      have e25 := ty38_open hr24; subst e25
      refine RW.loadN ttok rfl rfl rfl rfl rfl (At.ext (hE.trans hS17.ext) ha23) rfl rfl rfl ?_
      obtain ⟨r26, hx27, hb14⟩ := bind_some hb14
      refine RW.call rfl rfl rfl h1_.1 (h1_.2 (hE.trans hS17.ext) (ty38.ext (hE.trans hS17.ext) hr24) hx27) (fun v28 w29 hR30 => ?_)
      obtain ⟨rfl, hR31⟩ := hR30
      have hS32 := hS17.join hR31
      refine RW.nil ?_
      refine WP.cond r26 rfl (fun hc => ?_) (fun hc => ?_)
      · skip
        rw [if_pos hc] at hb14
        refine WP.seq ?_
        refine WP.region ?_
        refine RW.run ttok 2 rfl ?_
        refine RW.nil ?_
        refine WP.ret ?_
        cases hb14
        cases ho15
        have hm : some _ = some _ := hm
        cases hm
        exact ⟨_, .cons (.tmp rfl) .nil, rfl, hS32⟩
      · skip
        rw [if_neg (not_t hc)] at hb14
        refine WP.skip ?_
        refine WP.region ?_
        refine RW.run ttok 2 rfl ?_
        refine RW.nil ?_
        cases hb14
        exact ⟨_, [(0, .slice A0_ x0.length k0_), (1, .func (.func f1_) #[] ⟨u1_⟩), (7, .int .i64 (x0.length : Int)), (8, .int .i64 (w64 (s1 + 1)))], ⟨rfl, rfl, rfl, rfl, trivial⟩, rfl, (hE5.trans hR31.ext), hS32, rfl⟩
    · skip
      rw [if_neg (not_t hc)] at hb14
      refine WP.exit ?_
      cases hb14
      exact ⟨_, [], trivial, ho15, hE5, hS17, rfl⟩

theorem enters113 : Enters Try.prog 113 := ⟨_, _, Try.func113, rfl, by kernel_rfl⟩
def m_slices_ContainsFunc_impl_Port_impl_Port (fuel : Nat) (x0 : (List D.Port)) (x1 : D.Port → Option Bool) : Option (Bool) := ((m_slices_IndexFunc_impl_Port_impl_Port fuel x0 x1).bind fun r1 => some (decide (r1 ≥ 0)))

set_option maxRecDepth 100000 in
theorem slices_ContainsFunc_impl_Port_impl_Port_ok {W w : World} (hE : Ext W w) {A0_ : Option Addr} {k0_ : Nat} {x0 : (List D.Port)} {f1_ : Nat} {u1_ : List Value} {x1 : D.Port → Option Bool} (h0_ : ty110.ro W [.slice A0_ x0.length k0_] x0) (h1_ : Enters Try.prog f1_ ∧ ∀ {w9 : World}, Ext W w9 → ∀ {cz0 : List Value} {z0 : D.Port} {y9 : Bool}, ty38.ro w9 cz0 z0 → x1 z0 = some y9 → Calls Try.prog f1_ ⟨[.agg ⟨cz0⟩] ++ u1_⟩ w9 (Ret fun v w8 => v = .bool y9 ∧ St w9 w8 [])) {fuel : Nat} {r : Bool} (hm : m_slices_ContainsFunc_impl_Port_impl_Port fuel x0 x1 = some r) :
    Calls Try.prog 113 ⟨[.slice A0_ x0.length k0_, .func (.func f1_) #[] ⟨u1_⟩]⟩ w (Ret fun v w8 => v = .bool r ∧ St w w8 []) := by
  refine Calls.into Try.func113 rfl 9 rfl rfl _ rfl ?_
  unfold m_slices_ContainsFunc_impl_Port_impl_Port at hm
  have hS := St.start w
  refine WP.seq ?_
  refine WP.region ?_
  refine RW.run ttok 1 rfl ?_
  refine RW.nil ?_
  refine WP.seq ?_
  refine WP.region ?_
  refine RW.run ttok 2 rfl ?_
  obtain ⟨r1, hx2, hm⟩ := bind_some hm
  refine RW.call rfl rfl rfl enters169 (slices_IndexFunc_impl_Port_impl_Port_ok (hE.trans hS.ext) h0_ h1_ hx2) (fun v3 w4 hR5 => ?_)
  obtain ⟨rfl, hR6⟩ := hR5
  have hS7 := hS.join hR6
  refine RW.run ttok 2 rfl ?_
  refine RW.nil ?_
  refine WP.ret ?_
  cases hm
  exact ⟨_, .cons (.tmp rfl) .nil, rfl, hS7⟩

theorem enters56 : Enters Try.prog 56 := ⟨_, _, Try.func56, rfl, by kernel_rfl⟩
def m_impl_Net_peer (fuel : Nat) (x0 : D.Net) (x1 : D.Port) : Option (D.Port) := ((idx x0.Agents x1.Agent).bind fun x18 => ((idx x18.Ports x1.Slot).bind fun x31 => some (⟨x31.Agent, x31.Slot⟩ : D.Port)))

set_option maxRecDepth 100000 in
theorem impl_Net_peer_ok {W w : World} (hE : Ext W w) {p0_ : Addr} {c0_ : List Value} {x0 : D.Net} {c1_ : List Value} {x1 : D.Port} (h0_ : ty30.ro W c0_ x0) (g0_ : At W p0_ c0_) (h1_ : ty38.ro W c1_ x1) {fuel : Nat} {r : D.Port} (hm : m_impl_Net_peer fuel x0 x1 = some r) :
    Calls Try.prog 56 ⟨[.pointer (some p0_), .agg ⟨c1_⟩]⟩ w (Ret fun v w8 => v = .agg ⟨[.int .i64 r.Agent, .int .i64 r.Slot]⟩ ∧ St w w8 []) := by
  obtain ⟨A1, k2, e4, h3⟩ := ty30_open h0_; subst e4
  have e5 := ty38_open h1_; subst e5
  refine Calls.into Try.func56 rfl 18 rfl rfl _ rfl ?_
  unfold m_impl_Net_peer at hm
  have hS := St.start w
  refine WP.seq ?_
  refine WP.region ?_
  refine RW.new ttok hS rfl rfl rfl rfl (fun g6 w7 e10 hS11 => ?_)
  refine RW.new ttok hS11 rfl rfl rfl rfl (fun g12 w13 e14 hS15 => ?_)
  refine RW.nil ?_
  refine WP.seq ?_
  refine WP.drawnM 8192 mixed 14 (by kernel_rfl) (by kernel_rfl) [([], 16383), ([0], 16382), ([1], 16381), ([2], 16379), ([], 16383), ([4], 16367), ([3, 5], 16343), ([6], 16319), ([7], 16255), ([], 16383), ([9], 15871), ([8, 10], 15103), ([11], 14335), ([12, 0, 1, 2, 3, 4, 5, 6, 7, 8, 9, 10, 11, 12], 12287)] (by kernel_rfl) hS15.ext (fun hsk16 => ?_)
  have hS17 := hS15.step (Ext.draw _)
  refine DM.run (fuel := 9) ttok hsk16 [0, 1, 2, 4, 9] 535 (by kernel_rfl) (by kernel_rfl) rfl ?_
  refine DM.load1 ttok hsk16 3 543 (by kernel_rfl) (by kernel_rfl) (by kernel_rfl) (by kernel_rfl) rfl (by kernel_rfl) rfl rfl rfl rfl rfl (At.ext (hE.trans hS15.ext) g0_) 0 rfl rfl rfl rfl ?_
  refine DM.load1 ttok hsk16 5 575 (by kernel_rfl) (by kernel_rfl) (by kernel_rfl) (by kernel_rfl) rfl (by kernel_rfl) rfl rfl rfl rfl rfl ((hS15.bring 1 rfl).box) 0 rfl rfl rfl rfl ?_
  obtain ⟨x18, hx19, hm⟩ := bind_some hm
  refine DM.idx ttok (hE.trans hS15.ext) hsk16 6 639 (by kernel_rfl) (by kernel_rfl) (by kernel_rfl) (by kernel_rfl) rfl (by kernel_rfl) rfl rfl rfl rfl rfl rfl (by decide) rfl rfl h3 (idx_some hx19).1 (idx_some hx19).2 rfl rfl (fun p20 es21 ha22 hr23 => ?_)
  obtain ⟨A24, k25, A27, k28, e30, h26, h29⟩ := ty112_open hr23; subst e30
  refine DM.run (fuel := 5) ttok hsk16 [7] 767 (by kernel_rfl) (by kernel_rfl) rfl ?_
  refine DM.weak [(4, .pointer (some ⟨g12, 0, none⟩)), (12, .pointer (some (p20.add 4))), (14, .pointer (some ⟨g6, 1, none⟩))] ⟨rfl, rfl, rfl, trivial⟩ ?_
  refine DM.load1 ttok hsk16 8 1023 (by kernel_rfl) (by kernel_rfl) (by kernel_rfl) (by kernel_rfl) rfl (by kernel_rfl) rfl rfl rfl rfl rfl (At.ext (hE.trans hS15.ext) ha22) 4 rfl rfl rfl rfl ?_
  refine DM.load1 ttok hsk16 10 2047 (by kernel_rfl) (by kernel_rfl) (by kernel_rfl) (by kernel_rfl) rfl (by kernel_rfl) rfl rfl rfl rfl rfl ((hS15.bring 1 rfl).box) 1 rfl rfl rfl rfl ?_
  obtain ⟨x31, hx32, hm⟩ := bind_some hm
  refine DM.idx ttok (hE.trans hS15.ext) hsk16 11 4095 (by kernel_rfl) (by kernel_rfl) (by kernel_rfl) (by kernel_rfl) rfl (by kernel_rfl) rfl rfl rfl rfl rfl rfl (by decide) rfl rfl h29 (idx_some hx32).1 (idx_some hx32).2 rfl rfl (fun p33 es34 ha35 hr36 => ?_)
  have e37 := ty38_open hr36; subst e37
  refine DM.loadN ttok hsk16 12 8191 (by kernel_rfl) (by kernel_rfl) (by kernel_rfl) (by kernel_rfl) rfl (by kernel_rfl) rfl rfl rfl rfl rfl (At.ext (hE.trans hS15.ext) ha35) rfl rfl rfl ?_
  have hS38 := hS17.bring 0 rfl
  refine DM.one hsk16 13 (by kernel_rfl) (LM.store ttok (A := []) hS38 hsk16 16383 (by kernel_rfl) (by kernel_rfl) rfl rfl rfl rfl rfl rfl 0 rfl rfl rfl rfl rfl (fun w39 hS40 => ?_))
  refine DM.done hsk16 (by kernel_rfl) ?_
  refine WP.ret ?_
  cases hm
  exact ⟨_, .cons (ResIs.agg ttok rfl rfl rfl ((hS40.bring 0 rfl).box) rfl) .nil, rfl, (hS40.taken 0)⟩

theorem enters54 : Enters Try.prog 54 := ⟨_, _, Try.func54, rfl, by kernel_rfl⟩
def m_impl_hasPort (fuel : Nat) (x0 : (List D.Agent)) (x1 : D.Port) : Option (Bool) := (if (decide (x1.Agent ≥ 0)) = true then (if (decide (x1.Agent < (x0.length : Int))) = true then (if (decide (x1.Slot ≥ 0)) = true then ((idx x0 x1.Agent).bind fun x13 => some (decide (x1.Slot < (x13.Ports.length : Int)))) else some false) else some false) else some false)

set_option maxRecDepth 100000 in
theorem impl_hasPort_ok {W w : World} (hE : Ext W w) {A0_ : Option Addr} {k0_ : Nat} {x0 : (List D.Agent)} {c1_ : List Value} {x1 : D.Port} (h0_ : ty28.ro W [.slice A0_ x0.length k0_] x0) (h1_ : ty38.ro W c1_ x1) {fuel : Nat} {r : Bool} (hm : m_impl_hasPort fuel x0 x1 = some r) :
    Calls Try.prog 54 ⟨[.slice A0_ x0.length k0_, .agg ⟨c1_⟩]⟩ w (Ret fun v w8 => v = .bool r ∧ St w w8 []) := by
  have e1 := ty38_open h1_; subst e1
  refine Calls.into Try.func54 rfl 32 rfl rfl _ rfl ?_
  unfold m_impl_hasPort at hm
  have hS := St.start w
  refine WP.seq ?_
  refine WP.region ?_
  refine RW.new ttok hS rfl rfl rfl rfl (fun g2 w3 e4 hS5 => ?_)
  refine RW.run ttok 1 rfl ?_
  refine RW.nil ?_
  refine WP.seq ?_
  refine WP.drawnM 0 mixed 28 (by kernel_rfl) (by kernel_rfl) [([], 268435455), ([0], 268435454), ([1], 268435453), ([2], 268435451), ([3], 268435447), ([4, 3], 268435431), ([3], 268435447), ([6, 3], 268435383), ([5, 7, 3], 268435287), ([3, 8], 268435191), ([9, 3], 268434943), ([10], 268434431), ([11, 10], 268432383), ([12, 10], 268430335), ([10, 13], 268426239), ([14, 10], 268419071), ([15], 268402687), ([16, 15], 268337151), ([15], 268402687), ([15], 268402687), ([19, 15], 267878399), ([18, 20, 15], 267091967), ([21, 15], 266305535), ([22, 15], 264208383), ([23, 15], 260014079), ([17, 24, 15], 251494399), ([15, 25], 234848255), ([26, 15, 0, 1, 2, 3, 4, 5, 6, 7, 8, 9, 10, 11, 12, 13, 14, 15, 16, 17, 18, 19, 20, 21, 22, 23, 24, 25, 26], 201326591)] (by kernel_rfl) hS5.ext (fun hsk6 => ?_)
  have hS7 := hS5.step (Ext.draw _)
  refine DM.run (fuel := 27) ttok hsk6 [0] 1 (by kernel_rfl) (by kernel_rfl) rfl ?_
  refine DM.load1 ttok hsk6 1 3 (by kernel_rfl) (by kernel_rfl) (by kernel_rfl) (by kernel_rfl) rfl (by kernel_rfl) rfl rfl rfl rfl rfl ((hS5.bring 0 rfl).box) 0 rfl rfl rfl rfl ?_
  refine DM.run (fuel := 24) ttok hsk6 [2, 3] 15 (by kernel_rfl) (by kernel_rfl) rfl ?_
  by_cases hg10 : (decide (x1.Agent ≥ 0)) = true
  · skip
    rw [if_pos hg10] at hm
    refine DM.know 8 rfl (congrArg Value.bool hg10) ?_
    refine DM.run (fuel := 21) ttok hsk6 [4, 6, 7] 223 (by kernel_rfl) (by kernel_rfl) rfl ?_
    refine DM.load1 ttok hsk6 5 255 (by kernel_rfl) (by kernel_rfl) (by kernel_rfl) (by kernel_rfl) rfl (by kernel_rfl) rfl rfl rfl rfl rfl ((hS5.bring 0 rfl).box) 0 rfl rfl rfl rfl ?_
    refine DM.run (fuel := 17) ttok hsk6 [8, 9, 10] 2047 (by kernel_rfl) (by kernel_rfl) rfl ?_
    refine DM.weak [(0, .slice A0_ x0.length k0_), (3, .pointer (some ⟨g2, 0, none⟩)), (4, .bool false), (15, .bool (decide (x1.Agent < (x0.length : Int))))] ⟨rfl, rfl, rfl, rfl, trivial⟩ ?_
    by_cases hg11 : (decide (x1.Agent < (x0.length : Int))) = true
    · skip
      rw [if_pos hg11] at hm
      refine DM.know 15 rfl (congrArg Value.bool hg11) ?_
      refine DM.run (fuel := 16) ttok hsk6 [11] 4095 (by kernel_rfl) (by kernel_rfl) rfl ?_
      refine DM.load1 ttok hsk6 12 8191 (by kernel_rfl) (by kernel_rfl) (by kernel_rfl) (by kernel_rfl) rfl (by kernel_rfl) rfl rfl rfl rfl rfl ((hS5.bring 0 rfl).box) 1 rfl rfl rfl rfl ?_
      refine DM.run (fuel := 12) ttok hsk6 [13, 14, 15] 65535 (by kernel_rfl) (by kernel_rfl) rfl ?_
      by_cases hg12 : (decide (x1.Slot ≥ 0)) = true
      · skip
        rw [if_pos hg12] at hm
        refine DM.know 20 rfl (congrArg Value.bool hg12) ?_
        refine DM.run (fuel := 9) ttok hsk6 [16, 18, 19] 917503 (by kernel_rfl) (by kernel_rfl) rfl ?_
        refine DM.weak [(4, .bool false), (20, .bool true), (21, .pointer (some ⟨g2, 1, none⟩)), (23, .slice A0_ x0.length k0_), (24, .pointer (some ⟨g2, 0, none⟩))] ⟨rfl, rfl, rfl, rfl, rfl, trivial⟩ ?_
        refine DM.load1 ttok hsk6 17 1048575 (by kernel_rfl) (by kernel_rfl) (by kernel_rfl) (by kernel_rfl) rfl (by kernel_rfl) rfl rfl rfl rfl rfl ((hS5.bring 0 rfl).box) 1 rfl rfl rfl rfl ?_
        refine DM.load1 ttok hsk6 20 2097151 (by kernel_rfl) (by kernel_rfl) (by kernel_rfl) (by kernel_rfl) rfl (by kernel_rfl) rfl rfl rfl rfl rfl ((hS5.bring 0 rfl).box) 0 rfl rfl rfl rfl ?_
        obtain ⟨x13, hx14, hm⟩ := bind_some hm
        refine DM.idx ttok (hE.trans hS5.ext) hsk6 21 4194303 (by kernel_rfl) (by kernel_rfl) (by kernel_rfl) (by kernel_rfl) rfl (by kernel_rfl) rfl rfl rfl rfl rfl rfl (by decide) rfl rfl h0_ (idx_some hx14).1 (idx_some hx14).2 rfl rfl (fun p15 es16 ha17 hr18 => ?_)
        obtain ⟨A19, k20, A22, k23, e25, h21, h24⟩ := ty112_open hr18; subst e25
        refine DM.run (fuel := 5) ttok hsk6 [22] 8388607 (by kernel_rfl) (by kernel_rfl) rfl ?_
        refine DM.load1 ttok hsk6 23 16777215 (by kernel_rfl) (by kernel_rfl) (by kernel_rfl) (by kernel_rfl) rfl (by kernel_rfl) rfl rfl rfl rfl rfl (At.ext (hE.trans hS5.ext) ha17) 4 rfl rfl rfl rfl ?_
        refine DM.run (fuel := 0) ttok hsk6 [24, 25, 26, 27] 268435455 (by kernel_rfl) (by kernel_rfl) rfl ?_
        refine DM.weak [(4, .bool (decide (x1.Slot < (x13.Ports.length : Int))))] ⟨rfl, trivial⟩ ?_
        refine DM.done hsk6 (by kernel_rfl) ?_
        refine WP.ret ?_
        cases hm
        exact ⟨_, .cons (.tmp rfl) .nil, rfl, (hS7.taken 0)⟩
      · skip
        rw [if_neg hg12] at hm
        refine DM.know 20 rfl (congrArg Value.bool (Bool.eq_false_iff.2 hg12)) ?_
        refine DM.run (fuel := 0) ttok hsk6 [16, 17, 18, 19, 20, 21, 22, 23, 24, 25, 26, 27] 268435455 (by kernel_rfl) (by kernel_rfl) rfl ?_
        refine DM.weak [(4, .bool false)] ⟨rfl, trivial⟩ ?_
        refine DM.done hsk6 (by kernel_rfl) ?_
        refine WP.ret ?_
        cases hm
        exact ⟨_, .cons (.tmp rfl) .nil, rfl, (hS7.taken 0)⟩
    · skip
      rw [if_neg hg11] at hm
      refine DM.know 15 rfl (congrArg Value.bool (Bool.eq_false_iff.2 hg11)) ?_
      refine DM.run (fuel := 0) ttok hsk6 [11, 12, 13, 14, 15, 16, 17, 18, 19, 20, 21, 22, 23, 24, 25, 26, 27] 268435455 (by kernel_rfl) (by kernel_rfl) rfl ?_
      refine DM.weak [(4, .bool false)] ⟨rfl, trivial⟩ ?_
      refine DM.done hsk6 (by kernel_rfl) ?_
      refine WP.ret ?_
      cases hm
      exact ⟨_, .cons (.tmp rfl) .nil, rfl, (hS7.taken 0)⟩
  · skip
    rw [if_neg hg10] at hm
    refine DM.know 8 rfl (congrArg Value.bool (Bool.eq_false_iff.2 hg10)) ?_
    refine DM.run (fuel := 0) ttok hsk6 [4, 5, 6, 7, 8, 9, 10, 11, 12, 13, 14, 15, 16, 17, 18, 19, 20, 21, 22, 23, 24, 25, 26, 27] 268435455 (by kernel_rfl) (by kernel_rfl) rfl ?_
    refine DM.weak [(4, .bool false)] ⟨rfl, trivial⟩ ?_
    refine DM.done hsk6 (by kernel_rfl) ?_
    refine WP.ret ?_
    cases hm
    exact ⟨_, .cons (.tmp rfl) .nil, rfl, (hS7.taken 0)⟩

theorem enters114 : Enters Try.prog 114 := ⟨_, _, Try.func114, rfl, by kernel_rfl⟩
def m_impl_ValidNet_c1 (fuel : Nat) (x0 : D.Port) (x1 : D.Net) : Option (Bool) := ((m_impl_Net_peer fuel x1 x0).bind fun r12 => (if (((r12.Agent : Int) == x0.Agent) && (((r12.Slot : Int) == x0.Slot) && true)) = true then some true else ((m_impl_hasPort fuel x1.Agents r12).bind fun r29 => (if (!r29) = true then some true else ((m_impl_Net_peer fuel x1 r12).bind fun r37 => some (!(((r37.Agent : Int) == x0.Agent) && (((r37.Slot : Int) == x0.Slot) && true))))))))

set_option maxRecDepth 100000 in
theorem impl_ValidNet_c1_ok {W w : World} (hE : Ext W w) {c0_ : List Value} {x0 : D.Port} {p1_ : Addr} {c1_ : List Value} {x1 : D.Net} (h0_ : ty38.ro W c0_ x0) (h1_ : ty30.ro W c1_ x1) (g1_ : At W p1_ c1_) {fuel : Nat} {r : Bool} (hm : m_impl_ValidNet_c1 fuel x0 x1 = some r) :
    Calls Try.prog 114 ⟨[.agg ⟨c0_⟩, .pointer (some p1_)]⟩ w (Ret fun v w8 => v = .bool r ∧ St w w8 []) := by
  have e1 := ty38_open h0_; subst e1
  obtain ⟨A2, k3, e5, h4⟩ := ty30_open h1_; subst e5
  refine Calls.into Try.func114 rfl 23 rfl rfl _ rfl ?_
  unfold m_impl_ValidNet_c1 at hm
  have hS := St.start w
  refine WP.seq ?_
  refine WP.region ?_
  refine RW.new ttok hS rfl rfl rfl rfl (fun g6 w7 e10 hS11 => ?_)
  refine RW.run ttok 1 rfl ?_
  refine RW.nil ?_
  refine WP.seq ?_
  refine WP.region ?_
  refine RW.loadN ttok rfl rfl rfl rfl rfl ((hS11.bring 0 rfl).box) rfl rfl rfl ?_
  obtain ⟨r12, hx13, hm⟩ := bind_some hm
  refine RW.call rfl rfl rfl enters56 (impl_Net_peer_ok (hE.trans hS11.ext) h1_ g1_ h0_ hx13) (fun v14 w15 hR16 => ?_)
  obtain ⟨rfl, hR17⟩ := hR16
  have hS18 := hS11.join hR17
  refine RW.new ttok hS18 rfl rfl rfl rfl (fun g19 w20 e21 hS22 => ?_)
  have hS23 := hS22.bring 0 rfl
  refine RW.store ttok (A := []) hS23 rfl rfl rfl rfl rfl 0 rfl rfl rfl rfl rfl (fun w24 hS25 => ?_)
  refine RW.nil ?_
  refine WP.seq ?_
  refine WP.drawnM 0 mixed 17 (by kernel_rfl) (by kernel_rfl) [([], 131071), ([], 131071), ([0, 1], 131068), ([2], 131067), ([3], 131063), ([4, 3], 131047), ([3], 131063), ([5, 6, 3, 3], 130967), ([7, 3], 130935), ([3, 8], 130807), ([9, 7], 130559), ([10], 130047), ([11, 10, 10], 127999), ([10], 130047), ([12, 13, 10], 117759), ([10, 14], 113663), ([15, 12, 0, 1, 2, 3, 4, 5, 6, 7, 8, 9, 10, 11, 12, 13, 14, 15], 98303)] (by kernel_rfl) hS25.ext (fun hsk26 => ?_)
  have hS27 := hS25.step (Ext.draw _)
  refine DM.loadN ttok hsk26 0 1 (by kernel_rfl) (by kernel_rfl) (by kernel_rfl) (by kernel_rfl) rfl (by kernel_rfl) rfl rfl rfl rfl rfl ((hS25.bring 0 rfl).box) rfl rfl rfl ?_
  refine DM.loadN ttok hsk26 1 3 (by kernel_rfl) (by kernel_rfl) (by kernel_rfl) (by kernel_rfl) rfl (by kernel_rfl) rfl rfl rfl rfl rfl ((hS25.bring 1 rfl).box) rfl rfl rfl ?_
  refine DM.run (fuel := 13) ttok hsk26 [2, 3] 15 (by kernel_rfl) (by kernel_rfl) rfl ?_
  refine DM.weak [(1, .pointer (some p1_)), (2, .pointer (some ⟨g6, 0, none⟩)), (3, .bool false), (4, .pointer (some ⟨g19, 0, none⟩)), (10, .bool (((r12.Agent : Int) == x0.Agent) && (((r12.Slot : Int) == x0.Slot) && true)))] ⟨rfl, rfl, rfl, rfl, rfl, trivial⟩ ?_
  by_cases hg28 : (((r12.Agent : Int) == x0.Agent) && (((r12.Slot : Int) == x0.Slot) && true)) = true
  · skip
    rw [if_pos hg28] at hm
    refine DM.know 10 rfl (congrArg Value.bool hg28) ?_
    refine DM.run (fuel := 0) ttok hsk26 [4, 5, 6, 7, 8, 9, 10, 11, 12, 13, 14, 15, 16] 131071 (by kernel_rfl) (by kernel_rfl) rfl ?_
    refine DM.weak [(3, .bool true)] ⟨rfl, trivial⟩ ?_
    refine DM.done hsk26 (by kernel_rfl) ?_
    refine WP.ret ?_
    cases hm
    exact ⟨_, .cons (.tmp rfl) .nil, rfl, (hS27.taken 0)⟩
  · skip
    rw [if_neg hg28] at hm
    refine DM.know 10 rfl (congrArg Value.bool (Bool.eq_false_iff.2 hg28)) ?_
    refine DM.run (fuel := 12) ttok hsk26 [4] 31 (by kernel_rfl) (by kernel_rfl) rfl ?_
    refine DM.load1 ttok hsk26 5 63 (by kernel_rfl) (by kernel_rfl) (by kernel_rfl) (by kernel_rfl) rfl (by kernel_rfl) rfl rfl rfl rfl rfl (At.ext (hE.trans hS25.ext) g1_) 0 rfl rfl rfl rfl ?_
    refine DM.loadN ttok hsk26 6 127 (by kernel_rfl) (by kernel_rfl) (by kernel_rfl) (by kernel_rfl) rfl (by kernel_rfl) rfl rfl rfl rfl rfl ((hS25.bring 0 rfl).box) rfl rfl rfl ?_
    obtain ⟨r29, hx30, hm⟩ := bind_some hm
    refine DM.one hsk26 7 (by kernel_rfl) (LM.call hsk26 255 (by kernel_rfl) (by kernel_rfl) rfl rfl rfl rfl enters54 (impl_hasPort_ok (hE.trans hS27.ext) h4 (ty38_shut r12) hx30) (fun v31 w32 hR33 => ?_))
    obtain ⟨rfl, hR34⟩ := hR33
    refine ⟨hR34.ext, ?_⟩
    have hS35 := hS27.join hR34
    refine DM.run (fuel := 6) ttok hsk26 [8, 9, 10] 2047 (by kernel_rfl) (by kernel_rfl) rfl ?_
    refine DM.weak [(1, .pointer (some p1_)), (2, .pointer (some ⟨g6, 0, none⟩)), (3, .bool false), (4, .pointer (some ⟨g19, 0, none⟩)), (17, .bool (!r29))] ⟨rfl, rfl, rfl, rfl, rfl, trivial⟩ ?_
    by_cases hg36 : (!r29) = true
    · skip
      rw [if_pos hg36] at hm
      refine DM.know 17 rfl (congrArg Value.bool hg36) ?_
      refine DM.run (fuel := 0) ttok hsk26 [11, 12, 13, 14, 15, 16] 131071 (by kernel_rfl) (by kernel_rfl) rfl ?_
      refine DM.weak [(3, .bool true)] ⟨rfl, trivial⟩ ?_
      refine DM.done hsk26 (by kernel_rfl) ?_
      refine WP.ret ?_
      cases hm
      exact ⟨_, .cons (.tmp rfl) .nil, rfl, (hS35.taken 0)⟩
    · skip
      rw [if_neg hg36] at hm
      refine DM.know 17 rfl (congrArg Value.bool (Bool.eq_false_iff.2 hg36)) ?_
      refine DM.loadN ttok hsk26 11 4095 (by kernel_rfl) (by kernel_rfl) (by kernel_rfl) (by kernel_rfl) rfl (by kernel_rfl) rfl rfl rfl rfl rfl ((hS25.bring 0 rfl).box) rfl rfl rfl ?_
      refine DM.loadN ttok hsk26 13 12287 (by kernel_rfl) (by kernel_rfl) (by kernel_rfl) (by kernel_rfl) rfl (by kernel_rfl) rfl rfl rfl rfl rfl ((hS25.bring 1 rfl).box) rfl rfl rfl ?_
      obtain ⟨r37, hx38, hm⟩ := bind_some hm
      refine DM.one hsk26 12 (by kernel_rfl) (LM.call hsk26 16383 (by kernel_rfl) (by kernel_rfl) rfl rfl rfl rfl enters56 (impl_Net_peer_ok (hE.trans hS35.ext) h1_ g1_ (ty38_shut r12) hx38) (fun v39 w40 hR41 => ?_))
      obtain ⟨rfl, hR42⟩ := hR41
      refine ⟨hR42.ext, ?_⟩
      have hS43 := hS35.join hR42
      refine DM.run (fuel := 0) ttok hsk26 [14, 15, 16] 131071 (by kernel_rfl) (by kernel_rfl) rfl ?_
      refine DM.weak [(3, .bool (!(((r37.Agent : Int) == x0.Agent) && (((r37.Slot : Int) == x0.Slot) && true))))] ⟨rfl, trivial⟩ ?_
      refine DM.done hsk26 (by kernel_rfl) ?_
      refine WP.ret ?_
      cases hm
      exact ⟨_, .cons (.tmp rfl) .nil, rfl, (hS43.taken 0)⟩

theorem enters48 : Enters Try.prog 48 := ⟨_, _, Try.func48, rfl, by kernel_rfl⟩
def m_impl_ValidNet (fuel : Nat) (x0 : D.Net) : Option (Bool) := ((m_impl_areAgents fuel x0.Agents).bind fun r11 => (if (!r11) = true then some false else ((m_impl_Net_ports fuel x0).bind fun r18 => ((m_slices_ContainsFunc_impl_Port_impl_Port fuel r18 (fun y0 => m_impl_ValidNet_c1 fuel y0 x0)).bind fun r27 => some (!r27)))))

set_option maxRecDepth 100000 in
theorem impl_ValidNet_ok {W w : World} (hE : Ext W w) {c0_ : List Value} {x0 : D.Net} (h0_ : ty30.ro W c0_ x0) {fuel : Nat} {r : Bool} (hm : m_impl_ValidNet fuel x0 = some r) :
    Calls Try.prog 48 ⟨[.agg ⟨c0_⟩]⟩ w (Ret fun v w8 => v = .bool r ∧ St w w8 []) := by
  obtain ⟨A1, k2, e4, h3⟩ := ty30_open h0_; subst e4
  refine Calls.into Try.func48 rfl 11 rfl rfl _ rfl ?_
  unfold m_impl_ValidNet at hm
  have hS := St.start w
  refine WP.seq ?_
  refine WP.region ?_
  refine RW.new ttok hS rfl rfl rfl rfl (fun g5 w6 e7 hS10 => ?_)
  refine RW.run ttok 1 rfl ?_
  refine RW.nil ?_
  refine WP.seq ?_
  refine WP.seq ?_
  refine WP.region ?_
  refine RW.run ttok 1 rfl ?_
  refine RW.load1 ttok rfl rfl rfl rfl rfl ((hS10.bring 0 rfl).box) 0 rfl rfl rfl rfl ?_
  obtain ⟨r11, hx12, hm⟩ := bind_some hm
  refine RW.call rfl rfl rfl enters63 (impl_areAgents_ok (hE.trans hS10.ext) h3 hx12) (fun v13 w14 hR15 => ?_)
  obtain ⟨rfl, hR16⟩ := hR15
  have hS17 := hS10.join hR16
  refine RW.run ttok 1 rfl ?_
  refine RW.nil ?_
  refine WP.cond (!r11) rfl (fun hc => ?_) (fun hc => ?_)
  · skip
    rw [if_pos hc] at hm
    refine WP.seq ?_
    refine WP.region ?_
    refine RW.run ttok 1 rfl ?_
    refine RW.nil ?_
    refine WP.ret ?_
    cases hm
    exact ⟨_, .cons (.tmp rfl) .nil, rfl, (hS17.taken 0)⟩
  · skip
    rw [if_neg (not_t hc)] at hm
    refine WP.skip ?_
    refine WP.seq ?_
    refine WP.region ?_
    obtain ⟨r18, hx19, hm⟩ := bind_some hm
    refine RW.call rfl rfl rfl enters66 (impl_Net_ports_ok (Ext.refl _) (ty30.ext (hE.trans hS17.ext) h0_) ((hS17.bring 0 rfl).box) hx19) (fun v20 w21 hR22 => ?_)
    obtain ⟨A23, k24, rfl, hR25⟩ := hR22
    have hS26 := hS17.join hR25
    refine RW.run ttok 1 rfl ?_
    obtain ⟨r27, hx28, hm⟩ := bind_some hm
    refine RW.call rfl rfl rfl enters113 (slices_ContainsFunc_impl_Port_impl_Port_ok (Ext.refl _) ((hS26.bring 0 rfl).own) ⟨enters114, fun e9 => (fun a0_0 hx9 => impl_ValidNet_c1_ok (Ext.refl _) a0_0 (ty30.ext e9 (ty30.ext (hE.trans hS26.ext) h0_)) (At.ext e9 ((hS26.bring 1 rfl).box)) hx9)⟩ hx28) (fun v29 w30 hR31 => ?_)
    obtain ⟨rfl, hR32⟩ := hR31
    have hS33 := hS26.join hR32
    refine RW.run ttok 2 rfl ?_
    refine RW.nil ?_
    refine WP.ret ?_
    cases hm
    exact ⟨_, .cons (.tmp rfl) .nil, rfl, (hS33.taken 0)⟩

end Go.E
