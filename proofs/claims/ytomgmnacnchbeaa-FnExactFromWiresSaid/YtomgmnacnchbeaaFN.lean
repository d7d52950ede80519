/- Models of functions and proofs that the code runs as they say (written by program). Conditions: the model gives a value. -/
import Derived.Test.YtomgmnacnchbeaaFA
namespace Go.E
open Go.RowKit Go.Proofs
set_option linter.unusedVariables false
set_option linter.unusedSimpArgs false
set_option maxHeartbeats 2000000

theorem enters60 : Enters Try.prog 60 := ⟨_, _, Try.func60, rfl, by kernel_rfl⟩
def m_spec_l11Agents_j1 (fuel : Nat) (t11 : Unit) : Option Bool := some true
def m_spec_l11Agents_j2 (fuel : Nat) (s10 : Int) (t26 : Bool) : Option (Rd (Int) (Unit) (Bool)) := (if t26 = true then some (.ret false) else some (.next (w64 (s10 + 1))))
def m_spec_l11Agents_b1 (fuel : Nat) (x0 : (List D.Agent)) (s10 : Int) : Option (Rd (Int) (Unit) (Bool)) := (if (decide (s10 < (x0.length : Int))) = true then ((idx x0 s10).bind fun x31 => ((m_spec_l11Agent fuel x31).bind fun r44 => (if (!r44) = true then m_spec_l11Agents_j2 fuel s10 true else ((idx x0 s10).bind fun x52 => m_spec_l11Agents_j2 fuel s10 (!((x52.Kind == 1) == (s10 == 0))))))) else some (.brk ()))
def m_spec_l11Agents (fuel : Nat) (x0 : (List D.Agent)) : Option (Bool) := ((m_spec_l00In fuel (x0.length : Int) 1 600).bind fun r1 => (if (!r1) = true then some false else ((iter (m_spec_l11Agents_b1 fuel x0) fuel 0).bind fun o => aft o (m_spec_l11Agents_j1 fuel))))

set_option maxRecDepth 100000 in
theorem spec_l11Agents_ok {W w : World} (hE : Ext W w) {A0_ : Option Addr} {k0_ : Nat} {x0 : (List D.Agent)} (h0_ : ty28.ro W [.slice A0_ x0.length k0_] x0) {fuel : Nat} {r : Bool} (hm : m_spec_l11Agents fuel x0 = some r) :
    Calls Try.prog 60 ⟨[.slice A0_ x0.length k0_]⟩ w (Ret fun v w8 => v = .bool r ∧ St w w8 []) := by
  refine Calls.into Try.func60 rfl 30 rfl rfl _ rfl ?_
  unfold m_spec_l11Agents at hm
  have hS := St.start w
  refine WP.seq ?_
  refine WP.region ?_
  refine RW.run ttok 1 rfl ?_
  refine RW.nil ?_
  refine WP.seq ?_
  refine WP.seq ?_
  refine WP.region ?_
  refine RW.run ttok 2 rfl ?_
  obtain ⟨r1, hx2, hm⟩ := bind_some hm
  refine RW.call rfl rfl rfl enters102 (spec_l00In_ok (hE.trans hS.ext)  hx2) (fun v3 w4 hR5 => ?_)
  obtain ⟨rfl, hR6⟩ := hR5
  have hS7 := hS.join hR6
  refine RW.run ttok 1 rfl ?_
  refine RW.nil ?_
  refine WP.cond (!r1) rfl (fun hc => ?_) (fun hc => ?_)
  · skip
    rw [if_pos hc] at hm
    refine WP.seq ?_
    refine WP.region ?_
    refine RW.run ttok 1 rfl ?_
    refine RW.nil ?_
    refine WP.ret ?_
    cases hm
    exact ⟨_, .cons (.tmp rfl) .nil, rfl, hS7⟩
  · skip
    rw [if_neg (not_t hc)] at hm
    refine WP.skip ?_
    refine WP.seq ?_
    refine WP.seq ?_
    refine WP.region ?_
    refine RW.run ttok 1 rfl ?_
    refine RW.nil ?_
    obtain ⟨o17, hl18, hm⟩ := bind_some hm
    refine WP.cut (fun (t11 : Unit) F w9 => o17 = .inl t11 ∧ Ext w4 w9 ∧ St w w9 [] ∧ F = []) ?_ ?_
    · skip
      rintro t11 F w16 ⟨ho20, hE15, hS19, rfl⟩
      subst ho20
      rw [aft_inl] at hm
      unfold m_spec_l11Agents_j1 at hm
      refine WP.seq ?_
      refine WP.region ?_
      refine RW.run ttok 1 rfl ?_
      refine RW.nil ?_
      refine WP.ret ?_
      cases hm
      exact ⟨_, .cons (.tmp rfl) .nil, rfl, hS19⟩
    · skip
      refine WP.block ?_
      refine WP.weak [(0, .slice A0_ x0.length k0_), (3, .int .i64 0)] ⟨rfl, rfl, trivial⟩ ?_
      refine WP.iter (fun (s10 : Int) F w9 => Ext w4 w9 ∧ St w w9 [] ∧ F = [(0, .slice A0_ x0.length k0_), (3, .int .i64 s10)]) _ hl18 ⟨(Ext.refl _), hS7, rfl⟩ ?_
      rintro s10 F w25 _ o23 ⟨hE14, hS24, rfl⟩ hb21 ho22
      unfold m_spec_l11Agents_b1 at hb21
      refine WP.seq ?_
      refine WP.seq ?_
      refine WP.region ?_
      refine RW.run ttok 4 rfl ?_
      refine RW.nil ?_
      refine WP.cond (decide (s10 < (x0.length : Int))) rfl (fun hc => ?_) (fun hc => ?_)
      · skip
        rw [if_pos hc] at hb21
        refine WP.skip ?_
        refine WP.seq ?_
        refine WP.block ?_
        refine WP.seq ?_
        refine WP.cut (fun (t26 : Bool) F w9 => m_spec_l11Agents_j2 fuel s10 t26 = some o23 ∧ Ext w25 w9 ∧ St w w9 [] ∧ F = [(0, .slice A0_ x0.length k0_), (3, .int .i64 s10), (29, .bool t26)]) ?_ ?_
        · skip
          rintro t26 F w29 ⟨hb21, hE27, hS28, rfl⟩
          unfold m_spec_l11Agents_j2 at hb21
          refine WP.cond t26 rfl (fun hc => ?_) (fun hc => ?_)
          · skip
            rw [if_pos hc] at hb21
            refine WP.seq ?_
            refine WP.region ?_
            refine RW.run ttok 1 rfl ?_
            refine RW.nil ?_
            refine WP.ret ?_
            cases hb21
            cases ho22
            have hm : some _ = some _ := hm
            cases hm
            exact ⟨_, .cons (.tmp rfl) .nil, rfl, hS28⟩
          · skip
            rw [if_neg (not_t hc)] at hb21
            refine WP.skip ?_
            refine WP.region ?_
            refine RW.run ttok 3 rfl ?_
            refine RW.nil ?_
            cases hb21
            exact ⟨_, [(0, .slice A0_ x0.length k0_), (3, .int .i64 (w64 (s10 + 1)))], ⟨rfl, rfl, trivial⟩, rfl, (hE14.trans hE27), hS28, rfl⟩
        · skip
          refine WP.region ?_
          refine RW.run ttok 2 rfl ?_
          obtain ⟨x31, hx32, hb21⟩ := bind_some hb21
          refine RW.idx ttok (hE.trans hS24.ext) rfl rfl rfl rfl rfl rfl (by decide) rfl rfl h0_ (idx_some hx32).1 (idx_some hx32).2 rfl rfl (fun p33 es34 ha35 hr36 => ?_)
          obtain ⟨A37, k38, A40, k41, e43, h39, h42⟩ := ty112_open hr36; subst e43
          obtain ⟨r44, hx45, hb21⟩ := bind_some hb21
          refine RW.call rfl rfl rfl enters122 (spec_l11Agent_ok (hE.trans hS24.ext) hr36 ha35 hx45) (fun v46 w47 hR48 => ?_)
          obtain ⟨rfl, hR49⟩ := hR48
          have hS50 := hS24.join hR49
          refine RW.run ttok 2 rfl ?_
          by_cases hg51 : (!r44) = true
          · skip
            rw [if_pos hg51] at hb21
            refine RW.know 19 rfl (congrArg Value.bool hg51) ?_
            refine RW.run ttok 10 rfl ?_
            refine RW.nil ?_
            exact ⟨true, [(0, .slice A0_ x0.length k0_), (3, .int .i64 s10), (29, .bool true)], ⟨rfl, rfl, rfl, trivial⟩, hb21, hR49.ext, hS50, rfl⟩
          · skip
            rw [if_neg hg51] at hb21
            refine RW.know 19 rfl (congrArg Value.bool (Bool.eq_false_iff.2 hg51)) ?_
            refine RW.run ttok 2 rfl ?_
            obtain ⟨x52, hx53, hb21⟩ := bind_some hb21
            refine RW.idx ttok (hE.trans hS50.ext) rfl rfl rfl rfl rfl rfl (by decide) rfl rfl h0_ (idx_some hx53).1 (idx_some hx53).2 rfl rfl (fun p54 es55 ha56 hr57 => ?_)
            obtain ⟨A58, k59, A61, k62, e65, h60, h63⟩ := ty112_open hr57; subst e65
            refine RW.run ttok 1 rfl ?_
            refine RW.load1 ttok rfl rfl rfl rfl rfl (At.ext (hE.trans hS50.ext) ha56) 0 rfl rfl rfl rfl ?_
            refine RW.run ttok 5 rfl ?_
            refine RW.nil ?_
            exact ⟨!((x52.Kind == 1) == (s10 == 0)), [(0, .slice A0_ x0.length k0_), (3, .int .i64 s10), (29, .bool (!((x52.Kind == 1) == (s10 == 0))))], ⟨rfl, rfl, rfl, trivial⟩, hb21, hR49.ext, hS50, rfl⟩
      · skip
        rw [if_neg (not_t hc)] at hb21
        refine WP.exit ?_
        cases hb21
        exact ⟨_, [], trivial, ho22, hE14, hS24, rfl⟩

theorem enters50 : Enters Try.prog 50 := ⟨_, _, Try.func50, rfl, by kernel_rfl⟩
def m_spec_l11Port (fuel : Nat) (x0 : (List D.Agent)) (x1 : D.Port) : Option (Bool) := ((m_spec_l00In fuel x1.Agent 0 (w64 ((x0.length : Int) - 1))).bind fun r10 => (if r10 = true then ((idx x0 x1.Agent).bind fun x18 => ((m_spec_l00In fuel x1.Slot 0 (w64 ((x18.Ports.length : Int) - 1))).bind fun r31 => some r31)) else some false))

set_option maxRecDepth 100000 in
theorem spec_l11Port_ok {W w : World} (hE : Ext W w) {A0_ : Option Addr} {k0_ : Nat} {x0 : (List D.Agent)} {c1_ : List Value} {x1 : D.Port} (h0_ : ty28.ro W [.slice A0_ x0.length k0_] x0) (h1_ : ty38.ro W c1_ x1) {fuel : Nat} {r : Bool} (hm : m_spec_l11Port fuel x0 x1 = some r) :
    Calls Try.prog 50 ⟨[.slice A0_ x0.length k0_, .agg ⟨c1_⟩]⟩ w (Ret fun v w8 => v = .bool r ∧ St w w8 []) := by
  have e1 := ty38_open h1_; subst e1
  refine Calls.into Try.func50 rfl 24 rfl rfl _ rfl ?_
  unfold m_spec_l11Port at hm
  have hS := St.start w
  refine WP.seq ?_
  refine WP.region ?_
  refine RW.new ttok hS rfl rfl rfl rfl (fun g2 w3 e4 hS5 => ?_)
  refine RW.run ttok 1 rfl ?_
  refine RW.nil ?_
  refine WP.seq ?_
  refine WP.drawnM 0 mixed 20 (by kernel_rfl) (by kernel_rfl) [([], 1048575), ([0], 1048574), ([], 1048575), ([2], 1048571), ([3], 1048567), ([1, 4], 1048557), ([5, 5], 1048543), ([6], 1048511), ([7, 6], 1048383), ([6], 1048511), ([6], 1048511), ([10, 6], 1047487), ([9, 11, 6], 1045951), ([12, 6], 1044415), ([13, 6], 1040319), ([14, 6], 1032127), ([15, 6], 1015743), ([8, 16, 6, 6], 982719), ([6, 17], 917439), ([18, 17, 0, 1, 2, 3, 4, 5, 6, 7, 8, 9, 10, 11, 12, 13, 14, 15, 16, 17, 18], 786431)] (by kernel_rfl) hS5.ext (fun hsk6 => ?_)
  have hS7 := hS5.step (Ext.draw _)
  refine DM.run (fuel := 16) ttok hsk6 [0, 2, 3, 4] 29 (by kernel_rfl) (by kernel_rfl) rfl ?_
  refine DM.load1 ttok hsk6 1 31 (by kernel_rfl) (by kernel_rfl) (by kernel_rfl) (by kernel_rfl) rfl (by kernel_rfl) rfl rfl rfl rfl rfl ((hS5.bring 0 rfl).box) 0 rfl rfl rfl rfl ?_
  obtain ⟨r10, hx11, hm⟩ := bind_some hm
  refine DM.one hsk6 5 (by kernel_rfl) (LM.call hsk6 63 (by kernel_rfl) (by kernel_rfl) rfl rfl rfl rfl enters102 (spec_l00In_ok (hE.trans hS7.ext)  hx11) (fun v12 w13 hR14 => ?_))
  obtain ⟨rfl, hR15⟩ := hR14
  refine ⟨hR15.ext, ?_⟩
  have hS16 := hS7.join hR15
  refine DM.run (fuel := 13) ttok hsk6 [6] 127 (by kernel_rfl) (by kernel_rfl) rfl ?_
  refine DM.weak [(0, .slice A0_ x0.length k0_), (3, .pointer (some ⟨g2, 0, none⟩)), (4, .bool false), (11, .bool r10)] ⟨rfl, rfl, rfl, rfl, trivial⟩ ?_
  by_cases hg17 : r10 = true
  · skip
    rw [if_pos hg17] at hm
    refine DM.know 11 rfl (congrArg Value.bool hg17) ?_
    refine DM.run (fuel := 10) ttok hsk6 [7, 9, 10] 1791 (by kernel_rfl) (by kernel_rfl) rfl ?_
    refine DM.load1 ttok hsk6 8 2047 (by kernel_rfl) (by kernel_rfl) (by kernel_rfl) (by kernel_rfl) rfl (by kernel_rfl) rfl rfl rfl rfl rfl ((hS5.bring 0 rfl).box) 1 rfl rfl rfl rfl ?_
    refine DM.load1 ttok hsk6 11 4095 (by kernel_rfl) (by kernel_rfl) (by kernel_rfl) (by kernel_rfl) rfl (by kernel_rfl) rfl rfl rfl rfl rfl ((hS5.bring 0 rfl).box) 0 rfl rfl rfl rfl ?_
    obtain ⟨x18, hx19, hm⟩ := bind_some hm
    refine DM.idx ttok (hE.trans hS5.ext) hsk6 12 8191 (by kernel_rfl) (by kernel_rfl) (by kernel_rfl) (by kernel_rfl) rfl (by kernel_rfl) rfl rfl rfl rfl rfl rfl (by decide) rfl rfl h0_ (idx_some hx19).1 (idx_some hx19).2 rfl rfl (fun p20 es21 ha22 hr23 => ?_)
    obtain ⟨A24, k25, A27, k28, e30, h26, h29⟩ := ty112_open hr23; subst e30
    refine DM.run (fuel := 6) ttok hsk6 [13] 16383 (by kernel_rfl) (by kernel_rfl) rfl ?_
    refine DM.weak [(4, .bool false), (11, .bool true), (13, .int .i64 x1.Slot), (18, .pointer (some (p20.add 4)))] ⟨rfl, rfl, rfl, rfl, trivial⟩ ?_
    refine DM.load1 ttok hsk6 14 32767 (by kernel_rfl) (by kernel_rfl) (by kernel_rfl) (by kernel_rfl) rfl (by kernel_rfl) rfl rfl rfl rfl rfl (At.ext (hE.trans hS5.ext) ha22) 4 rfl rfl rfl rfl ?_
    refine DM.run (fuel := 3) ttok hsk6 [15, 16] 131071 (by kernel_rfl) (by kernel_rfl) rfl ?_
    obtain ⟨r31, hx32, hm⟩ := bind_some hm
    refine DM.one hsk6 17 (by kernel_rfl) (LM.call hsk6 262143 (by kernel_rfl) (by kernel_rfl) rfl rfl rfl rfl enters102 (spec_l00In_ok (hE.trans hS16.ext)  hx32) (fun v33 w34 hR35 => ?_))
    obtain ⟨rfl, hR36⟩ := hR35
    refine ⟨hR36.ext, ?_⟩
    have hS37 := hS16.join hR36
    refine DM.run (fuel := 0) ttok hsk6 [18, 19] 1048575 (by kernel_rfl) (by kernel_rfl) rfl ?_
    refine DM.weak [(4, .bool r31)] ⟨rfl, trivial⟩ ?_
    refine DM.done hsk6 (by kernel_rfl) ?_
    refine WP.ret ?_
    cases hm
    exact ⟨_, .cons (.tmp rfl) .nil, rfl, (hS37.taken 0)⟩
  · skip
    rw [if_neg hg17] at hm
    refine DM.know 11 rfl (congrArg Value.bool (Bool.eq_false_iff.2 hg17)) ?_
    refine DM.run (fuel := 0) ttok hsk6 [7, 8, 9, 10, 11, 12, 13, 14, 15, 16, 17, 18, 19] 1048575 (by kernel_rfl) (by kernel_rfl) rfl ?_
    refine DM.weak [(4, .bool false)] ⟨rfl, trivial⟩ ?_
    refine DM.done hsk6 (by kernel_rfl) ?_
    refine WP.ret ?_
    cases hm
    exact ⟨_, .cons (.tmp rfl) .nil, rfl, (hS16.taken 0)⟩

theorem enters46 : Enters Try.prog 46 := ⟨_, _, Try.func46, rfl, by kernel_rfl⟩
def m_spec_l11Ok_j1 (fuel : Nat) (t15 : Unit) : Option Bool := some true
def m_spec_l11Ok_j2 (fuel : Nat) (s14 : Int) (t41 : Unit) : Option (Rd (Int) (Unit) (Bool)) := some (.next (w64 (s14 + 1)))
def m_spec_l11Ok_j3 (fuel : Nat) (s40 : Int) (t75 : Bool) : Option (Rd (Int) (Unit) (Rd (Int) (Unit) (Bool))) := (if t75 = true then some (.ret (.ret false)) else some (.next (w64 (s40 + 1))))
def m_spec_l11Ok_b2 (fuel : Nat) (x0 : D.Net) (s14 : Int) (x27 : D.Agent) (s40 : Int) : Option (Rd (Int) (Unit) (Rd (Int) (Unit) (Bool))) := (if (decide (s40 < (x27.Ports.length : Int))) = true then ((idx x27.Ports s40).bind fun x60 => (if (((x60.Agent : Int) == s14) && (((x60.Slot : Int) == s40) && true)) = true then m_spec_l11Ok_j3 fuel s40 true else ((m_spec_l11Port fuel x0.Agents x60).bind fun r83 => (if (!r83) = true then m_spec_l11Ok_j3 fuel s40 true else ((idx x0.Agents x60.Agent).bind fun x91 => ((idx x91.Ports x60.Slot).bind fun x104 => m_spec_l11Ok_j3 fuel s40 (!(((x104.Agent : Int) == s14) && (((x104.Slot : Int) == s40) && true))))))))) else some (.brk ()))
def m_spec_l11Ok_b1 (fuel : Nat) (x0 : D.Net) (s14 : Int) : Option (Rd (Int) (Unit) (Bool)) := (if (decide (s14 < (x0.Agents.length : Int))) = true then ((idx x0.Agents s14).bind fun x27 => ((iter (m_spec_l11Ok_b2 fuel x0 s14 x27) fuel 0).bind fun o => aft o (m_spec_l11Ok_j2 fuel s14))) else some (.brk ()))
def m_spec_l11Ok (fuel : Nat) (x0 : D.Net) : Option (Bool) := ((m_spec_l11Agents fuel x0.Agents).bind fun r5 => (if (!r5) = true then some false else ((iter (m_spec_l11Ok_b1 fuel x0) fuel 0).bind fun o => aft o (m_spec_l11Ok_j1 fuel))))

set_option maxRecDepth 100000 in
theorem spec_l11Ok_ok {W w : World} (hE : Ext W w) {p0_ : Addr} {c0_ : List Value} {x0 : D.Net} (h0_ : ty30.ro W c0_ x0) (g0_ : At W p0_ c0_) {fuel : Nat} {r : Bool} (hm : m_spec_l11Ok fuel x0 = some r) :
    Calls Try.prog 46 ⟨[.pointer (some p0_)]⟩ w (Ret fun v w8 => v = .bool r ∧ St w w8 []) := by
  obtain ⟨A1, k2, e4, h3⟩ := ty30_open h0_; subst e4
  refine Calls.into Try.func46 rfl 77 rfl rfl _ rfl ?_
  unfold m_spec_l11Ok at hm
  have hS := St.start w
  refine WP.seq ?_
  refine WP.region ?_
  refine RW.run ttok 1 rfl ?_
  refine RW.nil ?_
  refine WP.seq ?_
  refine WP.seq ?_
  refine WP.region ?_
  refine RW.run ttok 3 rfl ?_
  refine RW.load1 ttok rfl rfl rfl rfl rfl (At.ext (hE.trans hS.ext) g0_) 0 rfl rfl rfl rfl ?_
  obtain ⟨r5, hx6, hm⟩ := bind_some hm
  refine RW.call rfl rfl rfl enters60 (spec_l11Agents_ok (hE.trans hS.ext) h3 hx6) (fun v7 w10 hR11 => ?_)
  obtain ⟨rfl, hR12⟩ := hR11
  have hS13 := hS.join hR12
  refine RW.run ttok 1 rfl ?_
  refine RW.nil ?_
  refine WP.cond (!r5) rfl (fun hc => ?_) (fun hc => ?_)
  · skip
    rw [if_pos hc] at hm
    refine WP.seq ?_
    refine WP.region ?_
    refine RW.run ttok 1 rfl ?_
    refine RW.nil ?_
    refine WP.ret ?_
    cases hm
    exact ⟨_, .cons (.tmp rfl) .nil, rfl, hS13⟩
  · skip
    rw [if_neg (not_t hc)] at hm
    refine WP.skip ?_
    refine WP.seq ?_
    refine WP.seq ?_
    refine WP.region ?_
    refine RW.run ttok 1 rfl ?_
    refine RW.nil ?_
    obtain ⟨o18, hl19, hm⟩ := bind_some hm
    refine WP.cut (fun (t15 : Unit) F w9 => o18 = .inl t15 ∧ St w w9 [] ∧ F = []) ?_ ?_
    · skip
      rintro t15 F w17 ⟨ho21, hS20, rfl⟩
      subst ho21
      rw [aft_inl] at hm
      unfold m_spec_l11Ok_j1 at hm
      refine WP.seq ?_
      refine WP.region ?_
      refine RW.run ttok 1 rfl ?_
      refine RW.nil ?_
      refine WP.ret ?_
      cases hm
      exact ⟨_, .cons (.tmp rfl) .nil, rfl, hS20⟩
    · skip
      refine WP.block ?_
      refine WP.weak [(0, .pointer (some p0_)), (3, .int .i64 0)] ⟨rfl, rfl, trivial⟩ ?_
      refine WP.iter (fun (s14 : Int) F w9 => St w w9 [] ∧ F = [(0, .pointer (some p0_)), (3, .int .i64 s14)]) _ hl19 ⟨hS13, rfl⟩ ?_
      rintro s14 F w26 _ o24 ⟨hS25, rfl⟩ hb22 ho23
      unfold m_spec_l11Ok_b1 at hb22
      refine WP.seq ?_
      refine WP.seq ?_
      refine WP.region ?_
      refine RW.run ttok 4 rfl ?_
      refine RW.load1 ttok rfl rfl rfl rfl rfl (At.ext (hE.trans hS25.ext) g0_) 0 rfl rfl rfl rfl ?_
      refine RW.run ttok 2 rfl ?_
      refine RW.nil ?_
      refine WP.cond (decide (s14 < (x0.Agents.length : Int))) rfl (fun hc => ?_) (fun hc => ?_)
      · skip
        rw [if_pos hc] at hb22
        refine WP.skip ?_
        refine WP.seq ?_
        refine WP.block ?_
        refine WP.seq ?_
        refine WP.region ?_
        refine RW.run ttok 3 rfl ?_
        refine RW.load1 ttok rfl rfl rfl rfl rfl (At.ext (hE.trans hS25.ext) g0_) 0 rfl rfl rfl rfl ?_
        refine RW.run ttok 1 rfl ?_
        obtain ⟨x27, hx28, hb22⟩ := bind_some hb22
        refine RW.idx ttok (hE.trans hS25.ext) rfl rfl rfl rfl rfl rfl (by decide) rfl rfl h3 (idx_some hx28).1 (idx_some hx28).2 rfl rfl (fun p29 es30 ha31 hr32 => ?_)
        obtain ⟨A33, k34, A36, k37, e39, h35, h38⟩ := ty112_open hr32; subst e39
        refine RW.run ttok 1 rfl ?_
        refine RW.nil ?_
        refine WP.seq ?_
        refine WP.region ?_
        refine RW.run ttok 1 rfl ?_
        refine RW.nil ?_
        obtain ⟨o44, hl45, hb22⟩ := bind_some hb22
        refine WP.cut (fun (t41 : Unit) F w9 => o44 = .inl t41 ∧ St w w9 [] ∧ F = [(0, .pointer (some p0_)), (3, .int .i64 s14)]) ?_ ?_
        · skip
          rintro t41 F w43 ⟨ho47, hS46, rfl⟩
          subst ho47
          rw [aft_inl] at hb22
          unfold m_spec_l11Ok_j2 at hb22
          refine WP.region ?_
          refine RW.run ttok 3 rfl ?_
          refine RW.nil ?_
          cases hb22
          exact ⟨_, [(0, .pointer (some p0_)), (3, .int .i64 (w64 (s14 + 1)))], ⟨rfl, rfl, trivial⟩, rfl, hS46, rfl⟩
        · skip
          refine WP.block ?_
          refine WP.weak [(0, .pointer (some p0_)), (3, .int .i64 s14), (4, .pointer (some p29)), (5, .int .i64 0)] ⟨rfl, rfl, rfl, rfl, trivial⟩ ?_
          refine WP.iter (fun (s40 : Int) F w9 => St w w9 [] ∧ F = [(0, .pointer (some p0_)), (3, .int .i64 s14), (4, .pointer (some p29)), (5, .int .i64 s40)]) _ hl45 ⟨hS25, rfl⟩ ?_
          rintro s40 F w52 _ o50 ⟨hS51, rfl⟩ hb48 ho49
          unfold m_spec_l11Ok_b2 at hb48
          refine WP.seq ?_
          refine WP.seq ?_
          refine WP.region ?_
          refine RW.run ttok 4 rfl ?_
          refine RW.load1 ttok rfl rfl rfl rfl rfl (At.ext (hE.trans hS51.ext) ha31) 4 rfl rfl rfl rfl ?_
          refine RW.run ttok 2 rfl ?_
          refine RW.nil ?_
          refine WP.cond (decide (s40 < (x27.Ports.length : Int))) rfl (fun hc => ?_) (fun hc => ?_)
          · skip
            rw [if_pos hc] at hb48
            refine WP.skip ?_
            refine WP.seq ?_
            refine WP.block ?_
            refine WP.seq ?_
            refine WP.region ?_
            refine RW.run ttok 2 rfl ?_
            refine RW.quiet rfl (Quiet.build ttok rfl rfl rfl rfl rfl) rfl rfl ?_
            refine RW.new ttok hS51 rfl rfl rfl rfl (fun g53 w54 e55 hS56 => ?_)
            have hS57 := hS56.bring 0 rfl
            refine RW.store ttok (A := []) hS57 rfl rfl rfl rfl rfl 0 rfl rfl rfl rfl rfl (fun w58 hS59 => ?_)
            refine RW.nil ?_
            refine WP.seq ?_
            refine WP.region ?_
            refine RW.run ttok 3 rfl ?_
            refine RW.load1 ttok rfl rfl rfl rfl rfl (At.ext (hE.trans hS59.ext) ha31) 4 rfl rfl rfl rfl ?_
            refine RW.run ttok 1 rfl ?_
            obtain ⟨x60, hx61, hb48⟩ := bind_some hb48
            refine RW.idx ttok (hE.trans hS59.ext) rfl rfl rfl rfl rfl rfl (by decide) rfl rfl h38 (idx_some hx61).1 (idx_some hx61).2 rfl rfl (fun p62 es63 ha65 hr66 => ?_)
            have e67 := ty38_open hr66; subst e67
            refine RW.loadN ttok rfl rfl rfl rfl rfl (At.ext (hE.trans hS59.ext) ha65) rfl rfl rfl ?_
            refine RW.new ttok hS59 rfl rfl rfl rfl (fun g68 w69 e70 hS71 => ?_)
            have hS72 := hS71.bring 0 rfl
            refine RW.store ttok (A := []) hS72 rfl rfl rfl rfl rfl 0 rfl rfl rfl rfl rfl (fun w73 hS74 => ?_)
            refine RW.nil ?_
            refine WP.seq ?_
            refine WP.cut (fun (t75 : Bool) F w9 => m_spec_l11Ok_j3 fuel s40 t75 = some o50 ∧ Ext w73 w9 ∧ St w w9 [Box g68 [.int .i64 x60.Agent, .int .i64 x60.Slot] 38, Box g53 [.int .i64 s14, .int .i64 s40] 38] ∧ F = [(0, .pointer (some p0_)), (3, .int .i64 s14), (4, .pointer (some p29)), (5, .int .i64 s40), (76, .bool t75)]) ?_ ?_
            · skip
              rintro t75 F w78 ⟨hb48, hE76, hS77, rfl⟩
              unfold m_spec_l11Ok_j3 at hb48
              refine WP.cond t75 rfl (fun hc => ?_) (fun hc => ?_)
              · skip
                rw [if_pos hc] at hb48
                refine WP.seq ?_
                refine WP.region ?_
                refine RW.run ttok 1 rfl ?_
                refine RW.nil ?_
                refine WP.ret ?_
                cases hb48
                cases ho49
                have hb22 : some _ = some _ := hb22
                cases hb22
                cases ho23
                have hm : some _ = some _ := hm
                cases hm
                exact ⟨_, .cons (.tmp rfl) .nil, rfl, (hS77.taken 0)⟩
              · skip
                rw [if_neg (not_t hc)] at hb48
                refine WP.skip ?_
                refine WP.region ?_
                refine RW.run ttok 3 rfl ?_
                refine RW.nil ?_
                cases hb48
                exact ⟨_, [(0, .pointer (some p0_)), (3, .int .i64 s14), (4, .pointer (some p29)), (5, .int .i64 (w64 (s40 + 1)))], ⟨rfl, rfl, rfl, rfl, trivial⟩, rfl, (hS77.taken 0), rfl⟩
            · skip
              refine WP.drawnM 0 mixed 29 (by kernel_rfl) (by kernel_rfl) [([], 536870911), ([], 536870911), ([0, 1], 536870908), ([2], 536870907), ([3], 536870903), ([4, 3], 536870887), ([5, 3], 536870871), ([6, 3], 536870839), ([3], 536870903), ([7, 8, 3, 3], 536870519), ([9, 3], 536870391), ([3, 10], 536869879), ([11, 9], 536868863), ([12], 536866815), ([13, 12], 536858623), ([14, 12], 536850431), ([15, 12], 536834047), ([12], 536866815), ([17, 12], 536735743), ([16, 18, 12], 536539135), ([19, 12], 536342527), ([20, 12], 535818239), ([12], 536866815), ([22, 12], 532672511), ([21, 23, 12], 526381055), ([24, 12], 520089599), ([12], 536866815), ([25, 26, 12], 436203519), ([12, 27], 402649087)] (by kernel_rfl) hS74.ext (fun hsk80 => ?_)
              have hS81 := hS74.step (Ext.draw _)
              refine DM.loadN ttok hsk80 0 1 (by kernel_rfl) (by kernel_rfl) (by kernel_rfl) (by kernel_rfl) rfl (by kernel_rfl) rfl rfl rfl rfl rfl ((hS74.bring 0 rfl).box) rfl rfl rfl ?_
              refine DM.loadN ttok hsk80 1 3 (by kernel_rfl) (by kernel_rfl) (by kernel_rfl) (by kernel_rfl) rfl (by kernel_rfl) rfl rfl rfl rfl rfl ((hS74.bring 1 rfl).box) rfl rfl rfl ?_
              refine DM.run (fuel := 25) ttok hsk80 [2, 3] 15 (by kernel_rfl) (by kernel_rfl) rfl ?_
              refine DM.weak [(0, .pointer (some p0_)), (3, .int .i64 s14), (4, .pointer (some p29)), (5, .int .i64 s40), (6, .pointer (some ⟨g53, 0, none⟩)), (7, .pointer (some ⟨g68, 0, none⟩)), (51, .bool (((x60.Agent : Int) == s14) && (((x60.Slot : Int) == s40) && true)))] ⟨rfl, rfl, rfl, rfl, rfl, rfl, rfl, trivial⟩ ?_
              by_cases hg82 : (((x60.Agent : Int) == s14) && (((x60.Slot : Int) == s40) && true)) = true
              · skip
                rw [if_pos hg82] at hb48
                refine DM.know 51 rfl (congrArg Value.bool hg82) ?_
                refine DM.run (fuel := 0) ttok hsk80 [4, 5, 6, 7, 8, 9, 10, 11, 12, 13, 14, 15, 16, 17, 18, 19, 20, 21, 22, 23, 24, 25, 26, 27, 28] 536870911 (by kernel_rfl) (by kernel_rfl) rfl ?_
                refine DM.weak [(0, .pointer (some p0_)), (3, .int .i64 s14), (4, .pointer (some p29)), (5, .int .i64 s40), (76, .bool true)] ⟨rfl, rfl, rfl, rfl, rfl, trivial⟩ ?_
                refine DM.done hsk80 (by kernel_rfl) ?_
                exact ⟨true, [(0, .pointer (some p0_)), (3, .int .i64 s14), (4, .pointer (some p29)), (5, .int .i64 s40), (76, .bool true)], ⟨rfl, rfl, rfl, rfl, rfl, trivial⟩, hb48, (Ext.draw _), hS81, rfl⟩
              · skip
                rw [if_neg hg82] at hb48
                refine DM.know 51 rfl (congrArg Value.bool (Bool.eq_false_iff.2 hg82)) ?_
                refine DM.run (fuel := 22) ttok hsk80 [4, 5, 6] 127 (by kernel_rfl) (by kernel_rfl) rfl ?_
                refine DM.load1 ttok hsk80 7 255 (by kernel_rfl) (by kernel_rfl) (by kernel_rfl) (by kernel_rfl) rfl (by kernel_rfl) rfl rfl rfl rfl rfl (At.ext (hE.trans hS74.ext) g0_) 0 rfl rfl rfl rfl ?_
                refine DM.loadN ttok hsk80 8 511 (by kernel_rfl) (by kernel_rfl) (by kernel_rfl) (by kernel_rfl) rfl (by kernel_rfl) rfl rfl rfl rfl rfl ((hS74.bring 0 rfl).box) rfl rfl rfl ?_
                obtain ⟨r83, hx84, hb48⟩ := bind_some hb48
                refine DM.one hsk80 9 (by kernel_rfl) (LM.call hsk80 1023 (by kernel_rfl) (by kernel_rfl) rfl rfl rfl rfl enters50 (spec_l11Port_ok (hE.trans hS81.ext) h3 (ty38_shut x60) hx84) (fun v85 w86 hR87 => ?_))
                obtain ⟨rfl, hR88⟩ := hR87
                refine ⟨hR88.ext, ?_⟩
                have hS89 := hS81.join hR88
                refine DM.run (fuel := 16) ttok hsk80 [10, 11, 12] 8191 (by kernel_rfl) (by kernel_rfl) rfl ?_
                refine DM.weak [(0, .pointer (some p0_)), (3, .int .i64 s14), (4, .pointer (some p29)), (5, .int .i64 s40), (6, .pointer (some ⟨g53, 0, none⟩)), (7, .pointer (some ⟨g68, 0, none⟩)), (60, .bool (!r83))] ⟨rfl, rfl, rfl, rfl, rfl, rfl, rfl, trivial⟩ ?_
                by_cases hg90 : (!r83) = true
                · skip
                  rw [if_pos hg90] at hb48
                  refine DM.know 60 rfl (congrArg Value.bool hg90) ?_
                  refine DM.run (fuel := 0) ttok hsk80 [13, 14, 15, 16, 17, 18, 19, 20, 21, 22, 23, 24, 25, 26, 27, 28] 536870911 (by kernel_rfl) (by kernel_rfl) rfl ?_
                  refine DM.weak [(0, .pointer (some p0_)), (3, .int .i64 s14), (4, .pointer (some p29)), (5, .int .i64 s40), (76, .bool true)] ⟨rfl, rfl, rfl, rfl, rfl, trivial⟩ ?_
                  refine DM.done hsk80 (by kernel_rfl) ?_
                  exact ⟨true, [(0, .pointer (some p0_)), (3, .int .i64 s14), (4, .pointer (some p29)), (5, .int .i64 s40), (76, .bool true)], ⟨rfl, rfl, rfl, rfl, rfl, trivial⟩, hb48, ((Ext.draw _).trans hR88.ext), hS89, rfl⟩
                · skip
                  rw [if_neg hg90] at hb48
                  refine DM.know 60 rfl (congrArg Value.bool (Bool.eq_false_iff.2 hg90)) ?_
                  refine DM.run (fuel := 11) ttok hsk80 [13, 14, 15, 17, 22] 4390911 (by kernel_rfl) (by kernel_rfl) rfl ?_
                  refine DM.load1 ttok hsk80 16 4456447 (by kernel_rfl) (by kernel_rfl) (by kernel_rfl) (by kernel_rfl) rfl (by kernel_rfl) rfl rfl rfl rfl rfl (At.ext (hE.trans hS74.ext) g0_) 0 rfl rfl rfl rfl ?_
                  refine DM.load1 ttok hsk80 18 4718591 (by kernel_rfl) (by kernel_rfl) (by kernel_rfl) (by kernel_rfl) rfl (by kernel_rfl) rfl rfl rfl rfl rfl ((hS74.bring 0 rfl).box) 0 rfl rfl rfl rfl ?_
                  obtain ⟨x91, hx92, hb48⟩ := bind_some hb48
                  refine DM.idx ttok (hE.trans hS74.ext) hsk80 19 5242879 (by kernel_rfl) (by kernel_rfl) (by kernel_rfl) (by kernel_rfl) rfl (by kernel_rfl) rfl rfl rfl rfl rfl rfl (by decide) rfl rfl h3 (idx_some hx92).1 (idx_some hx92).2 rfl rfl (fun p93 es94 ha95 hr96 => ?_)
                  obtain ⟨A97, k98, A100, k101, e103, h99, h102⟩ := ty112_open hr96; subst e103
                  refine DM.run (fuel := 7) ttok hsk80 [20] 6291455 (by kernel_rfl) (by kernel_rfl) rfl ?_
                  refine DM.weak [(0, .pointer (some p0_)), (3, .int .i64 s14), (4, .pointer (some p29)), (5, .int .i64 s40), (6, .pointer (some ⟨g53, 0, none⟩)), (60, .bool false), (68, .pointer (some (p93.add 4))), (70, .pointer (some ⟨g68, 1, none⟩))] ⟨rfl, rfl, rfl, rfl, rfl, rfl, rfl, rfl, trivial⟩ ?_
                  refine DM.load1 ttok hsk80 21 8388607 (by kernel_rfl) (by kernel_rfl) (by kernel_rfl) (by kernel_rfl) rfl (by kernel_rfl) rfl rfl rfl rfl rfl (At.ext (hE.trans hS74.ext) ha95) 4 rfl rfl rfl rfl ?_
                  refine DM.load1 ttok hsk80 23 16777215 (by kernel_rfl) (by kernel_rfl) (by kernel_rfl) (by kernel_rfl) rfl (by kernel_rfl) rfl rfl rfl rfl rfl ((hS74.bring 0 rfl).box) 1 rfl rfl rfl rfl ?_
                  obtain ⟨x104, hx105, hb48⟩ := bind_some hb48
                  refine DM.idx ttok (hE.trans hS74.ext) hsk80 24 33554431 (by kernel_rfl) (by kernel_rfl) (by kernel_rfl) (by kernel_rfl) rfl (by kernel_rfl) rfl rfl rfl rfl rfl rfl (by decide) rfl rfl h102 (idx_some hx105).1 (idx_some hx105).2 rfl rfl (fun p106 es107 ha108 hr109 => ?_)
                  have e110 := ty38_open hr109; subst e110
                  refine DM.loadN ttok hsk80 25 67108863 (by kernel_rfl) (by kernel_rfl) (by kernel_rfl) (by kernel_rfl) rfl (by kernel_rfl) rfl rfl rfl rfl rfl (At.ext (hE.trans hS74.ext) ha108) rfl rfl rfl ?_
                  refine DM.loadN ttok hsk80 26 134217727 (by kernel_rfl) (by kernel_rfl) (by kernel_rfl) (by kernel_rfl) rfl (by kernel_rfl) rfl rfl rfl rfl rfl ((hS74.bring 1 rfl).box) rfl rfl rfl ?_
                  refine DM.run (fuel := 0) ttok hsk80 [27, 28] 536870911 (by kernel_rfl) (by kernel_rfl) rfl ?_
                  refine DM.weak [(0, .pointer (some p0_)), (3, .int .i64 s14), (4, .pointer (some p29)), (5, .int .i64 s40), (76, .bool (!(((x104.Agent : Int) == s14) && (((x104.Slot : Int) == s40) && true))))] ⟨rfl, rfl, rfl, rfl, rfl, trivial⟩ ?_
                  refine DM.done hsk80 (by kernel_rfl) ?_
                  exact ⟨!(((x104.Agent : Int) == s14) && (((x104.Slot : Int) == s40) && true)), [(0, .pointer (some p0_)), (3, .int .i64 s14), (4, .pointer (some p29)), (5, .int .i64 s40), (76, .bool (!(((x104.Agent : Int) == s14) && (((x104.Slot : Int) == s40) && true))))], ⟨rfl, rfl, rfl, rfl, rfl, trivial⟩, hb48, ((Ext.draw _).trans hR88.ext), hS89, rfl⟩
          · skip
            rw [if_neg (not_t hc)] at hb48
            refine WP.exit ?_
            cases hb48
            exact ⟨_, [(0, .pointer (some p0_)), (3, .int .i64 s14)], ⟨rfl, rfl, trivial⟩, ho49, hS51, rfl⟩
      · skip
        rw [if_neg (not_t hc)] at hb22
        refine WP.exit ?_
        cases hb22
        exact ⟨_, [], trivial, ho23, hS25, rfl⟩

theorem enters63 : Enters Try.prog 63 := ⟨_, _, Try.func63, rfl, by kernel_rfl⟩
def m_impl_areAgents_j2 (fuel : Nat) (t7 : Unit) : Option Bool := some true
def m_impl_areAgents_j3 (fuel : Nat) (s6 : Int) (t41 : Bool) : Option (Rd (Int) (Unit) (Bool)) := (if t41 = true then some (.ret false) else some (.next (w64 (s6 + 1))))
def m_impl_areAgents_b1 (fuel : Nat) (x0 : (List D.Agent)) (s6 : Int) : Option (Rd (Int) (Unit) (Bool)) := (if (decide (s6 < (x0.length : Int))) = true then ((idx x0 s6).bind fun x21 => ((m_impl_wellFormed fuel x21).bind fun r46 => (if (!r46) = true then m_impl_areAgents_j3 fuel s6 true else m_impl_areAgents_j3 fuel s6 (!((x21.Kind == 1) == (s6 == 0)))))) else some (.brk ()))
def m_impl_areAgents_j1 (fuel : Nat) (x0 : (List D.Agent)) (t1 : Bool) : Option Bool := (if t1 = true then some false else ((iter (m_impl_areAgents_b1 fuel x0) fuel 0).bind fun o => aft o (m_impl_areAgents_j2 fuel)))
def m_impl_areAgents (fuel : Nat) (x0 : (List D.Agent)) : Option (Bool) := (if (decide ((x0.length : Int) < 1)) = true then m_impl_areAgents_j1 fuel x0 true else m_impl_areAgents_j1 fuel x0 (decide ((x0.length : Int) > 600)))

set_option maxRecDepth 100000 in
theorem impl_areAgents_ok {W w : World} (hE : Ext W w) {A0_ : Option Addr} {k0_ : Nat} {x0 : (List D.Agent)} (h0_ : ty28.ro W [.slice A0_ x0.length k0_] x0) {fuel : Nat} {r : Bool} (hm : m_impl_areAgents fuel x0 = some r) :
    Calls Try.prog 63 ⟨[.slice A0_ x0.length k0_]⟩ w (Ret fun v w8 => v = .bool r ∧ St w w8 []) := by
  refine Calls.into Try.func63 rfl 32 rfl rfl _ rfl ?_
  unfold m_impl_areAgents at hm
  have hS := St.start w
  refine WP.seq ?_
  refine WP.region ?_
  refine RW.run ttok 1 rfl ?_
  refine RW.nil ?_
  refine WP.seq ?_
  refine WP.seq ?_
  refine WP.cut (fun (t1 : Bool) F w9 => m_impl_areAgents_j1 fuel x0 t1 = some r ∧ Ext w w9 ∧ St w w9 [] ∧ F = [(0, .slice A0_ x0.length k0_), (12, .bool t1)]) ?_ ?_
  · skip
    rintro t1 F w4 ⟨hm, hE2, hS3, rfl⟩
    unfold m_impl_areAgents_j1 at hm
    refine WP.cond t1 rfl (fun hc => ?_) (fun hc => ?_)
    · skip
      rw [if_pos hc] at hm
      refine WP.seq ?_
      refine WP.region ?_
      refine RW.run ttok 1 rfl ?_
      refine RW.nil ?_
      refine WP.ret ?_
      cases hm
      exact ⟨_, .cons (.tmp rfl) .nil, rfl, hS3⟩
    · skip
      rw [if_neg (not_t hc)] at hm
      refine WP.skip ?_
      refine WP.seq ?_
      refine WP.seq ?_
      refine WP.region ?_
      refine RW.run ttok 3 rfl ?_
      refine RW.nil ?_
      obtain ⟨o12, hl13, hm⟩ := bind_some hm
      refine WP.cut (fun (t7 : Unit) F w9 => o12 = .inl t7 ∧ St w w9 [] ∧ F = []) ?_ ?_
      · skip
        rintro t7 F w11 ⟨ho15, hS14, rfl⟩
        subst ho15
        rw [aft_inl] at hm
        unfold m_impl_areAgents_j2 at hm
        refine WP.seq ?_
        refine WP.region ?_
        refine RW.run ttok 1 rfl ?_
        refine RW.nil ?_
        refine WP.ret ?_
        cases hm
        exact ⟨_, .cons (.tmp rfl) .nil, rfl, hS14⟩
      · skip
        refine WP.block ?_
        refine WP.weak [(13, .slice A0_ x0.length k0_), (14, .int .i64 (x0.length : Int)), (15, .int .i64 0)] ⟨rfl, rfl, rfl, trivial⟩ ?_
        refine WP.iter (fun (s6 : Int) F w9 => St w w9 [] ∧ F = [(13, .slice A0_ x0.length k0_), (14, .int .i64 (x0.length : Int)), (15, .int .i64 s6)]) _ hl13 ⟨hS3, rfl⟩ ?_
        rintro s6 F w20 _ o18 ⟨hS19, rfl⟩ hb16 ho17
        unfold m_impl_areAgents_b1 at hb16
        refine WP.seq ?_
        refine WP.region ?_
        refine RW.run ttok 1 rfl ?_
        refine RW.nil ?_
        refine WP.seq ?_
        refine WP.cond (decide (s6 < (x0.length : Int))) rfl (fun hc => ?_) (fun hc => ?_)
        · skip
          rw [if_pos hc] at hb16
          refine WP.skip ?_
          refine WP.seq ?_
          refine WP.block ?_
          refine WP.seq ?_
          refine WP.region ?_
          refine RW.run ttok 1 rfl ?_
          obtain ⟨x21, hx22, hb16⟩ := bind_some hb16
          refine RW.idx ttok (hE.trans hS19.ext) rfl rfl rfl rfl rfl rfl (by decide) rfl rfl h0_ (idx_some hx22).1 (idx_some hx22).2 rfl rfl (fun p23 es24 ha25 hr26 => ?_)
          obtain ⟨A27, k28, A30, k31, e33, h29, h32⟩ := ty112_open hr26; subst e33
          refine RW.loadN ttok rfl rfl rfl rfl rfl (At.ext (hE.trans hS19.ext) ha25) rfl rfl rfl ?_
          refine RW.new ttok hS19 rfl rfl rfl rfl (fun g34 w35 e36 hS37 => ?_)
          refine RW.run ttok 1 rfl ?_
          have hS38 := hS37.bring 0 rfl
          refine RW.store ttok (A := []) hS38 rfl rfl rfl rfl rfl 0 rfl rfl rfl rfl rfl (fun w39 hS40 => ?_)
          refine RW.nil ?_
          refine WP.seq ?_
          refine WP.cut (fun (t41 : Bool) F w9 => m_impl_areAgents_j3 fuel s6 t41 = some o18 ∧ Ext w39 w9 ∧ St w w9 [Box g34 [.int .i64 x21.Kind, .int .i64 x21.Level, .int .i64 x21.Value, .slice A27 x21.Data.length k28, .slice A30 x21.Ports.length k31] 112] ∧ F = [(13, .slice A0_ x0.length k0_), (14, .int .i64 (x0.length : Int)), (15, .int .i64 s6), (30, .bool t41)]) ?_ ?_
          · skip
            rintro t41 F w44 ⟨hb16, hE42, hS43, rfl⟩
            unfold m_impl_areAgents_j3 at hb16
            refine WP.cond t41 rfl (fun hc => ?_) (fun hc => ?_)
            · skip
              rw [if_pos hc] at hb16
              refine WP.seq ?_
              refine WP.region ?_
              refine RW.run ttok 1 rfl ?_
              refine RW.nil ?_
              refine WP.ret ?_
              cases hb16
              cases ho17
              have hm : some _ = some _ := hm
              cases hm
              exact ⟨_, .cons (.tmp rfl) .nil, rfl, (hS43.taken 0)⟩
            · skip
              rw [if_neg (not_t hc)] at hb16
              refine WP.skip ?_
              refine WP.region ?_
              refine RW.run ttok 2 rfl ?_
              refine RW.nil ?_
              cases hb16
              exact ⟨_, [(13, .slice A0_ x0.length k0_), (14, .int .i64 (x0.length : Int)), (15, .int .i64 (w64 (s6 + 1)))], ⟨rfl, rfl, rfl, trivial⟩, rfl, (hS43.taken 0), rfl⟩
          · skip
            refine WP.region ?_
            refine RW.loadN ttok rfl rfl rfl rfl rfl ((hS40.bring 0 rfl).box) rfl rfl rfl ?_
            obtain ⟨r46, hx47, hb16⟩ := bind_some hb16
            refine RW.call rfl rfl rfl enters125 (impl_wellFormed_ok (hE.trans hS40.ext) (ty112_shut x21 h29 h32) hx47) (fun v48 w49 hR50 => ?_)
            obtain ⟨rfl, hR51⟩ := hR50
            have hS52 := hS40.join hR51
            refine RW.run ttok 2 rfl ?_
            by_cases hg53 : (!r46) = true
            · skip
              rw [if_pos hg53] at hb16
              refine RW.know 23 rfl (congrArg Value.bool hg53) ?_
              refine RW.run ttok 7 rfl ?_
              refine RW.nil ?_
              exact ⟨true, [(13, .slice A0_ x0.length k0_), (14, .int .i64 (x0.length : Int)), (15, .int .i64 s6), (30, .bool true)], ⟨rfl, rfl, rfl, rfl, trivial⟩, hb16, hR51.ext, hS52, rfl⟩
            · skip
              rw [if_neg hg53] at hb16
              refine RW.know 23 rfl (congrArg Value.bool (Bool.eq_false_iff.2 hg53)) ?_
              refine RW.run ttok 1 rfl ?_
              refine RW.load1 ttok rfl rfl rfl rfl rfl ((hS52.bring 0 rfl).box) 0 rfl rfl rfl rfl ?_
              refine RW.run ttok 5 rfl ?_
              refine RW.nil ?_
              exact ⟨!((x21.Kind == 1) == (s6 == 0)), [(13, .slice A0_ x0.length k0_), (14, .int .i64 (x0.length : Int)), (15, .int .i64 s6), (30, .bool (!((x21.Kind == 1) == (s6 == 0))))], ⟨rfl, rfl, rfl, rfl, trivial⟩, hb16, hR51.ext, hS52, rfl⟩
        · skip
          rw [if_neg (not_t hc)] at hb16
          refine WP.exit ?_
          cases hb16
          exact ⟨_, [], trivial, ho17, hS19, rfl⟩
  · skip
    refine WP.region ?_
    refine RW.run ttok 4 rfl ?_
    by_cases hg54 : (decide ((x0.length : Int) < 1)) = true
    · skip
      rw [if_pos hg54] at hm
      refine RW.know 8 rfl (congrArg Value.bool hg54) ?_
      refine RW.run ttok 4 rfl ?_
      refine RW.nil ?_
      exact ⟨true, [(0, .slice A0_ x0.length k0_), (12, .bool true)], ⟨rfl, rfl, trivial⟩, hm, (Ext.refl _), hS, rfl⟩
    · skip
      rw [if_neg hg54] at hm
      refine RW.know 8 rfl (congrArg Value.bool (Bool.eq_false_iff.2 hg54)) ?_
      refine RW.run ttok 4 rfl ?_
      refine RW.nil ?_
      exact ⟨decide ((x0.length : Int) > 600), [(0, .slice A0_ x0.length k0_), (12, .bool (decide ((x0.length : Int) > 600)))], ⟨rfl, rfl, trivial⟩, hm, (Ext.refl _), hS, rfl⟩

theorem enters66 : Enters Try.prog 66 := ⟨_, _, Try.func66, rfl, by kernel_rfl⟩
def m_impl_Net_ports_j1 (fuel : Nat) (t6 : (List D.Port)) : Option (List D.Port) := some t6
def m_impl_Net_ports_j2 (fuel : Nat) (s5 : (List D.Port) × Int) (t48 : (List D.Port)) : Option (Rd ((List D.Port) × Int) ((List D.Port)) ((List D.Port))) := some (.next (t48, w64 (s5.2 + 1)))
def m_impl_Net_ports_b2 (fuel : Nat) (s5 : (List D.Port) × Int) (x27 : D.Agent) (s47 : Int × (List D.Port)) : Option (Rd (Int × (List D.Port)) ((List D.Port)) (Rd ((List D.Port) × Int) ((List D.Port)) ((List D.Port)))) := (if (decide (s47.1 < (x27.Ports.length : Int))) = true then (if decide ((s47.2.length : Int) + (([(⟨s5.2, s47.1⟩ : D.Port)] : (List D.Port)).length : Int) ≤ 4294967296) = true then some (.next (w64 (s47.1 + 1), (s47.2 ++ ([(⟨s5.2, s47.1⟩ : D.Port)] : (List D.Port))))) else none) else some (.brk s47.2))
def m_impl_Net_ports_b1 (fuel : Nat) (x0 : D.Net) (s5 : (List D.Port) × Int) : Option (Rd ((List D.Port) × Int) ((List D.Port)) ((List D.Port))) := (if (decide (s5.2 < (x0.Agents.length : Int))) = true then ((idx x0.Agents s5.2).bind fun x27 => ((iter (m_impl_Net_ports_b2 fuel s5 x27) fuel (0, s5.1)).bind fun o => aft o (m_impl_Net_ports_j2 fuel s5))) else some (.brk s5.1))
def m_impl_Net_ports (fuel : Nat) (x0 : D.Net) : Option ((List D.Port)) := ((iter (m_impl_Net_ports_b1 fuel x0) fuel ([], 0)).bind fun o => aft o (m_impl_Net_ports_j1 fuel))

set_option maxRecDepth 100000 in
theorem impl_Net_ports_ok {W w : World} (hE : Ext W w) {p0_ : Addr} {c0_ : List Value} {x0 : D.Net} (h0_ : ty30.ro W c0_ x0) (g0_ : At W p0_ c0_) {fuel : Nat} {r : (List D.Port)} (hm : m_impl_Net_ports fuel x0 = some r) :
    Calls Try.prog 66 ⟨[.pointer (some p0_)]⟩ w (Ret fun v w8 => ∃ A0 k0, v = .slice A0 r.length k0 ∧ St w w8 [Own ty110 [.slice A0 r.length k0] r]) := by
  obtain ⟨A1, k2, e4, h3⟩ := ty30_open h0_; subst e4
  refine Calls.into Try.func66 rfl 32 rfl rfl _ rfl ?_
  unfold m_impl_Net_ports at hm
  have hS := St.start w
  refine WP.seq ?_
  refine WP.region ?_
  refine RW.run ttok 1 rfl ?_
  refine RW.nil ?_
  refine WP.seq ?_
  refine WP.region ?_
  refine RW.run ttok 1 rfl ?_
  refine RW.nil ?_
  refine WP.seq ?_
  refine WP.seq ?_
  refine WP.region ?_
  refine RW.run ttok 3 rfl ?_
  refine RW.load1 ttok rfl rfl rfl rfl rfl (At.ext (hE.trans hS.ext) g0_) 0 rfl rfl rfl rfl ?_
  refine RW.run ttok 2 rfl ?_
  refine RW.nil ?_
  obtain ⟨o17, hl18, hm⟩ := bind_some hm
  refine WP.cut (fun (t6 : (List D.Port)) F w9 => ∃ A14 k15, o17 = .inl t6 ∧ St w w9 [Own ty110 [.slice A14 t6.length k15] t6] ∧ F = [(3, .slice A14 t6.length k15)]) ?_ ?_
  · skip
    rintro t6 F w16 ⟨A14, k15, ho20, hS19, rfl⟩
    subst ho20
    rw [aft_inl] at hm
    unfold m_impl_Net_ports_j1 at hm
    refine WP.seq ?_
    refine WP.region ?_
    refine RW.run ttok 2 rfl ?_
    refine RW.nil ?_
    refine WP.ret ?_
    cases hm
    exact ⟨_, .cons (.tmp rfl) .nil, A14, k15, rfl, hS19⟩
  · skip
    refine WP.block ?_
    have hS21 := hS.nilSl ty38 38
    refine WP.weak [(3, .slice none 0 0), (10, .slice A1 x0.Agents.length k2), (11, .int .i64 (x0.Agents.length : Int)), (12, .int .i64 0)] ⟨rfl, rfl, rfl, rfl, trivial⟩ ?_
    refine WP.iter (fun (s5 : (List D.Port) × Int) F w9 => ∃ A12 k13, St w w9 [Own ty110 [.slice A12 s5.1.length k13] s5.1] ∧ F = [(3, .slice A12 s5.1.length k13), (10, .slice A1 x0.Agents.length k2), (11, .int .i64 (x0.Agents.length : Int)), (12, .int .i64 s5.2)]) _ hl18 ⟨none, 0, hS21, rfl⟩ ?_
    rintro s5 F w26 _ o24 ⟨A12, k13, hS25, rfl⟩ hb22 ho23
    unfold m_impl_Net_ports_b1 at hb22
    refine WP.seq ?_
    refine WP.region ?_
    refine RW.run ttok 1 rfl ?_
    refine RW.nil ?_
    refine WP.seq ?_
    refine WP.cond (decide (s5.2 < (x0.Agents.length : Int))) rfl (fun hc => ?_) (fun hc => ?_)
    · skip
      rw [if_pos hc] at hb22
      refine WP.skip ?_
      refine WP.seq ?_
      refine WP.block ?_
      refine WP.seq ?_
      refine WP.region ?_
      refine RW.run ttok 1 rfl ?_
      obtain ⟨x27, hx28, hb22⟩ := bind_some hb22
      refine RW.idx ttok (hE.trans hS25.ext) rfl rfl rfl rfl rfl rfl (by decide) rfl rfl h3 (idx_some hx28).1 (idx_some hx28).2 rfl rfl (fun p29 es30 ha31 hr32 => ?_)
      obtain ⟨A33, k34, A36, k37, e39, h35, h38⟩ := ty112_open hr32; subst e39
      refine RW.loadN ttok rfl rfl rfl rfl rfl (At.ext (hE.trans hS25.ext) ha31) rfl rfl rfl ?_
      refine RW.new ttok hS25 rfl rfl rfl rfl (fun g40 w41 e42 hS43 => ?_)
      refine RW.run ttok 1 rfl ?_
      have hS44 := hS43.bring 0 rfl
      refine RW.store ttok (A := []) hS44 rfl rfl rfl rfl rfl 0 rfl rfl rfl rfl rfl (fun w45 hS46 => ?_)
      refine RW.nil ?_
      refine WP.seq ?_
      refine WP.region ?_
      refine RW.run ttok 1 rfl ?_
      refine RW.load1 ttok rfl rfl rfl rfl rfl ((hS46.bring 0 rfl).box) 4 rfl rfl rfl rfl ?_
      refine RW.run ttok 2 rfl ?_
      refine RW.nil ?_
      obtain ⟨o57, hl58, hb22⟩ := bind_some hb22
      refine WP.cut (fun (t48 : (List D.Port)) F w9 => ∃ A54 k55, o57 = .inl t48 ∧ St w w9 [Box g40 [.int .i64 x27.Kind, .int .i64 x27.Level, .int .i64 x27.Value, .slice A33 x27.Data.length k34, .slice A36 x27.Ports.length k37] 112, Own ty110 [.slice A54 t48.length k55] t48] ∧ F = [(3, .slice A54 t48.length k55), (10, .slice A1 x0.Agents.length k2), (11, .int .i64 (x0.Agents.length : Int)), (12, .int .i64 s5.2)]) ?_ ?_
      · skip
        rintro t48 F w56 ⟨A54, k55, ho60, hS59, rfl⟩
        subst ho60
        rw [aft_inl] at hb22
        unfold m_impl_Net_ports_j2 at hb22
        refine WP.region ?_
        refine RW.run ttok 2 rfl ?_
        refine RW.nil ?_
        cases hb22
        exact ⟨_, [(3, .slice A54 t48.length k55), (10, .slice A1 x0.Agents.length k2), (11, .int .i64 (x0.Agents.length : Int)), (12, .int .i64 (w64 (s5.2 + 1)))], ⟨rfl, rfl, rfl, rfl, trivial⟩, rfl, A54, k55, ((hS59.bring 1 rfl).taken 1), rfl⟩
      · skip
        refine WP.block ?_
        refine WP.weak [(3, .slice A12 s5.1.length k13), (4, .int .i64 s5.2), (10, .slice A1 x0.Agents.length k2), (11, .int .i64 (x0.Agents.length : Int)), (12, .int .i64 s5.2), (19, .int .i64 (x27.Ports.length : Int)), (20, .int .i64 0)] ⟨rfl, rfl, rfl, rfl, rfl, rfl, rfl, trivial⟩ ?_
        refine WP.iter (fun (s47 : Int × (List D.Port)) F w9 => ∃ A52 k53, St w w9 [Box g40 [.int .i64 x27.Kind, .int .i64 x27.Level, .int .i64 x27.Value, .slice A33 x27.Data.length k34, .slice A36 x27.Ports.length k37] 112, Own ty110 [.slice A52 s47.2.length k53] s47.2] ∧ F = [(3, .slice A52 s47.2.length k53), (4, .int .i64 s5.2), (10, .slice A1 x0.Agents.length k2), (11, .int .i64 (x0.Agents.length : Int)), (12, .int .i64 s5.2), (19, .int .i64 (x27.Ports.length : Int)), (20, .int .i64 s47.1)]) _ hl58 ⟨A12, k13, hS46, rfl⟩ ?_
        rintro s47 F w66 _ o63 ⟨A52, k53, hS65, rfl⟩ hb61 ho62
        unfold m_impl_Net_ports_b2 at hb61
        refine WP.seq ?_
        refine WP.region ?_
        refine RW.run ttok 1 rfl ?_
        refine RW.nil ?_
        refine WP.seq ?_
        refine WP.cond (decide (s47.1 < (x27.Ports.length : Int))) rfl (fun hc => ?_) (fun hc => ?_)
        · skip
          rw [if_pos hc] at hb61
          refine WP.skip ?_
          refine WP.seq ?_
          refine WP.block ?_
          refine WP.seq ?_
          refine WP.region ?_
          refine RW.run ttok 2 rfl ?_
          refine RW.nil ?_
          refine WP.region ?_
          refine RW.run ttok 3 rfl ?_
          refine RW.quiet rfl (Quiet.build ttok rfl rfl rfl rfl rfl) rfl rfl ?_
          refine RW.newSlice (U := ty38) (els := [.int .i64 s5.2, .int .i64 s47.1]) (ys := [(⟨s5.2, s47.1⟩ : D.Port)]) ttok (hS65.flatEls (U := ty38) (els := [.int .i64 s5.2, .int .i64 s47.1]) (ys := [(⟨s5.2, s47.1⟩ : D.Port)]) ⟨[.int .i64 s5.2, .int .i64 s47.1], _, [], [], rfl, rfl, (ty38_ownI (c := (⟨s5.2, s47.1⟩ : D.Port)) rfl), ⟨rfl, rfl⟩⟩) rfl rfl rfl rfl rfl rfl rfl rfl rfl rfl rfl rfl (fun A67 k68 w69 e70 hS71 => ?_)
          have hS72 := hS71.bring 2 rfl
          by_cases hk73 : decide ((s47.2.length : Int) + (([(⟨s5.2, s47.1⟩ : D.Port)] : (List D.Port)).length : Int) ≤ 4294967296) = true
          case neg => rw [if_neg hk73] at hb61; cases hb61
          rw [if_pos hk73] at hb61
          refine RW.appendRo ttok (Flat.map (Flat.pair Flat.int (Flat.pair Flat.int Flat.unit))) hS72 rfl rfl rfl rfl rfl rfl (by decide) rfl rfl ((hS72.bring 1 rfl).own) (of_decide_eq_true hk73) (by decide) rfl rfl (fun A74 k75 w76 hS77 => ?_)
          refine RW.run ttok 1 rfl ?_
          refine RW.nil ?_
          refine WP.region ?_
          refine RW.run ttok 2 rfl ?_
          refine RW.nil ?_
          cases hb61
          exact ⟨_, [(3, .slice A74 (s47.2 ++ ([(⟨s5.2, s47.1⟩ : D.Port)] : (List D.Port))).length k75), (4, .int .i64 s5.2), (10, .slice A1 x0.Agents.length k2), (11, .int .i64 (x0.Agents.length : Int)), (12, .int .i64 s5.2), (19, .int .i64 (x27.Ports.length : Int)), (20, .int .i64 (w64 (s47.1 + 1)))], ⟨rfl, rfl, rfl, rfl, rfl, rfl, rfl, trivial⟩, rfl, A74, k75, (((hS77.bring 0 rfl).bring 2 rfl).taken 2), rfl⟩
        · skip
          rw [if_neg (not_t hc)] at hb61
          refine WP.exit ?_
          cases hb61
          exact ⟨_, [(3, .slice A52 s47.2.length k53), (10, .slice A1 x0.Agents.length k2), (11, .int .i64 (x0.Agents.length : Int)), (12, .int .i64 s5.2)], ⟨rfl, rfl, rfl, rfl, trivial⟩, A52, k53, ho62, hS65, rfl⟩
    · skip
      rw [if_neg (not_t hc)] at hb22
      refine WP.exit ?_
      cases hb22
      exact ⟨_, [(3, .slice A12 s5.1.length k13)], ⟨rfl, trivial⟩, A12, k13, ho23, hS25, rfl⟩

theorem enters169 : Enters Try.prog 169 := ⟨_, _, Try.func169, rfl, by kernel_rfl⟩
def m_slices_IndexFunc_impl_Port_impl_Port_j1 (fuel : Nat) (t2 : Unit) : Option Int := some (-1)
def m_slices_IndexFunc_impl_Port_impl_Port_b1 (fuel : Nat) (x0 : (List D.Port)) (x1 : D.Port → Option Bool) (s1 : Int) : Option (Rd (Int) (Unit) (Int)) := (if (decide (s1 < (x0.length : Int))) = true then ((idx x0 s1).bind fun x19 => ((x1 x19).bind fun r26 => (if r26 = true then some (.ret s1) else some (.next (w64 (s1 + 1)))))) else some (.brk ()))
def m_slices_IndexFunc_impl_Port_impl_Port (fuel : Nat) (x0 : (List D.Port)) (x1 : D.Port → Option Bool) : Option (Int) := ((iter (m_slices_IndexFunc_impl_Port_impl_Port_b1 fuel x0 x1) fuel 0).bind fun o => aft o (m_slices_IndexFunc_impl_Port_impl_Port_j1 fuel))

set_option maxRecDepth 100000 in
theorem slices_IndexFunc_impl_Port_impl_Port_ok {W w : World} (hE : Ext W w) {A0_ : Option Addr} {k0_ : Nat} {x0 : (List D.Port)} {f1_ : Nat} {u1_ : List Value} {x1 : D.Port → Option Bool} (h0_ : ty110.ro W [.slice A0_ x0.length k0_] x0) (h1_ : Enters Try.prog f1_ ∧ ∀ {w9 : World}, Ext W w9 → ∀ {cz0 : List Value} {z0 : D.Port} {y9 : Bool}, ty38.ro w9 cz0 z0 → x1 z0 = some y9 → Calls Try.prog f1_ ⟨[.agg ⟨cz0⟩] ++ u1_⟩ w9 (Ret fun v w8 => v = .bool y9 ∧ St w9 w8 [])) {fuel : Nat} {r : Int} (hm : m_slices_IndexFunc_impl_Port_impl_Port fuel x0 x1 = some r) :
    Calls Try.prog 169 ⟨[.slice A0_ x0.length k0_, .func (.func f1_) #[] ⟨u1_⟩]⟩ w (Ret fun v w8 => v = .int .i64 r ∧ St w w8 []) := by
  refine Calls.into Try.func169 rfl 19 rfl rfl _ rfl ?_
  unfold m_slices_IndexFunc_impl_Port_impl_Port at hm
  have hS := St.start w
  refine WP.seq ?_
  refine WP.region ?_
  refine RW.run ttok 1 rfl ?_
  refine RW.nil ?_
  refine WP.seq ?_
  refine WP.seq ?_
  refine WP.region ?_
  refine RW.run ttok 3 rfl ?_
  refine RW.nil ?_
  obtain ⟨o10, hl11, hm⟩ := bind_some hm
  refine WP.cut (fun (t2 : Unit) F w9 => o10 = .inl t2 ∧ Ext w w9 ∧ St w w9 [] ∧ F = []) ?_ ?_
  · skip
    rintro t2 F w7 ⟨ho13, hE6, hS12, rfl⟩
    subst ho13
    rw [aft_inl] at hm
    unfold m_slices_IndexFunc_impl_Port_impl_Port_j1 at hm
    refine WP.seq ?_
    refine WP.region ?_
    refine RW.run ttok 1 rfl ?_
    refine RW.nil ?_
    refine WP.ret ?_
    cases hm
    exact ⟨_, .cons (.tmp rfl) .nil, rfl, hS12⟩
  · skip
    refine WP.block ?_
    refine WP.weak [(0, .slice A0_ x0.length k0_), (1, .func (.func f1_) #[] ⟨u1_⟩), (7, .int .i64 (x0.length : Int)), (8, .int .i64 0)] ⟨rfl, rfl, rfl, rfl, trivial⟩ ?_
    refine WP.iter (fun (s1 : Int) F w9 => Ext w w9 ∧ St w w9 [] ∧ F = [(0, .slice A0_ x0.length k0_), (1, .func (.func f1_) #[] ⟨u1_⟩), (7, .int .i64 (x0.length : Int)), (8, .int .i64 s1)]) _ hl11 ⟨(Ext.refl _), hS, rfl⟩ ?_
    rintro s1 F w18 _ o16 ⟨hE5, hS17, rfl⟩ hb14 ho15
    unfold m_slices_IndexFunc_impl_Port_impl_Port_b1 at hb14
    refine WP.seq ?_
    refine WP.region ?_
    refine RW.run ttok 1 rfl ?_
    refine RW.nil ?_
    refine WP.seq ?_
    refine WP.cond (decide (s1 < (x0.length : Int))) rfl (fun hc => ?_) (fun hc => ?_)
    · skip
      rw [if_pos hc] at hb14
      refine WP.skip ?_
      refine WP.seq ?_
      refine WP.block ?_
      refine WP.seq ?_
      refine WP.region ?_
      refine RW.run ttok 2 rfl ?_
      refine RW.nil ?_
      refine WP.seq ?_
      refine WP.region ?_
      refine RW.run ttok 3 rfl ?_
      obtain ⟨x19, hx20, hb14⟩ := bind_some hb14
      refine RW.idx ttok (hE.trans hS17.ext) rfl rfl rfl rfl rfl rfl (by decide) rfl rfl h0_ (idx_some hx20).1 (idx_some hx20).2 rfl rfl (fun p21 es22 ha23 hr24 => ?_)
      have e25 := ty38_open hr24; subst e25
      refine RW.loadN ttok rfl rfl rfl rfl rfl (At.ext (hE.trans hS17.ext) ha23) rfl rfl rfl ?_
      obtain ⟨r26, hx27, hb14⟩ := bind_some hb14
      refine RW.call rfl rfl rfl h1_.1 (h1_.2 (hE.trans hS17.ext) (ty38.ext (hE.trans hS17.ext) hr24) hx27) (fun v28 w29 hR30 => ?_)
      obtain ⟨rfl, hR31⟩ := hR30
      have hS32 := hS17.join hR31
      refine RW.nil ?_
      refine WP.cond r26 rfl (fun hc => ?_) (fun hc => ?_)
      · skip
        rw [if_pos hc] at hb14
        refine WP.seq ?_
        refine WP.region ?_
        refine RW.run ttok 2 rfl ?_
        refine RW.nil ?_
        refine WP.ret ?_
        cases hb14
        cases ho15
        have hm : some _ = some _ := hm
        cases hm
        exact ⟨_, .cons (.tmp rfl) .nil, rfl, hS32⟩
      · skip
        rw [if_neg (not_t hc)] at hb14
        refine WP.skip ?_
        refine WP.region ?_
        refine RW.run ttok 2 rfl ?_
        refine RW.nil ?_
        cases hb14
        exact ⟨_, [(0, .slice A0_ x0.length k0_), (1, .func (.func f1_) #[] ⟨u1_⟩), (7, .int .i64 (x0.length : Int)), (8, .int .i64 (w64 (s1 + 1)))], ⟨rfl, rfl, rfl, rfl, trivial⟩, rfl, (hE5.trans hR31.ext), hS32, rfl⟩
    · skip
      rw [if_neg (not_t hc)] at hb14
      refine WP.exit ?_
      cases hb14
      exact ⟨_, [], trivial, ho15, hE5, hS17, rfl⟩

theorem enters113 : Enters Try.prog 113 := ⟨_, _, Try.func113, rfl, by kernel_rfl⟩
def m_slices_ContainsFunc_impl_Port_impl_Port (fuel : Nat) (x0 : (List D.Port)) (x1 : D.Port → Option Bool) : Option (Bool) := ((m_slices_IndexFunc_impl_Port_impl_Port fuel x0 x1).bind fun r1 => some (decide (r1 ≥ 0)))

set_option maxRecDepth 100000 in
theorem slices_ContainsFunc_impl_Port_impl_Port_ok {W w : World} (hE : Ext W w) {A0_ : Option Addr} {k0_ : Nat} {x0 : (List D.Port)} {f1_ : Nat} {u1_ : List Value} {x1 : D.Port → Option Bool} (h0_ : ty110.ro W [.slice A0_ x0.length k0_] x0) (h1_ : Enters Try.prog f1_ ∧ ∀ {w9 : World}, Ext W w9 → ∀ {cz0 : List Value} {z0 : D.Port} {y9 : Bool}, ty38.ro w9 cz0 z0 → x1 z0 = some y9 → Calls Try.prog f1_ ⟨[.agg ⟨cz0⟩] ++ u1_⟩ w9 (Ret fun v w8 => v = .bool y9 ∧ St w9 w8 [])) {fuel : Nat} {r : Bool} (hm : m_slices_ContainsFunc_impl_Port_impl_Port fuel x0 x1 = some r) :
    Calls Try.prog 113 ⟨[.slice A0_ x0.length k0_, .func (.func f1_) #[] ⟨u1_⟩]⟩ w (Ret fun v w8 => v = .bool r ∧ St w w8 []) := by
  refine Calls.into Try.func113 rfl 9 rfl rfl _ rfl ?_
  unfold m_slices_ContainsFunc_impl_Port_impl_Port at hm
  have hS := St.start w
  refine WP.seq ?_
  refine WP.region ?_
  refine RW.run ttok 1 rfl ?_
  refine RW.nil ?_
  refine WP.seq ?_
  refine WP.region ?_
  refine RW.run ttok 2 rfl ?_
  obtain ⟨r1, hx2, hm⟩ := bind_some hm
  refine RW.call rfl rfl rfl enters169 (slices_IndexFunc_impl_Port_impl_Port_ok (hE.trans hS.ext) h0_ h1_ hx2) (fun v3 w4 hR5 => ?_)
  obtain ⟨rfl, hR6⟩ := hR5
  have hS7 := hS.join hR6
  refine RW.run ttok 2 rfl ?_
  refine RW.nil ?_
  refine WP.ret ?_
  cases hm
  exact ⟨_, .cons (.tmp rfl) .nil, rfl, hS7⟩

theorem enters56 : Enters Try.prog 56 := ⟨_, _, Try.func56, rfl, by kernel_rfl⟩
def m_impl_Net_peer (fuel : Nat) (x0 : D.Net) (x1 : D.Port) : Option (D.Port) := ((idx x0.Agents x1.Agent).bind fun x18 => ((idx x18.Ports x1.Slot).bind fun x31 => some (⟨x31.Agent, x31.Slot⟩ : D.Port)))

set_option maxRecDepth 100000 in
theorem impl_Net_peer_ok {W w : World} (hE : Ext W w) {p0_ : Addr} {c0_ : List Value} {x0 : D.Net} {c1_ : List Value} {x1 : D.Port} (h0_ : ty30.ro W c0_ x0) (g0_ : At W p0_ c0_) (h1_ : ty38.ro W c1_ x1) {fuel : Nat} {r : D.Port} (hm : m_impl_Net_peer fuel x0 x1 = some r) :
    Calls Try.prog 56 ⟨[.pointer (some p0_), .agg ⟨c1_⟩]⟩ w (Ret fun v w8 => v = .agg ⟨[.int .i64 r.Agent, .int .i64 r.Slot]⟩ ∧ St w w8 []) := by
  obtain ⟨A1, k2, e4, h3⟩ := ty30_open h0_; subst e4
  have e5 := ty38_open h1_; subst e5
  refine Calls.into Try.func56 rfl 18 rfl rfl _ rfl ?_
  unfold m_impl_Net_peer at hm
  have hS := St.start w
  refine WP.seq ?_
  refine WP.region ?_
  refine RW.new ttok hS rfl rfl rfl rfl (fun g6 w7 e10 hS11 => ?_)
  refine RW.new ttok hS11 rfl rfl rfl rfl (fun g12 w13 e14 hS15 => ?_)
  refine RW.nil ?_
  refine WP.seq ?_
  refine WP.drawnM 8192 mixed 14 (by kernel_rfl) (by kernel_rfl) [([], 16383), ([0], 16382), ([1], 16381), ([2], 16379), ([], 16383), ([4], 16367), ([3, 5], 16343), ([6], 16319), ([7], 16255), ([], 16383), ([9], 15871), ([8, 10], 15103), ([11], 14335), ([12, 0, 1, 2, 3, 4, 5, 6, 7, 8, 9, 10, 11, 12], 12287)] (by kernel_rfl) hS15.ext (fun hsk16 => ?_)
  have hS17 := hS15.step (Ext.draw _)
  refine DM.run (fuel := 9) ttok hsk16 [0, 1, 2, 4, 9] 535 (by kernel_rfl) (by kernel_rfl) rfl ?_
  refine DM.load1 ttok hsk16 3 543 (by kernel_rfl) (by kernel_rfl) (by kernel_rfl) (by kernel_rfl) rfl (by kernel_rfl) rfl rfl rfl rfl rfl (At.ext (hE.trans hS15.ext) g0_) 0 rfl rfl rfl rfl ?_
  refine DM.load1 ttok hsk16 5 575 (by kernel_rfl) (by kernel_rfl) (by kernel_rfl) (by kernel_rfl) rfl (by kernel_rfl) rfl rfl rfl rfl rfl ((hS15.bring 1 rfl).box) 0 rfl rfl rfl rfl ?_
  obtain ⟨x18, hx19, hm⟩ := bind_some hm
  refine DM.idx ttok (hE.trans hS15.ext) hsk16 6 639 (by kernel_rfl) (by kernel_rfl) (by kernel_rfl) (by kernel_rfl) rfl (by kernel_rfl) rfl rfl rfl rfl rfl rfl (by decide) rfl rfl h3 (idx_some hx19).1 (idx_some hx19).2 rfl rfl (fun p20 es21 ha22 hr23 => ?_)
  obtain ⟨A24, k25, A27, k28, e30, h26, h29⟩ := ty112_open hr23; subst e30
  refine DM.run (fuel := 5) ttok hsk16 [7] 767 (by kernel_rfl) (by kernel_rfl) rfl ?_
  refine DM.weak [(4, .pointer (some ⟨g12, 0, none⟩)), (12, .pointer (some (p20.add 4))), (14, .pointer (some ⟨g6, 1, none⟩))] ⟨rfl, rfl, rfl, trivial⟩ ?_
  refine DM.load1 ttok hsk16 8 1023 (by kernel_rfl) (by kernel_rfl) (by kernel_rfl) (by kernel_rfl) rfl (by kernel_rfl) rfl rfl rfl rfl rfl (At.ext (hE.trans hS15.ext) ha22) 4 rfl rfl rfl rfl ?_
  refine DM.load1 ttok hsk16 10 2047 (by kernel_rfl) (by kernel_rfl) (by kernel_rfl) (by kernel_rfl) rfl (by kernel_rfl) rfl rfl rfl rfl rfl ((hS15.bring 1 rfl).box) 1 rfl rfl rfl rfl ?_
  obtain ⟨x31, hx32, hm⟩ := bind_some hm
  refine DM.idx ttok (hE.trans hS15.ext) hsk16 11 4095 (by kernel_rfl) (by kernel_rfl) (by kernel_rfl) (by kernel_rfl) rfl (by kernel_rfl) rfl rfl rfl rfl rfl rfl (by decide) rfl rfl h29 (idx_some hx32).1 (idx_some hx32).2 rfl rfl (fun p33 es34 ha35 hr36 => ?_)
  have e37 := ty38_open hr36; subst e37
  refine DM.loadN ttok hsk16 12 8191 (by kernel_rfl) (by kernel_rfl) (by kernel_rfl) (by kernel_rfl) rfl (by kernel_rfl) rfl rfl rfl rfl rfl (At.ext (hE.trans hS15.ext) ha35) rfl rfl rfl ?_
  have hS38 := hS17.bring 0 rfl
  refine DM.one hsk16 13 (by kernel_rfl) (LM.store ttok (A := []) hS38 hsk16 16383 (by kernel_rfl) (by kernel_rfl) rfl rfl rfl rfl rfl rfl 0 rfl rfl rfl rfl rfl (fun w39 hS40 => ?_))
  refine DM.done hsk16 (by kernel_rfl) ?_
  refine WP.ret ?_
  cases hm
  exact ⟨_, .cons (ResIs.agg ttok rfl rfl rfl ((hS40.bring 0 rfl).box) rfl) .nil, rfl, (hS40.taken 0)⟩

theorem enters54 : Enters Try.prog 54 := ⟨_, _, Try.func54, rfl, by kernel_rfl⟩
def m_impl_hasPort (fuel : Nat) (x0 : (List D.Agent)) (x1 : D.Port) : Option (Bool) := (if (decide (x1.Agent ≥ 0)) = true then (if (decide (x1.Agent < (x0.length : Int))) = true then (if (decide (x1.Slot ≥ 0)) = true then ((idx x0 x1.Agent).bind fun x13 => some (decide (x1.Slot < (x13.Ports.length : Int)))) else some false) else some false) else some false)

set_option maxRecDepth 100000 in
theorem impl_hasPort_ok {W w : World} (hE : Ext W w) {A0_ : Option Addr} {k0_ : Nat} {x0 : (List D.Agent)} {c1_ : List Value} {x1 : D.Port} (h0_ : ty28.ro W [.slice A0_ x0.length k0_] x0) (h1_ : ty38.ro W c1_ x1) {fuel : Nat} {r : Bool} (hm : m_impl_hasPort fuel x0 x1 = some r) :
    Calls Try.prog 54 ⟨[.slice A0_ x0.length k0_, .agg ⟨c1_⟩]⟩ w (Ret fun v w8 => v = .bool r ∧ St w w8 []) := by
  have e1 := ty38_open h1_; subst e1
  refine Calls.into Try.func54 rfl 32 rfl rfl _ rfl ?_
  unfold m_impl_hasPort at hm
  have hS := St.start w
  refine WP.seq ?_
  refine WP.region ?_
  refine RW.new ttok hS rfl rfl rfl rfl (fun g2 w3 e4 hS5 => ?_)
  refine RW.run ttok 1 rfl ?_
  refine RW.nil ?_
  refine WP.seq ?_
  refine WP.drawnM 0 mixed 28 (by kernel_rfl) (by kernel_rfl) [([], 268435455), ([0], 268435454), ([1], 268435453), ([2], 268435451), ([3], 268435447), ([4, 3], 268435431), ([3], 268435447), ([6, 3], 268435383), ([5, 7, 3], 268435287), ([3, 8], 268435191), ([9, 3], 268434943), ([10], 268434431), ([11, 10], 268432383), ([12, 10], 268430335), ([10, 13], 268426239), ([14, 10], 268419071), ([15], 268402687), ([16, 15], 268337151), ([15], 268402687), ([15], 268402687), ([19, 15], 267878399), ([18, 20, 15], 267091967), ([21, 15], 266305535), ([22, 15], 264208383), ([23, 15], 260014079), ([17, 24, 15], 251494399), ([15, 25], 234848255), ([26, 15, 0, 1, 2, 3, 4, 5, 6, 7, 8, 9, 10, 11, 12, 13, 14, 15, 16, 17, 18, 19, 20, 21, 22, 23, 24, 25, 26], 201326591)] (by kernel_rfl) hS5.ext (fun hsk6 => ?_)
  have hS7 := hS5.step (Ext.draw _)
  refine DM.run (fuel := 27) ttok hsk6 [0] 1 (by kernel_rfl) (by kernel_rfl) rfl ?_
  refine DM.load1 ttok hsk6 1 3 (by kernel_rfl) (by kernel_rfl) (by kernel_rfl) (by kernel_rfl) rfl (by kernel_rfl) rfl rfl rfl rfl rfl ((hS5.bring 0 rfl).box) 0 rfl rfl rfl rfl ?_
  refine DM.run (fuel := 24) ttok hsk6 [2, 3] 15 (by kernel_rfl) (by kernel_rfl) rfl ?_
  by_cases hg10 : (decide (x1.Agent ≥ 0)) = true
  · skip
    rw [if_pos hg10] at hm
    refine DM.know 8 rfl (congrArg Value.bool hg10) ?_
    refine DM.run (fuel := 21) ttok hsk6 [4, 6, 7] 223 (by kernel_rfl) (by kernel_rfl) rfl ?_
    refine DM.load1 ttok hsk6 5 255 (by kernel_rfl) (by kernel_rfl) (by kernel_rfl) (by kernel_rfl) rfl (by kernel_rfl) rfl rfl rfl rfl rfl ((hS5.bring 0 rfl).box) 0 rfl rfl rfl rfl ?_
    refine DM.run (fuel := 17) ttok hsk6 [8, 9, 10] 2047 (by kernel_rfl) (by kernel_rfl) rfl ?_
    refine DM.weak [(0, .slice A0_ x0.length k0_), (3, .pointer (some ⟨g2, 0, none⟩)), (4, .bool false), (15, .bool (decide (x1.Agent < (x0.length : Int))))] ⟨rfl, rfl, rfl, rfl, trivial⟩ ?_
    by_cases hg11 : (decide (x1.Agent < (x0.length : Int))) = true
    · skip
      rw [if_pos hg11] at hm
      refine DM.know 15 rfl (congrArg Value.bool hg11) ?_
      refine DM.run (fuel := 16) ttok hsk6 [11] 4095 (by kernel_rfl) (by kernel_rfl) rfl ?_
      refine DM.load1 ttok hsk6 12 8191 (by kernel_rfl) (by kernel_rfl) (by kernel_rfl) (by kernel_rfl) rfl (by kernel_rfl) rfl rfl rfl rfl rfl ((hS5.bring 0 rfl).box) 1 rfl rfl rfl rfl ?_
      refine DM.run (fuel := 12) ttok hsk6 [13, 14, 15] 65535 (by kernel_rfl) (by kernel_rfl) rfl ?_
      by_cases hg12 : (decide (x1.Slot ≥ 0)) = true
      · skip
        rw [if_pos hg12] at hm
        refine DM.know 20 rfl (congrArg Value.bool hg12) ?_
        refine DM.run (fuel := 9) ttok hsk6 [16, 18, 19] 917503 (by kernel_rfl) (by kernel_rfl) rfl ?_
        refine DM.weak [(4, .bool false), (20, .bool true), (21, .pointer (some ⟨g2, 1, none⟩)), (23, .slice A0_ x0.length k0_), (24, .pointer (some ⟨g2, 0, none⟩))] ⟨rfl, rfl, rfl, rfl, rfl, trivial⟩ ?_
        refine DM.load1 ttok hsk6 17 1048575 (by kernel_rfl) (by kernel_rfl) (by kernel_rfl) (by kernel_rfl) rfl (by kernel_rfl) rfl rfl rfl rfl rfl ((hS5.bring 0 rfl).box) 1 rfl rfl rfl rfl ?_
        refine DM.load1 ttok hsk6 20 2097151 (by kernel_rfl) (by kernel_rfl) (by kernel_rfl) (by kernel_rfl) rfl (by kernel_rfl) rfl rfl rfl rfl rfl ((hS5.bring 0 rfl).box) 0 rfl rfl rfl rfl ?_
        obtain ⟨x13, hx14, hm⟩ := bind_some hm
        refine DM.idx ttok (hE.trans hS5.ext) hsk6 21 4194303 (by kernel_rfl) (by kernel_rfl) (by kernel_rfl) (by kernel_rfl) rfl (by kernel_rfl) rfl rfl rfl rfl rfl rfl (by decide) rfl rfl h0_ (idx_some hx14).1 (idx_some hx14).2 rfl rfl (fun p15 es16 ha17 hr18 => ?_)
        obtain ⟨A19, k20, A22, k23, e25, h21, h24⟩ := ty112_open hr18; subst e25
        refine DM.run (fuel := 5) ttok hsk6 [22] 8388607 (by kernel_rfl) (by kernel_rfl) rfl ?_
        refine DM.load1 ttok hsk6 23 16777215 (by kernel_rfl) (by kernel_rfl) (by kernel_rfl) (by kernel_rfl) rfl (by kernel_rfl) rfl rfl rfl rfl rfl (At.ext (hE.trans hS5.ext) ha17) 4 rfl rfl rfl rfl ?_
        refine DM.run (fuel := 0) ttok hsk6 [24, 25, 26, 27] 268435455 (by kernel_rfl) (by kernel_rfl) rfl ?_
        refine DM.weak [(4, .bool (decide (x1.Slot < (x13.Ports.length : Int))))] ⟨rfl, trivial⟩ ?_
        refine DM.done hsk6 (by kernel_rfl) ?_
        refine WP.ret ?_
        cases hm
        exact ⟨_, .cons (.tmp rfl) .nil, rfl, (hS7.taken 0)⟩
      · skip
        rw [if_neg hg12] at hm
        refine DM.know 20 rfl (congrArg Value.bool (Bool.eq_false_iff.2 hg12)) ?_
        refine DM.run (fuel := 0) ttok hsk6 [16, 17, 18, 19, 20, 21, 22, 23, 24, 25, 26, 27] 268435455 (by kernel_rfl) (by kernel_rfl) rfl ?_
        refine DM.weak [(4, .bool false)] ⟨rfl, trivial⟩ ?_
        refine DM.done hsk6 (by kernel_rfl) ?_
        refine WP.ret ?_
        cases hm
        exact ⟨_, .cons (.tmp rfl) .nil, rfl, (hS7.taken 0)⟩
    · skip
      rw [if_neg hg11] at hm
      refine DM.know 15 rfl (congrArg Value.bool (Bool.eq_false_iff.2 hg11)) ?_
      refine DM.run (fuel := 0) ttok hsk6 [11, 12, 13, 14, 15, 16, 17, 18, 19, 20, 21, 22, 23, 24, 25, 26, 27] 268435455 (by kernel_rfl) (by kernel_rfl) rfl ?_
      refine DM.weak [(4, .bool false)] ⟨rfl, trivial⟩ ?_
      refine DM.done hsk6 (by kernel_rfl) ?_
      refine WP.ret ?_
      cases hm
      exact ⟨_, .cons (.tmp rfl) .nil, rfl, (hS7.taken 0)⟩
  · skip
    rw [if_neg hg10] at hm
    refine DM.know 8 rfl (congrArg Value.bool (Bool.eq_false_iff.2 hg10)) ?_
    refine DM.run (fuel := 0) ttok hsk6 [4, 5, 6, 7, 8, 9, 10, 11, 12, 13, 14, 15, 16, 17, 18, 19, 20, 21, 22, 23, 24, 25, 26, 27] 268435455 (by kernel_rfl) (by kernel_rfl) rfl ?_
    refine DM.weak [(4, .bool false)] ⟨rfl, trivial⟩ ?_
    refine DM.done hsk6 (by kernel_rfl) ?_
    refine WP.ret ?_
    cases hm
    exact ⟨_, .cons (.tmp rfl) .nil, rfl, (hS7.taken 0)⟩

theorem enters114 : Enters Try.prog 114 := ⟨_, _, Try.func114, rfl, by kernel_rfl⟩
def m_impl_ValidNet_c1 (fuel : Nat) (x0 : D.Port) (x1 : D.Net) : Option (Bool) := ((m_impl_Net_peer fuel x1 x0).bind fun r12 => (if (((r12.Agent : Int) == x0.Agent) && (((r12.Slot : Int) == x0.Slot) && true)) = true then some true else ((m_impl_hasPort fuel x1.Agents r12).bind fun r29 => (if (!r29) = true then some true else ((m_impl_Net_peer fuel x1 r12).bind fun r37 => some (!(((r37.Agent : Int) == x0.Agent) && (((r37.Slot : Int) == x0.Slot) && true))))))))

set_option maxRecDepth 100000 in
theorem impl_ValidNet_c1_ok {W w : World} (hE : Ext W w) {c0_ : List Value} {x0 : D.Port} {p1_ : Addr} {c1_ : List Value} {x1 : D.Net} (h0_ : ty38.ro W c0_ x0) (h1_ : ty30.ro W c1_ x1) (g1_ : At W p1_ c1_) {fuel : Nat} {r : Bool} (hm : m_impl_ValidNet_c1 fuel x0 x1 = some r) :
    Calls Try.prog 114 ⟨[.agg ⟨c0_⟩, .pointer (some p1_)]⟩ w (Ret fun v w8 => v = .bool r ∧ St w w8 []) := by
  have e1 := ty38_open h0_; subst e1
  obtain ⟨A2, k3, e5, h4⟩ := ty30_open h1_; subst e5
  refine Calls.into Try.func114 rfl 23 rfl rfl _ rfl ?_
  unfold m_impl_ValidNet_c1 at hm
  have hS := St.start w
  refine WP.seq ?_
  refine WP.region ?_
  refine RW.new ttok hS rfl rfl rfl rfl (fun g6 w7 e10 hS11 => ?_)
  refine RW.run ttok 1 rfl ?_
  refine RW.nil ?_
  refine WP.seq ?_
  refine WP.region ?_
  refine RW.loadN ttok rfl rfl rfl rfl rfl ((hS11.bring 0 rfl).box) rfl rfl rfl ?_
  obtain ⟨r12, hx13, hm⟩ := bind_some hm
  refine RW.call rfl rfl rfl enters56 (impl_Net_peer_ok (hE.trans hS11.ext) h1_ g1_ h0_ hx13) (fun v14 w15 hR16 => ?_)
  obtain ⟨rfl, hR17⟩ := hR16
  have hS18 := hS11.join hR17
  refine RW.new ttok hS18 rfl rfl rfl rfl (fun g19 w20 e21 hS22 => ?_)
  have hS23 := hS22.bring 0 rfl
  refine RW.store ttok (A := []) hS23 rfl rfl rfl rfl rfl 0 rfl rfl rfl rfl rfl (fun w24 hS25 => ?_)
  refine RW.nil ?_
  refine WP.seq ?_
  refine WP.drawnM 0 mixed 17 (by kernel_rfl) (by kernel_rfl) [([], 131071), ([], 131071), ([0, 1], 131068), ([2], 131067), ([3], 131063), ([4, 3], 131047), ([3], 131063), ([5, 6, 3, 3], 130967), ([7, 3], 130935), ([3, 8], 130807), ([9, 7], 130559), ([10], 130047), ([11, 10, 10], 127999), ([10], 130047), ([12, 13, 10], 117759), ([10, 14], 113663), ([15, 12, 0, 1, 2, 3, 4, 5, 6, 7, 8, 9, 10, 11, 12, 13, 14, 15], 98303)] (by kernel_rfl) hS25.ext (fun hsk26 => ?_)
  have hS27 := hS25.step (Ext.draw _)
  refine DM.loadN ttok hsk26 0 1 (by kernel_rfl) (by kernel_rfl) (by kernel_rfl) (by kernel_rfl) rfl (by kernel_rfl) rfl rfl rfl rfl rfl ((hS25.bring 0 rfl).box) rfl rfl rfl ?_
  refine DM.loadN ttok hsk26 1 3 (by kernel_rfl) (by kernel_rfl) (by kernel_rfl) (by kernel_rfl) rfl (by kernel_rfl) rfl rfl rfl rfl rfl ((hS25.bring 1 rfl).box) rfl rfl rfl ?_
  refine DM.run (fuel := 13) ttok hsk26 [2, 3] 15 (by kernel_rfl) (by kernel_rfl) rfl ?_
  refine DM.weak [(1, .pointer (some p1_)), (2, .pointer (some ⟨g6, 0, none⟩)), (3, .bool false), (4, .pointer (some ⟨g19, 0, none⟩)), (10, .bool (((r12.Agent : Int) == x0.Agent) && (((r12.Slot : Int) == x0.Slot) && true)))] ⟨rfl, rfl, rfl, rfl, rfl, trivial⟩ ?_
  by_cases hg28 : (((r12.Agent : Int) == x0.Agent) && (((r12.Slot : Int) == x0.Slot) && true)) = true
  · skip
    rw [if_pos hg28] at hm
    refine DM.know 10 rfl (congrArg Value.bool hg28) ?_
    refine DM.run (fuel := 0) ttok hsk26 [4, 5, 6, 7, 8, 9, 10, 11, 12, 13, 14, 15, 16] 131071 (by kernel_rfl) (by kernel_rfl) rfl ?_
    refine DM.weak [(3, .bool true)] ⟨rfl, trivial⟩ ?_
    refine DM.done hsk26 (by kernel_rfl) ?_
    refine WP.ret ?_
    cases hm
    exact ⟨_, .cons (.tmp rfl) .nil, rfl, (hS27.taken 0)⟩
  · skip
    rw [if_neg hg28] at hm
    refine DM.know 10 rfl (congrArg Value.bool (Bool.eq_false_iff.2 hg28)) ?_
    refine DM.run (fuel := 12) ttok hsk26 [4] 31 (by kernel_rfl) (by kernel_rfl) rfl ?_
    refine DM.load1 ttok hsk26 5 63 (by kernel_rfl) (by kernel_rfl) (by kernel_rfl) (by kernel_rfl) rfl (by kernel_rfl) rfl rfl rfl rfl rfl (At.ext (hE.trans hS25.ext) g1_) 0 rfl rfl rfl rfl ?_
    refine DM.loadN ttok hsk26 6 127 (by kernel_rfl) (by kernel_rfl) (by kernel_rfl) (by kernel_rfl) rfl (by kernel_rfl) rfl rfl rfl rfl rfl ((hS25.bring 0 rfl).box) rfl rfl rfl ?_
    obtain ⟨r29, hx30, hm⟩ := bind_some hm
    refine DM.one hsk26 7 (by kernel_rfl) (LM.call hsk26 255 (by kernel_rfl) (by kernel_rfl) rfl rfl rfl rfl enters54 (impl_hasPort_ok (hE.trans hS27.ext) h4 (ty38_shut r12) hx30) (fun v31 w32 hR33 => ?_))
    obtain ⟨rfl, hR34⟩ := hR33
    refine ⟨hR34.ext, ?_⟩
    have hS35 := hS27.join hR34
    refine DM.run (fuel := 6) ttok hsk26 [8, 9, 10] 2047 (by kernel_rfl) (by kernel_rfl) rfl ?_
    refine DM.weak [(1, .pointer (some p1_)), (2, .pointer (some ⟨g6, 0, none⟩)), (3, .bool false), (4, .pointer (some ⟨g19, 0, none⟩)), (17, .bool (!r29))] ⟨rfl, rfl, rfl, rfl, rfl, trivial⟩ ?_
    by_cases hg36 : (!r29) = true
    · skip
      rw [if_pos hg36] at hm
      refine DM.know 17 rfl (congrArg Value.bool hg36) ?_
      refine DM.run (fuel := 0) ttok hsk26 [11, 12, 13, 14, 15, 16] 131071 (by kernel_rfl) (by kernel_rfl) rfl ?_
      refine DM.weak [(3, .bool true)] ⟨rfl, trivial⟩ ?_
      refine DM.done hsk26 (by kernel_rfl) ?_
      refine WP.ret ?_
      cases hm
      exact ⟨_, .cons (.tmp rfl) .nil, rfl, (hS35.taken 0)⟩
    · skip
      rw [if_neg hg36] at hm
      refine DM.know 17 rfl (congrArg Value.bool (Bool.eq_false_iff.2 hg36)) ?_
      refine DM.loadN ttok hsk26 11 4095 (by kernel_rfl) (by kernel_rfl) (by kernel_rfl) (by kernel_rfl) rfl (by kernel_rfl) rfl rfl rfl rfl rfl ((hS25.bring 0 rfl).box) rfl rfl rfl ?_
      refine DM.loadN ttok hsk26 13 12287 (by kernel_rfl) (by kernel_rfl) (by kernel_rfl) (by kernel_rfl) rfl (by kernel_rfl) rfl rfl rfl rfl rfl ((hS25.bring 1 rfl).box) rfl rfl rfl ?_
      obtain ⟨r37, hx38, hm⟩ := bind_some hm
      refine DM.one hsk26 12 (by kernel_rfl) (LM.call hsk26 16383 (by kernel_rfl) (by kernel_rfl) rfl rfl rfl rfl enters56 (impl_Net_peer_ok (hE.trans hS35.ext) h1_ g1_ (ty38_shut r12) hx38) (fun v39 w40 hR41 => ?_))
      obtain ⟨rfl, hR42⟩ := hR41
      refine ⟨hR42.ext, ?_⟩
      have hS43 := hS35.join hR42
      refine DM.run (fuel := 0) ttok hsk26 [14, 15, 16] 131071 (by kernel_rfl) (by kernel_rfl) rfl ?_
      refine DM.weak [(3, .bool (!(((r37.Agent : Int) == x0.Agent) && (((r37.Slot : Int) == x0.Slot) && true))))] ⟨rfl, trivial⟩ ?_
      refine DM.done hsk26 (by kernel_rfl) ?_
      refine WP.ret ?_
      cases hm
      exact ⟨_, .cons (.tmp rfl) .nil, rfl, (hS43.taken 0)⟩

theorem enters48 : Enters Try.prog 48 := ⟨_, _, Try.func48, rfl, by kernel_rfl⟩
def m_impl_ValidNet (fuel : Nat) (x0 : D.Net) : Option (Bool) := ((m_impl_areAgents fuel x0.Agents).bind fun r11 => (if (!r11) = true then some false else ((m_impl_Net_ports fuel x0).bind fun r18 => ((m_slices_ContainsFunc_impl_Port_impl_Port fuel r18 (fun y0 => m_impl_ValidNet_c1 fuel y0 x0)).bind fun r27 => some (!r27)))))

set_option maxRecDepth 100000 in
theorem impl_ValidNet_ok {W w : World} (hE : Ext W w) {c0_ : List Value} {x0 : D.Net} (h0_ : ty30.ro W c0_ x0) {fuel : Nat} {r : Bool} (hm : m_impl_ValidNet fuel x0 = some r) :
    Calls Try.prog 48 ⟨[.agg ⟨c0_⟩]⟩ w (Ret fun v w8 => v = .bool r ∧ St w w8 []) := by
  obtain ⟨A1, k2, e4, h3⟩ := ty30_open h0_; subst e4
  refine Calls.into Try.func48 rfl 11 rfl rfl _ rfl ?_
  unfold m_impl_ValidNet at hm
  have hS := St.start w
  refine WP.seq ?_
  refine WP.region ?_
  refine RW.new ttok hS rfl rfl rfl rfl (fun g5 w6 e7 hS10 => ?_)
  refine RW.run ttok 1 rfl ?_
  refine RW.nil ?_
  refine WP.seq ?_
  refine WP.seq ?_
  refine WP.region ?_
  refine RW.run ttok 1 rfl ?_
  refine RW.load1 ttok rfl rfl rfl rfl rfl ((hS10.bring 0 rfl).box) 0 rfl rfl rfl rfl ?_
  obtain ⟨r11, hx12, hm⟩ := bind_some hm
  refine RW.call rfl rfl rfl enters63 (impl_areAgents_ok (hE.trans hS10.ext) h3 hx12) (fun v13 w14 hR15 => ?_)
  obtain ⟨rfl, hR16⟩ := hR15
  have hS17 := hS10.join hR16
  refine RW.run ttok 1 rfl ?_
  refine RW.nil ?_
  refine WP.cond (!r11) rfl (fun hc => ?_) (fun hc => ?_)
  · skip
    rw [if_pos hc] at hm
    refine WP.seq ?_
    refine WP.region ?_
    refine RW.run ttok 1 rfl ?_
    refine RW.nil ?_
    refine WP.ret ?_
    cases hm
    exact ⟨_, .cons (.tmp rfl) .nil, rfl, (hS17.taken 0)⟩
  · skip
    rw [if_neg (not_t hc)] at hm
    refine WP.skip ?_
    refine WP.seq ?_
    refine WP.region ?_
    obtain ⟨r18, hx19, hm⟩ := bind_some hm
    refine RW.call rfl rfl rfl enters66 (impl_Net_ports_ok (Ext.refl _) (ty30.ext (hE.trans hS17.ext) h0_) ((hS17.bring 0 rfl).box) hx19) (fun v20 w21 hR22 => ?_)
    obtain ⟨A23, k24, rfl, hR25⟩ := hR22
    have hS26 := hS17.join hR25
    refine RW.run ttok 1 rfl ?_
    obtain ⟨r27, hx28, hm⟩ := bind_some hm
    refine RW.call rfl rfl rfl enters113 (slices_ContainsFunc_impl_Port_impl_Port_ok (Ext.refl _) ((hS26.bring 0 rfl).own) ⟨enters114, fun e9 => (fun a0_0 hx9 => impl_ValidNet_c1_ok (Ext.refl _) a0_0 (ty30.ext e9 (ty30.ext (hE.trans hS26.ext) h0_)) (At.ext e9 ((hS26.bring 1 rfl).box)) hx9)⟩ hx28) (fun v29 w30 hR31 => ?_)
    obtain ⟨rfl, hR32⟩ := hR31
    have hS33 := hS26.join hR32
    refine RW.run ttok 2 rfl ?_
    refine RW.nil ?_
    refine WP.ret ?_
    cases hm
    exact ⟨_, .cons (.tmp rfl) .nil, rfl, (hS33.taken 0)⟩

theorem enters168 : Enters Try.prog 168 := ⟨_, _, Try.func168, rfl, by kernel_rfl⟩
def m_spec_l11Before (fuel : Nat) (x0 : D.Port) (x1 : D.Port) : Option (Bool) := (if (decide (x0.Agent < x1.Agent)) = true then some true else (if (x0.Agent == x1.Agent) = true then some (decide (x0.Slot < x1.Slot)) else some false))

set_option maxRecDepth 100000 in
theorem spec_l11Before_ok {W w : World} (hE : Ext W w) {c0_ : List Value} {x0 : D.Port} {c1_ : List Value} {x1 : D.Port} (h0_ : ty38.ro W c0_ x0) (h1_ : ty38.ro W c1_ x1) {fuel : Nat} {r : Bool} (hm : m_spec_l11Before fuel x0 x1 = some r) :
    Calls Try.prog 168 ⟨[.agg ⟨c0_⟩, .agg ⟨c1_⟩]⟩ w (Ret fun v w8 => v = .bool r ∧ St w w8 []) := by
  have e1 := ty38_open h0_; subst e1
  have e2 := ty38_open h1_; subst e2
  refine Calls.into Try.func168 rfl 24 rfl rfl _ rfl ?_
  unfold m_spec_l11Before at hm
  have hS := St.start w
  refine WP.seq ?_
  refine WP.region ?_
  refine RW.new ttok hS rfl rfl rfl rfl (fun g3 w4 e5 hS6 => ?_)
  refine RW.new ttok hS6 rfl rfl rfl rfl (fun g7 w10 e11 hS12 => ?_)
  refine RW.run ttok 1 rfl ?_
  refine RW.nil ?_
  refine WP.seq ?_
  refine WP.region ?_
  refine RW.run ttok 1 rfl ?_
  refine RW.load1 ttok rfl rfl rfl rfl rfl ((hS12.bring 1 rfl).box) 0 rfl rfl rfl rfl ?_
  refine RW.run ttok 1 rfl ?_
  refine RW.load1 ttok rfl rfl rfl rfl rfl ((hS12.bring 0 rfl).box) 0 rfl rfl rfl rfl ?_
  refine RW.run ttok 2 rfl ?_
  by_cases hg13 : (decide (x0.Agent < x1.Agent)) = true
  · skip
    rw [if_pos hg13] at hm
    refine RW.know 10 rfl (congrArg Value.bool hg13) ?_
    refine RW.run ttok 14 rfl ?_
    refine RW.nil ?_
    refine WP.ret ?_
    cases hm
    exact ⟨_, .cons (.tmp rfl) .nil, rfl, (hS12.taken 0)⟩
  · skip
    rw [if_neg hg13] at hm
    refine RW.know 10 rfl (congrArg Value.bool (Bool.eq_false_iff.2 hg13)) ?_
    refine RW.run ttok 1 rfl ?_
    refine RW.load1 ttok rfl rfl rfl rfl rfl ((hS12.bring 1 rfl).box) 0 rfl rfl rfl rfl ?_
    refine RW.run ttok 1 rfl ?_
    refine RW.load1 ttok rfl rfl rfl rfl rfl ((hS12.bring 0 rfl).box) 0 rfl rfl rfl rfl ?_
    refine RW.run ttok 2 rfl ?_
    by_cases hg14 : (x0.Agent == x1.Agent) = true
    · skip
      rw [if_pos hg14] at hm
      refine RW.know 16 rfl (congrArg Value.bool hg14) ?_
      refine RW.run ttok 1 rfl ?_
      refine RW.load1 ttok rfl rfl rfl rfl rfl ((hS12.bring 1 rfl).box) 1 rfl rfl rfl rfl ?_
      refine RW.run ttok 1 rfl ?_
      refine RW.load1 ttok rfl rfl rfl rfl rfl ((hS12.bring 0 rfl).box) 1 rfl rfl rfl rfl ?_
      refine RW.run ttok 4 rfl ?_
      refine RW.nil ?_
      refine WP.ret ?_
      cases hm
      exact ⟨_, .cons (.tmp rfl) .nil, rfl, (hS12.taken 0)⟩
    · skip
      rw [if_neg hg14] at hm
      refine RW.know 16 rfl (congrArg Value.bool (Bool.eq_false_iff.2 hg14)) ?_
      refine RW.run ttok 8 rfl ?_
      refine RW.nil ?_
      refine WP.ret ?_
      cases hm
      exact ⟨_, .cons (.tmp rfl) .nil, rfl, (hS12.taken 0)⟩

theorem enters112 : Enters Try.prog 112 := ⟨_, _, Try.func112, rfl, by kernel_rfl⟩
def m_spec_l11Wires_j1 (fuel : Nat) (t13 : (List D.Wire)) : Option (List D.Wire) := some t13
def m_spec_l11Wires_j2 (fuel : Nat) (s12 : Int × (List D.Wire)) (t32 : (List D.Wire)) : Option (Rd (Int × (List D.Wire)) ((List D.Wire)) ((List D.Wire))) := some (.next (w64 (s12.1 + 1), t32))
def m_spec_l11Wires_j3 (fuel : Nat) (s31 : Int × (List D.Wire)) (t100 : (List D.Wire)) : Option (Rd (Int × (List D.Wire)) ((List D.Wire)) (Rd (Int × (List D.Wire)) ((List D.Wire)) ((List D.Wire)))) := some (.next (w64 (s31.1 + 1), t100))
def m_spec_l11Wires_b2 (fuel : Nat) (x0 : D.Net) (s12 : Int × (List D.Wire)) (s31 : Int × (List D.Wire)) : Option (Rd (Int × (List D.Wire)) ((List D.Wire)) (Rd (Int × (List D.Wire)) ((List D.Wire)) ((List D.Wire)))) := ((idx x0.Agents s12.1).bind fun x50 => (if (decide (s31.1 < (x50.Ports.length : Int))) = true then ((idx x0.Agents s12.1).bind fun x73 => ((idx x73.Ports s31.1).bind fun x86 => ((m_spec_l11Before fuel (⟨s12.1, s31.1⟩ : D.Port) x86).bind fun r93 => (if r93 = true then ((idx x0.Agents s12.1).bind fun x108 => ((idx x108.Ports s31.1).bind fun x121 => (if decide ((s31.2.length : Int) + (([(⟨(⟨s12.1, s31.1⟩ : D.Port), (⟨x121.Agent, x121.Slot⟩ : D.Port)⟩ : D.Wire)] : (List D.Wire)).length : Int) ≤ 4294967296) = true then m_spec_l11Wires_j3 fuel s31 (s31.2 ++ ([(⟨(⟨s12.1, s31.1⟩ : D.Port), (⟨x121.Agent, x121.Slot⟩ : D.Port)⟩ : D.Wire)] : (List D.Wire))) else none))) else m_spec_l11Wires_j3 fuel s31 s31.2)))) else some (.brk s31.2)))
def m_spec_l11Wires_b1 (fuel : Nat) (x0 : D.Net) (s12 : Int × (List D.Wire)) : Option (Rd (Int × (List D.Wire)) ((List D.Wire)) ((List D.Wire))) := (if (decide (s12.1 < (x0.Agents.length : Int))) = true then ((iter (m_spec_l11Wires_b2 fuel x0 s12) fuel (0, s12.2)).bind fun o => aft o (m_spec_l11Wires_j2 fuel s12)) else some (.brk s12.2))
def m_spec_l11Wires (fuel : Nat) (x0 : D.Net) : Option ((List D.Wire)) := ((iter (m_spec_l11Wires_b1 fuel x0) fuel (0, ([] : (List D.Wire)))).bind fun o => aft o (m_spec_l11Wires_j1 fuel))

set_option maxRecDepth 100000 in
theorem spec_l11Wires_ok {W w : World} (hE : Ext W w) {p0_ : Addr} {c0_ : List Value} {x0 : D.Net} (h0_ : ty30.ro W c0_ x0) (g0_ : At W p0_ c0_) {fuel : Nat} {r : (List D.Wire)} (hm : m_spec_l11Wires fuel x0 = some r) :
    Calls Try.prog 112 ⟨[.pointer (some p0_)]⟩ w (Ret fun v w8 => ∃ A0 k0, v = .slice A0 r.length k0 ∧ St w w8 [Own ty47 [.slice A0 r.length k0] r]) := by
  obtain ⟨A1, k2, e4, h3⟩ := ty30_open h0_; subst e4
  refine Calls.into Try.func112 rfl 63 rfl rfl _ rfl ?_
  unfold m_spec_l11Wires at hm
  have hS := St.start w
  refine WP.seq ?_
  refine WP.region ?_
  refine RW.run ttok 1 rfl ?_
  refine RW.nil ?_
  refine WP.seq ?_
  refine WP.region ?_
  refine RW.newSlice0 (U := ty109) ttok hS rfl rfl rfl rfl rfl rfl rfl (fun A5 k6 w7 e10 hS11 => ?_)
  refine RW.run ttok 1 rfl ?_
  refine RW.nil ?_
  refine WP.seq ?_
  refine WP.seq ?_
  refine WP.region ?_
  refine RW.run ttok 1 rfl ?_
  refine RW.nil ?_
  obtain ⟨o22, hl23, hm⟩ := bind_some hm
  refine WP.cut (fun (t13 : (List D.Wire)) F w9 => ∃ A19 k20, o22 = .inl t13 ∧ St w w9 [Own ty47 [.slice A19 t13.length k20] t13] ∧ F = [(3, .slice A19 t13.length k20)]) ?_ ?_
  · skip
    rintro t13 F w21 ⟨A19, k20, ho25, hS24, rfl⟩
    subst ho25
    rw [aft_inl] at hm
    unfold m_spec_l11Wires_j1 at hm
    refine WP.seq ?_
    refine WP.region ?_
    refine RW.run ttok 2 rfl ?_
    refine RW.nil ?_
    refine WP.ret ?_
    cases hm
    exact ⟨_, .cons (.tmp rfl) .nil, A19, k20, rfl, hS24⟩
  · skip
    refine WP.block ?_
    refine WP.weak [(0, .pointer (some p0_)), (3, .slice A5 ([] : (List D.Wire)).length k6), (4, .int .i64 0)] ⟨rfl, rfl, rfl, trivial⟩ ?_
    refine WP.iter (fun (s12 : Int × (List D.Wire)) F w9 => ∃ A17 k18, St w w9 [Own ty47 [.slice A17 s12.2.length k18] s12.2] ∧ F = [(0, .pointer (some p0_)), (3, .slice A17 s12.2.length k18), (4, .int .i64 s12.1)]) _ hl23 ⟨A5, k6, hS11, rfl⟩ ?_
    rintro s12 F w30 _ o28 ⟨A17, k18, hS29, rfl⟩ hb26 ho27
    unfold m_spec_l11Wires_b1 at hb26
    refine WP.seq ?_
    refine WP.seq ?_
    refine WP.region ?_
    refine RW.run ttok 4 rfl ?_
    refine RW.load1 ttok rfl rfl rfl rfl rfl (At.ext (hE.trans hS29.ext) g0_) 0 rfl rfl rfl rfl ?_
    refine RW.run ttok 2 rfl ?_
    refine RW.nil ?_
    refine WP.cond (decide (s12.1 < (x0.Agents.length : Int))) rfl (fun hc => ?_) (fun hc => ?_)
    · skip
      rw [if_pos hc] at hb26
      refine WP.skip ?_
      refine WP.seq ?_
      refine WP.block ?_
      refine WP.seq ?_
      refine WP.region ?_
      refine RW.run ttok 1 rfl ?_
      refine RW.nil ?_
      obtain ⟨o41, hl42, hb26⟩ := bind_some hb26
      refine WP.cut (fun (t32 : (List D.Wire)) F w9 => ∃ A38 k39, o41 = .inl t32 ∧ St w w9 [Own ty47 [.slice A38 t32.length k39] t32] ∧ F = [(0, .pointer (some p0_)), (3, .slice A38 t32.length k39), (4, .int .i64 s12.1)]) ?_ ?_
      · skip
        rintro t32 F w40 ⟨A38, k39, ho44, hS43, rfl⟩
        subst ho44
        rw [aft_inl] at hb26
        unfold m_spec_l11Wires_j2 at hb26
        refine WP.region ?_
        refine RW.run ttok 3 rfl ?_
        refine RW.nil ?_
        cases hb26
        exact ⟨_, [(0, .pointer (some p0_)), (3, .slice A38 t32.length k39), (4, .int .i64 (w64 (s12.1 + 1)))], ⟨rfl, rfl, rfl, trivial⟩, rfl, A38, k39, hS43, rfl⟩
      · skip
        refine WP.block ?_
        refine WP.weak [(0, .pointer (some p0_)), (3, .slice A17 s12.2.length k18), (4, .int .i64 s12.1), (5, .int .i64 0)] ⟨rfl, rfl, rfl, rfl, trivial⟩ ?_
        refine WP.iter (fun (s31 : Int × (List D.Wire)) F w9 => ∃ A36 k37, St w w9 [Own ty47 [.slice A36 s31.2.length k37] s31.2] ∧ F = [(0, .pointer (some p0_)), (3, .slice A36 s31.2.length k37), (4, .int .i64 s12.1), (5, .int .i64 s31.1)]) _ hl42 ⟨A17, k18, hS29, rfl⟩ ?_
        rintro s31 F w49 _ o47 ⟨A36, k37, hS48, rfl⟩ hb45 ho46
        unfold m_spec_l11Wires_b2 at hb45
        refine WP.seq ?_
        refine WP.seq ?_
        refine WP.region ?_
        refine RW.run ttok 4 rfl ?_
        refine RW.load1 ttok rfl rfl rfl rfl rfl (At.ext (hE.trans hS48.ext) g0_) 0 rfl rfl rfl rfl ?_
        refine RW.run ttok 1 rfl ?_
        obtain ⟨x50, hx51, hb45⟩ := bind_some hb45
        refine RW.idx ttok (hE.trans hS48.ext) rfl rfl rfl rfl rfl rfl (by decide) rfl rfl h3 (idx_some hx51).1 (idx_some hx51).2 rfl rfl (fun p52 es53 ha54 hr55 => ?_)
        obtain ⟨A56, k57, A59, k60, e62, h58, h61⟩ := ty112_open hr55; subst e62
        refine RW.run ttok 1 rfl ?_
        refine RW.load1 ttok rfl rfl rfl rfl rfl (At.ext (hE.trans hS48.ext) ha54) 4 rfl rfl rfl rfl ?_
        refine RW.run ttok 2 rfl ?_
        refine RW.nil ?_
        refine WP.cond (decide (s31.1 < (x50.Ports.length : Int))) rfl (fun hc => ?_) (fun hc => ?_)
        · skip
          rw [if_pos hc] at hb45
          refine WP.skip ?_
          refine WP.seq ?_
          refine WP.block ?_
          refine WP.seq ?_
          refine WP.region ?_
          refine RW.run ttok 2 rfl ?_
          refine RW.quiet rfl (Quiet.build ttok rfl rfl rfl rfl rfl) rfl rfl ?_
          refine RW.new ttok hS48 rfl rfl rfl rfl (fun g63 w65 e66 hS67 => ?_)
          have hS68 := hS67.bring 0 rfl
          refine RW.store ttok (A := []) hS68 rfl rfl rfl rfl rfl 0 rfl rfl rfl rfl rfl (fun w69 hS70 => ?_)
          refine RW.nil ?_
          refine WP.seq ?_
          refine WP.drawnM 0 mixed 13 (by kernel_rfl) (by kernel_rfl) [([], 8191), ([], 8191), ([1], 8189), ([2], 8187), ([3], 8183), ([], 8191), ([4, 5], 8143), ([6], 8127), ([7], 8063), ([], 8191), ([8, 9], 7423), ([10], 7167), ([0, 11], 6142)] (by kernel_rfl) hS70.ext (fun hsk71 => ?_)
          have hS72 := hS70.step (Ext.draw _)
          refine DM.run (fuel := 8) ttok hsk71 [1, 2, 3, 5, 9] 558 (by kernel_rfl) (by kernel_rfl) rfl ?_
          refine DM.weak [(0, .pointer (some p0_)), (3, .slice A36 s31.2.length k37), (4, .int .i64 s12.1), (5, .int .i64 s31.1), (6, .pointer (some ⟨g63, 0, none⟩)), (36, .pointer (some p0_)), (38, .int .i64 s12.1), (42, .int .i64 s31.1)] ⟨rfl, rfl, rfl, rfl, rfl, rfl, rfl, rfl, trivial⟩ ?_
          refine DM.loadN ttok hsk71 0 559 (by kernel_rfl) (by kernel_rfl) (by kernel_rfl) (by kernel_rfl) rfl (by kernel_rfl) rfl rfl rfl rfl rfl ((hS70.bring 0 rfl).box) rfl rfl rfl ?_
          refine DM.load1 ttok hsk71 4 575 (by kernel_rfl) (by kernel_rfl) (by kernel_rfl) (by kernel_rfl) rfl (by kernel_rfl) rfl rfl rfl rfl rfl (At.ext (hE.trans hS70.ext) g0_) 0 rfl rfl rfl rfl ?_
          obtain ⟨x73, hx74, hb45⟩ := bind_some hb45
          refine DM.idx ttok (hE.trans hS70.ext) hsk71 6 639 (by kernel_rfl) (by kernel_rfl) (by kernel_rfl) (by kernel_rfl) rfl (by kernel_rfl) rfl rfl rfl rfl rfl rfl (by decide) rfl rfl h3 (idx_some hx74).1 (idx_some hx74).2 rfl rfl (fun p75 es76 ha77 hr78 => ?_)
          obtain ⟨A79, k80, A82, k83, e85, h81, h84⟩ := ty112_open hr78; subst e85
          refine DM.run (fuel := 4) ttok hsk71 [7] 767 (by kernel_rfl) (by kernel_rfl) rfl ?_
          refine DM.load1 ttok hsk71 8 1023 (by kernel_rfl) (by kernel_rfl) (by kernel_rfl) (by kernel_rfl) rfl (by kernel_rfl) rfl rfl rfl rfl rfl (At.ext (hE.trans hS70.ext) ha77) 4 rfl rfl rfl rfl ?_
          obtain ⟨x86, hx87, hb45⟩ := bind_some hb45
          refine DM.idx ttok (hE.trans hS70.ext) hsk71 10 2047 (by kernel_rfl) (by kernel_rfl) (by kernel_rfl) (by kernel_rfl) rfl (by kernel_rfl) rfl rfl rfl rfl rfl rfl (by decide) rfl rfl h84 (idx_some hx87).1 (idx_some hx87).2 rfl rfl (fun p88 es89 ha90 hr91 => ?_)
          have e92 := ty38_open hr91; subst e92
          refine DM.loadN ttok hsk71 11 4095 (by kernel_rfl) (by kernel_rfl) (by kernel_rfl) (by kernel_rfl) rfl (by kernel_rfl) rfl rfl rfl rfl rfl (At.ext (hE.trans hS70.ext) ha90) rfl rfl rfl ?_
          obtain ⟨r93, hx94, hb45⟩ := bind_some hb45
          refine DM.one hsk71 12 (by kernel_rfl) (LM.call hsk71 8191 (by kernel_rfl) (by kernel_rfl) rfl rfl rfl rfl enters168 (spec_l11Before_ok (hE.trans hS72.ext) (ty38_shut (⟨s12.1, s31.1⟩ : D.Port)) hr91 hx94) (fun v95 w96 hR97 => ?_))
          obtain ⟨rfl, hR98⟩ := hR97
          refine ⟨hR98.ext, ?_⟩
          have hS99 := hS72.join hR98
          refine DM.done hsk71 (by kernel_rfl) ?_
          refine WP.cut (fun (t100 : (List D.Wire)) F w9 => ∃ A101 k102, m_spec_l11Wires_j3 fuel s31 t100 = some o47 ∧ St w w9 [Box g63 [.int .i64 s12.1, .int .i64 s31.1] 38, Own ty47 [.slice A101 t100.length k102] t100] ∧ F = [(0, .pointer (some p0_)), (3, .slice A101 t100.length k102), (4, .int .i64 s12.1), (5, .int .i64 s31.1)]) ?_ ?_
          · skip
            rintro t100 F w104 ⟨A101, k102, hb45, hS103, rfl⟩
            unfold m_spec_l11Wires_j3 at hb45
            refine WP.region ?_
            refine RW.run ttok 3 rfl ?_
            refine RW.nil ?_
            cases hb45
            exact ⟨_, [(0, .pointer (some p0_)), (3, .slice A101 t100.length k102), (4, .int .i64 s12.1), (5, .int .i64 (w64 (s31.1 + 1)))], ⟨rfl, rfl, rfl, rfl, trivial⟩, rfl, A101, k102, ((hS103.bring 1 rfl).taken 1), rfl⟩
          · skip
            refine WP.cond r93 rfl (fun hc => ?_) (fun hc => ?_)
            · skip
              rw [if_pos hc] at hb45
              refine WP.drawnM 32768 mixed 17 (by kernel_rfl) (by kernel_rfl) [([], 131071), ([], 131071), ([], 131071), ([2], 131067), ([3], 131063), ([4], 131055), ([], 131071), ([5, 6], 130975), ([7], 130943), ([8], 130815), ([], 131071), ([9, 10], 129535), ([11], 129023), ([1, 12], 126973), ([13], 122879), ([0, 14], 114686), ([15, 15, 0, 1, 2, 3, 4, 5, 6, 7, 8, 9, 10, 11, 12, 13, 14, 15], 98302)] (by kernel_rfl) hS99.ext (fun hsk106 => ?_)
              have hS107 := hS99.step (Ext.draw _)
              refine DM.run (fuel := 11) ttok hsk106 [0, 2, 3, 4, 6, 10] 1117 (by kernel_rfl) (by kernel_rfl) rfl ?_
              refine DM.weak [(0, .pointer (some p0_)), (3, .slice A36 s31.2.length k37), (4, .int .i64 s12.1), (5, .int .i64 s31.1), (6, .pointer (some ⟨g63, 0, none⟩)), (46, .slice A36 s31.2.length k37), (50, .pointer (some p0_)), (52, .int .i64 s12.1), (56, .int .i64 s31.1)] ⟨rfl, rfl, rfl, rfl, rfl, rfl, rfl, rfl, rfl, trivial⟩ ?_
              refine DM.quietV hsk106 5 1149 (by kernel_rfl) (by kernel_rfl) rfl (by kernel_rfl) rfl (Quiet.load1 ttok rfl rfl rfl rfl (At.ext hE g0_) 0 rfl rfl) rfl rfl ?_
              obtain ⟨x108, hx109, hb45⟩ := bind_some hb45
              refine DM.idxV ttok hE hsk106 7 1277 (by kernel_rfl) (by kernel_rfl) rfl (by kernel_rfl) rfl rfl rfl rfl rfl rfl (by decide) rfl rfl h3 (idx_some hx109).1 (idx_some hx109).2 rfl rfl (fun p110 es111 ha112 hr113 => ?_)
              obtain ⟨A114, k115, A117, k118, e120, h116, h119⟩ := ty112_open hr113; subst e120
              refine DM.run (fuel := 8) ttok hsk106 [8] 1533 (by kernel_rfl) (by kernel_rfl) rfl ?_
              refine DM.quietV hsk106 9 2045 (by kernel_rfl) (by kernel_rfl) rfl (by kernel_rfl) rfl (Quiet.load1 ttok rfl rfl rfl rfl (At.ext hE ha112) 4 rfl rfl) rfl rfl ?_
              obtain ⟨x121, hx122, hb45⟩ := bind_some hb45
              refine DM.idxV ttok hE hsk106 11 4093 (by kernel_rfl) (by kernel_rfl) rfl (by kernel_rfl) rfl rfl rfl rfl rfl rfl (by decide) rfl rfl h119 (idx_some hx122).1 (idx_some hx122).2 rfl rfl (fun p123 es124 ha125 hr126 => ?_)
              have e127 := ty38_open hr126; subst e127
              refine DM.quietV hsk106 12 8189 (by kernel_rfl) (by kernel_rfl) rfl (by kernel_rfl) rfl (Quiet.loadN ttok rfl rfl rfl rfl (At.ext hE ha125) rfl) rfl rfl ?_
              refine DM.one hsk106 1 (by kernel_rfl) (LM.quietL hsk106 8191 (by kernel_rfl) (by kernel_rfl) rfl rfl (Quiet.loadN ttok rfl rfl rfl rfl ((hS107.bring 0 rfl).box) rfl) rfl rfl ?_)
              refine DM.quietP hsk106 13 16383 (by kernel_rfl) (by kernel_rfl) rfl (by kernel_rfl) rfl (fun _ => Quiet.build ttok rfl rfl rfl rfl rfl) rfl rfl ?_
              refine DM.one hsk106 14 (by kernel_rfl) (LM.newSlice (U := ty109) (els := [.int .i64 s12.1, .int .i64 s31.1, .int .i64 x121.Agent, .int .i64 x121.Slot]) (ys := [(⟨(⟨s12.1, s31.1⟩ : D.Port), (⟨x121.Agent, x121.Slot⟩ : D.Port)⟩ : D.Wire)]) ttok (hS107.flatEls (U := ty109) (els := [.int .i64 s12.1, .int .i64 s31.1, .int .i64 x121.Agent, .int .i64 x121.Slot]) (ys := [(⟨(⟨s12.1, s31.1⟩ : D.Port), (⟨x121.Agent, x121.Slot⟩ : D.Port)⟩ : D.Wire)]) ⟨[.int .i64 s12.1, .int .i64 s31.1, .int .i64 x121.Agent, .int .i64 x121.Slot], _, [], [], rfl, rfl, (ty109_ownI (c := (⟨(⟨s12.1, s31.1⟩ : D.Port), (⟨x121.Agent, x121.Slot⟩ : D.Port)⟩ : D.Wire)) rfl), ⟨rfl, rfl⟩⟩) hsk106 32767 (by kernel_rfl) (by kernel_rfl) rfl rfl rfl rfl rfl rfl rfl rfl rfl rfl rfl rfl rfl (fun A128 k129 w130 e131 hS132 => ?_))
              have hS133 := hS132.bring 2 rfl
              by_cases hk134 : decide ((s31.2.length : Int) + (([(⟨(⟨s12.1, s31.1⟩ : D.Port), (⟨x121.Agent, x121.Slot⟩ : D.Port)⟩ : D.Wire)] : (List D.Wire)).length : Int) ≤ 4294967296) = true
              case neg => rw [if_neg hk134] at hb45; cases hb45
              rw [if_pos hk134] at hb45
              refine DM.one hsk106 15 (by kernel_rfl) (LM.appendRo ttok (Flat.map (Flat.pair (Flat.map (Flat.pair Flat.int (Flat.pair Flat.int Flat.unit))) (Flat.pair (Flat.map (Flat.pair Flat.int (Flat.pair Flat.int Flat.unit))) Flat.unit))) hS133 hsk106 65535 (by kernel_rfl) (by kernel_rfl) rfl rfl rfl rfl rfl rfl rfl (by decide) rfl rfl ((hS133.bring 1 rfl).own) (of_decide_eq_true hk134) (by decide) rfl rfl (fun A135 k136 w137 hS138 => ?_))
              refine DM.run (fuel := 0) ttok hsk106 [16] 131071 (by kernel_rfl) (by kernel_rfl) rfl ?_
              refine DM.weak [(0, .pointer (some p0_)), (3, .slice A135 (s31.2 ++ ([(⟨(⟨s12.1, s31.1⟩ : D.Port), (⟨x121.Agent, x121.Slot⟩ : D.Port)⟩ : D.Wire)] : (List D.Wire))).length k136), (4, .int .i64 s12.1), (5, .int .i64 s31.1)] ⟨rfl, rfl, rfl, rfl, trivial⟩ ?_
              refine DM.done hsk106 (by kernel_rfl) ?_
              exact ⟨(s31.2 ++ ([(⟨(⟨s12.1, s31.1⟩ : D.Port), (⟨x121.Agent, x121.Slot⟩ : D.Port)⟩ : D.Wire)] : (List D.Wire))), [(0, .pointer (some p0_)), (3, .slice A135 (s31.2 ++ ([(⟨(⟨s12.1, s31.1⟩ : D.Port), (⟨x121.Agent, x121.Slot⟩ : D.Port)⟩ : D.Wire)] : (List D.Wire))).length k136), (4, .int .i64 s12.1), (5, .int .i64 s31.1)], ⟨rfl, rfl, rfl, rfl, trivial⟩, A135, k136, hb45, (((hS138.bring 0 rfl).bring 2 rfl).taken 2), rfl⟩
            · skip
              rw [if_neg (not_t hc)] at hb45
              refine WP.skip ?_
              exact ⟨s31.2, [(0, .pointer (some p0_)), (3, .slice A36 s31.2.length k37), (4, .int .i64 s12.1), (5, .int .i64 s31.1)], ⟨rfl, rfl, rfl, rfl, trivial⟩, A36, k37, hb45, hS99, rfl⟩
        · skip
          rw [if_neg (not_t hc)] at hb45
          refine WP.exit ?_
          cases hb45
          exact ⟨_, [(0, .pointer (some p0_)), (3, .slice A36 s31.2.length k37), (4, .int .i64 s12.1)], ⟨rfl, rfl, rfl, trivial⟩, A36, k37, ho46, hS48, rfl⟩
    · skip
      rw [if_neg (not_t hc)] at hb26
      refine WP.exit ?_
      cases hb26
      exact ⟨_, [(3, .slice A17 s12.2.length k18)], ⟨rfl, trivial⟩, A17, k18, ho27, hS29, rfl⟩

theorem enters109 : Enters Try.prog 109 := ⟨_, _, Try.func109, rfl, by kernel_rfl⟩
def m_impl_Port_before (fuel : Nat) (x0 : D.Port) (x1 : D.Port) : Option (Bool) := (if (decide (x0.Agent < x1.Agent)) = true then some true else (if (x0.Agent == x1.Agent) = true then some (decide (x0.Slot < x1.Slot)) else some false))

set_option maxRecDepth 100000 in
theorem impl_Port_before_ok {W w : World} (hE : Ext W w) {c0_ : List Value} {x0 : D.Port} {c1_ : List Value} {x1 : D.Port} (h0_ : ty38.ro W c0_ x0) (h1_ : ty38.ro W c1_ x1) {fuel : Nat} {r : Bool} (hm : m_impl_Port_before fuel x0 x1 = some r) :
    Calls Try.prog 109 ⟨[.agg ⟨c0_⟩, .agg ⟨c1_⟩]⟩ w (Ret fun v w8 => v = .bool r ∧ St w w8 []) := by
  have e1 := ty38_open h0_; subst e1
  have e2 := ty38_open h1_; subst e2
  refine Calls.into Try.func109 rfl 24 rfl rfl _ rfl ?_
  unfold m_impl_Port_before at hm
  have hS := St.start w
  refine WP.seq ?_
  refine WP.region ?_
  refine RW.new ttok hS rfl rfl rfl rfl (fun g3 w4 e5 hS6 => ?_)
  refine RW.new ttok hS6 rfl rfl rfl rfl (fun g7 w10 e11 hS12 => ?_)
  refine RW.run ttok 1 rfl ?_
  refine RW.nil ?_
  refine WP.seq ?_
  refine WP.region ?_
  refine RW.run ttok 1 rfl ?_
  refine RW.load1 ttok rfl rfl rfl rfl rfl ((hS12.bring 1 rfl).box) 0 rfl rfl rfl rfl ?_
  refine RW.run ttok 1 rfl ?_
  refine RW.load1 ttok rfl rfl rfl rfl rfl ((hS12.bring 0 rfl).box) 0 rfl rfl rfl rfl ?_
  refine RW.run ttok 2 rfl ?_
  by_cases hg13 : (decide (x0.Agent < x1.Agent)) = true
  · skip
    rw [if_pos hg13] at hm
    refine RW.know 10 rfl (congrArg Value.bool hg13) ?_
    refine RW.run ttok 14 rfl ?_
    refine RW.nil ?_
    refine WP.ret ?_
    cases hm
    exact ⟨_, .cons (.tmp rfl) .nil, rfl, (hS12.taken 0)⟩
  · skip
    rw [if_neg hg13] at hm
    refine RW.know 10 rfl (congrArg Value.bool (Bool.eq_false_iff.2 hg13)) ?_
    refine RW.run ttok 1 rfl ?_
    refine RW.load1 ttok rfl rfl rfl rfl rfl ((hS12.bring 1 rfl).box) 0 rfl rfl rfl rfl ?_
    refine RW.run ttok 1 rfl ?_
    refine RW.load1 ttok rfl rfl rfl rfl rfl ((hS12.bring 0 rfl).box) 0 rfl rfl rfl rfl ?_
    refine RW.run ttok 2 rfl ?_
    by_cases hg14 : (x0.Agent == x1.Agent) = true
    · skip
      rw [if_pos hg14] at hm
      refine RW.know 16 rfl (congrArg Value.bool hg14) ?_
      refine RW.run ttok 1 rfl ?_
      refine RW.load1 ttok rfl rfl rfl rfl rfl ((hS12.bring 1 rfl).box) 1 rfl rfl rfl rfl ?_
      refine RW.run ttok 1 rfl ?_
      refine RW.load1 ttok rfl rfl rfl rfl rfl ((hS12.bring 0 rfl).box) 1 rfl rfl rfl rfl ?_
      refine RW.run ttok 4 rfl ?_
      refine RW.nil ?_
      refine WP.ret ?_
      cases hm
      exact ⟨_, .cons (.tmp rfl) .nil, rfl, (hS12.taken 0)⟩
    · skip
      rw [if_neg hg14] at hm
      refine RW.know 16 rfl (congrArg Value.bool (Bool.eq_false_iff.2 hg14)) ?_
      refine RW.run ttok 8 rfl ?_
      refine RW.nil ?_
      refine WP.ret ?_
      cases hm
      exact ⟨_, .cons (.tmp rfl) .nil, rfl, (hS12.taken 0)⟩

theorem enters53 : Enters Try.prog 53 := ⟨_, _, Try.func53, rfl, by kernel_rfl⟩
def m_spec_l11Link (fuel : Nat) (x0 : D.Net) (x1 : D.Port) (x2 : D.Port) : Option (D.Net) := ((idx x0.Agents x1.Agent).bind fun x16 => (if decide (0 ≤ x1.Slot ∧ x1.Slot.toNat < x16.Ports.length) = true then ((idx (x0.Agents.set x1.Agent.toNat (⟨x16.Kind, x16.Level, x16.Value, x16.Data, (x16.Ports.set x1.Slot.toNat x2)⟩ : D.Agent)) x2.Agent).bind fun x50 => (if decide (0 ≤ x2.Slot ∧ x2.Slot.toNat < x50.Ports.length) = true then some (⟨((x0.Agents.set x1.Agent.toNat (⟨x16.Kind, x16.Level, x16.Value, x16.Data, (x16.Ports.set x1.Slot.toNat x2)⟩ : D.Agent)).set x2.Agent.toNat (⟨x50.Kind, x50.Level, x50.Value, x50.Data, (x50.Ports.set x2.Slot.toNat x1)⟩ : D.Agent))⟩ : D.Net) else none)) else none))

set_option maxRecDepth 100000 in
theorem spec_l11Link_ok {W w : World} {RR : List Res} {g0_ : Nat} {x0 : D.Net} {A0_0 : Option Addr} {k0_0 : Nat} {c1_ : List Value} {x1 : D.Port} {c2_ : List Value} {x2 : D.Port} (hS : St W w (Box g0_ [.slice A0_0 x0.Agents.length k0_0] 30 :: Own ty28 [.slice A0_0 x0.Agents.length k0_0] x0.Agents :: RR)) (h1_ : ty38.ro W c1_ x1) (h2_ : ty38.ro W c2_ x2) {fuel : Nat} {r : D.Net} (hm : m_spec_l11Link fuel x0 x1 x2 = some r) :
    Calls Try.prog 53 ⟨[.pointer (some ⟨g0_, 0, none⟩), .agg ⟨c1_⟩, .agg ⟨c2_⟩]⟩ w (Ret fun v w8 => ∃ A0 k0, v = .tuple ⟨[]⟩ ∧ St W w8 (Box g0_ [.slice A0 r.Agents.length k0] 30 :: Own ty28 [.slice A0 r.Agents.length k0] r.Agents :: RR)) := by
  have e1 := ty38_open h1_; subst e1
  have e2 := ty38_open h2_; subst e2
  refine Calls.into Try.func53 rfl 32 rfl rfl _ rfl ?_
  unfold m_spec_l11Link at hm
  refine WP.seq ?_
  refine WP.region ?_
  refine RW.new ttok hS rfl rfl rfl rfl (fun g3 w4 e5 hS6 => ?_)
  refine RW.new ttok hS6 rfl rfl rfl rfl (fun g7 w10 e11 hS12 => ?_)
  refine RW.nil ?_
  refine WP.seq ?_
  refine WP.drawnM 8192 mixed 14 (by kernel_rfl) (by kernel_rfl) [([], 16383), ([0], 16382), ([1], 16381), ([2], 16379), ([], 16383), ([4], 16367), ([3, 5], 16343), ([6], 16319), ([7], 16255), ([], 16383), ([9], 15871), ([], 16383), ([8, 10, 0, 1, 2, 3, 4, 5, 6, 7, 8, 9, 10, 11], 15103), ([12, 11, 0, 1, 2, 3, 4, 5, 6, 7, 8, 9, 10, 11], 10239)] (by kernel_rfl) hS12.ext (fun hsk13 => ?_)
  have hS14 := hS12.step (Ext.draw _)
  refine DM.run (fuel := 9) ttok hsk13 [0, 1, 2, 4, 9] 535 (by kernel_rfl) (by kernel_rfl) rfl ?_
  refine DM.load1 ttok hsk13 3 543 (by kernel_rfl) (by kernel_rfl) (by kernel_rfl) (by kernel_rfl) rfl (by kernel_rfl) rfl rfl rfl rfl rfl ((hS12.bring 2 rfl).box) 0 rfl rfl rfl rfl ?_
  refine DM.load1 ttok hsk13 5 575 (by kernel_rfl) (by kernel_rfl) (by kernel_rfl) (by kernel_rfl) rfl (by kernel_rfl) rfl rfl rfl rfl rfl ((hS12.bring 1 rfl).box) 0 rfl rfl rfl rfl ?_
  have hS15 := hS12.bring 3 rfl
  obtain ⟨x16, hx17, hm⟩ := bind_some hm
  refine DM.focus ttok hS15 hsk13 6 639 (by kernel_rfl) (by kernel_rfl) rfl (by kernel_rfl) rfl rfl rfl rfl rfl rfl rfl rfl (idx_some hx17).1 (idx_some hx17).2 rfl rfl (fun q18 es19 hq20 hS21 => ?_)
  obtain ⟨A24, k25, A26, k27, e23, hS22⟩ := ty112_openS (hS21.bring 1 rfl); subst e23
  have hS28 := hS22.step (Ext.draw _)
  refine DM.run (fuel := 5) ttok hsk13 [7] 767 (by kernel_rfl) (by kernel_rfl) rfl ?_
  refine DM.weak [(0, .pointer (some ⟨g0_, 0, none⟩)), (4, .pointer (some ⟨g3, 0, none⟩)), (5, .pointer (some ⟨g7, 0, none⟩)), (13, .pointer (some (q18.add 4))), (15, .pointer (some ⟨g3, 1, none⟩))] ⟨rfl, rfl, rfl, rfl, rfl, trivial⟩ ?_
  refine DM.load1 ttok hsk13 8 1023 (by kernel_rfl) (by kernel_rfl) (by kernel_rfl) (by kernel_rfl) rfl (by kernel_rfl) rfl rfl rfl rfl rfl ((hS22.bring 2 rfl).hole_atN hq20) 4 rfl rfl rfl rfl ?_
  refine DM.load1 ttok hsk13 10 2047 (by kernel_rfl) (by kernel_rfl) (by kernel_rfl) (by kernel_rfl) rfl (by kernel_rfl) rfl rfl rfl rfl rfl ((hS22.bring 4 rfl).box) 1 rfl rfl rfl rfl ?_
  refine DM.loadN ttok hsk13 11 4095 (by kernel_rfl) (by kernel_rfl) (by kernel_rfl) (by kernel_rfl) rfl (by kernel_rfl) rfl rfl rfl rfl rfl ((hS22.bring 3 rfl).box) rfl rfl rfl ?_
  have hS29 := hS28.bring 1 rfl
  by_cases hk30 : decide (0 ≤ x1.Slot ∧ x1.Slot.toNat < x16.Ports.length) = true
  case neg => rw [if_neg hk30] at hm; cases hm
  rw [if_pos hk30] at hm
  have hb31 := of_decide_eq_true hk30
  refine DM.idxOwnN ttok hS29 hsk13 12 8191 (by kernel_rfl) (by kernel_rfl) rfl (by kernel_rfl) rfl rfl rfl rfl rfl rfl rfl rfl hb31.1 hb31.2 rfl rfl (fun q32 hq33 => ?_)
  have hS34 := ty38_shutS (c := x2) (B := _) hS28
  have hS35 := hS34.bring 2 rfl
  refine DM.one hsk13 13 (by kernel_rfl) (LM.storeElN ttok hS35 hsk13 16383 (by kernel_rfl) (by kernel_rfl) rfl rfl rfl rfl rfl rfl rfl hb31.2 hq33 rfl rfl (fun w36 hS37 => ?_))
  refine DM.done hsk13 (by kernel_rfl) ?_
  refine WP.drawnM 8192 mixed 14 (by kernel_rfl) (by kernel_rfl) [([], 16383), ([0], 16382), ([1], 16381), ([2], 16379), ([], 16383), ([4], 16367), ([3, 5], 16343), ([6], 16319), ([7], 16255), ([], 16383), ([9], 15871), ([], 16383), ([8, 10, 0, 1, 2, 3, 4, 5, 6, 7, 8, 9, 10, 11], 15103), ([12, 11, 0, 1, 2, 3, 4, 5, 6, 7, 8, 9, 10, 11], 10239)] (by kernel_rfl) hS37.ext (fun hsk38 => ?_)
  have hS39 := hS37.step (Ext.draw _)
  refine DM.run (fuel := 9) ttok hsk38 [0, 1, 2, 4, 9] 535 (by kernel_rfl) (by kernel_rfl) rfl ?_
  refine DM.weak [(4, .pointer (some ⟨g3, 0, none⟩)), (21, .pointer (some ⟨g0_, 0, none⟩)), (23, .pointer (some ⟨g7, 0, none⟩)), (28, .pointer (some ⟨g7, 1, none⟩))] ⟨rfl, rfl, rfl, rfl, trivial⟩ ?_
  refine DM.load1 ttok hsk38 3 543 (by kernel_rfl) (by kernel_rfl) (by kernel_rfl) (by kernel_rfl) rfl (by kernel_rfl) rfl rfl rfl rfl rfl ((hS37.bring 5 rfl).box) 0 rfl rfl rfl rfl ?_
  refine DM.load1 ttok hsk38 5 575 (by kernel_rfl) (by kernel_rfl) (by kernel_rfl) (by kernel_rfl) rfl (by kernel_rfl) rfl rfl rfl rfl rfl ((hS37.bring 3 rfl).box) 0 rfl rfl rfl rfl ?_
  have hn40 := (hS37.bring 0 rfl).lenEq
  have hS41 := (hS37.bring 0 rfl).reLen hn40
  have hS42 := (hS41.bring 2 rfl).reHole (es' := [.int .i64 x16.Kind, .int .i64 x16.Level, .int .i64 x16.Value, .slice A24 x16.Data.length k25, .slice A26 (x16.Ports.set x1.Slot.toNat x2).length k27]) (by show ([.int .i64 x16.Kind, .int .i64 x16.Level, .int .i64 x16.Value, .slice A24 x16.Data.length k25, .slice A26 x16.Ports.length k27] : List Value) = [.int .i64 x16.Kind, .int .i64 x16.Level, .int .i64 x16.Value, .slice A24 x16.Data.length k25, .slice A26 (x16.Ports.set x1.Slot.toNat x2).length k27]; first | (simp only [hn40]; done) | (simp only [hn40]; rfl))
  have hS43 := hS42.bring 1 rfl
  have hS44 := hS43.bring 2 rfl
  have hS45 := ty112_shutS (c := (⟨x16.Kind, x16.Level, x16.Value, x16.Data, (x16.Ports.set x1.Slot.toNat x2)⟩ : D.Agent)) (B := _) hS44
  have hS46 := hS45.bring 1 rfl
  have hS47 := St.unfocusN hS46
  have hS48 := hS47.step (Ext.draw _)
  have hS49 := hS47.bring 0 rfl
  obtain ⟨x50, hx51, hm⟩ := bind_some hm
  refine DM.focus ttok hS49 hsk38 6 639 (by kernel_rfl) (by kernel_rfl) rfl (by kernel_rfl) rfl rfl rfl rfl rfl rfl rfl rfl (idx_some hx51).1 (idx_some hx51).2 rfl rfl (fun q52 es53 hq54 hS55 => ?_)
  obtain ⟨A58, k59, A60, k61, e57, hS56⟩ := ty112_openS (hS55.bring 1 rfl); subst e57
  have hS62 := hS56.step (Ext.draw _)
  refine DM.run (fuel := 5) ttok hsk38 [7] 767 (by kernel_rfl) (by kernel_rfl) rfl ?_
  refine DM.load1 ttok hsk38 8 1023 (by kernel_rfl) (by kernel_rfl) (by kernel_rfl) (by kernel_rfl) rfl (by kernel_rfl) rfl rfl rfl rfl rfl ((hS56.bring 2 rfl).hole_atN hq54) 4 rfl rfl rfl rfl ?_
  refine DM.load1 ttok hsk38 10 2047 (by kernel_rfl) (by kernel_rfl) (by kernel_rfl) (by kernel_rfl) rfl (by kernel_rfl) rfl rfl rfl rfl rfl ((hS56.bring 3 rfl).box) 1 rfl rfl rfl rfl ?_
  refine DM.loadN ttok hsk38 11 4095 (by kernel_rfl) (by kernel_rfl) (by kernel_rfl) (by kernel_rfl) rfl (by kernel_rfl) rfl rfl rfl rfl rfl ((hS56.bring 4 rfl).box) rfl rfl rfl ?_
  have hS63 := hS62.bring 1 rfl
  by_cases hk65 : decide (0 ≤ x2.Slot ∧ x2.Slot.toNat < x50.Ports.length) = true
  case neg => rw [if_neg hk65] at hm; cases hm
  rw [if_pos hk65] at hm
  have hb66 := of_decide_eq_true hk65
  refine DM.idxOwnN ttok hS63 hsk38 12 8191 (by kernel_rfl) (by kernel_rfl) rfl (by kernel_rfl) rfl rfl rfl rfl rfl rfl rfl rfl hb66.1 hb66.2 rfl rfl (fun q67 hq68 => ?_)
  have hS69 := ty38_shutS (c := x1) (B := _) hS62
  have hS70 := hS69.bring 2 rfl
  refine DM.one hsk38 13 (by kernel_rfl) (LM.storeElN ttok hS70 hsk38 16383 (by kernel_rfl) (by kernel_rfl) rfl rfl rfl rfl rfl rfl rfl hb66.2 hq68 rfl rfl (fun w71 hS72 => ?_))
  refine DM.done hsk38 (by kernel_rfl) ?_
  have hn73 := (hS72.bring 0 rfl).lenEq
  have hS74 := (hS72.bring 0 rfl).reLen hn73
  have hS75 := (hS74.bring 2 rfl).reHole (es' := [.int .i64 x50.Kind, .int .i64 x50.Level, .int .i64 x50.Value, .slice A58 x50.Data.length k59, .slice A60 (x50.Ports.set x2.Slot.toNat x1).length k61]) (by show ([.int .i64 x50.Kind, .int .i64 x50.Level, .int .i64 x50.Value, .slice A58 x50.Data.length k59, .slice A60 x50.Ports.length k61] : List Value) = [.int .i64 x50.Kind, .int .i64 x50.Level, .int .i64 x50.Value, .slice A58 x50.Data.length k59, .slice A60 (x50.Ports.set x2.Slot.toNat x1).length k61]; first | (simp only [hn73]; done) | (simp only [hn73]; rfl))
  have h76 := (show ty110.ro _ [.slice A60 x50.Ports.length k61] (x50.Ports.set x2.Slot.toNat x1) from (Eq.symm hn73) ▸ ((hS75.bring 1 rfl).own))
  have hS77 := hS75.bring 1 rfl
  have hS78 := hS77.bring 2 rfl
  have hS79 := ty112_shutS (c := (⟨x50.Kind, x50.Level, x50.Value, x50.Data, (x50.Ports.set x2.Slot.toNat x1)⟩ : D.Agent)) (B := _) hS78
  have hS80 := hS79.bring 1 rfl
  have hS81 := St.unfocusN hS80
  cases hm
  have hn82 := (hS81.bring 0 rfl).lenEq
  have hS83 := (hS81.bring 0 rfl).reLen hn82
  have hS84 := (hS83.bring 3 rfl).reBox (cs' := [.slice A0_0 ((x0.Agents.set x1.Agent.toNat (⟨x16.Kind, x16.Level, x16.Value, x16.Data, (x16.Ports.set x1.Slot.toNat x2)⟩ : D.Agent)).set x2.Agent.toNat (⟨x50.Kind, x50.Level, x50.Value, x50.Data, (x50.Ports.set x2.Slot.toNat x1)⟩ : D.Agent)).length k0_0]) (by show ([.slice A0_0 x0.Agents.length k0_0] : List Value) = [.slice A0_0 ((x0.Agents.set x1.Agent.toNat (⟨x16.Kind, x16.Level, x16.Value, x16.Data, (x16.Ports.set x1.Slot.toNat x2)⟩ : D.Agent)).set x2.Agent.toNat (⟨x50.Kind, x50.Level, x50.Value, x50.Data, (x50.Ports.set x2.Slot.toNat x1)⟩ : D.Agent)).length k0_0]; first | (simp only [hn82]; done) | (simp only [hn82]; rfl))
  exact ⟨_, .nil, A0_0, k0_0, rfl, ((hS84.bring 2 rfl).drop.bring 2 rfl).drop⟩

theorem enters57 : Enters Try.prog 57 := ⟨_, _, Try.func57, rfl, by kernel_rfl⟩
def m_impl_Net_link (fuel : Nat) (x0 : D.Net) (x1 : D.Port) (x2 : D.Port) : Option (D.Net) := ((idx x0.Agents x1.Agent).bind fun x16 => (if decide (0 ≤ x1.Slot ∧ x1.Slot.toNat < x16.Ports.length) = true then ((idx (x0.Agents.set x1.Agent.toNat (⟨x16.Kind, x16.Level, x16.Value, x16.Data, (x16.Ports.set x1.Slot.toNat x2)⟩ : D.Agent)) x2.Agent).bind fun x50 => (if decide (0 ≤ x2.Slot ∧ x2.Slot.toNat < x50.Ports.length) = true then some (⟨((x0.Agents.set x1.Agent.toNat (⟨x16.Kind, x16.Level, x16.Value, x16.Data, (x16.Ports.set x1.Slot.toNat x2)⟩ : D.Agent)).set x2.Agent.toNat (⟨x50.Kind, x50.Level, x50.Value, x50.Data, (x50.Ports.set x2.Slot.toNat x1)⟩ : D.Agent))⟩ : D.Net) else none)) else none))

set_option maxRecDepth 100000 in
theorem impl_Net_link_ok {W w : World} {RR : List Res} {g0_ : Nat} {x0 : D.Net} {A0_0 : Option Addr} {k0_0 : Nat} {c1_ : List Value} {x1 : D.Port} {c2_ : List Value} {x2 : D.Port} (hS : St W w (Box g0_ [.slice A0_0 x0.Agents.length k0_0] 30 :: Own ty28 [.slice A0_0 x0.Agents.length k0_0] x0.Agents :: RR)) (h1_ : ty38.ro W c1_ x1) (h2_ : ty38.ro W c2_ x2) {fuel : Nat} {r : D.Net} (hm : m_impl_Net_link fuel x0 x1 x2 = some r) :
    Calls Try.prog 57 ⟨[.pointer (some ⟨g0_, 0, none⟩), .agg ⟨c1_⟩, .agg ⟨c2_⟩]⟩ w (Ret fun v w8 => ∃ A0 k0, v = .tuple ⟨[]⟩ ∧ St W w8 (Box g0_ [.slice A0 r.Agents.length k0] 30 :: Own ty28 [.slice A0 r.Agents.length k0] r.Agents :: RR)) := by
  have e1 := ty38_open h1_; subst e1
  have e2 := ty38_open h2_; subst e2
  refine Calls.into Try.func57 rfl 32 rfl rfl _ rfl ?_
  unfold m_impl_Net_link at hm
  refine WP.seq ?_
  refine WP.region ?_
  refine RW.new ttok hS rfl rfl rfl rfl (fun g3 w4 e5 hS6 => ?_)
  refine RW.new ttok hS6 rfl rfl rfl rfl (fun g7 w10 e11 hS12 => ?_)
  refine RW.nil ?_
  refine WP.seq ?_
  refine WP.drawnM 8192 mixed 14 (by kernel_rfl) (by kernel_rfl) [([], 16383), ([0], 16382), ([1], 16381), ([2], 16379), ([], 16383), ([4], 16367), ([3, 5], 16343), ([6], 16319), ([7], 16255), ([], 16383), ([9], 15871), ([], 16383), ([8, 10, 0, 1, 2, 3, 4, 5, 6, 7, 8, 9, 10, 11], 15103), ([12, 11, 0, 1, 2, 3, 4, 5, 6, 7, 8, 9, 10, 11], 10239)] (by kernel_rfl) hS12.ext (fun hsk13 => ?_)
  have hS14 := hS12.step (Ext.draw _)
  refine DM.run (fuel := 9) ttok hsk13 [0, 1, 2, 4, 9] 535 (by kernel_rfl) (by kernel_rfl) rfl ?_
  refine DM.load1 ttok hsk13 3 543 (by kernel_rfl) (by kernel_rfl) (by kernel_rfl) (by kernel_rfl) rfl (by kernel_rfl) rfl rfl rfl rfl rfl ((hS12.bring 2 rfl).box) 0 rfl rfl rfl rfl ?_
  refine DM.load1 ttok hsk13 5 575 (by kernel_rfl) (by kernel_rfl) (by kernel_rfl) (by kernel_rfl) rfl (by kernel_rfl) rfl rfl rfl rfl rfl ((hS12.bring 1 rfl).box) 0 rfl rfl rfl rfl ?_
  have hS15 := hS12.bring 3 rfl
  obtain ⟨x16, hx17, hm⟩ := bind_some hm
  refine DM.focus ttok hS15 hsk13 6 639 (by kernel_rfl) (by kernel_rfl) rfl (by kernel_rfl) rfl rfl rfl rfl rfl rfl rfl rfl (idx_some hx17).1 (idx_some hx17).2 rfl rfl (fun q18 es19 hq20 hS21 => ?_)
  obtain ⟨A24, k25, A26, k27, e23, hS22⟩ := ty112_openS (hS21.bring 1 rfl); subst e23
  have hS28 := hS22.step (Ext.draw _)
  refine DM.run (fuel := 5) ttok hsk13 [7] 767 (by kernel_rfl) (by kernel_rfl) rfl ?_
  refine DM.weak [(0, .pointer (some ⟨g0_, 0, none⟩)), (4, .pointer (some ⟨g3, 0, none⟩)), (5, .pointer (some ⟨g7, 0, none⟩)), (13, .pointer (some (q18.add 4))), (15, .pointer (some ⟨g3, 1, none⟩))] ⟨rfl, rfl, rfl, rfl, rfl, trivial⟩ ?_
  refine DM.load1 ttok hsk13 8 1023 (by kernel_rfl) (by kernel_rfl) (by kernel_rfl) (by kernel_rfl) rfl (by kernel_rfl) rfl rfl rfl rfl rfl ((hS22.bring 2 rfl).hole_atN hq20) 4 rfl rfl rfl rfl ?_
  refine DM.load1 ttok hsk13 10 2047 (by kernel_rfl) (by kernel_rfl) (by kernel_rfl) (by kernel_rfl) rfl (by kernel_rfl) rfl rfl rfl rfl rfl ((hS22.bring 4 rfl).box) 1 rfl rfl rfl rfl ?_
  refine DM.loadN ttok hsk13 11 4095 (by kernel_rfl) (by kernel_rfl) (by kernel_rfl) (by kernel_rfl) rfl (by kernel_rfl) rfl rfl rfl rfl rfl ((hS22.bring 3 rfl).box) rfl rfl rfl ?_
  have hS29 := hS28.bring 1 rfl
  by_cases hk30 : decide (0 ≤ x1.Slot ∧ x1.Slot.toNat < x16.Ports.length) = true
  case neg => rw [if_neg hk30] at hm; cases hm
  rw [if_pos hk30] at hm
  have hb31 := of_decide_eq_true hk30
  refine DM.idxOwnN ttok hS29 hsk13 12 8191 (by kernel_rfl) (by kernel_rfl) rfl (by kernel_rfl) rfl rfl rfl rfl rfl rfl rfl rfl hb31.1 hb31.2 rfl rfl (fun q32 hq33 => ?_)
  have hS34 := ty38_shutS (c := x2) (B := _) hS28
  have hS35 := hS34.bring 2 rfl
  refine DM.one hsk13 13 (by kernel_rfl) (LM.storeElN ttok hS35 hsk13 16383 (by kernel_rfl) (by kernel_rfl) rfl rfl rfl rfl rfl rfl rfl hb31.2 hq33 rfl rfl (fun w36 hS37 => ?_))
  refine DM.done hsk13 (by kernel_rfl) ?_
  refine WP.drawnM 8192 mixed 14 (by kernel_rfl) (by kernel_rfl) [([], 16383), ([0], 16382), ([1], 16381), ([2], 16379), ([], 16383), ([4], 16367), ([3, 5], 16343), ([6], 16319), ([7], 16255), ([], 16383), ([9], 15871), ([], 16383), ([8, 10, 0, 1, 2, 3, 4, 5, 6, 7, 8, 9, 10, 11], 15103), ([12, 11, 0, 1, 2, 3, 4, 5, 6, 7, 8, 9, 10, 11], 10239)] (by kernel_rfl) hS37.ext (fun hsk38 => ?_)
  have hS39 := hS37.step (Ext.draw _)
  refine DM.run (fuel := 9) ttok hsk38 [0, 1, 2, 4, 9] 535 (by kernel_rfl) (by kernel_rfl) rfl ?_
  refine DM.weak [(4, .pointer (some ⟨g3, 0, none⟩)), (21, .pointer (some ⟨g0_, 0, none⟩)), (23, .pointer (some ⟨g7, 0, none⟩)), (28, .pointer (some ⟨g7, 1, none⟩))] ⟨rfl, rfl, rfl, rfl, trivial⟩ ?_
  refine DM.load1 ttok hsk38 3 543 (by kernel_rfl) (by kernel_rfl) (by kernel_rfl) (by kernel_rfl) rfl (by kernel_rfl) rfl rfl rfl rfl rfl ((hS37.bring 5 rfl).box) 0 rfl rfl rfl rfl ?_
  refine DM.load1 ttok hsk38 5 575 (by kernel_rfl) (by kernel_rfl) (by kernel_rfl) (by kernel_rfl) rfl (by kernel_rfl) rfl rfl rfl rfl rfl ((hS37.bring 3 rfl).box) 0 rfl rfl rfl rfl ?_
  have hn40 := (hS37.bring 0 rfl).lenEq
  have hS41 := (hS37.bring 0 rfl).reLen hn40
  have hS42 := (hS41.bring 2 rfl).reHole (es' := [.int .i64 x16.Kind, .int .i64 x16.Level, .int .i64 x16.Value, .slice A24 x16.Data.length k25, .slice A26 (x16.Ports.set x1.Slot.toNat x2).length k27]) (by show ([.int .i64 x16.Kind, .int .i64 x16.Level, .int .i64 x16.Value, .slice A24 x16.Data.length k25, .slice A26 x16.Ports.length k27] : List Value) = [.int .i64 x16.Kind, .int .i64 x16.Level, .int .i64 x16.Value, .slice A24 x16.Data.length k25, .slice A26 (x16.Ports.set x1.Slot.toNat x2).length k27]; first | (simp only [hn40]; done) | (simp only [hn40]; rfl))
  have hS43 := hS42.bring 1 rfl
  have hS44 := hS43.bring 2 rfl
  have hS45 := ty112_shutS (c := (⟨x16.Kind, x16.Level, x16.Value, x16.Data, (x16.Ports.set x1.Slot.toNat x2)⟩ : D.Agent)) (B := _) hS44
  have hS46 := hS45.bring 1 rfl
  have hS47 := St.unfocusN hS46
  have hS48 := hS47.step (Ext.draw _)
  have hS49 := hS47.bring 0 rfl
  obtain ⟨x50, hx51, hm⟩ := bind_some hm
  refine DM.focus ttok hS49 hsk38 6 639 (by kernel_rfl) (by kernel_rfl) rfl (by kernel_rfl) rfl rfl rfl rfl rfl rfl rfl rfl (idx_some hx51).1 (idx_some hx51).2 rfl rfl (fun q52 es53 hq54 hS55 => ?_)
  obtain ⟨A58, k59, A60, k61, e57, hS56⟩ := ty112_openS (hS55.bring 1 rfl); subst e57
  have hS62 := hS56.step (Ext.draw _)
  refine DM.run (fuel := 5) ttok hsk38 [7] 767 (by kernel_rfl) (by kernel_rfl) rfl ?_
  refine DM.load1 ttok hsk38 8 1023 (by kernel_rfl) (by kernel_rfl) (by kernel_rfl) (by kernel_rfl) rfl (by kernel_rfl) rfl rfl rfl rfl rfl ((hS56.bring 2 rfl).hole_atN hq54) 4 rfl rfl rfl rfl ?_
  refine DM.load1 ttok hsk38 10 2047 (by kernel_rfl) (by kernel_rfl) (by kernel_rfl) (by kernel_rfl) rfl (by kernel_rfl) rfl rfl rfl rfl rfl ((hS56.bring 3 rfl).box) 1 rfl rfl rfl rfl ?_
  refine DM.loadN ttok hsk38 11 4095 (by kernel_rfl) (by kernel_rfl) (by kernel_rfl) (by kernel_rfl) rfl (by kernel_rfl) rfl rfl rfl rfl rfl ((hS56.bring 4 rfl).box) rfl rfl rfl ?_
  have hS63 := hS62.bring 1 rfl
  by_cases hk65 : decide (0 ≤ x2.Slot ∧ x2.Slot.toNat < x50.Ports.length) = true
  case neg => rw [if_neg hk65] at hm; cases hm
  rw [if_pos hk65] at hm
  have hb66 := of_decide_eq_true hk65
  refine DM.idxOwnN ttok hS63 hsk38 12 8191 (by kernel_rfl) (by kernel_rfl) rfl (by kernel_rfl) rfl rfl rfl rfl rfl rfl rfl rfl hb66.1 hb66.2 rfl rfl (fun q67 hq68 => ?_)
  have hS69 := ty38_shutS (c := x1) (B := _) hS62
  have hS70 := hS69.bring 2 rfl
  refine DM.one hsk38 13 (by kernel_rfl) (LM.storeElN ttok hS70 hsk38 16383 (by kernel_rfl) (by kernel_rfl) rfl rfl rfl rfl rfl rfl rfl hb66.2 hq68 rfl rfl (fun w71 hS72 => ?_))
  refine DM.done hsk38 (by kernel_rfl) ?_
  have hn73 := (hS72.bring 0 rfl).lenEq
  have hS74 := (hS72.bring 0 rfl).reLen hn73
  have hS75 := (hS74.bring 2 rfl).reHole (es' := [.int .i64 x50.Kind, .int .i64 x50.Level, .int .i64 x50.Value, .slice A58 x50.Data.length k59, .slice A60 (x50.Ports.set x2.Slot.toNat x1).length k61]) (by show ([.int .i64 x50.Kind, .int .i64 x50.Level, .int .i64 x50.Value, .slice A58 x50.Data.length k59, .slice A60 x50.Ports.length k61] : List Value) = [.int .i64 x50.Kind, .int .i64 x50.Level, .int .i64 x50.Value, .slice A58 x50.Data.length k59, .slice A60 (x50.Ports.set x2.Slot.toNat x1).length k61]; first | (simp only [hn73]; done) | (simp only [hn73]; rfl))
  have h76 := (show ty110.ro _ [.slice A60 x50.Ports.length k61] (x50.Ports.set x2.Slot.toNat x1) from (Eq.symm hn73) ▸ ((hS75.bring 1 rfl).own))
  have hS77 := hS75.bring 1 rfl
  have hS78 := hS77.bring 2 rfl
  have hS79 := ty112_shutS (c := (⟨x50.Kind, x50.Level, x50.Value, x50.Data, (x50.Ports.set x2.Slot.toNat x1)⟩ : D.Agent)) (B := _) hS78
  have hS80 := hS79.bring 1 rfl
  have hS81 := St.unfocusN hS80
  cases hm
  have hn82 := (hS81.bring 0 rfl).lenEq
  have hS83 := (hS81.bring 0 rfl).reLen hn82
  have hS84 := (hS83.bring 3 rfl).reBox (cs' := [.slice A0_0 ((x0.Agents.set x1.Agent.toNat (⟨x16.Kind, x16.Level, x16.Value, x16.Data, (x16.Ports.set x1.Slot.toNat x2)⟩ : D.Agent)).set x2.Agent.toNat (⟨x50.Kind, x50.Level, x50.Value, x50.Data, (x50.Ports.set x2.Slot.toNat x1)⟩ : D.Agent)).length k0_0]) (by show ([.slice A0_0 x0.Agents.length k0_0] : List Value) = [.slice A0_0 ((x0.Agents.set x1.Agent.toNat (⟨x16.Kind, x16.Level, x16.Value, x16.Data, (x16.Ports.set x1.Slot.toNat x2)⟩ : D.Agent)).set x2.Agent.toNat (⟨x50.Kind, x50.Level, x50.Value, x50.Data, (x50.Ports.set x2.Slot.toNat x1)⟩ : D.Agent)).length k0_0]; first | (simp only [hn82]; done) | (simp only [hn82]; rfl))
  exact ⟨_, .nil, A0_0, k0_0, rfl, ((hS84.bring 2 rfl).drop.bring 2 rfl).drop⟩

theorem enters161 : Enters Try.prog 161 := ⟨_, _, Try.func161, rfl, by kernel_rfl⟩
def m_spec_l00Own (fuel : Nat) (x0 : (List Int)) : Option ((List Int)) := (if decide ((([] : (List Int)).length : Int) + (x0.length : Int) ≤ 4294967296) = true then some (([] : (List Int)) ++ x0) else none)

set_option maxRecDepth 100000 in
theorem spec_l00Own_ok {W w : World} (hE : Ext W w) {A0_ : Option Addr} {k0_ : Nat} {x0 : (List Int)} (h0_ : ty103.ro W [.slice A0_ x0.length k0_] x0) {fuel : Nat} {r : (List Int)} (hm : m_spec_l00Own fuel x0 = some r) :
    Calls Try.prog 161 ⟨[.slice A0_ x0.length k0_]⟩ w (Ret fun v w8 => ∃ A0 k0, v = .slice A0 r.length k0 ∧ St w w8 [Own ty103 [.slice A0 r.length k0] r]) := by
  refine Calls.into Try.func161 rfl 6 rfl rfl _ rfl ?_
  unfold m_spec_l00Own at hm
  have hS := St.start w
  refine WP.seq ?_
  refine WP.region ?_
  refine RW.run ttok 1 rfl ?_
  refine RW.nil ?_
  refine WP.seq ?_
  refine WP.region ?_
  refine RW.newSlice0 (U := tInt) ttok hS rfl rfl rfl rfl rfl rfl rfl (fun A1 k2 w3 e4 hS5 => ?_)
  refine RW.run ttok 1 rfl ?_
  have hS6 := hS5.bring 0 rfl
  by_cases hk7 : decide ((([] : (List Int)).length : Int) + (x0.length : Int) ≤ 4294967296) = true
  case neg => rw [if_neg hk7] at hm; cases hm
  rw [if_pos hk7] at hm
  refine RW.appendRo ttok Flat.int hS6 rfl rfl rfl rfl rfl rfl (by decide) rfl rfl (ty103.ext (hE.trans hS6.ext) h0_) (of_decide_eq_true hk7) (by decide) rfl rfl (fun A10 k11 w12 hS13 => ?_)
  refine RW.run ttok 1 rfl ?_
  refine RW.nil ?_
  refine WP.ret ?_
  cases hm
  exact ⟨_, .cons (.tmp rfl) .nil, A10, k11, rfl, hS13⟩

theorem enters116 : Enters Try.prog 116 := ⟨_, _, Try.func116, rfl, by kernel_rfl⟩
def m_spec_l11OwnAgent (fuel : Nat) (x0 : D.Agent) : Option (D.Agent) := ((m_spec_l00Own fuel x0.Data).bind fun r16 => (if decide ((([] : (List D.Port)).length : Int) + (x0.Ports.length : Int) ≤ 4294967296) = true then some (⟨x0.Kind, x0.Level, x0.Value, r16, (([] : (List D.Port)) ++ x0.Ports)⟩ : D.Agent) else none))

set_option maxRecDepth 100000 in
theorem spec_l11OwnAgent_ok {W w : World} (hE : Ext W w) {p0_ : Addr} {c0_ : List Value} {x0 : D.Agent} (h0_ : ty112.ro W c0_ x0) (g0_ : At W p0_ c0_) {fuel : Nat} {r : D.Agent} (hm : m_spec_l11OwnAgent fuel x0 = some r) :
    Calls Try.prog 116 ⟨[.pointer (some p0_)]⟩ w (Ret fun v w8 => ∃ A0 k0 A1 k1, v = .agg ⟨[.int .i64 r.Kind, .int .i64 r.Level, .int .i64 r.Value, .slice A0 r.Data.length k0, .slice A1 r.Ports.length k1]⟩ ∧ St w w8 [Own ty103 [.slice A0 r.Data.length k0] r.Data, Own ty110 [.slice A1 r.Ports.length k1] r.Ports]) := by
  obtain ⟨A1, k2, A4, k5, e7, h3, h6⟩ := ty112_open h0_; subst e7
  refine Calls.into Try.func116 rfl 27 rfl rfl _ rfl ?_
  unfold m_spec_l11OwnAgent at hm
  have hS := St.start w
  refine WP.seq ?_
  refine WP.region ?_
  refine RW.new ttok hS rfl rfl rfl rfl (fun g10 w11 e12 hS13 => ?_)
  refine RW.nil ?_
  refine WP.seq ?_
  refine WP.drawnM 20971520 mixed 25 (by kernel_rfl) (by kernel_rfl) [([], 33554431), ([0], 33554430), ([1], 33554429), ([2], 33554427), ([], 33554431), ([4], 33554415), ([5], 33554399), ([6], 33554367), ([], 33554431), ([8], 33554175), ([9], 33553919), ([10], 33553407), ([], 33554431), ([12], 33550335), ([13], 33546239), ([14], 33538047), ([15], 33521663), ([], 33554431), ([], 33554431), ([18], 33292287), ([19], 33030143), ([20], 32505855), ([17, 21, 16], 31326207), ([3, 7, 11, 16, 22], 29292407), ([23, 22, 0, 1, 2, 3, 4, 5, 6, 7, 8, 9, 10, 11, 12, 13, 14, 15, 16, 17, 18, 19, 20, 21, 22, 23], 25165823)] (by kernel_rfl) hS13.ext (fun hsk14 => ?_)
  have hS15 := hS13.step (Ext.draw _)
  refine DM.run (fuel := 10) ttok hsk14 [0, 1, 2, 4, 5, 6, 8, 9, 10, 12, 13, 14, 18, 19, 20] 1865591 (by kernel_rfl) (by kernel_rfl) rfl ?_
  refine DM.weak [(2, .pointer (some ⟨g10, 0, none⟩)), (5, .pointer (some p0_)), (9, .pointer (some (p0_.add 1))), (13, .pointer (some (p0_.add 2))), (17, .pointer (some (p0_.add 3))), (23, .pointer (some (p0_.add 4)))] ⟨rfl, rfl, rfl, rfl, rfl, rfl, trivial⟩ ?_
  refine DM.quietV hsk14 3 1865599 (by kernel_rfl) (by kernel_rfl) rfl (by kernel_rfl) rfl (Quiet.load1 ttok rfl rfl rfl rfl (At.ext hE g0_) 0 rfl rfl) rfl rfl ?_
  refine DM.quietV hsk14 7 1865727 (by kernel_rfl) (by kernel_rfl) rfl (by kernel_rfl) rfl (Quiet.load1 ttok rfl rfl rfl rfl (At.ext hE g0_) 1 rfl rfl) rfl rfl ?_
  refine DM.quietV hsk14 11 1867775 (by kernel_rfl) (by kernel_rfl) rfl (by kernel_rfl) rfl (Quiet.load1 ttok rfl rfl rfl rfl (At.ext hE g0_) 2 rfl rfl) rfl rfl ?_
  refine DM.quietV hsk14 15 1900543 (by kernel_rfl) (by kernel_rfl) rfl (by kernel_rfl) rfl (Quiet.load1 ttok rfl rfl rfl rfl (At.ext hE g0_) 3 rfl rfl) rfl rfl ?_
  refine DM.load1 ttok hsk14 21 3997695 (by kernel_rfl) (by kernel_rfl) (by kernel_rfl) (by kernel_rfl) rfl (by kernel_rfl) rfl rfl rfl rfl rfl (At.ext (hE.trans hS13.ext) g0_) 4 rfl rfl rfl rfl ?_
  obtain ⟨r16, hx17, hm⟩ := bind_some hm
  by_cases hk31 : decide ((([] : (List D.Port)).length : Int) + (x0.Ports.length : Int) ≤ 4294967296) = true
  case neg => rw [if_neg hk31] at hm; cases hm
  rw [if_pos hk31] at hm
  refine DM.all hsk14 [16, 17] (by kernel_rfl) (by simp) ?_
  intro i39 hi40
  simp only [List.mem_cons, List.not_mem_nil, or_false] at hi40
  rcases hi40 with rfl | rfl
  · skip
    refine LM.call hsk14 4063231 (by kernel_rfl) (by kernel_rfl) rfl rfl rfl rfl enters161 (spec_l00Own_ok (hE.trans hS15.ext) h3 hx17) (fun v41 w42 hR43 => ?_)
    obtain ⟨A44, k45, rfl, hR46⟩ := hR43
    refine ⟨hR46.ext, ?_⟩
    have hS47 := hS15.join hR46
    refine DM.one hsk14 17 (by kernel_rfl) (LM.newSlice0 (U := ty38) ttok hS47 hsk14 4194303 (by kernel_rfl) (by kernel_rfl) rfl rfl rfl rfl rfl rfl rfl rfl (fun A48 k49 w50 e51 hS52 => ?_))
    have hS53 := hS52.bring 0 rfl
    refine DM.one hsk14 22 (by kernel_rfl) (LM.appendRo ttok (Flat.map (Flat.pair Flat.int (Flat.pair Flat.int Flat.unit))) hS53 hsk14 8388607 (by kernel_rfl) (by kernel_rfl) rfl rfl rfl rfl rfl rfl rfl (by decide) rfl rfl (ty110.ext (hE.trans hS53.ext) h6) (of_decide_eq_true hk31) (by decide) rfl rfl (fun A54 k55 w56 hS57 => ?_))
    refine DM.quietP hsk14 23 16777215 (by kernel_rfl) (by kernel_rfl) rfl (by kernel_rfl) rfl (fun _ => Quiet.build ttok rfl rfl rfl rfl rfl) rfl rfl ?_
    have hS58 := hS57.bring 2 rfl
    refine DM.one hsk14 24 (by kernel_rfl) (LM.store ttok (A := []) hS58 hsk14 33554431 (by kernel_rfl) (by kernel_rfl) rfl rfl rfl rfl rfl rfl 0 rfl rfl rfl rfl rfl (fun w59 hS60 => ?_))
    refine DM.done hsk14 (by kernel_rfl) ?_
    refine WP.ret ?_
    cases hm
    exact ⟨_, .cons (ResIs.agg ttok rfl rfl rfl ((hS60.bring 0 rfl).box) rfl) .nil, A44, k45, A54, k55, rfl, (((hS60.bring 1 rfl).bring 2 rfl).taken 2)⟩
  · skip
    refine LM.newSlice0 (U := ty38) ttok hS15 hsk14 4128767 (by kernel_rfl) (by kernel_rfl) rfl rfl rfl rfl rfl rfl rfl rfl (fun A61 k62 w63 e65 hS66 => ?_)
    refine DM.one hsk14 16 (by kernel_rfl) (LM.call hsk14 4194303 (by kernel_rfl) (by kernel_rfl) rfl rfl rfl rfl enters161 (spec_l00Own_ok (hE.trans hS66.ext) h3 hx17) (fun v67 w68 hR69 => ?_))
    obtain ⟨A70, k71, rfl, hR72⟩ := hR69
    refine ⟨hR72.ext, ?_⟩
    have hS73 := hS66.join hR72
    have hS74 := hS73.bring 1 rfl
    refine DM.one hsk14 22 (by kernel_rfl) (LM.appendRo ttok (Flat.map (Flat.pair Flat.int (Flat.pair Flat.int Flat.unit))) hS74 hsk14 8388607 (by kernel_rfl) (by kernel_rfl) rfl rfl rfl rfl rfl rfl rfl (by decide) rfl rfl (ty110.ext (hE.trans hS74.ext) h6) (of_decide_eq_true hk31) (by decide) rfl rfl (fun A75 k76 w77 hS78 => ?_))
    refine DM.quietP hsk14 23 16777215 (by kernel_rfl) (by kernel_rfl) rfl (by kernel_rfl) rfl (fun _ => Quiet.build ttok rfl rfl rfl rfl rfl) rfl rfl ?_
    have hS79 := hS78.bring 2 rfl
    refine DM.one hsk14 24 (by kernel_rfl) (LM.store ttok (A := []) hS79 hsk14 33554431 (by kernel_rfl) (by kernel_rfl) rfl rfl rfl rfl rfl rfl 0 rfl rfl rfl rfl rfl (fun w80 hS81 => ?_))
    refine DM.done hsk14 (by kernel_rfl) ?_
    refine WP.ret ?_
    cases hm
    exact ⟨_, .cons (ResIs.agg ttok rfl rfl rfl ((hS81.bring 0 rfl).box) rfl) .nil, A70, k71, A75, k76, rfl, (((hS81.bring 1 rfl).bring 2 rfl).taken 2)⟩

theorem enters51 : Enters Try.prog 51 := ⟨_, _, Try.func51, rfl, by kernel_rfl⟩
def m_spec_l11Own_j1 (fuel : Nat) (t19 : (List D.Agent)) : Option D.Net := some (⟨t19⟩ : D.Net)
def m_spec_l11Own_b1 (fuel : Nat) (x0 : D.Net) (s18 : Int × (List D.Agent)) : Option (Rd (Int × (List D.Agent)) ((List D.Agent)) (D.Net)) := (if (decide (s18.1 < (x0.Agents.length : Int))) = true then ((idx x0.Agents s18.1).bind fun x43 => ((m_spec_l11OwnAgent fuel x43).bind fun r56 => (if decide ((s18.2.length : Int) + (([r56] : (List D.Agent)).length : Int) ≤ 4294967296) = true then some (.next (w64 (s18.1 + 1), (s18.2 ++ ([r56] : (List D.Agent))))) else none))) else some (.brk s18.2))
def m_spec_l11Own (fuel : Nat) (x0 : D.Net) : Option (D.Net) := ((iter (m_spec_l11Own_b1 fuel x0) fuel (0, [])).bind fun o => aft o (m_spec_l11Own_j1 fuel))

set_option maxRecDepth 100000 in
theorem spec_l11Own_ok {W w : World} (hE : Ext W w) {p0_ : Addr} {c0_ : List Value} {x0 : D.Net} (h0_ : ty30.ro W c0_ x0) (g0_ : At W p0_ c0_) {fuel : Nat} {r : D.Net} (hm : m_spec_l11Own fuel x0 = some r) :
    Calls Try.prog 51 ⟨[.pointer (some p0_)]⟩ w (Ret fun v w8 => ∃ A0 k0, v = .agg ⟨[.slice A0 r.Agents.length k0]⟩ ∧ St w w8 [Own ty28 [.slice A0 r.Agents.length k0] r.Agents]) := by
  obtain ⟨A1, k2, e4, h3⟩ := ty30_open h0_; subst e4
  refine Calls.into Try.func51 rfl 28 rfl rfl _ rfl ?_
  unfold m_spec_l11Own at hm
  have hS := St.start w
  refine WP.seq ?_
  refine WP.region ?_
  refine RW.new ttok hS rfl rfl rfl rfl (fun g5 w6 e7 hS10 => ?_)
  refine RW.nil ?_
  refine WP.seq ?_
  refine WP.region ?_
  refine RW.quiet rfl (Quiet.build ttok rfl rfl rfl rfl rfl) rfl rfl ?_
  refine RW.new ttok hS10 rfl rfl rfl rfl (fun g11 w12 e13 hS14 => ?_)
  have hS15 := hS14.bring 0 rfl
  refine RW.store ttok (A := []) hS15 rfl rfl rfl rfl rfl 0 rfl rfl rfl rfl rfl (fun w16 hS17 => ?_)
  refine RW.nil ?_
  refine WP.seq ?_
  refine WP.seq ?_
  refine WP.region ?_
  refine RW.run ttok 1 rfl ?_
  refine RW.nil ?_
  obtain ⟨o28, hl29, hm⟩ := bind_some hm
  refine WP.cut (fun (t19 : (List D.Agent)) F w9 => ∃ A25 k26, o28 = .inl t19 ∧ St w w9 [Own ty28 [.slice A25 t19.length k26] t19, Box g11 [.slice A25 t19.length k26] 30, Box g5 [.slice none 0 0] 30] ∧ F = [(2, .pointer (some ⟨g5, 0, none⟩)), (3, .pointer (some ⟨g11, 0, none⟩))]) ?_ ?_
  · skip
    rintro t19 F w27 ⟨A25, k26, ho31, hS30, rfl⟩
    subst ho31
    rw [aft_inl] at hm
    unfold m_spec_l11Own_j1 at hm
    refine WP.seq ?_
    refine WP.region ?_
    refine RW.loadN ttok rfl rfl rfl rfl rfl ((hS30.bring 1 rfl).box) rfl rfl rfl ?_
    have hS32 := hS30.bring 2 rfl
    refine RW.store ttok (A := []) hS32 rfl rfl rfl rfl rfl 0 rfl rfl rfl rfl rfl (fun w33 hS34 => ?_)
    refine RW.nil ?_
    refine WP.ret ?_
    cases hm
    exact ⟨_, .cons (ResIs.agg ttok rfl rfl rfl ((hS34.bring 0 rfl).box) rfl) .nil, A25, k26, rfl, ((hS34.bring 1 rfl).taken 1)⟩
  · skip
    refine WP.block ?_
    have hS35 := hS17.nilSl ty112 112
    refine WP.weak [(0, .pointer (some p0_)), (2, .pointer (some ⟨g5, 0, none⟩)), (3, .pointer (some ⟨g11, 0, none⟩)), (4, .int .i64 0)] ⟨rfl, rfl, rfl, rfl, trivial⟩ ?_
    refine WP.iter (fun (s18 : Int × (List D.Agent)) F w9 => ∃ A23 k24, St w w9 [Own ty28 [.slice A23 s18.2.length k24] s18.2, Box g11 [.slice A23 s18.2.length k24] 30, Box g5 [.slice none 0 0] 30] ∧ F = [(0, .pointer (some p0_)), (2, .pointer (some ⟨g5, 0, none⟩)), (3, .pointer (some ⟨g11, 0, none⟩)), (4, .int .i64 s18.1)]) _ hl29 ⟨none, 0, hS35, rfl⟩ ?_
    rintro s18 F w40 _ o38 ⟨A23, k24, hS39, rfl⟩ hb36 ho37
    unfold m_spec_l11Own_b1 at hb36
    refine WP.seq ?_
    refine WP.seq ?_
    refine WP.region ?_
    refine RW.run ttok 4 rfl ?_
    refine RW.load1 ttok rfl rfl rfl rfl rfl (At.ext (hE.trans hS39.ext) g0_) 0 rfl rfl rfl rfl ?_
    refine RW.run ttok 2 rfl ?_
    refine RW.nil ?_
    refine WP.cond (decide (s18.1 < (x0.Agents.length : Int))) rfl (fun hc => ?_) (fun hc => ?_)
    · skip
      rw [if_pos hc] at hb36
      refine WP.skip ?_
      refine WP.seq ?_
      refine WP.block ?_
      refine WP.drawnM 5120 mixed 13 (by kernel_rfl) (by kernel_rfl) [([], 8191), ([0], 8190), ([], 8191), ([2], 8187), ([3], 8183), ([4], 8175), ([], 8191), ([5, 6], 8095), ([7], 8063), ([8], 7935), ([1, 9, 8], 7677), ([0, 1, 2, 3, 4, 5, 6, 7, 8, 9, 10], 8191), ([11, 10, 10, 0, 1, 2, 3, 4, 5, 6, 7, 8, 9, 10], 5119)] (by kernel_rfl) hS39.ext (fun hsk41 => ?_)
      have hS42 := hS39.step (Ext.draw _)
      refine DM.run (fuel := 8) ttok hsk41 [0, 2, 3, 4, 6] 93 (by kernel_rfl) (by kernel_rfl) rfl ?_
      refine DM.weak [(0, .pointer (some p0_)), (2, .pointer (some ⟨g5, 0, none⟩)), (3, .pointer (some ⟨g11, 0, none⟩)), (4, .int .i64 s18.1), (15, .pointer (some ⟨g11, 0, none⟩)), (19, .pointer (some p0_)), (21, .int .i64 s18.1)] ⟨rfl, rfl, rfl, rfl, rfl, rfl, rfl, trivial⟩ ?_
      refine DM.load1 ttok hsk41 1 95 (by kernel_rfl) (by kernel_rfl) (by kernel_rfl) (by kernel_rfl) rfl (by kernel_rfl) rfl rfl rfl rfl rfl ((hS39.bring 1 rfl).box) 0 rfl rfl rfl rfl ?_
      refine DM.quietV hsk41 5 127 (by kernel_rfl) (by kernel_rfl) rfl (by kernel_rfl) rfl (Quiet.load1 ttok rfl rfl rfl rfl (At.ext hE g0_) 0 rfl rfl) rfl rfl ?_
      obtain ⟨x43, hx44, hb36⟩ := bind_some hb36
      refine DM.idxV ttok hE hsk41 7 255 (by kernel_rfl) (by kernel_rfl) rfl (by kernel_rfl) rfl rfl rfl rfl rfl rfl (by decide) rfl rfl h3 (idx_some hx44).1 (idx_some hx44).2 rfl rfl (fun p45 es46 ha47 hr48 => ?_)
      obtain ⟨A49, k50, A52, k53, e55, h51, h54⟩ := ty112_open hr48; subst e55
      obtain ⟨r56, hx57, hb36⟩ := bind_some hb36
      refine DM.one hsk41 8 (by kernel_rfl) (LM.call hsk41 511 (by kernel_rfl) (by kernel_rfl) rfl rfl rfl rfl enters116 (spec_l11OwnAgent_ok (hE.trans hS42.ext) hr48 ha47 hx57) (fun v58 w59 hR60 => ?_))
      obtain ⟨A61, k62, A63, k65, rfl, hR66⟩ := hR60
      refine ⟨hR66.ext, ?_⟩
      have hS67 := hS42.join hR66
      have hS68 := St.noEl ty112 hS67
      have hS69 := hS68.bring 2 rfl
      have hS70 := hS69.bring 2 rfl
      have hS71 := ty112_shutS (c := r56) (B := _) hS70
      have hS72 := St.consEl hS71
      refine DM.one hsk41 9 (by kernel_rfl) (LM.newSlice (U := ty112) (els := [.int .i64 r56.Kind, .int .i64 r56.Level, .int .i64 r56.Value, .slice A61 r56.Data.length k62, .slice A63 r56.Ports.length k65]) (ys := [r56]) ttok hS72 hsk41 1023 (by kernel_rfl) (by kernel_rfl) rfl rfl rfl rfl rfl rfl rfl rfl rfl rfl rfl rfl rfl (fun A73 k74 w75 e76 hS77 => ?_))
      have hS78 := hS77.bring 1 rfl
      have hS79 := hS78.bring 1 rfl
      by_cases hk80 : decide ((s18.2.length : Int) + (([r56] : (List D.Agent)).length : Int) ≤ 4294967296) = true
      case neg => rw [if_neg hk80] at hb36; cases hb36
      rw [if_pos hk80] at hb36
      refine DM.one hsk41 10 (by kernel_rfl) (LM.appendOwn ttok hS79 hsk41 2047 (by kernel_rfl) (by kernel_rfl) rfl rfl rfl rfl rfl rfl rfl (by decide) rfl rfl (of_decide_eq_true hk80) (by decide) rfl rfl (fun A81 k82 w83 hS84 => ?_))
      refine DM.run (fuel := 1) ttok hsk41 [11] 4095 (by kernel_rfl) (by kernel_rfl) rfl ?_
      refine DM.weak [(0, .pointer (some p0_)), (2, .pointer (some ⟨g5, 0, none⟩)), (3, .pointer (some ⟨g11, 0, none⟩)), (4, .int .i64 s18.1), (25, .slice A81 (s18.2 ++ ([r56] : (List D.Agent))).length k82), (26, .pointer (some ⟨g11, 0, none⟩))] ⟨rfl, rfl, rfl, rfl, rfl, rfl, trivial⟩ ?_
      have hS85 := hS84.bring 1 rfl
      refine DM.one hsk41 12 (by kernel_rfl) (LM.store ttok (A := []) hS85 hsk41 8191 (by kernel_rfl) (by kernel_rfl) rfl rfl rfl rfl rfl rfl 0 rfl rfl rfl rfl rfl (fun w86 hS87 => ?_))
      refine DM.done hsk41 (by kernel_rfl) ?_
      refine WP.region ?_
      refine RW.run ttok 3 rfl ?_
      refine RW.nil ?_
      cases hb36
      exact ⟨_, [(0, .pointer (some p0_)), (2, .pointer (some ⟨g5, 0, none⟩)), (3, .pointer (some ⟨g11, 0, none⟩)), (4, .int .i64 (w64 (s18.1 + 1)))], ⟨rfl, rfl, rfl, rfl, trivial⟩, rfl, A81, k82, ((hS87.bring 0 rfl).bring 1 rfl), rfl⟩
    · skip
      rw [if_neg (not_t hc)] at hb36
      refine WP.exit ?_
      cases hb36
      exact ⟨_, [(2, .pointer (some ⟨g5, 0, none⟩)), (3, .pointer (some ⟨g11, 0, none⟩))], ⟨rfl, rfl, trivial⟩, A23, k24, ho37, hS39, rfl⟩

theorem enters157 : Enters Try.prog 157 := ⟨_, _, Try.func157, rfl, by kernel_rfl⟩
def m_slices_Clone_int64_int64 (fuel : Nat) (x0 : (List Int)) : Option ((List Int)) := (if decide ((([] : (List Int)).length : Int) + (x0.length : Int) ≤ 4294967296) = true then some (([] : (List Int)) ++ x0) else none)

set_option maxRecDepth 100000 in
theorem slices_Clone_int64_int64_ok {W w : World} (hE : Ext W w) {A0_ : Option Addr} {k0_ : Nat} {x0 : (List Int)} (h0_ : ty103.ro W [.slice A0_ x0.length k0_] x0) {fuel : Nat} {r : (List Int)} (hm : m_slices_Clone_int64_int64 fuel x0 = some r) :
    Calls Try.prog 157 ⟨[.slice A0_ x0.length k0_]⟩ w (Ret fun v w8 => ∃ A0 k0, v = .slice A0 r.length k0 ∧ St w w8 [Own ty103 [.slice A0 r.length k0] r]) := by
  refine Calls.into Try.func157 rfl 8 rfl rfl _ rfl ?_
  unfold m_slices_Clone_int64_int64 at hm
  have hS := St.start w
  refine WP.seq ?_
  refine WP.region ?_
  refine RW.run ttok 1 rfl ?_
  refine RW.nil ?_
  refine WP.seq ?_
  refine WP.seq ?_
  refine WP.region ?_
  refine RW.run ttok 1 rfl ?_
  refine RW.quiet rfl (Quiet.nilEq ttok rfl rfl rfl rfl rfl) rfl rfl ?_
  refine RW.nil ?_
  cases A0_ with
  | none =>
    have e := sl_none (by decide) h0_
    subst e
    refine WP.cond true rfl (fun _ => ?_) (fun hc => by cases hc)
    refine WP.seq ?_
    refine WP.region ?_
    refine RW.run ttok 1 rfl ?_
    refine RW.nil ?_
    refine WP.ret ?_
    have hr : r = [] := by simpa using hm.symm
    subst hr
    exact ⟨_, .cons (.tmp rfl) .nil, none, 0, rfl, hS.nilSl tInt 2⟩
  | some p =>
    refine WP.cond false rfl (fun hc => by cases hc) (fun _ => ?_)
    refine WP.skip ?_
    refine WP.seq ?_
    refine WP.region ?_
    refine RW.newSlice0 (U := tInt) ttok hS rfl rfl rfl rfl rfl rfl rfl (fun A1 k1 w1 e1 hS1 => ?_)
    refine RW.run ttok 1 rfl ?_
    by_cases hk : decide ((([] : (List Int)).length : Int) + (x0.length : Int) ≤ 4294967296) = true
    case neg => rw [if_neg hk] at hm; cases hm
    rw [if_pos hk] at hm
    cases hm
    refine RW.appendRo ttok Flat.int hS1 rfl rfl rfl rfl rfl rfl (by decide) rfl rfl (ty103.ext (hE.trans hS1.ext) h0_) (of_decide_eq_true hk) (by decide) rfl rfl (fun A2 k2 w2 hS2 => ?_)
    refine RW.run ttok 1 rfl ?_
    refine RW.nil ?_
    refine WP.ret ?_
    exact ⟨_, .cons (.tmp rfl) .nil, A2, k2, rfl, hS2⟩

theorem enters170 : Enters Try.prog 170 := ⟨_, _, Try.func170, rfl, by kernel_rfl⟩
def m_slices_Clone_impl_Port_impl_Port (fuel : Nat) (x0 : (List D.Port)) : Option ((List D.Port)) := (if decide ((([] : (List D.Port)).length : Int) + (x0.length : Int) ≤ 4294967296) = true then some (([] : (List D.Port)) ++ x0) else none)

set_option maxRecDepth 100000 in
theorem slices_Clone_impl_Port_impl_Port_ok {W w : World} (hE : Ext W w) {A0_ : Option Addr} {k0_ : Nat} {x0 : (List D.Port)} (h0_ : ty110.ro W [.slice A0_ x0.length k0_] x0) {fuel : Nat} {r : (List D.Port)} (hm : m_slices_Clone_impl_Port_impl_Port fuel x0 = some r) :
    Calls Try.prog 170 ⟨[.slice A0_ x0.length k0_]⟩ w (Ret fun v w8 => ∃ A0 k0, v = .slice A0 r.length k0 ∧ St w w8 [Own ty110 [.slice A0 r.length k0] r]) := by
  refine Calls.into Try.func170 rfl 8 rfl rfl _ rfl ?_
  unfold m_slices_Clone_impl_Port_impl_Port at hm
  have hS := St.start w
  refine WP.seq ?_
  refine WP.region ?_
  refine RW.run ttok 1 rfl ?_
  refine RW.nil ?_
  refine WP.seq ?_
  refine WP.seq ?_
  refine WP.region ?_
  refine RW.run ttok 1 rfl ?_
  refine RW.quiet rfl (Quiet.nilEq ttok rfl rfl rfl rfl rfl) rfl rfl ?_
  refine RW.nil ?_
  cases A0_ with
  | none =>
    have e := sl_none (by decide) h0_
    subst e
    refine WP.cond true rfl (fun _ => ?_) (fun hc => by cases hc)
    refine WP.seq ?_
    refine WP.region ?_
    refine RW.run ttok 1 rfl ?_
    refine RW.nil ?_
    refine WP.ret ?_
    have hr : r = [] := by simpa using hm.symm
    subst hr
    exact ⟨_, .cons (.tmp rfl) .nil, none, 0, rfl, hS.nilSl ty38 38⟩
  | some p =>
    refine WP.cond false rfl (fun hc => by cases hc) (fun _ => ?_)
    refine WP.skip ?_
    refine WP.seq ?_
    refine WP.region ?_
    refine RW.newSlice0 (U := ty38) ttok hS rfl rfl rfl rfl rfl rfl rfl (fun A1 k1 w1 e1 hS1 => ?_)
    refine RW.run ttok 1 rfl ?_
    by_cases hk : decide ((([] : (List D.Port)).length : Int) + (x0.length : Int) ≤ 4294967296) = true
    case neg => rw [if_neg hk] at hm; cases hm
    rw [if_pos hk] at hm
    cases hm
    refine RW.appendRo ttok (Flat.map (Flat.pair Flat.int (Flat.pair Flat.int Flat.unit))) hS1 rfl rfl rfl rfl rfl rfl (by decide) rfl rfl (ty110.ext (hE.trans hS1.ext) h0_) (of_decide_eq_true hk) (by decide) rfl rfl (fun A2 k2 w2 hS2 => ?_)
    refine RW.run ttok 1 rfl ?_
    refine RW.nil ?_
    refine WP.ret ?_
    exact ⟨_, .cons (.tmp rfl) .nil, A2, k2, rfl, hS2⟩

theorem enters117 : Enters Try.prog 117 := ⟨_, _, Try.func117, rfl, by kernel_rfl⟩
def m_impl_copyAgent (fuel : Nat) (x0 : D.Agent) : Option (D.Agent) := ((m_slices_Clone_int64_int64 fuel x0.Data).bind fun r20 => ((m_slices_Clone_impl_Port_impl_Port fuel x0.Ports).bind fun r29 => some (⟨x0.Kind, x0.Level, x0.Value, r20, r29⟩ : D.Agent)))

set_option maxRecDepth 100000 in
theorem impl_copyAgent_ok {W w : World} (hE : Ext W w) {c0_ : List Value} {x0 : D.Agent} (h0_ : ty112.ro W c0_ x0) {fuel : Nat} {r : D.Agent} (hm : m_impl_copyAgent fuel x0 = some r) :
    Calls Try.prog 117 ⟨[.agg ⟨c0_⟩]⟩ w (Ret fun v w8 => ∃ A0 k0 A1 k1, v = .agg ⟨[.int .i64 r.Kind, .int .i64 r.Level, .int .i64 r.Value, .slice A0 r.Data.length k0, .slice A1 r.Ports.length k1]⟩ ∧ St w w8 [Own ty103 [.slice A0 r.Data.length k0] r.Data, Own ty110 [.slice A1 r.Ports.length k1] r.Ports]) := by
  obtain ⟨A1, k2, A4, k5, e7, h3, h6⟩ := ty112_open h0_; subst e7
  refine Calls.into Try.func117 rfl 12 rfl rfl _ rfl ?_
  unfold m_impl_copyAgent at hm
  have hS := St.start w
  refine WP.seq ?_
  refine WP.region ?_
  refine RW.new ttok hS rfl rfl rfl rfl (fun g10 w11 e12 hS13 => ?_)
  refine RW.new ttok hS13 rfl rfl rfl rfl (fun g14 w15 e16 hS17 => ?_)
  refine RW.nil ?_
  refine WP.seq ?_
  refine WP.drawnM 640 mixed 10 (by kernel_rfl) (by kernel_rfl) [([], 1023), ([0], 1022), ([1], 1021), ([], 1023), ([3], 1015), ([4, 2], 1007), ([0, 1, 2, 3, 4], 1023), ([6, 2, 5, 0, 1, 2, 3, 4], 955), ([0, 1, 2, 3, 4, 5, 6, 7], 1023), ([8, 5, 7, 0, 1, 2, 3, 4, 5, 6, 7], 735)] (by kernel_rfl) hS17.ext (fun hsk18 => ?_)
  have hS19 := hS17.step (Ext.draw _)
  refine DM.run (fuel := 8) ttok hsk18 [0, 3] 9 (by kernel_rfl) (by kernel_rfl) rfl ?_
  refine DM.load1 ttok hsk18 1 11 (by kernel_rfl) (by kernel_rfl) (by kernel_rfl) (by kernel_rfl) rfl (by kernel_rfl) rfl rfl rfl rfl rfl ((hS17.bring 1 rfl).box) 3 rfl rfl rfl rfl ?_
  refine DM.load1 ttok hsk18 4 27 (by kernel_rfl) (by kernel_rfl) (by kernel_rfl) (by kernel_rfl) rfl (by kernel_rfl) rfl rfl rfl rfl rfl ((hS17.bring 1 rfl).box) 4 rfl rfl rfl rfl ?_
  obtain ⟨r20, hx21, hm⟩ := bind_some hm
  refine DM.one hsk18 2 (by kernel_rfl) (LM.call hsk18 31 (by kernel_rfl) (by kernel_rfl) rfl rfl rfl rfl enters157 (slices_Clone_int64_int64_ok (hE.trans hS19.ext) h3 hx21) (fun v22 w23 hR24 => ?_))
  obtain ⟨A25, k26, rfl, hR27⟩ := hR24
  refine ⟨hR27.ext, ?_⟩
  have hS28 := hS19.join hR27
  refine DM.run (fuel := 4) ttok hsk18 [6] 95 (by kernel_rfl) (by kernel_rfl) rfl ?_
  obtain ⟨r29, hx30, hm⟩ := bind_some hm
  refine DM.one hsk18 5 (by kernel_rfl) (LM.call hsk18 127 (by kernel_rfl) (by kernel_rfl) rfl rfl rfl rfl enters170 (slices_Clone_impl_Port_impl_Port_ok (hE.trans hS28.ext) h6 hx30) (fun v31 w32 hR33 => ?_))
  obtain ⟨A34, k35, rfl, hR36⟩ := hR33
  refine ⟨hR36.ext, ?_⟩
  have hS37 := hS28.join hR36
  have hS38 := hS37.bring 3 rfl
  refine DM.one hsk18 7 (by kernel_rfl) (LM.store ttok (A := []) hS38 hsk18 255 (by kernel_rfl) (by kernel_rfl) rfl rfl rfl rfl rfl rfl 3 rfl rfl rfl rfl rfl (fun w39 hS40 => ?_))
  refine DM.run (fuel := 1) ttok hsk18 [8] 511 (by kernel_rfl) (by kernel_rfl) rfl ?_
  refine DM.weak [(1, .pointer (some ⟨g10, 0, none⟩)), (2, .pointer (some ⟨g14, 0, none⟩)), (8, .slice A34 r29.length k35), (10, .pointer (some ⟨g10, 4, none⟩))] ⟨rfl, rfl, rfl, rfl, trivial⟩ ?_
  have hS41 := hS40.bring 0 rfl
  refine DM.one hsk18 9 (by kernel_rfl) (LM.store ttok (A := []) hS41 hsk18 1023 (by kernel_rfl) (by kernel_rfl) rfl rfl rfl rfl rfl rfl 4 rfl rfl rfl rfl rfl (fun w42 hS43 => ?_))
  refine DM.done hsk18 (by kernel_rfl) ?_
  refine WP.seq ?_
  refine WP.region ?_
  refine RW.loadN ttok rfl rfl rfl rfl rfl ((hS43.bring 0 rfl).box) rfl rfl rfl ?_
  have hS44 := hS43.bring 3 rfl
  refine RW.store ttok (A := []) hS44 rfl rfl rfl rfl rfl 0 rfl rfl rfl rfl rfl (fun w45 hS46 => ?_)
  refine RW.nil ?_
  refine WP.ret ?_
  cases hm
  exact ⟨_, .cons (ResIs.agg ttok rfl rfl rfl ((hS46.bring 0 rfl).box) rfl) .nil, A25, k26, A34, k35, rfl, (((hS46.bring 2 rfl).bring 3 rfl).taken 2)⟩

theorem enters55 : Enters Try.prog 55 := ⟨_, _, Try.func55, rfl, by kernel_rfl⟩
def m_impl_copyNet_j1 (fuel : Nat) (t30 : (List D.Agent)) : Option D.Net := some (⟨t30⟩ : D.Net)
def m_impl_copyNet_b1 (fuel : Nat) (x0 : D.Net) (s29 : Int × (List D.Agent)) : Option (Rd (Int × (List D.Agent)) ((List D.Agent)) (D.Net)) := (if (decide (s29.1 < (x0.Agents.length : Int))) = true then ((idx x0.Agents s29.1).bind fun x51 => ((m_impl_copyAgent fuel x51).bind fun r74 => (if decide ((s29.2.length : Int) + (([r74] : (List D.Agent)).length : Int) ≤ 4294967296) = true then some (.next (w64 (s29.1 + 1), (s29.2 ++ ([r74] : (List D.Agent))))) else none))) else some (.brk s29.2))
def m_impl_copyNet (fuel : Nat) (x0 : D.Net) : Option (D.Net) := (if decide (0 ≤ (x0.Agents.length : Int) ∧ (x0.Agents.length : Int) ≤ 4294967296) = true then ((iter (m_impl_copyNet_b1 fuel x0) fuel (0, ([] : (List D.Agent)))).bind fun o => aft o (m_impl_copyNet_j1 fuel)) else none)

set_option maxRecDepth 100000 in
theorem impl_copyNet_ok {W w : World} (hE : Ext W w) {c0_ : List Value} {x0 : D.Net} (h0_ : ty30.ro W c0_ x0) {fuel : Nat} {r : D.Net} (hm : m_impl_copyNet fuel x0 = some r) :
    Calls Try.prog 55 ⟨[.agg ⟨c0_⟩]⟩ w (Ret fun v w8 => ∃ A0 k0, v = .agg ⟨[.slice A0 r.Agents.length k0]⟩ ∧ St w w8 [Own ty28 [.slice A0 r.Agents.length k0] r.Agents]) := by
  obtain ⟨A1, k2, e4, h3⟩ := ty30_open h0_; subst e4
  refine Calls.into Try.func55 rfl 27 rfl rfl _ rfl ?_
  unfold m_impl_copyNet at hm
  have hS := St.start w
  refine WP.seq ?_
  refine WP.region ?_
  refine RW.new ttok hS rfl rfl rfl rfl (fun g5 w6 e7 hS10 => ?_)
  refine RW.new ttok hS10 rfl rfl rfl rfl (fun g11 w12 e13 hS14 => ?_)
  refine RW.nil ?_
  refine WP.seq ?_
  refine WP.region ?_
  refine RW.run ttok 1 rfl ?_
  refine RW.load1 ttok rfl rfl rfl rfl rfl ((hS14.bring 1 rfl).box) 0 rfl rfl rfl rfl ?_
  refine RW.run ttok 1 rfl ?_
  by_cases hk15 : decide (0 ≤ (x0.Agents.length : Int) ∧ (x0.Agents.length : Int) ≤ 4294967296) = true
  case neg => rw [if_neg hk15] at hm; cases hm
  rw [if_pos hk15] at hm
  have hz21 := of_decide_eq_true hk15
  refine RW.makeCap (U := ty112) ttok hS14 rfl rfl rfl rfl rfl rfl rfl rfl hz21.1 (by have := hz21.2; show _ * (72 : Int) ≤ _; omega) (by have := hz21.2; simp only [maxLen]; omega) rfl rfl (fun A16 k17 w18 e19 hS20 => ?_)
  refine RW.quiet rfl (Quiet.build ttok rfl rfl rfl rfl rfl) rfl rfl ?_
  refine RW.new ttok hS20 rfl rfl rfl rfl (fun g22 w23 e24 hS25 => ?_)
  have hS26 := hS25.bring 0 rfl
  refine RW.store ttok (A := []) hS26 rfl rfl rfl rfl rfl 0 rfl rfl rfl rfl rfl (fun w27 hS28 => ?_)
  refine RW.nil ?_
  refine WP.seq ?_
  refine WP.seq ?_
  refine WP.region ?_
  refine RW.run ttok 1 rfl ?_
  refine RW.load1 ttok rfl rfl rfl rfl rfl ((hS28.bring 3 rfl).box) 0 rfl rfl rfl rfl ?_
  refine RW.run ttok 2 rfl ?_
  refine RW.nil ?_
  obtain ⟨o39, hl40, hm⟩ := bind_some hm
  refine WP.cut (fun (t30 : (List D.Agent)) F w9 => ∃ A36 k37, o39 = .inl t30 ∧ St w w9 [Box g22 [.slice A36 t30.length k37] 30, Own ty28 [.slice A36 t30.length k37] t30, Box g11 [.slice none 0 0] 30, Box g5 [.slice A1 x0.Agents.length k2] 30] ∧ F = [(2, .pointer (some ⟨g11, 0, none⟩)), (3, .pointer (some ⟨g22, 0, none⟩))]) ?_ ?_
  · skip
    rintro t30 F w38 ⟨A36, k37, ho42, hS41, rfl⟩
    subst ho42
    rw [aft_inl] at hm
    unfold m_impl_copyNet_j1 at hm
    refine WP.seq ?_
    refine WP.region ?_
    refine RW.loadN ttok rfl rfl rfl rfl rfl ((hS41.bring 0 rfl).box) rfl rfl rfl ?_
    have hS43 := hS41.bring 2 rfl
    refine RW.store ttok (A := []) hS43 rfl rfl rfl rfl rfl 0 rfl rfl rfl rfl rfl (fun w44 hS45 => ?_)
    refine RW.nil ?_
    refine WP.ret ?_
    cases hm
    exact ⟨_, .cons (ResIs.agg ttok rfl rfl rfl ((hS45.bring 0 rfl).box) rfl) .nil, A36, k37, rfl, ((hS45.bring 2 rfl).taken 1)⟩
  · skip
    refine WP.block ?_
    refine WP.weak [(2, .pointer (some ⟨g11, 0, none⟩)), (3, .pointer (some ⟨g22, 0, none⟩)), (12, .slice A1 x0.Agents.length k2), (13, .int .i64 (x0.Agents.length : Int)), (14, .int .i64 0)] ⟨rfl, rfl, rfl, rfl, rfl, trivial⟩ ?_
    refine WP.iter (fun (s29 : Int × (List D.Agent)) F w9 => ∃ A34 k35, St w w9 [Box g22 [.slice A34 s29.2.length k35] 30, Own ty28 [.slice A34 s29.2.length k35] s29.2, Box g11 [.slice none 0 0] 30, Box g5 [.slice A1 x0.Agents.length k2] 30] ∧ F = [(2, .pointer (some ⟨g11, 0, none⟩)), (3, .pointer (some ⟨g22, 0, none⟩)), (12, .slice A1 x0.Agents.length k2), (13, .int .i64 (x0.Agents.length : Int)), (14, .int .i64 s29.1)]) _ hl40 ⟨A16, k17, hS28, rfl⟩ ?_
    rintro s29 F w50 _ o48 ⟨A34, k35, hS49, rfl⟩ hb46 ho47
    unfold m_impl_copyNet_b1 at hb46
    refine WP.seq ?_
    refine WP.region ?_
    refine RW.run ttok 1 rfl ?_
    refine RW.nil ?_
    refine WP.seq ?_
    refine WP.cond (decide (s29.1 < (x0.Agents.length : Int))) rfl (fun hc => ?_) (fun hc => ?_)
    · skip
      rw [if_pos hc] at hb46
      refine WP.skip ?_
      refine WP.seq ?_
      refine WP.block ?_
      refine WP.seq ?_
      refine WP.region ?_
      obtain ⟨x51, hx52, hb46⟩ := bind_some hb46
      refine RW.idx ttok (hE.trans hS49.ext) rfl rfl rfl rfl rfl rfl (by decide) rfl rfl h3 (idx_some hx52).1 (idx_some hx52).2 rfl rfl (fun p53 es54 ha55 hr56 => ?_)
      obtain ⟨A57, k58, A60, k61, e63, h59, h62⟩ := ty112_open hr56; subst e63
      refine RW.loadN ttok rfl rfl rfl rfl rfl (At.ext (hE.trans hS49.ext) ha55) rfl rfl rfl ?_
      refine RW.new ttok hS49 rfl rfl rfl rfl (fun g65 w66 e67 hS68 => ?_)
      have hS69 := hS68.bring 0 rfl
      refine RW.store ttok (A := []) hS69 rfl rfl rfl rfl rfl 0 rfl rfl rfl rfl rfl (fun w70 hS71 => ?_)
      refine RW.nil ?_
      refine WP.drawnM 160 mixed 8 (by kernel_rfl) (by kernel_rfl) [([], 255), ([0], 254), ([], 255), ([2], 251), ([3], 247), ([1, 4, 3], 237), ([0, 1, 2, 3, 4, 5], 255), ([6, 5, 5, 0, 1, 2, 3, 4, 5], 159)] (by kernel_rfl) hS71.ext (fun hsk72 => ?_)
      have hS73 := hS71.step (Ext.draw _)
      refine DM.run (fuel := 7) ttok hsk72 [0] 1 (by kernel_rfl) (by kernel_rfl) rfl ?_
      refine DM.load1 ttok hsk72 1 3 (by kernel_rfl) (by kernel_rfl) (by kernel_rfl) (by kernel_rfl) rfl (by kernel_rfl) rfl rfl rfl rfl rfl ((hS71.bring 1 rfl).box) 0 rfl rfl rfl rfl ?_
      refine DM.one hsk72 2 (by kernel_rfl) (LM.quietL hsk72 7 (by kernel_rfl) (by kernel_rfl) rfl rfl (Quiet.loadN ttok rfl rfl rfl rfl ((hS73.bring 0 rfl).box) rfl) rfl rfl ?_)
      obtain ⟨r74, hx75, hb46⟩ := bind_some hb46
      refine DM.one hsk72 3 (by kernel_rfl) (LM.call hsk72 15 (by kernel_rfl) (by kernel_rfl) rfl rfl rfl rfl enters117 (impl_copyAgent_ok (hE.trans hS73.ext) (ty112_shut x51 h59 h62) hx75) (fun v76 w77 hR78 => ?_))
      obtain ⟨A79, k80, A81, k82, rfl, hR83⟩ := hR78
      refine ⟨hR83.ext, ?_⟩
      have hS84 := hS73.join hR83
      have hS85 := St.noEl ty112 hS84
      have hS86 := hS85.bring 2 rfl
      have hS87 := hS86.bring 2 rfl
      have hS88 := ty112_shutS (c := r74) (B := _) hS87
      have hS89 := St.consEl hS88
      refine DM.one hsk72 4 (by kernel_rfl) (LM.newSlice (U := ty112) (els := [.int .i64 r74.Kind, .int .i64 r74.Level, .int .i64 r74.Value, .slice A79 r74.Data.length k80, .slice A81 r74.Ports.length k82]) (ys := [r74]) ttok hS89 hsk72 31 (by kernel_rfl) (by kernel_rfl) rfl rfl rfl rfl rfl rfl rfl rfl rfl rfl rfl rfl rfl (fun A90 k91 w92 e93 hS94 => ?_))
      have hS95 := hS94.bring 3 rfl
      have hS96 := hS95.bring 1 rfl
      by_cases hk97 : decide ((s29.2.length : Int) + (([r74] : (List D.Agent)).length : Int) ≤ 4294967296) = true
      case neg => rw [if_neg hk97] at hb46; cases hb46
      rw [if_pos hk97] at hb46
      refine DM.one hsk72 5 (by kernel_rfl) (LM.appendOwn ttok hS96 hsk72 63 (by kernel_rfl) (by kernel_rfl) rfl rfl rfl rfl rfl rfl rfl (by decide) rfl rfl (of_decide_eq_true hk97) (by decide) rfl rfl (fun A98 k99 w100 hS101 => ?_))
      refine DM.run (fuel := 1) ttok hsk72 [6] 127 (by kernel_rfl) (by kernel_rfl) rfl ?_
      refine DM.weak [(2, .pointer (some ⟨g11, 0, none⟩)), (3, .pointer (some ⟨g22, 0, none⟩)), (12, .slice A1 x0.Agents.length k2), (13, .int .i64 (x0.Agents.length : Int)), (14, .int .i64 s29.1), (23, .slice A98 (s29.2 ++ ([r74] : (List D.Agent))).length k99), (24, .pointer (some ⟨g22, 0, none⟩))] ⟨rfl, rfl, rfl, rfl, rfl, rfl, rfl, trivial⟩ ?_
      have hS102 := hS101.bring 2 rfl
      refine DM.one hsk72 7 (by kernel_rfl) (LM.store ttok (A := []) hS102 hsk72 255 (by kernel_rfl) (by kernel_rfl) rfl rfl rfl rfl rfl rfl 0 rfl rfl rfl rfl rfl (fun w103 hS104 => ?_))
      refine DM.done hsk72 (by kernel_rfl) ?_
      refine WP.region ?_
      refine RW.run ttok 2 rfl ?_
      refine RW.nil ?_
      cases hb46
      exact ⟨_, [(2, .pointer (some ⟨g11, 0, none⟩)), (3, .pointer (some ⟨g22, 0, none⟩)), (12, .slice A1 x0.Agents.length k2), (13, .int .i64 (x0.Agents.length : Int)), (14, .int .i64 (w64 (s29.1 + 1)))], ⟨rfl, rfl, rfl, rfl, rfl, trivial⟩, rfl, A98, k99, (hS104.bring 2 rfl).drop, rfl⟩
    · skip
      rw [if_neg (not_t hc)] at hb46
      refine WP.exit ?_
      cases hb46
      exact ⟨_, [(2, .pointer (some ⟨g11, 0, none⟩)), (3, .pointer (some ⟨g22, 0, none⟩))], ⟨rfl, rfl, trivial⟩, A34, k35, ho47, hS49, rfl⟩

theorem enters165 : Enters Try.prog 165 := ⟨_, _, Try.func165, rfl, by kernel_rfl⟩
def m_spec_l11Pairs_j1 (fuel : Nat) (t13 : (List D.Pair)) : Option (List D.Pair) := some t13
def m_spec_l11Pairs_j2 (fuel : Nat) (s12 : Int × (List D.Pair)) (t31 : (List D.Pair)) : Option (Rd (Int × (List D.Pair)) ((List D.Pair)) ((List D.Pair))) := some (.next (w64 (s12.1 + 1), t31))
def m_spec_l11Pairs_j4 (fuel : Nat) (s12 : Int × (List D.Pair)) (t83 : (List D.Pair)) : Option (Rd (Int × (List D.Pair)) ((List D.Pair)) ((List D.Pair))) := m_spec_l11Pairs_j2 fuel s12 t83
def m_spec_l11Pairs_j3 (fuel : Nat) (s12 : Int × (List D.Pair)) (x63 : D.Port) (t78 : Bool) : Option (Rd (Int × (List D.Pair)) ((List D.Pair)) ((List D.Pair))) := (if t78 = true then (if decide ((s12.2.length : Int) + (([(⟨s12.1, x63.Agent⟩ : D.Pair)] : (List D.Pair)).length : Int) ≤ 4294967296) = true then m_spec_l11Pairs_j4 fuel s12 (s12.2 ++ ([(⟨s12.1, x63.Agent⟩ : D.Pair)] : (List D.Pair))) else none) else m_spec_l11Pairs_j4 fuel s12 s12.2)
def m_spec_l11Pairs_b1 (fuel : Nat) (x0 : D.Net) (s12 : Int × (List D.Pair)) : Option (Rd (Int × (List D.Pair)) ((List D.Pair)) ((List D.Pair))) := (if (decide (s12.1 < (x0.Agents.length : Int))) = true then ((idx x0.Agents s12.1).bind fun x37 => (if (x37.Kind == 0) = true then m_spec_l11Pairs_j2 fuel s12 s12.2 else ((idx x0.Agents s12.1).bind fun x50 => ((idx x50.Ports 0).bind fun x63 => (if (x63.Slot == 0) = true then m_spec_l11Pairs_j3 fuel s12 x63 (decide (x63.Agent > s12.1)) else m_spec_l11Pairs_j3 fuel s12 x63 false))))) else some (.brk s12.2))
def m_spec_l11Pairs (fuel : Nat) (x0 : D.Net) : Option ((List D.Pair)) := ((iter (m_spec_l11Pairs_b1 fuel x0) fuel (1, ([] : (List D.Pair)))).bind fun o => aft o (m_spec_l11Pairs_j1 fuel))

set_option maxRecDepth 100000 in
theorem spec_l11Pairs_ok {W w : World} (hE : Ext W w) {p0_ : Addr} {c0_ : List Value} {x0 : D.Net} (h0_ : ty30.ro W c0_ x0) (g0_ : At W p0_ c0_) {fuel : Nat} {r : (List D.Pair)} (hm : m_spec_l11Pairs fuel x0 = some r) :
    Calls Try.prog 165 ⟨[.pointer (some p0_)]⟩ w (Ret fun v w8 => ∃ A0 k0, v = .slice A0 r.length k0 ∧ St w w8 [Own ty78 [.slice A0 r.length k0] r]) := by
  obtain ⟨A1, k2, e4, h3⟩ := ty30_open h0_; subst e4
  refine Calls.into Try.func165 rfl 52 rfl rfl _ rfl ?_
  unfold m_spec_l11Pairs at hm
  have hS := St.start w
  refine WP.seq ?_
  refine WP.region ?_
  refine RW.run ttok 1 rfl ?_
  refine RW.nil ?_
  refine WP.seq ?_
  refine WP.region ?_
  refine RW.newSlice0 (U := ty139) ttok hS rfl rfl rfl rfl rfl rfl rfl (fun A5 k6 w7 e10 hS11 => ?_)
  refine RW.run ttok 1 rfl ?_
  refine RW.nil ?_
  refine WP.seq ?_
  refine WP.seq ?_
  refine WP.region ?_
  refine RW.run ttok 1 rfl ?_
  refine RW.nil ?_
  obtain ⟨o22, hl23, hm⟩ := bind_some hm
  refine WP.cut (fun (t13 : (List D.Pair)) F w9 => ∃ A19 k20, o22 = .inl t13 ∧ St w w9 [Own ty78 [.slice A19 t13.length k20] t13] ∧ F = [(3, .slice A19 t13.length k20)]) ?_ ?_
  · skip
    rintro t13 F w21 ⟨A19, k20, ho25, hS24, rfl⟩
    subst ho25
    rw [aft_inl] at hm
    unfold m_spec_l11Pairs_j1 at hm
    refine WP.seq ?_
    refine WP.region ?_
    refine RW.run ttok 2 rfl ?_
    refine RW.nil ?_
    refine WP.ret ?_
    cases hm
    exact ⟨_, .cons (.tmp rfl) .nil, A19, k20, rfl, hS24⟩
  · skip
    refine WP.block ?_
    refine WP.weak [(0, .pointer (some p0_)), (3, .slice A5 ([] : (List D.Pair)).length k6), (4, .int .i64 1)] ⟨rfl, rfl, rfl, trivial⟩ ?_
    refine WP.iter (fun (s12 : Int × (List D.Pair)) F w9 => ∃ A17 k18, St w w9 [Own ty78 [.slice A17 s12.2.length k18] s12.2] ∧ F = [(0, .pointer (some p0_)), (3, .slice A17 s12.2.length k18), (4, .int .i64 s12.1)]) _ hl23 ⟨A5, k6, hS11, rfl⟩ ?_
    rintro s12 F w30 _ o28 ⟨A17, k18, hS29, rfl⟩ hb26 ho27
    unfold m_spec_l11Pairs_b1 at hb26
    refine WP.seq ?_
    refine WP.seq ?_
    refine WP.region ?_
    refine RW.run ttok 4 rfl ?_
    refine RW.load1 ttok rfl rfl rfl rfl rfl (At.ext (hE.trans hS29.ext) g0_) 0 rfl rfl rfl rfl ?_
    refine RW.run ttok 2 rfl ?_
    refine RW.nil ?_
    refine WP.cond (decide (s12.1 < (x0.Agents.length : Int))) rfl (fun hc => ?_) (fun hc => ?_)
    · skip
      rw [if_pos hc] at hb26
      refine WP.skip ?_
      refine WP.seq ?_
      refine WP.cut (fun (t31 : (List D.Pair)) F w9 => ∃ A32 k33, m_spec_l11Pairs_j2 fuel s12 t31 = some o28 ∧ St w w9 [Own ty78 [.slice A32 t31.length k33] t31] ∧ F = [(0, .pointer (some p0_)), (3, .slice A32 t31.length k33), (4, .int .i64 s12.1)]) ?_ ?_
      · skip
        rintro t31 F w35 ⟨A32, k33, hb26, hS34, rfl⟩
        unfold m_spec_l11Pairs_j2 at hb26
        refine WP.region ?_
        refine RW.run ttok 3 rfl ?_
        refine RW.nil ?_
        cases hb26
        exact ⟨_, [(0, .pointer (some p0_)), (3, .slice A32 t31.length k33), (4, .int .i64 (w64 (s12.1 + 1)))], ⟨rfl, rfl, rfl, trivial⟩, rfl, A32, k33, hS34, rfl⟩
      · skip
        refine WP.block ?_
        refine WP.seq ?_
        refine WP.seq ?_
        refine WP.region ?_
        refine RW.run ttok 3 rfl ?_
        refine RW.load1 ttok rfl rfl rfl rfl rfl (At.ext (hE.trans hS29.ext) g0_) 0 rfl rfl rfl rfl ?_
        refine RW.run ttok 1 rfl ?_
        obtain ⟨x37, hx38, hb26⟩ := bind_some hb26
        refine RW.idx ttok (hE.trans hS29.ext) rfl rfl rfl rfl rfl rfl (by decide) rfl rfl h3 (idx_some hx38).1 (idx_some hx38).2 rfl rfl (fun p39 es40 ha41 hr42 => ?_)
        obtain ⟨A43, k44, A46, k47, e49, h45, h48⟩ := ty112_open hr42; subst e49
        refine RW.run ttok 1 rfl ?_
        refine RW.load1 ttok rfl rfl rfl rfl rfl (At.ext (hE.trans hS29.ext) ha41) 0 rfl rfl rfl rfl ?_
        refine RW.run ttok 1 rfl ?_
        refine RW.nil ?_
        refine WP.cond (x37.Kind == 0) rfl (fun hc => ?_) (fun hc => ?_)
        · skip
          rw [if_pos hc] at hb26
          refine WP.exit ?_
          exact ⟨s12.2, [(0, .pointer (some p0_)), (3, .slice A17 s12.2.length k18), (4, .int .i64 s12.1)], ⟨rfl, rfl, rfl, trivial⟩, A17, k18, hb26, hS29, rfl⟩
        · skip
          rw [if_neg (not_t hc)] at hb26
          refine WP.skip ?_
          refine WP.seq ?_
          refine WP.region ?_
          refine RW.run ttok 3 rfl ?_
          refine RW.load1 ttok rfl rfl rfl rfl rfl (At.ext (hE.trans hS29.ext) g0_) 0 rfl rfl rfl rfl ?_
          refine RW.run ttok 1 rfl ?_
          obtain ⟨x50, hx51, hb26⟩ := bind_some hb26
          refine RW.idx ttok (hE.trans hS29.ext) rfl rfl rfl rfl rfl rfl (by decide) rfl rfl h3 (idx_some hx51).1 (idx_some hx51).2 rfl rfl (fun p52 es53 ha54 hr55 => ?_)
          obtain ⟨A56, k57, A59, k60, e62, h58, h61⟩ := ty112_open hr55; subst e62
          refine RW.run ttok 1 rfl ?_
          refine RW.load1 ttok rfl rfl rfl rfl rfl (At.ext (hE.trans hS29.ext) ha54) 4 rfl rfl rfl rfl ?_
          obtain ⟨x63, hx65, hb26⟩ := bind_some hb26
          refine RW.idx ttok (hE.trans hS29.ext) rfl rfl rfl rfl rfl rfl (by decide) rfl rfl h61 (idx_some hx65).1 (idx_some hx65).2 rfl rfl (fun p66 es67 ha68 hr69 => ?_)
          have e70 := ty38_open hr69; subst e70
          refine RW.loadN ttok rfl rfl rfl rfl rfl (At.ext (hE.trans hS29.ext) ha68) rfl rfl rfl ?_
          refine RW.new ttok hS29 rfl rfl rfl rfl (fun g71 w72 e73 hS74 => ?_)
          have hS75 := hS74.bring 0 rfl
          refine RW.store ttok (A := []) hS75 rfl rfl rfl rfl rfl 0 rfl rfl rfl rfl rfl (fun w76 hS77 => ?_)
          refine RW.nil ?_
          refine WP.seq ?_
          refine WP.cut (fun (t78 : Bool) F w9 => m_spec_l11Pairs_j3 fuel s12 x63 t78 = some o28 ∧ Ext w76 w9 ∧ St w w9 [Box g71 [.int .i64 x63.Agent, .int .i64 x63.Slot] 38, Own ty78 [.slice A17 s12.2.length k18] s12.2] ∧ F = [(0, .pointer (some p0_)), (3, .slice A17 s12.2.length k18), (4, .int .i64 s12.1), (5, .pointer (some ⟨g71, 0, none⟩)), (43, .bool t78)]) ?_ ?_
          · skip
            rintro t78 F w81 ⟨hb26, hE79, hS80, rfl⟩
            unfold m_spec_l11Pairs_j3 at hb26
            refine WP.cut (fun (t83 : (List D.Pair)) F w9 => ∃ A84 k85, m_spec_l11Pairs_j4 fuel s12 t83 = some o28 ∧ St w w9 [Box g71 [.int .i64 x63.Agent, .int .i64 x63.Slot] 38, Own ty78 [.slice A84 t83.length k85] t83] ∧ F = [(0, .pointer (some p0_)), (3, .slice A84 t83.length k85), (4, .int .i64 s12.1)]) ?_ ?_
            · skip
              rintro t83 F w87 ⟨A84, k85, hb26, hS86, rfl⟩
              unfold m_spec_l11Pairs_j4 at hb26
              exact ⟨t83, [(0, .pointer (some p0_)), (3, .slice A84 t83.length k85), (4, .int .i64 s12.1)], ⟨rfl, rfl, rfl, trivial⟩, A84, k85, hb26, ((hS86.bring 1 rfl).taken 1), rfl⟩
            · skip
              refine WP.cond t78 rfl (fun hc => ?_) (fun hc => ?_)
              · skip
                rw [if_pos hc] at hb26
                refine WP.region ?_
                refine RW.run ttok 3 rfl ?_
                refine RW.load1 ttok rfl rfl rfl rfl rfl ((hS80.bring 0 rfl).box) 0 rfl rfl rfl rfl ?_
                refine RW.quiet rfl (Quiet.build ttok rfl rfl rfl rfl rfl) rfl rfl ?_
                refine RW.newSlice (U := ty139) (els := [.int .i64 s12.1, .int .i64 x63.Agent]) (ys := [(⟨s12.1, x63.Agent⟩ : D.Pair)]) ttok (hS80.flatEls (U := ty139) (els := [.int .i64 s12.1, .int .i64 x63.Agent]) (ys := [(⟨s12.1, x63.Agent⟩ : D.Pair)]) ⟨[.int .i64 s12.1, .int .i64 x63.Agent], _, [], [], rfl, rfl, (ty139_ownI (c := (⟨s12.1, x63.Agent⟩ : D.Pair)) rfl), ⟨rfl, rfl⟩⟩) rfl rfl rfl rfl rfl rfl rfl rfl rfl rfl rfl rfl (fun A89 k90 w91 e92 hS93 => ?_)
                have hS94 := hS93.bring 2 rfl
                by_cases hk95 : decide ((s12.2.length : Int) + (([(⟨s12.1, x63.Agent⟩ : D.Pair)] : (List D.Pair)).length : Int) ≤ 4294967296) = true
                case neg => rw [if_neg hk95] at hb26; cases hb26
                rw [if_pos hk95] at hb26
                refine RW.appendRo ttok (Flat.map (Flat.pair Flat.int (Flat.pair Flat.int Flat.unit))) hS94 rfl rfl rfl rfl rfl rfl (by decide) rfl rfl ((hS94.bring 1 rfl).own) (of_decide_eq_true hk95) (by decide) rfl rfl (fun A96 k97 w98 hS99 => ?_)
                refine RW.run ttok 1 rfl ?_
                refine RW.nil ?_
                exact ⟨(s12.2 ++ ([(⟨s12.1, x63.Agent⟩ : D.Pair)] : (List D.Pair))), [(0, .pointer (some p0_)), (3, .slice A96 (s12.2 ++ ([(⟨s12.1, x63.Agent⟩ : D.Pair)] : (List D.Pair))).length k97), (4, .int .i64 s12.1)], ⟨rfl, rfl, rfl, trivial⟩, A96, k97, hb26, (((hS99.bring 0 rfl).bring 2 rfl).taken 2), rfl⟩
              · skip
                rw [if_neg (not_t hc)] at hb26
                refine WP.skip ?_
                exact ⟨s12.2, [(0, .pointer (some p0_)), (3, .slice A17 s12.2.length k18), (4, .int .i64 s12.1)], ⟨rfl, rfl, rfl, trivial⟩, A17, k18, hb26, hS80, rfl⟩
          · skip
            refine WP.region ?_
            refine RW.run ttok 1 rfl ?_
            refine RW.load1 ttok rfl rfl rfl rfl rfl ((hS77.bring 0 rfl).box) 1 rfl rfl rfl rfl ?_
            refine RW.run ttok 2 rfl ?_
            by_cases hg100 : (x63.Slot == 0) = true
            · skip
              rw [if_pos hg100] at hb26
              refine RW.know 38 rfl (congrArg Value.bool hg100) ?_
              refine RW.run ttok 1 rfl ?_
              refine RW.load1 ttok rfl rfl rfl rfl rfl ((hS77.bring 0 rfl).box) 0 rfl rfl rfl rfl ?_
              refine RW.run ttok 3 rfl ?_
              refine RW.nil ?_
              exact ⟨decide (x63.Agent > s12.1), [(0, .pointer (some p0_)), (3, .slice A17 s12.2.length k18), (4, .int .i64 s12.1), (5, .pointer (some ⟨g71, 0, none⟩)), (43, .bool (decide (x63.Agent > s12.1)))], ⟨rfl, rfl, rfl, rfl, rfl, trivial⟩, hb26, (Ext.refl _), hS77, rfl⟩
            · skip
              rw [if_neg hg100] at hb26
              refine RW.know 38 rfl (congrArg Value.bool (Bool.eq_false_iff.2 hg100)) ?_
              refine RW.run ttok 5 rfl ?_
              refine RW.nil ?_
              exact ⟨false, [(0, .pointer (some p0_)), (3, .slice A17 s12.2.length k18), (4, .int .i64 s12.1), (5, .pointer (some ⟨g71, 0, none⟩)), (43, .bool false)], ⟨rfl, rfl, rfl, rfl, rfl, trivial⟩, hb26, (Ext.refl _), hS77, rfl⟩
    · skip
      rw [if_neg (not_t hc)] at hb26
      refine WP.exit ?_
      cases hb26
      exact ⟨_, [(3, .slice A17 s12.2.length k18)], ⟨rfl, trivial⟩, A17, k18, ho27, hS29, rfl⟩

theorem enters111 : Enters Try.prog 111 := ⟨_, _, Try.func111, rfl, by kernel_rfl⟩
def m_impl_Net_pairs_j1 (fuel : Nat) (t6 : (List D.Pair)) : Option (List D.Pair) := some t6
def m_impl_Net_pairs_j3 (fuel : Nat) (s5 : (List D.Pair) × Int) (t67 : (List D.Pair)) : Option (Rd ((List D.Pair) × Int) ((List D.Pair)) ((List D.Pair))) := some (.next (t67, w64 (s5.2 + 1)))
def m_impl_Net_pairs_j2 (fuel : Nat) (s5 : (List D.Pair) × Int) (x47 : D.Port) (t61 : Bool) : Option (Rd ((List D.Pair) × Int) ((List D.Pair)) ((List D.Pair))) := (if t61 = true then (if decide ((s5.1.length : Int) + (([(⟨s5.2, x47.Agent⟩ : D.Pair)] : (List D.Pair)).length : Int) ≤ 4294967296) = true then m_impl_Net_pairs_j3 fuel s5 (s5.1 ++ ([(⟨s5.2, x47.Agent⟩ : D.Pair)] : (List D.Pair))) else none) else m_impl_Net_pairs_j3 fuel s5 s5.1)
def m_impl_Net_pairs_b1 (fuel : Nat) (x0 : D.Net) (s5 : (List D.Pair) × Int) : Option (Rd ((List D.Pair) × Int) ((List D.Pair)) ((List D.Pair))) := (if (decide (s5.2 < (x0.Agents.length : Int))) = true then ((idx x0.Agents s5.2).bind fun x27 => ((idx x27.Ports 0).bind fun x47 => (if (x47.Slot == 0) = true then (if (decide (x47.Agent > s5.2)) = true then m_impl_Net_pairs_j2 fuel s5 x47 (x27.Kind != 1) else m_impl_Net_pairs_j2 fuel s5 x47 false) else m_impl_Net_pairs_j2 fuel s5 x47 false))) else some (.brk s5.1))
def m_impl_Net_pairs (fuel : Nat) (x0 : D.Net) : Option ((List D.Pair)) := ((iter (m_impl_Net_pairs_b1 fuel x0) fuel ([], 0)).bind fun o => aft o (m_impl_Net_pairs_j1 fuel))

set_option maxRecDepth 100000 in
theorem impl_Net_pairs_ok {W w : World} (hE : Ext W w) {p0_ : Addr} {c0_ : List Value} {x0 : D.Net} (h0_ : ty30.ro W c0_ x0) (g0_ : At W p0_ c0_) {fuel : Nat} {r : (List D.Pair)} (hm : m_impl_Net_pairs fuel x0 = some r) :
    Calls Try.prog 111 ⟨[.pointer (some p0_)]⟩ w (Ret fun v w8 => ∃ A0 k0, v = .slice A0 r.length k0 ∧ St w w8 [Own ty78 [.slice A0 r.length k0] r]) := by
  obtain ⟨A1, k2, e4, h3⟩ := ty30_open h0_; subst e4
  refine Calls.into Try.func111 rfl 44 rfl rfl _ rfl ?_
  unfold m_impl_Net_pairs at hm
  have hS := St.start w
  refine WP.seq ?_
  refine WP.region ?_
  refine RW.run ttok 1 rfl ?_
  refine RW.nil ?_
  refine WP.seq ?_
  refine WP.region ?_
  refine RW.run ttok 1 rfl ?_
  refine RW.nil ?_
  refine WP.seq ?_
  refine WP.seq ?_
  refine WP.region ?_
  refine RW.run ttok 3 rfl ?_
  refine RW.load1 ttok rfl rfl rfl rfl rfl (At.ext (hE.trans hS.ext) g0_) 0 rfl rfl rfl rfl ?_
  refine RW.run ttok 2 rfl ?_
  refine RW.nil ?_
  obtain ⟨o17, hl18, hm⟩ := bind_some hm
  refine WP.cut (fun (t6 : (List D.Pair)) F w9 => ∃ A14 k15, o17 = .inl t6 ∧ St w w9 [Own ty78 [.slice A14 t6.length k15] t6] ∧ F = [(3, .slice A14 t6.length k15)]) ?_ ?_
  · skip
    rintro t6 F w16 ⟨A14, k15, ho20, hS19, rfl⟩
    subst ho20
    rw [aft_inl] at hm
    unfold m_impl_Net_pairs_j1 at hm
    refine WP.seq ?_
    refine WP.region ?_
    refine RW.run ttok 2 rfl ?_
    refine RW.nil ?_
    refine WP.ret ?_
    cases hm
    exact ⟨_, .cons (.tmp rfl) .nil, A14, k15, rfl, hS19⟩
  · skip
    refine WP.block ?_
    have hS21 := hS.nilSl ty139 139
    refine WP.weak [(3, .slice none 0 0), (10, .slice A1 x0.Agents.length k2), (11, .int .i64 (x0.Agents.length : Int)), (12, .int .i64 0)] ⟨rfl, rfl, rfl, rfl, trivial⟩ ?_
    refine WP.iter (fun (s5 : (List D.Pair) × Int) F w9 => ∃ A12 k13, St w w9 [Own ty78 [.slice A12 s5.1.length k13] s5.1] ∧ F = [(3, .slice A12 s5.1.length k13), (10, .slice A1 x0.Agents.length k2), (11, .int .i64 (x0.Agents.length : Int)), (12, .int .i64 s5.2)]) _ hl18 ⟨none, 0, hS21, rfl⟩ ?_
    rintro s5 F w26 _ o24 ⟨A12, k13, hS25, rfl⟩ hb22 ho23
    unfold m_impl_Net_pairs_b1 at hb22
    refine WP.seq ?_
    refine WP.region ?_
    refine RW.run ttok 1 rfl ?_
    refine RW.nil ?_
    refine WP.seq ?_
    refine WP.cond (decide (s5.2 < (x0.Agents.length : Int))) rfl (fun hc => ?_) (fun hc => ?_)
    · skip
      rw [if_pos hc] at hb22
      refine WP.skip ?_
      refine WP.seq ?_
      refine WP.block ?_
      refine WP.seq ?_
      refine WP.region ?_
      refine RW.run ttok 1 rfl ?_
      obtain ⟨x27, hx28, hb22⟩ := bind_some hb22
      refine RW.idx ttok (hE.trans hS25.ext) rfl rfl rfl rfl rfl rfl (by decide) rfl rfl h3 (idx_some hx28).1 (idx_some hx28).2 rfl rfl (fun p29 es30 ha31 hr32 => ?_)
      obtain ⟨A33, k34, A36, k37, e39, h35, h38⟩ := ty112_open hr32; subst e39
      refine RW.loadN ttok rfl rfl rfl rfl rfl (At.ext (hE.trans hS25.ext) ha31) rfl rfl rfl ?_
      refine RW.new ttok hS25 rfl rfl rfl rfl (fun g40 w41 e42 hS43 => ?_)
      refine RW.run ttok 1 rfl ?_
      have hS44 := hS43.bring 0 rfl
      refine RW.store ttok (A := []) hS44 rfl rfl rfl rfl rfl 0 rfl rfl rfl rfl rfl (fun w45 hS46 => ?_)
      refine RW.nil ?_
      refine WP.seq ?_
      refine WP.region ?_
      refine RW.run ttok 1 rfl ?_
      refine RW.load1 ttok rfl rfl rfl rfl rfl ((hS46.bring 0 rfl).box) 4 rfl rfl rfl rfl ?_
      obtain ⟨x47, hx48, hb22⟩ := bind_some hb22
      refine RW.idx ttok (hE.trans hS46.ext) rfl rfl rfl rfl rfl rfl (by decide) rfl rfl h38 (idx_some hx48).1 (idx_some hx48).2 rfl rfl (fun p49 es50 ha51 hr52 => ?_)
      have e53 := ty38_open hr52; subst e53
      refine RW.loadN ttok rfl rfl rfl rfl rfl (At.ext (hE.trans hS46.ext) ha51) rfl rfl rfl ?_
      refine RW.new ttok hS46 rfl rfl rfl rfl (fun g54 w55 e56 hS57 => ?_)
      have hS58 := hS57.bring 0 rfl
      refine RW.store ttok (A := []) hS58 rfl rfl rfl rfl rfl 0 rfl rfl rfl rfl rfl (fun w59 hS60 => ?_)
      refine RW.nil ?_
      refine WP.seq ?_
      refine WP.cut (fun (t61 : Bool) F w9 => m_impl_Net_pairs_j2 fuel s5 x47 t61 = some o24 ∧ Ext w59 w9 ∧ St w w9 [Box g54 [.int .i64 x47.Agent, .int .i64 x47.Slot] 38, Box g40 [.int .i64 x27.Kind, .int .i64 x27.Level, .int .i64 x27.Value, .slice A33 x27.Data.length k34, .slice A36 x27.Ports.length k37] 112, Own ty78 [.slice A12 s5.1.length k13] s5.1] ∧ F = [(3, .slice A12 s5.1.length k13), (4, .int .i64 s5.2), (6, .pointer (some ⟨g54, 0, none⟩)), (10, .slice A1 x0.Agents.length k2), (11, .int .i64 (x0.Agents.length : Int)), (12, .int .i64 s5.2), (34, .bool t61)]) ?_ ?_
      · skip
        rintro t61 F w65 ⟨hb22, hE62, hS63, rfl⟩
        unfold m_impl_Net_pairs_j2 at hb22
        refine WP.cut (fun (t67 : (List D.Pair)) F w9 => ∃ A68 k69, m_impl_Net_pairs_j3 fuel s5 t67 = some o24 ∧ St w w9 [Box g54 [.int .i64 x47.Agent, .int .i64 x47.Slot] 38, Box g40 [.int .i64 x27.Kind, .int .i64 x27.Level, .int .i64 x27.Value, .slice A33 x27.Data.length k34, .slice A36 x27.Ports.length k37] 112, Own ty78 [.slice A68 t67.length k69] t67] ∧ F = [(3, .slice A68 t67.length k69), (10, .slice A1 x0.Agents.length k2), (11, .int .i64 (x0.Agents.length : Int)), (12, .int .i64 s5.2)]) ?_ ?_
        · skip
          rintro t67 F w71 ⟨A68, k69, hb22, hS70, rfl⟩
          unfold m_impl_Net_pairs_j3 at hb22
          refine WP.region ?_
          refine RW.run ttok 2 rfl ?_
          refine RW.nil ?_
          cases hb22
          exact ⟨_, [(3, .slice A68 t67.length k69), (10, .slice A1 x0.Agents.length k2), (11, .int .i64 (x0.Agents.length : Int)), (12, .int .i64 (w64 (s5.2 + 1)))], ⟨rfl, rfl, rfl, rfl, trivial⟩, rfl, A68, k69, ((hS70.bring 2 rfl).taken 1), rfl⟩
        · skip
          refine WP.cond t61 rfl (fun hc => ?_) (fun hc => ?_)
          · skip
            rw [if_pos hc] at hb22
            refine WP.region ?_
            refine RW.run ttok 3 rfl ?_
            refine RW.load1 ttok rfl rfl rfl rfl rfl ((hS63.bring 0 rfl).box) 0 rfl rfl rfl rfl ?_
            refine RW.quiet rfl (Quiet.build ttok rfl rfl rfl rfl rfl) rfl rfl ?_
            refine RW.newSlice (U := ty139) (els := [.int .i64 s5.2, .int .i64 x47.Agent]) (ys := [(⟨s5.2, x47.Agent⟩ : D.Pair)]) ttok (hS63.flatEls (U := ty139) (els := [.int .i64 s5.2, .int .i64 x47.Agent]) (ys := [(⟨s5.2, x47.Agent⟩ : D.Pair)]) ⟨[.int .i64 s5.2, .int .i64 x47.Agent], _, [], [], rfl, rfl, (ty139_ownI (c := (⟨s5.2, x47.Agent⟩ : D.Pair)) rfl), ⟨rfl, rfl⟩⟩) rfl rfl rfl rfl rfl rfl rfl rfl rfl rfl rfl rfl (fun A73 k74 w75 e76 hS77 => ?_)
            have hS78 := hS77.bring 3 rfl
            by_cases hk79 : decide ((s5.1.length : Int) + (([(⟨s5.2, x47.Agent⟩ : D.Pair)] : (List D.Pair)).length : Int) ≤ 4294967296) = true
            case neg => rw [if_neg hk79] at hb22; cases hb22
            rw [if_pos hk79] at hb22
            refine RW.appendRo ttok (Flat.map (Flat.pair Flat.int (Flat.pair Flat.int Flat.unit))) hS78 rfl rfl rfl rfl rfl rfl (by decide) rfl rfl ((hS78.bring 1 rfl).own) (of_decide_eq_true hk79) (by decide) rfl rfl (fun A80 k81 w82 hS83 => ?_)
            refine RW.run ttok 1 rfl ?_
            refine RW.nil ?_
            exact ⟨(s5.1 ++ ([(⟨s5.2, x47.Agent⟩ : D.Pair)] : (List D.Pair))), [(3, .slice A80 (s5.1 ++ ([(⟨s5.2, x47.Agent⟩ : D.Pair)] : (List D.Pair))).length k81), (10, .slice A1 x0.Agents.length k2), (11, .int .i64 (x0.Agents.length : Int)), (12, .int .i64 s5.2)], ⟨rfl, rfl, rfl, rfl, trivial⟩, A80, k81, hb22, ((((hS83.bring 0 rfl).bring 3 rfl).bring 3 rfl).taken 3), rfl⟩
          · skip
            rw [if_neg (not_t hc)] at hb22
            refine WP.skip ?_
            exact ⟨s5.1, [(3, .slice A12 s5.1.length k13), (10, .slice A1 x0.Agents.length k2), (11, .int .i64 (x0.Agents.length : Int)), (12, .int .i64 s5.2)], ⟨rfl, rfl, rfl, rfl, trivial⟩, A12, k13, hb22, hS63, rfl⟩
      · skip
        refine WP.region ?_
        refine RW.run ttok 1 rfl ?_
        refine RW.load1 ttok rfl rfl rfl rfl rfl ((hS60.bring 0 rfl).box) 1 rfl rfl rfl rfl ?_
        refine RW.run ttok 2 rfl ?_
        by_cases hg84 : (x47.Slot == 0) = true
        · skip
          rw [if_pos hg84] at hb22
          refine RW.know 24 rfl (congrArg Value.bool hg84) ?_
          refine RW.run ttok 1 rfl ?_
          refine RW.load1 ttok rfl rfl rfl rfl rfl ((hS60.bring 0 rfl).box) 0 rfl rfl rfl rfl ?_
          refine RW.run ttok 4 rfl ?_
          by_cases hg85 : (decide (x47.Agent > s5.2)) = true
          · skip
            rw [if_pos hg85] at hb22
            refine RW.know 30 rfl (congrArg Value.bool hg85) ?_
            refine RW.run ttok 1 rfl ?_
            refine RW.load1 ttok rfl rfl rfl rfl rfl ((hS60.bring 1 rfl).box) 0 rfl rfl rfl rfl ?_
            refine RW.run ttok 2 rfl ?_
            refine RW.nil ?_
            exact ⟨(x27.Kind != 1), [(3, .slice A12 s5.1.length k13), (4, .int .i64 s5.2), (6, .pointer (some ⟨g54, 0, none⟩)), (10, .slice A1 x0.Agents.length k2), (11, .int .i64 (x0.Agents.length : Int)), (12, .int .i64 s5.2), (34, .bool (x27.Kind != 1))], ⟨rfl, rfl, rfl, rfl, rfl, rfl, rfl, trivial⟩, hb22, (Ext.refl _), hS60, rfl⟩
          · skip
            rw [if_neg hg85] at hb22
            refine RW.know 30 rfl (congrArg Value.bool (Bool.eq_false_iff.2 hg85)) ?_
            refine RW.run ttok 4 rfl ?_
            refine RW.nil ?_
            exact ⟨false, [(3, .slice A12 s5.1.length k13), (4, .int .i64 s5.2), (6, .pointer (some ⟨g54, 0, none⟩)), (10, .slice A1 x0.Agents.length k2), (11, .int .i64 (x0.Agents.length : Int)), (12, .int .i64 s5.2), (34, .bool false)], ⟨rfl, rfl, rfl, rfl, rfl, rfl, rfl, trivial⟩, hb22, (Ext.refl _), hS60, rfl⟩
        · skip
          rw [if_neg hg84] at hb22
          refine RW.know 24 rfl (congrArg Value.bool (Bool.eq_false_iff.2 hg84)) ?_
          refine RW.run ttok 10 rfl ?_
          refine RW.nil ?_
          exact ⟨false, [(3, .slice A12 s5.1.length k13), (4, .int .i64 s5.2), (6, .pointer (some ⟨g54, 0, none⟩)), (10, .slice A1 x0.Agents.length k2), (11, .int .i64 (x0.Agents.length : Int)), (12, .int .i64 s5.2), (34, .bool false)], ⟨rfl, rfl, rfl, rfl, rfl, rfl, rfl, trivial⟩, hb22, (Ext.refl _), hS60, rfl⟩
    · skip
      rw [if_neg (not_t hc)] at hb22
      refine WP.exit ?_
      cases hb22
      exact ⟨_, [(3, .slice A12 s5.1.length k13)], ⟨rfl, trivial⟩, A12, k13, ho23, hS25, rfl⟩

theorem enters52 : Enters Try.prog 52 := ⟨_, _, Try.func52, rfl, by kernel_rfl⟩
def m_spec_l11Peer (fuel : Nat) (x0 : D.Net) (x1 : D.Port) : Option (D.Port) := ((idx x0.Agents x1.Agent).bind fun x18 => ((idx x18.Ports x1.Slot).bind fun x31 => some (⟨x31.Agent, x31.Slot⟩ : D.Port)))

set_option maxRecDepth 100000 in
theorem spec_l11Peer_ok {W w : World} (hE : Ext W w) {p0_ : Addr} {c0_ : List Value} {x0 : D.Net} {c1_ : List Value} {x1 : D.Port} (h0_ : ty30.ro W c0_ x0) (g0_ : At W p0_ c0_) (h1_ : ty38.ro W c1_ x1) {fuel : Nat} {r : D.Port} (hm : m_spec_l11Peer fuel x0 x1 = some r) :
    Calls Try.prog 52 ⟨[.pointer (some p0_), .agg ⟨c1_⟩]⟩ w (Ret fun v w8 => v = .agg ⟨[.int .i64 r.Agent, .int .i64 r.Slot]⟩ ∧ St w w8 []) := by
  obtain ⟨A1, k2, e4, h3⟩ := ty30_open h0_; subst e4
  have e5 := ty38_open h1_; subst e5
  refine Calls.into Try.func52 rfl 18 rfl rfl _ rfl ?_
  unfold m_spec_l11Peer at hm
  have hS := St.start w
  refine WP.seq ?_
  refine WP.region ?_
  refine RW.new ttok hS rfl rfl rfl rfl (fun g6 w7 e10 hS11 => ?_)
  refine RW.new ttok hS11 rfl rfl rfl rfl (fun g12 w13 e14 hS15 => ?_)
  refine RW.nil ?_
  refine WP.seq ?_
  refine WP.drawnM 8192 mixed 14 (by kernel_rfl) (by kernel_rfl) [([], 16383), ([0], 16382), ([1], 16381), ([2], 16379), ([], 16383), ([4], 16367), ([3, 5], 16343), ([6], 16319), ([7], 16255), ([], 16383), ([9], 15871), ([8, 10], 15103), ([11], 14335), ([12, 0, 1, 2, 3, 4, 5, 6, 7, 8, 9, 10, 11, 12], 12287)] (by kernel_rfl) hS15.ext (fun hsk16 => ?_)
  have hS17 := hS15.step (Ext.draw _)
  refine DM.run (fuel := 9) ttok hsk16 [0, 1, 2, 4, 9] 535 (by kernel_rfl) (by kernel_rfl) rfl ?_
  refine DM.load1 ttok hsk16 3 543 (by kernel_rfl) (by kernel_rfl) (by kernel_rfl) (by kernel_rfl) rfl (by kernel_rfl) rfl rfl rfl rfl rfl (At.ext (hE.trans hS15.ext) g0_) 0 rfl rfl rfl rfl ?_
  refine DM.load1 ttok hsk16 5 575 (by kernel_rfl) (by kernel_rfl) (by kernel_rfl) (by kernel_rfl) rfl (by kernel_rfl) rfl rfl rfl rfl rfl ((hS15.bring 1 rfl).box) 0 rfl rfl rfl rfl ?_
  obtain ⟨x18, hx19, hm⟩ := bind_some hm
  refine DM.idx ttok (hE.trans hS15.ext) hsk16 6 639 (by kernel_rfl) (by kernel_rfl) (by kernel_rfl) (by kernel_rfl) rfl (by kernel_rfl) rfl rfl rfl rfl rfl rfl (by decide) rfl rfl h3 (idx_some hx19).1 (idx_some hx19).2 rfl rfl (fun p20 es21 ha22 hr23 => ?_)
  obtain ⟨A24, k25, A27, k28, e30, h26, h29⟩ := ty112_open hr23; subst e30
  refine DM.run (fuel := 5) ttok hsk16 [7] 767 (by kernel_rfl) (by kernel_rfl) rfl ?_
  refine DM.weak [(4, .pointer (some ⟨g12, 0, none⟩)), (12, .pointer (some (p20.add 4))), (14, .pointer (some ⟨g6, 1, none⟩))] ⟨rfl, rfl, rfl, trivial⟩ ?_
  refine DM.load1 ttok hsk16 8 1023 (by kernel_rfl) (by kernel_rfl) (by kernel_rfl) (by kernel_rfl) rfl (by kernel_rfl) rfl rfl rfl rfl rfl (At.ext (hE.trans hS15.ext) ha22) 4 rfl rfl rfl rfl ?_
  refine DM.load1 ttok hsk16 10 2047 (by kernel_rfl) (by kernel_rfl) (by kernel_rfl) (by kernel_rfl) rfl (by kernel_rfl) rfl rfl rfl rfl rfl ((hS15.bring 1 rfl).box) 1 rfl rfl rfl rfl ?_
  obtain ⟨x31, hx32, hm⟩ := bind_some hm
  refine DM.idx ttok (hE.trans hS15.ext) hsk16 11 4095 (by kernel_rfl) (by kernel_rfl) (by kernel_rfl) (by kernel_rfl) rfl (by kernel_rfl) rfl rfl rfl rfl rfl rfl (by decide) rfl rfl h29 (idx_some hx32).1 (idx_some hx32).2 rfl rfl (fun p33 es34 ha35 hr36 => ?_)
  have e37 := ty38_open hr36; subst e37
  refine DM.loadN ttok hsk16 12 8191 (by kernel_rfl) (by kernel_rfl) (by kernel_rfl) (by kernel_rfl) rfl (by kernel_rfl) rfl rfl rfl rfl rfl (At.ext (hE.trans hS15.ext) ha35) rfl rfl rfl ?_
  have hS38 := hS17.bring 0 rfl
  refine DM.one hsk16 13 (by kernel_rfl) (LM.store ttok (A := []) hS38 hsk16 16383 (by kernel_rfl) (by kernel_rfl) rfl rfl rfl rfl rfl rfl 0 rfl rfl rfl rfl rfl (fun w39 hS40 => ?_))
  refine DM.done hsk16 (by kernel_rfl) ?_
  refine WP.ret ?_
  cases hm
  exact ⟨_, .cons (ResIs.agg ttok rfl rfl rfl ((hS40.bring 0 rfl).box) rfl) .nil, rfl, (hS40.taken 0)⟩

end Go.E
