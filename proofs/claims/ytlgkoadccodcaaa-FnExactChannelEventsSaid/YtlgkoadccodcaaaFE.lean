/- Models of functions and proofs that the code runs as they say (written by program). Conditions: the model gives a value. -/
import Derived.Test.YtlgkoadccodcaaaIter
namespace Go.E
open Go.RowKit Go.Proofs
set_option linter.unusedVariables false
set_option linter.unusedSimpArgs false
set_option maxHeartbeats 2000000

theorem enters23 : Enters Try.prog 23 := ⟨_, _, Try.func23, rfl, by kernel_rfl⟩
def m_laws_szStringS_j1 (fuel : Nat) (t2 : Int) : Option Int := some t2
def m_laws_szStringS_b1 (fuel : Nat) (x0 : (List ByteArray)) (s1 : Int × Int) : Option (Rd (Int × Int) (Int) (Int)) := (if (decide (s1.2 < (x0.length : Int))) = true then ((idx x0 s1.2).bind fun x17 => (if (decide ((w64 (s1.1 - (x17.size : Int))) < 0)) = true then some (.ret (-1)) else some (.next (w64 (s1.1 - (x17.size : Int)), w64 (s1.2 + 1))))) else some (.brk s1.1))
def m_laws_szStringS (fuel : Nat) (x0 : (List ByteArray)) (x1 : Int) : Option (Int) := (if (decide ((w64 (x1 - (x0.length : Int))) < 0)) = true then some (-1) else ((iter (m_laws_szStringS_b1 fuel x0) fuel (w64 (x1 - (x0.length : Int)), 0)).bind fun o => aft o (m_laws_szStringS_j1 fuel)))

set_option maxRecDepth 100000 in
theorem laws_szStringS_ok {w : World} {A0_ : Option Addr} {k0_ : Nat} {x0 : (List ByteArray)} {x1 : Int} (h0_ : ty35.ro w [.slice A0_ x0.length k0_] x0) {fuel : Nat} {r : Int} (hm : m_laws_szStringS fuel x0 x1 = some r) :
    Calls Try.prog 23 ⟨[.slice A0_ x0.length k0_, .int .i64 x1]⟩ w (Ret fun v w8 => v = .int .i64 r ∧ St w w8 []) := by
  refine Calls.into Try.func23 rfl 28 rfl rfl _ rfl ?_
  unfold m_laws_szStringS at hm
  have hS := St.start w
  refine WP.seq ?_
  refine WP.region ?_
  refine RW.run ttok 1 rfl ?_
  refine RW.nil ?_
  refine WP.seq ?_
  refine WP.region ?_
  refine RW.run ttok 5 rfl ?_
  refine RW.nil ?_
  refine WP.seq ?_
  refine WP.seq ?_
  refine WP.region ?_
  refine RW.run ttok 2 rfl ?_
  refine RW.nil ?_
  refine WP.cond (decide ((w64 (x1 - (x0.length : Int))) < 0)) rfl (fun hc => ?_) (fun hc => ?_)
  · skip
    rw [if_pos hc] at hm
    refine WP.seq ?_
    refine WP.region ?_
    refine RW.run ttok 1 rfl ?_
    refine RW.nil ?_
    refine WP.ret ?_
    cases hm
    exact ⟨_, .cons (.tmp rfl) .nil, rfl, hS⟩
  · skip
    rw [if_neg (not_t hc)] at hm
    refine WP.skip ?_
    refine WP.seq ?_
    refine WP.seq ?_
    refine WP.region ?_
    refine RW.run ttok 1 rfl ?_
    refine RW.nil ?_
    obtain ⟨o8, hl9, hm⟩ := bind_some hm
    refine WP.cut (fun (t2 : Int) F w9 => o8 = .inl t2 ∧ Ext w w9 ∧ St w w9 [] ∧ F = [(1, .int .i64 t2)]) ?_ ?_
    · skip
      rintro t2 F w7 ⟨ho11, hE6, hS10, rfl⟩
      subst ho11
      rw [aft_inl] at hm
      unfold m_laws_szStringS_j1 at hm
      refine WP.seq ?_
      refine WP.region ?_
      refine RW.run ttok 2 rfl ?_
      refine RW.nil ?_
      refine WP.ret ?_
      cases hm
      exact ⟨_, .cons (.tmp rfl) .nil, rfl, hS10⟩
    · skip
      refine WP.block ?_
      refine WP.weak [(0, .slice A0_ x0.length k0_), (1, .int .i64 (w64 (x1 - (x0.length : Int)))), (5, .int .i64 0)] ⟨rfl, rfl, rfl, trivial⟩ ?_
      refine WP.iter (fun (s1 : Int × Int) F w9 => Ext w w9 ∧ St w w9 [] ∧ F = [(0, .slice A0_ x0.length k0_), (1, .int .i64 s1.1), (5, .int .i64 s1.2)]) _ hl9 ⟨(Ext.refl _), hS, rfl⟩ ?_
      rintro s1 F w16 _ o14 ⟨hE5, hS15, rfl⟩ hb12 ho13
      unfold m_laws_szStringS_b1 at hb12
      refine WP.seq ?_
      refine WP.seq ?_
      refine WP.region ?_
      refine RW.run ttok 4 rfl ?_
      refine RW.nil ?_
      refine WP.cond (decide (s1.2 < (x0.length : Int))) rfl (fun hc => ?_) (fun hc => ?_)
      · skip
        rw [if_pos hc] at hb12
        refine WP.skip ?_
        refine WP.seq ?_
        refine WP.block ?_
        refine WP.seq ?_
        refine WP.region ?_
        refine RW.run ttok 3 rfl ?_
        obtain ⟨x17, hx18, hb12⟩ := bind_some hb12
        refine RW.idx ttok hS15.ext rfl rfl rfl rfl rfl rfl (by decide) rfl rfl h0_ (idx_some hx18).1 (idx_some hx18).2 rfl rfl (fun p19 es20 ha21 hr22 => ?_)
        cases hr22
        refine RW.load1 ttok rfl rfl rfl rfl rfl (At.ext hS15.ext ha21) 0 rfl rfl rfl rfl ?_
        refine RW.run ttok 3 rfl ?_
        refine RW.nil ?_
        refine WP.seq ?_
        refine WP.region ?_
        refine RW.run ttok 2 rfl ?_
        refine RW.nil ?_
        refine WP.cond (decide ((w64 (s1.1 - (x17.size : Int))) < 0)) rfl (fun hc => ?_) (fun hc => ?_)
        · skip
          rw [if_pos hc] at hb12
          refine WP.seq ?_
          refine WP.region ?_
          refine RW.run ttok 1 rfl ?_
          refine RW.nil ?_
          refine WP.ret ?_
          cases hb12
          cases ho13
          have hm : some _ = some _ := hm
          cases hm
          exact ⟨_, .cons (.tmp rfl) .nil, rfl, hS15⟩
        · skip
          rw [if_neg (not_t hc)] at hb12
          refine WP.skip ?_
          refine WP.region ?_
          refine RW.run ttok 3 rfl ?_
          refine RW.nil ?_
          cases hb12
          exact ⟨_, [(0, .slice A0_ x0.length k0_), (1, .int .i64 (w64 (s1.1 - (x17.size : Int)))), (5, .int .i64 (w64 (s1.2 + 1)))], ⟨rfl, rfl, rfl, trivial⟩, rfl, hE5, hS15, rfl⟩
      · skip
        rw [if_neg (not_t hc)] at hb12
        refine WP.exit ?_
        cases hb12
        exact ⟨_, [(1, .int .i64 s1.1)], ⟨rfl, trivial⟩, ho13, hE5, hS15, rfl⟩

theorem enters145 : Enters Try.prog 145 := ⟨_, _, Try.func145, rfl, by kernel_rfl⟩
def m_laws_szPacket (fuel : Nat) (x0 : D.Packet) (x1 : Int) : Option (Int) := (if (decide ((w64 (x1 - (x0.Text.size : Int))) < 0)) = true then some (-1) else some (w64 (x1 - (x0.Text.size : Int))))

set_option maxRecDepth 100000 in
theorem laws_szPacket_ok {w : World} {c0_ : List Value} {x0 : D.Packet} {x1 : Int} (h0_ : ty187.ro w c0_ x0) {fuel : Nat} {r : Int} (hm : m_laws_szPacket fuel x0 x1 = some r) :
    Calls Try.prog 145 ⟨[.agg ⟨c0_⟩, .int .i64 x1]⟩ w (Ret fun v w8 => v = .int .i64 r ∧ St w w8 []) := by
  have e1 := ty187_open h0_; subst e1
  refine Calls.into Try.func145 rfl 13 rfl rfl _ rfl ?_
  unfold m_laws_szPacket at hm
  have hS := St.start w
  refine WP.seq ?_
  refine WP.region ?_
  refine RW.new ttok hS rfl rfl rfl rfl (fun g2 w3 e4 hS5 => ?_)
  refine RW.run ttok 1 rfl ?_
  refine RW.nil ?_
  refine WP.seq ?_
  refine WP.region ?_
  refine RW.run ttok 2 rfl ?_
  refine RW.load1 ttok rfl rfl rfl rfl rfl ((hS5.bring 0 rfl).box) 2 rfl rfl rfl rfl ?_
  refine RW.run ttok 3 rfl ?_
  refine RW.nil ?_
  refine WP.seq ?_
  refine WP.seq ?_
  refine WP.region ?_
  refine RW.run ttok 2 rfl ?_
  refine RW.nil ?_
  refine WP.cond (decide ((w64 (x1 - (x0.Text.size : Int))) < 0)) rfl (fun hc => ?_) (fun hc => ?_)
  · skip
    rw [if_pos hc] at hm
    refine WP.seq ?_
    refine WP.region ?_
    refine RW.run ttok 1 rfl ?_
    refine RW.nil ?_
    refine WP.ret ?_
    cases hm
    exact ⟨_, .cons (.tmp rfl) .nil, rfl, (hS5.taken 0)⟩
  · skip
    rw [if_neg (not_t hc)] at hm
    refine WP.skip ?_
    refine WP.seq ?_
    refine WP.region ?_
    refine RW.run ttok 2 rfl ?_
    refine RW.nil ?_
    refine WP.ret ?_
    cases hm
    exact ⟨_, .cons (.tmp rfl) .nil, rfl, (hS5.taken 0)⟩

theorem enters90 : Enters Try.prog 90 := ⟨_, _, Try.func90, rfl, by kernel_rfl⟩
def m_laws_szPacketS_j1 (fuel : Nat) (t2 : Int) : Option Int := some t2
def m_laws_szPacketS_b1 (fuel : Nat) (x0 : (List D.Packet)) (s1 : Int × Int) : Option (Rd (Int × Int) (Int) (Int)) := (if (decide (s1.2 < (x0.length : Int))) = true then ((idx x0 s1.2).bind fun x17 => ((m_laws_szPacket fuel x17 s1.1).bind fun r24 => (if (decide (r24 < 0)) = true then some (.ret (-1)) else some (.next (r24, w64 (s1.2 + 1)))))) else some (.brk s1.1))
def m_laws_szPacketS (fuel : Nat) (x0 : (List D.Packet)) (x1 : Int) : Option (Int) := (if (decide ((w64 (x1 - (x0.length : Int))) < 0)) = true then some (-1) else ((iter (m_laws_szPacketS_b1 fuel x0) fuel (w64 (x1 - (x0.length : Int)), 0)).bind fun o => aft o (m_laws_szPacketS_j1 fuel)))

set_option maxRecDepth 100000 in
theorem laws_szPacketS_ok {w : World} {A0_ : Option Addr} {k0_ : Nat} {x0 : (List D.Packet)} {x1 : Int} (h0_ : ty47.ro w [.slice A0_ x0.length k0_] x0) {fuel : Nat} {r : Int} (hm : m_laws_szPacketS fuel x0 x1 = some r) :
    Calls Try.prog 90 ⟨[.slice A0_ x0.length k0_, .int .i64 x1]⟩ w (Ret fun v w8 => v = .int .i64 r ∧ St w w8 []) := by
  refine Calls.into Try.func90 rfl 27 rfl rfl _ rfl ?_
  unfold m_laws_szPacketS at hm
  have hS := St.start w
  refine WP.seq ?_
  refine WP.region ?_
  refine RW.run ttok 1 rfl ?_
  refine RW.nil ?_
  refine WP.seq ?_
  refine WP.region ?_
  refine RW.run ttok 5 rfl ?_
  refine RW.nil ?_
  refine WP.seq ?_
  refine WP.seq ?_
  refine WP.region ?_
  refine RW.run ttok 2 rfl ?_
  refine RW.nil ?_
  refine WP.cond (decide ((w64 (x1 - (x0.length : Int))) < 0)) rfl (fun hc => ?_) (fun hc => ?_)
  · skip
    rw [if_pos hc] at hm
    refine WP.seq ?_
    refine WP.region ?_
    refine RW.run ttok 1 rfl ?_
    refine RW.nil ?_
    refine WP.ret ?_
    cases hm
    exact ⟨_, .cons (.tmp rfl) .nil, rfl, hS⟩
  · skip
    rw [if_neg (not_t hc)] at hm
    refine WP.skip ?_
    refine WP.seq ?_
    refine WP.seq ?_
    refine WP.region ?_
    refine RW.run ttok 1 rfl ?_
    refine RW.nil ?_
    obtain ⟨o8, hl9, hm⟩ := bind_some hm
    refine WP.cut (fun (t2 : Int) F w9 => o8 = .inl t2 ∧ Ext w w9 ∧ St w w9 [] ∧ F = [(1, .int .i64 t2)]) ?_ ?_
    · skip
      rintro t2 F w7 ⟨ho11, hE6, hS10, rfl⟩
      subst ho11
      rw [aft_inl] at hm
      unfold m_laws_szPacketS_j1 at hm
      refine WP.seq ?_
      refine WP.region ?_
      refine RW.run ttok 2 rfl ?_
      refine RW.nil ?_
      refine WP.ret ?_
      cases hm
      exact ⟨_, .cons (.tmp rfl) .nil, rfl, hS10⟩
    · skip
      refine WP.block ?_
      refine WP.weak [(0, .slice A0_ x0.length k0_), (1, .int .i64 (w64 (x1 - (x0.length : Int)))), (5, .int .i64 0)] ⟨rfl, rfl, rfl, trivial⟩ ?_
      refine WP.iter (fun (s1 : Int × Int) F w9 => Ext w w9 ∧ St w w9 [] ∧ F = [(0, .slice A0_ x0.length k0_), (1, .int .i64 s1.1), (5, .int .i64 s1.2)]) _ hl9 ⟨(Ext.refl _), hS, rfl⟩ ?_
      rintro s1 F w16 _ o14 ⟨hE5, hS15, rfl⟩ hb12 ho13
      unfold m_laws_szPacketS_b1 at hb12
      refine WP.seq ?_
      refine WP.seq ?_
      refine WP.region ?_
      refine RW.run ttok 4 rfl ?_
      refine RW.nil ?_
      refine WP.cond (decide (s1.2 < (x0.length : Int))) rfl (fun hc => ?_) (fun hc => ?_)
      · skip
        rw [if_pos hc] at hb12
        refine WP.skip ?_
        refine WP.seq ?_
        refine WP.block ?_
        refine WP.seq ?_
        refine WP.region ?_
        refine RW.run ttok 2 rfl ?_
        obtain ⟨x17, hx18, hb12⟩ := bind_some hb12
        refine RW.idx ttok hS15.ext rfl rfl rfl rfl rfl rfl (by decide) rfl rfl h0_ (idx_some hx18).1 (idx_some hx18).2 rfl rfl (fun p19 es20 ha21 hr22 => ?_)
        have e23 := ty187_open hr22; subst e23
        refine RW.loadN ttok rfl rfl rfl rfl rfl (At.ext hS15.ext ha21) rfl rfl rfl ?_
        refine RW.run ttok 1 rfl ?_
        obtain ⟨r24, hx25, hb12⟩ := bind_some hb12
        refine RW.call rfl rfl rfl enters145 (laws_szPacket_ok (ty187.ext hS15.ext hr22) hx25) (fun v26 w27 hR28 => ?_)
        obtain ⟨rfl, hR29⟩ := hR28
        have hS30 := hS15.join hR29
        refine RW.run ttok 1 rfl ?_
        refine RW.nil ?_
        refine WP.seq ?_
        refine WP.region ?_
        refine RW.run ttok 2 rfl ?_
        refine RW.nil ?_
        refine WP.cond (decide (r24 < 0)) rfl (fun hc => ?_) (fun hc => ?_)
        · skip
          rw [if_pos hc] at hb12
          refine WP.seq ?_
          refine WP.region ?_
          refine RW.run ttok 1 rfl ?_
          refine RW.nil ?_
          refine WP.ret ?_
          cases hb12
          cases ho13
          have hm : some _ = some _ := hm
          cases hm
          exact ⟨_, .cons (.tmp rfl) .nil, rfl, hS30⟩
        · skip
          rw [if_neg (not_t hc)] at hb12
          refine WP.skip ?_
          refine WP.region ?_
          refine RW.run ttok 3 rfl ?_
          refine RW.nil ?_
          cases hb12
          exact ⟨_, [(0, .slice A0_ x0.length k0_), (1, .int .i64 r24), (5, .int .i64 (w64 (s1.2 + 1)))], ⟨rfl, rfl, rfl, trivial⟩, rfl, (hE5.trans hR29.ext), hS30, rfl⟩
      · skip
        rw [if_neg (not_t hc)] at hb12
        refine WP.exit ?_
        cases hb12
        exact ⟨_, [(1, .int .i64 s1.1)], ⟨rfl, trivial⟩, ho13, hE5, hS15, rfl⟩

theorem enters32 : Enters Try.prog 32 := ⟨_, _, Try.func32, rfl, by kernel_rfl⟩
def m_laws_szChannel (fuel : Nat) (x0 : D.Channel) (x1 : Int) : Option (Int) := ((m_laws_szStringS fuel x0.Messages x1).bind fun r18 => (if (decide (r18 < 0)) = true then some (-1) else ((m_laws_szPacketS fuel x0.Early r18).bind fun r25 => (if (decide (r25 < 0)) = true then some (-1) else ((m_laws_szStringS fuel x0.Delivered r25).bind fun r32 => (if (decide (r32 < 0)) = true then some (-1) else ((m_laws_szPacketS fuel x0.Flight r32).bind fun r39 => (if (decide (r39 < 0)) = true then some (-1) else some r39))))))))

set_option maxRecDepth 100000 in
theorem laws_szChannel_ok {w : World} {c0_ : List Value} {x0 : D.Channel} {x1 : Int} (h0_ : ty49.ro w c0_ x0) {fuel : Nat} {r : Int} (hm : m_laws_szChannel fuel x0 x1 = some r) :
    Calls Try.prog 32 ⟨[.agg ⟨c0_⟩, .int .i64 x1]⟩ w (Ret fun v w8 => v = .int .i64 r ∧ St w w8 []) := by
  obtain ⟨A1, k2, A4, k5, A7, k8, A10, k11, e13, h3, h6, h9, h12⟩ := ty49_open h0_; subst e13
  refine Calls.into Try.func32 rfl 30 rfl rfl _ rfl ?_
  unfold m_laws_szChannel at hm
  have hS := St.start w
  refine WP.seq ?_
  refine WP.region ?_
  refine RW.new ttok hS rfl rfl rfl rfl (fun g14 w15 e16 hS17 => ?_)
  refine RW.run ttok 1 rfl ?_
  refine RW.nil ?_
  refine WP.seq ?_
  refine WP.region ?_
  refine RW.run ttok 1 rfl ?_
  refine RW.load1 ttok rfl rfl rfl rfl rfl ((hS17.bring 0 rfl).box) 1 rfl rfl rfl rfl ?_
  refine RW.run ttok 1 rfl ?_
  obtain ⟨r18, hx19, hm⟩ := bind_some hm
  refine RW.call rfl rfl rfl enters23 (laws_szStringS_ok (ty35.ext hS17.ext h3) hx19) (fun v20 w21 hR22 => ?_)
  obtain ⟨rfl, hR23⟩ := hR22
  have hS24 := hS17.join hR23
  refine RW.run ttok 1 rfl ?_
  refine RW.nil ?_
  refine WP.seq ?_
  refine WP.seq ?_
  refine WP.region ?_
  refine RW.run ttok 2 rfl ?_
  refine RW.nil ?_
  refine WP.cond (decide (r18 < 0)) rfl (fun hc => ?_) (fun hc => ?_)
  · skip
    rw [if_pos hc] at hm
    refine WP.seq ?_
    refine WP.region ?_
    refine RW.run ttok 1 rfl ?_
    refine RW.nil ?_
    refine WP.ret ?_
    cases hm
    exact ⟨_, .cons (.tmp rfl) .nil, rfl, (hS24.taken 0)⟩
  · skip
    rw [if_neg (not_t hc)] at hm
    refine WP.skip ?_
    refine WP.seq ?_
    refine WP.region ?_
    refine RW.run ttok 1 rfl ?_
    refine RW.load1 ttok rfl rfl rfl rfl rfl ((hS24.bring 0 rfl).box) 5 rfl rfl rfl rfl ?_
    refine RW.run ttok 1 rfl ?_
    obtain ⟨r25, hx26, hm⟩ := bind_some hm
    refine RW.call rfl rfl rfl enters90 (laws_szPacketS_ok (ty47.ext hS24.ext h6) hx26) (fun v27 w28 hR29 => ?_)
    obtain ⟨rfl, hR30⟩ := hR29
    have hS31 := hS24.join hR30
    refine RW.run ttok 1 rfl ?_
    refine RW.nil ?_
    refine WP.seq ?_
    refine WP.seq ?_
    refine WP.region ?_
    refine RW.run ttok 2 rfl ?_
    refine RW.nil ?_
    refine WP.cond (decide (r25 < 0)) rfl (fun hc => ?_) (fun hc => ?_)
    · skip
      rw [if_pos hc] at hm
      refine WP.seq ?_
      refine WP.region ?_
      refine RW.run ttok 1 rfl ?_
      refine RW.nil ?_
      refine WP.ret ?_
      cases hm
      exact ⟨_, .cons (.tmp rfl) .nil, rfl, (hS31.taken 0)⟩
    · skip
      rw [if_neg (not_t hc)] at hm
      refine WP.skip ?_
      refine WP.seq ?_
      refine WP.region ?_
      refine RW.run ttok 1 rfl ?_
      refine RW.load1 ttok rfl rfl rfl rfl rfl ((hS31.bring 0 rfl).box) 6 rfl rfl rfl rfl ?_
      refine RW.run ttok 1 rfl ?_
      obtain ⟨r32, hx33, hm⟩ := bind_some hm
      refine RW.call rfl rfl rfl enters23 (laws_szStringS_ok (ty35.ext hS31.ext h9) hx33) (fun v34 w35 hR36 => ?_)
      obtain ⟨rfl, hR37⟩ := hR36
      have hS38 := hS31.join hR37
      refine RW.run ttok 1 rfl ?_
      refine RW.nil ?_
      refine WP.seq ?_
      refine WP.seq ?_
      refine WP.region ?_
      refine RW.run ttok 2 rfl ?_
      refine RW.nil ?_
      refine WP.cond (decide (r32 < 0)) rfl (fun hc => ?_) (fun hc => ?_)
      · skip
        rw [if_pos hc] at hm
        refine WP.seq ?_
        refine WP.region ?_
        refine RW.run ttok 1 rfl ?_
        refine RW.nil ?_
        refine WP.ret ?_
        cases hm
        exact ⟨_, .cons (.tmp rfl) .nil, rfl, (hS38.taken 0)⟩
      · skip
        rw [if_neg (not_t hc)] at hm
        refine WP.skip ?_
        refine WP.seq ?_
        refine WP.region ?_
        refine RW.run ttok 1 rfl ?_
        refine RW.load1 ttok rfl rfl rfl rfl rfl ((hS38.bring 0 rfl).box) 7 rfl rfl rfl rfl ?_
        refine RW.run ttok 1 rfl ?_
        obtain ⟨r39, hx40, hm⟩ := bind_some hm
        refine RW.call rfl rfl rfl enters90 (laws_szPacketS_ok (ty47.ext hS38.ext h12) hx40) (fun v41 w42 hR43 => ?_)
        obtain ⟨rfl, hR44⟩ := hR43
        have hS45 := hS38.join hR44
        refine RW.run ttok 1 rfl ?_
        refine RW.nil ?_
        refine WP.seq ?_
        refine WP.seq ?_
        refine WP.region ?_
        refine RW.run ttok 2 rfl ?_
        refine RW.nil ?_
        refine WP.cond (decide (r39 < 0)) rfl (fun hc => ?_) (fun hc => ?_)
        · skip
          rw [if_pos hc] at hm
          refine WP.seq ?_
          refine WP.region ?_
          refine RW.run ttok 1 rfl ?_
          refine RW.nil ?_
          refine WP.ret ?_
          cases hm
          exact ⟨_, .cons (.tmp rfl) .nil, rfl, (hS45.taken 0)⟩
        · skip
          rw [if_neg (not_t hc)] at hm
          refine WP.skip ?_
          refine WP.seq ?_
          refine WP.region ?_
          refine RW.run ttok 2 rfl ?_
          refine RW.nil ?_
          refine WP.ret ?_
          cases hm
          exact ⟨_, .cons (.tmp rfl) .nil, rfl, (hS45.taken 0)⟩

theorem enters25 : Enters Try.prog 25 := ⟨_, _, Try.func25, rfl, by kernel_rfl⟩
def m_laws_toStringS_j1 (fuel : Nat) (t9 : (List ByteArray)) : Option (List ByteArray) := some t9
def m_laws_toStringS_b1 (fuel : Nat) (x0 : (List ByteArray)) (s8 : Int × (List ByteArray)) : Option (Rd (Int × (List ByteArray)) ((List ByteArray)) ((List ByteArray))) := (if (decide (s8.1 < (x0.length : Int))) = true then ((idx x0 s8.1).bind fun x23 => (if decide (0 ≤ s8.1 ∧ s8.1.toNat < s8.2.length) = true then some (.next (w64 (s8.1 + 1), (s8.2.set s8.1.toNat x23))) else none)) else some (.brk s8.2))
def m_laws_toStringS (fuel : Nat) (x0 : (List ByteArray)) : Option ((List ByteArray)) := (if decide (0 ≤ (x0.length : Int) ∧ (x0.length : Int) ≤ 4294967296) = true then ((iter (m_laws_toStringS_b1 fuel x0) fuel (0, (List.replicate (x0.length : Int).toNat (⟨#[]⟩ : ByteArray)))).bind fun o => aft o (m_laws_toStringS_j1 fuel)) else none)

set_option maxRecDepth 100000 in
theorem laws_toStringS_ok {w : World} {A0_ : Option Addr} {k0_ : Nat} {x0 : (List ByteArray)} (h0_ : ty35.ro w [.slice A0_ x0.length k0_] x0) {fuel : Nat} {r : (List ByteArray)} (hm : m_laws_toStringS fuel x0 = some r) :
    Calls Try.prog 25 ⟨[.slice A0_ x0.length k0_]⟩ w (Ret fun v w8 => ∃ A0 k0, v = .slice A0 r.length k0 ∧ St w w8 [Own ty35 [.slice A0 r.length k0] r]) := by
  refine Calls.into Try.func25 rfl 22 rfl rfl _ rfl ?_
  unfold m_laws_toStringS at hm
  have hS := St.start w
  refine WP.seq ?_
  refine WP.region ?_
  refine RW.run ttok 1 rfl ?_
  refine RW.nil ?_
  refine WP.seq ?_
  refine WP.region ?_
  refine RW.run ttok 2 rfl ?_
  by_cases hk1 : decide (0 ≤ (x0.length : Int) ∧ (x0.length : Int) ≤ 4294967296) = true
  case neg => rw [if_neg hk1] at hm; cases hm
  rw [if_pos hk1] at hm
  have hz7 := of_decide_eq_true hk1
  refine RW.make (U := tStr) ttok (⟨#[]⟩ : ByteArray) hS rfl rfl rfl rfl rfl rfl rfl rfl hz7.1 (by have := hz7.2; show _ * (16 : Int) ≤ _; omega) (by have := hz7.2; simp only [maxLen]; omega) (fun _ => ⟨rfl, rfl⟩) rfl rfl (fun A2 k3 w4 e5 hS6 => ?_)
  refine RW.run ttok 1 rfl ?_
  refine RW.nil ?_
  refine WP.seq ?_
  refine WP.seq ?_
  refine WP.region ?_
  refine RW.run ttok 1 rfl ?_
  refine RW.nil ?_
  obtain ⟨o12, hl13, hm⟩ := bind_some hm
  refine WP.cut (fun (t9 : (List ByteArray)) F w9 => o12 = .inl t9 ∧ St w w9 [Own ty35 [.slice A2 (List.replicate (x0.length : Int).toNat (⟨#[]⟩ : ByteArray)).length k3] t9] ∧ F = [(3, .slice A2 (List.replicate (x0.length : Int).toNat (⟨#[]⟩ : ByteArray)).length k3)]) ?_ ?_
  · skip
    rintro t9 F w11 ⟨ho15, hS14, rfl⟩
    subst ho15
    rw [aft_inl] at hm
    unfold m_laws_toStringS_j1 at hm
    refine WP.seq ?_
    refine WP.region ?_
    refine RW.run ttok 2 rfl ?_
    refine RW.nil ?_
    refine WP.ret ?_
    cases hm
    have hn16 := (hS14.bring 0 rfl).lenEq
    have hS17 := (hS14.bring 0 rfl).reLen hn16
    exact ⟨_, .cons (.tmp rfl) .nil, A2, k3, (by first | (simp only [hn16]; done) | (simp only [hn16]; rfl)), hS17⟩
  · skip
    refine WP.block ?_
    refine WP.weak [(0, .slice A0_ x0.length k0_), (3, .slice A2 (List.replicate (x0.length : Int).toNat (⟨#[]⟩ : ByteArray)).length k3), (4, .int .i64 0)] ⟨rfl, rfl, rfl, trivial⟩ ?_
    refine WP.iter (fun (s8 : Int × (List ByteArray)) F w9 => St w w9 [Own ty35 [.slice A2 (List.replicate (x0.length : Int).toNat (⟨#[]⟩ : ByteArray)).length k3] s8.2] ∧ F = [(0, .slice A0_ x0.length k0_), (3, .slice A2 (List.replicate (x0.length : Int).toNat (⟨#[]⟩ : ByteArray)).length k3), (4, .int .i64 s8.1)]) _ hl13 ⟨hS6, rfl⟩ ?_
    rintro s8 F w22 _ o20 ⟨hS21, rfl⟩ hb18 ho19
    unfold m_laws_toStringS_b1 at hb18
    refine WP.seq ?_
    refine WP.seq ?_
    refine WP.region ?_
    refine RW.run ttok 4 rfl ?_
    refine RW.nil ?_
    refine WP.cond (decide (s8.1 < (x0.length : Int))) rfl (fun hc => ?_) (fun hc => ?_)
    · skip
      rw [if_pos hc] at hb18
      refine WP.skip ?_
      refine WP.seq ?_
      refine WP.block ?_
      refine WP.region ?_
      refine RW.run ttok 4 rfl ?_
      obtain ⟨x23, hx24, hb18⟩ := bind_some hb18
      refine RW.idx ttok hS21.ext rfl rfl rfl rfl rfl rfl (by decide) rfl rfl h0_ (idx_some hx24).1 (idx_some hx24).2 rfl rfl (fun p25 es26 ha27 hr28 => ?_)
      cases hr28
      refine RW.load1 ttok rfl rfl rfl rfl rfl (At.ext hS21.ext ha27) 0 rfl rfl rfl rfl ?_
      have hS29 := hS21.bring 0 rfl
      by_cases hk30 : decide (0 ≤ s8.1 ∧ s8.1.toNat < s8.2.length) = true
      case neg => rw [if_neg hk30] at hb18; cases hb18
      rw [if_pos hk30] at hb18
      have hb31 := of_decide_eq_true hk30
      refine RW.idxOwnN ttok hS29 rfl rfl rfl rfl rfl rfl rfl rfl hb31.1 hb31.2 rfl rfl (fun q32 hq33 => ?_)
      have hS34 := hS29.flat (T := tStr) (cs := [.string x23]) (x := x23) ⟨rfl, rfl⟩
      have hS35 := hS34.bring 1 rfl
      refine RW.storeElN ttok hS35 rfl rfl rfl rfl rfl rfl hb31.2 hq33 rfl rfl (fun w36 hS37 => ?_)
      refine RW.nil ?_
      refine WP.region ?_
      refine RW.run ttok 3 rfl ?_
      refine RW.nil ?_
      cases hb18
      exact ⟨_, [(0, .slice A0_ x0.length k0_), (3, .slice A2 (List.replicate (x0.length : Int).toNat (⟨#[]⟩ : ByteArray)).length k3), (4, .int .i64 (w64 (s8.1 + 1)))], ⟨rfl, rfl, rfl, trivial⟩, rfl, hS37, rfl⟩
    · skip
      rw [if_neg (not_t hc)] at hb18
      refine WP.exit ?_
      cases hb18
      exact ⟨_, [(3, .slice A2 (List.replicate (x0.length : Int).toNat (⟨#[]⟩ : ByteArray)).length k3)], ⟨rfl, trivial⟩, ho19, hS21, rfl⟩

theorem enters146 : Enters Try.prog 146 := ⟨_, _, Try.func146, rfl, by kernel_rfl⟩
def m_laws_toPacket (fuel : Nat) (x0 : D.Packet) : Option (D.Packet) := some (⟨x0.Ack, x0.Number, x0.Text⟩ : D.Packet)

set_option maxRecDepth 100000 in
theorem laws_toPacket_ok {w : World} {c0_ : List Value} {x0 : D.Packet} (h0_ : ty187.ro w c0_ x0) {fuel : Nat} {r : D.Packet} (hm : m_laws_toPacket fuel x0 = some r) :
    Calls Try.prog 146 ⟨[.agg ⟨c0_⟩]⟩ w (Ret fun v w8 => v = .agg ⟨[.bool r.Ack, .int .i64 r.Number, .string r.Text]⟩ ∧ St w w8 []) := by
  have e1 := ty187_open h0_; subst e1
  refine Calls.into Try.func146 rfl 14 rfl rfl _ rfl ?_
  unfold m_laws_toPacket at hm
  have hS := St.start w
  refine WP.seq ?_
  refine WP.region ?_
  refine RW.new ttok hS rfl rfl rfl rfl (fun g2 w3 e4 hS5 => ?_)
  refine RW.new ttok hS5 rfl rfl rfl rfl (fun g6 w7 e8 hS9 => ?_)
  refine RW.nil ?_
  refine WP.seq ?_
  refine WP.region ?_
  refine RW.new ttok hS9 rfl rfl rfl rfl (fun g10 w11 e12 hS13 => ?_)
  refine RW.nil ?_
  refine WP.seq ?_
  refine WP.region ?_
  refine RW.run ttok 1 rfl ?_
  refine RW.load1 ttok rfl rfl rfl rfl rfl ((hS13.bring 2 rfl).box) 0 rfl rfl rfl rfl ?_
  refine RW.run ttok 1 rfl ?_
  have hS14 := hS13.bring 0 rfl
  refine RW.store ttok (A := []) hS14 rfl rfl rfl rfl rfl 0 rfl rfl rfl rfl rfl (fun w15 hS16 => ?_)
  refine RW.nil ?_
  refine WP.seq ?_
  refine WP.region ?_
  refine RW.run ttok 1 rfl ?_
  refine RW.load1 ttok rfl rfl rfl rfl rfl ((hS16.bring 2 rfl).box) 1 rfl rfl rfl rfl ?_
  refine RW.run ttok 1 rfl ?_
  have hS17 := hS16.bring 0 rfl
  refine RW.store ttok (A := []) hS17 rfl rfl rfl rfl rfl 1 rfl rfl rfl rfl rfl (fun w18 hS19 => ?_)
  refine RW.nil ?_
  refine WP.seq ?_
  refine WP.region ?_
  refine RW.run ttok 1 rfl ?_
  refine RW.load1 ttok rfl rfl rfl rfl rfl ((hS19.bring 2 rfl).box) 2 rfl rfl rfl rfl ?_
  refine RW.run ttok 1 rfl ?_
  have hS20 := hS19.bring 0 rfl
  refine RW.store ttok (A := []) hS20 rfl rfl rfl rfl rfl 2 rfl rfl rfl rfl rfl (fun w21 hS22 => ?_)
  refine RW.nil ?_
  refine WP.seq ?_
  refine WP.region ?_
  refine RW.loadN ttok rfl rfl rfl rfl rfl ((hS22.bring 0 rfl).box) rfl rfl rfl ?_
  have hS23 := hS22.bring 1 rfl
  refine RW.store ttok (A := []) hS23 rfl rfl rfl rfl rfl 0 rfl rfl rfl rfl rfl (fun w24 hS25 => ?_)
  refine RW.nil ?_
  refine WP.ret ?_
  cases hm
  exact ⟨_, .cons (ResIs.agg ttok rfl rfl rfl ((hS25.bring 0 rfl).box) rfl) .nil, rfl, (hS25.taken 0)⟩

theorem enters91 : Enters Try.prog 91 := ⟨_, _, Try.func91, rfl, by kernel_rfl⟩
def m_laws_toPacketS_j1 (fuel : Nat) (t9 : (List D.Packet)) : Option (List D.Packet) := some t9
def m_laws_toPacketS_b1 (fuel : Nat) (x0 : (List D.Packet)) (s8 : Int × (List D.Packet)) : Option (Rd (Int × (List D.Packet)) ((List D.Packet)) ((List D.Packet))) := (if (decide (s8.1 < (x0.length : Int))) = true then ((idx x0 s8.1).bind fun x23 => ((m_laws_toPacket fuel x23).bind fun r30 => (if decide (0 ≤ s8.1 ∧ s8.1.toNat < s8.2.length) = true then some (.next (w64 (s8.1 + 1), (s8.2.set s8.1.toNat r30))) else none))) else some (.brk s8.2))
def m_laws_toPacketS (fuel : Nat) (x0 : (List D.Packet)) : Option ((List D.Packet)) := (if decide (0 ≤ (x0.length : Int) ∧ (x0.length : Int) ≤ 4294967296) = true then ((iter (m_laws_toPacketS_b1 fuel x0) fuel (0, (List.replicate (x0.length : Int).toNat (⟨false, (0 : Int), (⟨#[]⟩ : ByteArray)⟩ : D.Packet)))).bind fun o => aft o (m_laws_toPacketS_j1 fuel)) else none)

set_option maxRecDepth 100000 in
theorem laws_toPacketS_ok {w : World} {A0_ : Option Addr} {k0_ : Nat} {x0 : (List D.Packet)} (h0_ : ty47.ro w [.slice A0_ x0.length k0_] x0) {fuel : Nat} {r : (List D.Packet)} (hm : m_laws_toPacketS fuel x0 = some r) :
    Calls Try.prog 91 ⟨[.slice A0_ x0.length k0_]⟩ w (Ret fun v w8 => ∃ A0 k0, v = .slice A0 r.length k0 ∧ St w w8 [Own ty37 [.slice A0 r.length k0] r]) := by
  refine Calls.into Try.func91 rfl 23 rfl rfl _ rfl ?_
  unfold m_laws_toPacketS at hm
  have hS := St.start w
  refine WP.seq ?_
  refine WP.region ?_
  refine RW.run ttok 1 rfl ?_
  refine RW.nil ?_
  refine WP.seq ?_
  refine WP.region ?_
  refine RW.run ttok 2 rfl ?_
  by_cases hk1 : decide (0 ≤ (x0.length : Int) ∧ (x0.length : Int) ≤ 4294967296) = true
  case neg => rw [if_neg hk1] at hm; cases hm
  rw [if_pos hk1] at hm
  have hz7 := of_decide_eq_true hk1
  refine RW.make (U := ty126) ttok (⟨false, (0 : Int), (⟨#[]⟩ : ByteArray)⟩ : D.Packet) hS rfl rfl rfl rfl rfl rfl rfl rfl hz7.1 (by have := hz7.2; show _ * (32 : Int) ≤ _; omega) (by have := hz7.2; simp only [maxLen]; omega) (fun _ => (ty126_ownI (c := (⟨false, (0 : Int), (⟨#[]⟩ : ByteArray)⟩ : D.Packet)) rfl)) rfl rfl (fun A2 k3 w4 e5 hS6 => ?_)
  refine RW.run ttok 1 rfl ?_
  refine RW.nil ?_
  refine WP.seq ?_
  refine WP.seq ?_
  refine WP.region ?_
  refine RW.run ttok 1 rfl ?_
  refine RW.nil ?_
  obtain ⟨o12, hl13, hm⟩ := bind_some hm
  refine WP.cut (fun (t9 : (List D.Packet)) F w9 => o12 = .inl t9 ∧ St w w9 [Own ty37 [.slice A2 (List.replicate (x0.length : Int).toNat (⟨false, (0 : Int), (⟨#[]⟩ : ByteArray)⟩ : D.Packet)).length k3] t9] ∧ F = [(3, .slice A2 (List.replicate (x0.length : Int).toNat (⟨false, (0 : Int), (⟨#[]⟩ : ByteArray)⟩ : D.Packet)).length k3)]) ?_ ?_
  · skip
    rintro t9 F w11 ⟨ho15, hS14, rfl⟩
    subst ho15
    rw [aft_inl] at hm
    unfold m_laws_toPacketS_j1 at hm
    refine WP.seq ?_
    refine WP.region ?_
    refine RW.run ttok 2 rfl ?_
    refine RW.nil ?_
    refine WP.ret ?_
    cases hm
    have hn16 := (hS14.bring 0 rfl).lenEq
    have hS17 := (hS14.bring 0 rfl).reLen hn16
    exact ⟨_, .cons (.tmp rfl) .nil, A2, k3, (by first | (simp only [hn16]; done) | (simp only [hn16]; rfl)), hS17⟩
  · skip
    refine WP.block ?_
    refine WP.weak [(0, .slice A0_ x0.length k0_), (3, .slice A2 (List.replicate (x0.length : Int).toNat (⟨false, (0 : Int), (⟨#[]⟩ : ByteArray)⟩ : D.Packet)).length k3), (4, .int .i64 0)] ⟨rfl, rfl, rfl, trivial⟩ ?_
    refine WP.iter (fun (s8 : Int × (List D.Packet)) F w9 => St w w9 [Own ty37 [.slice A2 (List.replicate (x0.length : Int).toNat (⟨false, (0 : Int), (⟨#[]⟩ : ByteArray)⟩ : D.Packet)).length k3] s8.2] ∧ F = [(0, .slice A0_ x0.length k0_), (3, .slice A2 (List.replicate (x0.length : Int).toNat (⟨false, (0 : Int), (⟨#[]⟩ : ByteArray)⟩ : D.Packet)).length k3), (4, .int .i64 s8.1)]) _ hl13 ⟨hS6, rfl⟩ ?_
    rintro s8 F w22 _ o20 ⟨hS21, rfl⟩ hb18 ho19
    unfold m_laws_toPacketS_b1 at hb18
    refine WP.seq ?_
    refine WP.seq ?_
    refine WP.region ?_
    refine RW.run ttok 4 rfl ?_
    refine RW.nil ?_
    refine WP.cond (decide (s8.1 < (x0.length : Int))) rfl (fun hc => ?_) (fun hc => ?_)
    · skip
      rw [if_pos hc] at hb18
      refine WP.skip ?_
      refine WP.seq ?_
      refine WP.block ?_
      refine WP.region ?_
      refine RW.run ttok 4 rfl ?_
      obtain ⟨x23, hx24, hb18⟩ := bind_some hb18
      refine RW.idx ttok hS21.ext rfl rfl rfl rfl rfl rfl (by decide) rfl rfl h0_ (idx_some hx24).1 (idx_some hx24).2 rfl rfl (fun p25 es26 ha27 hr28 => ?_)
      have e29 := ty187_open hr28; subst e29
      refine RW.loadN ttok rfl rfl rfl rfl rfl (At.ext hS21.ext ha27) rfl rfl rfl ?_
      obtain ⟨r30, hx31, hb18⟩ := bind_some hb18
      refine RW.call rfl rfl rfl enters146 (laws_toPacket_ok (ty187.ext hS21.ext hr28) hx31) (fun v32 w33 hR34 => ?_)
      obtain ⟨rfl, hR35⟩ := hR34
      have hS36 := hS21.join hR35
      have hS37 := hS36.bring 0 rfl
      by_cases hk38 : decide (0 ≤ s8.1 ∧ s8.1.toNat < s8.2.length) = true
      case neg => rw [if_neg hk38] at hb18; cases hb18
      rw [if_pos hk38] at hb18
      have hb39 := of_decide_eq_true hk38
      refine RW.idxOwnN ttok hS37 rfl rfl rfl rfl rfl rfl rfl rfl hb39.1 hb39.2 rfl rfl (fun q40 hq41 => ?_)
      have hS42 := ty126_shutS (c := r30) (B := _) hS37
      have hS43 := hS42.bring 1 rfl
      refine RW.storeElN ttok hS43 rfl rfl rfl rfl rfl rfl hb39.2 hq41 rfl rfl (fun w44 hS45 => ?_)
      refine RW.nil ?_
      refine WP.region ?_
      refine RW.run ttok 3 rfl ?_
      refine RW.nil ?_
      cases hb18
      exact ⟨_, [(0, .slice A0_ x0.length k0_), (3, .slice A2 (List.replicate (x0.length : Int).toNat (⟨false, (0 : Int), (⟨#[]⟩ : ByteArray)⟩ : D.Packet)).length k3), (4, .int .i64 (w64 (s8.1 + 1)))], ⟨rfl, rfl, rfl, trivial⟩, rfl, hS45, rfl⟩
    · skip
      rw [if_neg (not_t hc)] at hb18
      refine WP.exit ?_
      cases hb18
      exact ⟨_, [(3, .slice A2 (List.replicate (x0.length : Int).toNat (⟨false, (0 : Int), (⟨#[]⟩ : ByteArray)⟩ : D.Packet)).length k3)], ⟨rfl, trivial⟩, ho19, hS21, rfl⟩

theorem enters34 : Enters Try.prog 34 := ⟨_, _, Try.func34, rfl, by kernel_rfl⟩
def m_laws_toChannel (fuel : Nat) (x0 : D.Channel) : Option (D.Channel) := ((m_laws_toStringS fuel x0.Messages).bind fun r29 => ((m_laws_toPacketS fuel x0.Early).bind fun r50 => ((m_laws_toStringS fuel x0.Delivered).bind fun r62 => ((m_laws_toPacketS fuel x0.Flight).bind fun r74 => some (⟨x0.Window, r29, x0.Base, x0.Next, x0.Expected, r50, r62, r74⟩ : D.Channel)))))

set_option maxRecDepth 100000 in
theorem laws_toChannel_ok {w : World} {c0_ : List Value} {x0 : D.Channel} (h0_ : ty49.ro w c0_ x0) {fuel : Nat} {r : D.Channel} (hm : m_laws_toChannel fuel x0 = some r) :
    Calls Try.prog 34 ⟨[.agg ⟨c0_⟩]⟩ w (Ret fun v w8 => ∃ A0 k0 A1 k1 A2 k2 A3 k3, v = .agg ⟨[.int .i64 r.Window, .slice A0 r.Messages.length k0, .int .i64 r.Base, .int .i64 r.Next, .int .i64 r.Expected, .slice A1 r.Early.length k1, .slice A2 r.Delivered.length k2, .slice A3 r.Flight.length k3]⟩ ∧ St w w8 [Own ty35 [.slice A0 r.Messages.length k0] r.Messages, Own ty37 [.slice A1 r.Early.length k1] r.Early, Own ty35 [.slice A2 r.Delivered.length k2] r.Delivered, Own ty37 [.slice A3 r.Flight.length k3] r.Flight]) := by
  obtain ⟨A1, k2, A4, k5, A7, k8, A10, k11, e13, h3, h6, h9, h12⟩ := ty49_open h0_; subst e13
  refine Calls.into Try.func34 rfl 33 rfl rfl _ rfl ?_
  unfold m_laws_toChannel at hm
  have hS := St.start w
  refine WP.seq ?_
  refine WP.region ?_
  refine RW.new ttok hS rfl rfl rfl rfl (fun g14 w15 e16 hS17 => ?_)
  refine RW.new ttok hS17 rfl rfl rfl rfl (fun g18 w19 e20 hS21 => ?_)
  refine RW.nil ?_
  refine WP.seq ?_
  refine WP.region ?_
  refine RW.new ttok hS21 rfl rfl rfl rfl (fun g22 w23 e24 hS25 => ?_)
  refine RW.nil ?_
  refine WP.seq ?_
  refine WP.region ?_
  refine RW.run ttok 1 rfl ?_
  refine RW.load1 ttok rfl rfl rfl rfl rfl ((hS25.bring 2 rfl).box) 0 rfl rfl rfl rfl ?_
  refine RW.run ttok 1 rfl ?_
  have hS26 := hS25.bring 0 rfl
  refine RW.store ttok (A := []) hS26 rfl rfl rfl rfl rfl 0 rfl rfl rfl rfl rfl (fun w27 hS28 => ?_)
  refine RW.nil ?_
  refine WP.seq ?_
  refine WP.region ?_
  refine RW.run ttok 1 rfl ?_
  refine RW.load1 ttok rfl rfl rfl rfl rfl ((hS28.bring 2 rfl).box) 1 rfl rfl rfl rfl ?_
  obtain ⟨r29, hx30, hm⟩ := bind_some hm
  refine RW.call rfl rfl rfl enters25 (laws_toStringS_ok (ty35.ext hS28.ext h3) hx30) (fun v31 w32 hR33 => ?_)
  obtain ⟨A34, k35, rfl, hR36⟩ := hR33
  have hS37 := hS28.join hR36
  refine RW.run ttok 1 rfl ?_
  have hS38 := hS37.bring 1 rfl
  refine RW.store ttok (A := []) hS38 rfl rfl rfl rfl rfl 1 rfl rfl rfl rfl rfl (fun w39 hS40 => ?_)
  refine RW.nil ?_
  refine WP.seq ?_
  refine WP.region ?_
  refine RW.run ttok 1 rfl ?_
  refine RW.load1 ttok rfl rfl rfl rfl rfl ((hS40.bring 3 rfl).box) 2 rfl rfl rfl rfl ?_
  refine RW.run ttok 1 rfl ?_
  have hS41 := hS40.bring 0 rfl
  refine RW.store ttok (A := []) hS41 rfl rfl rfl rfl rfl 2 rfl rfl rfl rfl rfl (fun w42 hS43 => ?_)
  refine RW.nil ?_
  refine WP.seq ?_
  refine WP.region ?_
  refine RW.run ttok 1 rfl ?_
  refine RW.load1 ttok rfl rfl rfl rfl rfl ((hS43.bring 3 rfl).box) 3 rfl rfl rfl rfl ?_
  refine RW.run ttok 1 rfl ?_
  have hS44 := hS43.bring 0 rfl
  refine RW.store ttok (A := []) hS44 rfl rfl rfl rfl rfl 3 rfl rfl rfl rfl rfl (fun w45 hS46 => ?_)
  refine RW.nil ?_
  refine WP.seq ?_
  refine WP.region ?_
  refine RW.run ttok 1 rfl ?_
  refine RW.load1 ttok rfl rfl rfl rfl rfl ((hS46.bring 3 rfl).box) 4 rfl rfl rfl rfl ?_
  refine RW.run ttok 1 rfl ?_
  have hS47 := hS46.bring 0 rfl
  refine RW.store ttok (A := []) hS47 rfl rfl rfl rfl rfl 4 rfl rfl rfl rfl rfl (fun w48 hS49 => ?_)
  refine RW.nil ?_
  refine WP.seq ?_
  refine WP.region ?_
  refine RW.run ttok 1 rfl ?_
  refine RW.load1 ttok rfl rfl rfl rfl rfl ((hS49.bring 3 rfl).box) 5 rfl rfl rfl rfl ?_
  obtain ⟨r50, hx51, hm⟩ := bind_some hm
  refine RW.call rfl rfl rfl enters91 (laws_toPacketS_ok (ty47.ext hS49.ext h6) hx51) (fun v52 w53 hR54 => ?_)
  obtain ⟨A55, k56, rfl, hR57⟩ := hR54
  have hS58 := hS49.join hR57
  refine RW.run ttok 1 rfl ?_
  have hS59 := hS58.bring 1 rfl
  refine RW.store ttok (A := []) hS59 rfl rfl rfl rfl rfl 5 rfl rfl rfl rfl rfl (fun w60 hS61 => ?_)
  refine RW.nil ?_
  refine WP.seq ?_
  refine WP.region ?_
  refine RW.run ttok 1 rfl ?_
  refine RW.load1 ttok rfl rfl rfl rfl rfl ((hS61.bring 4 rfl).box) 6 rfl rfl rfl rfl ?_
  obtain ⟨r62, hx63, hm⟩ := bind_some hm
  refine RW.call rfl rfl rfl enters25 (laws_toStringS_ok (ty35.ext hS61.ext h9) hx63) (fun v64 w65 hR66 => ?_)
  obtain ⟨A67, k68, rfl, hR69⟩ := hR66
  have hS70 := hS61.join hR69
  refine RW.run ttok 1 rfl ?_
  have hS71 := hS70.bring 1 rfl
  refine RW.store ttok (A := []) hS71 rfl rfl rfl rfl rfl 6 rfl rfl rfl rfl rfl (fun w72 hS73 => ?_)
  refine RW.nil ?_
  refine WP.seq ?_
  refine WP.region ?_
  refine RW.run ttok 1 rfl ?_
  refine RW.load1 ttok rfl rfl rfl rfl rfl ((hS73.bring 5 rfl).box) 7 rfl rfl rfl rfl ?_
  obtain ⟨r74, hx75, hm⟩ := bind_some hm
  refine RW.call rfl rfl rfl enters91 (laws_toPacketS_ok (ty47.ext hS73.ext h12) hx75) (fun v76 w77 hR78 => ?_)
  obtain ⟨A79, k80, rfl, hR81⟩ := hR78
  have hS82 := hS73.join hR81
  refine RW.run ttok 1 rfl ?_
  have hS83 := hS82.bring 1 rfl
  refine RW.store ttok (A := []) hS83 rfl rfl rfl rfl rfl 7 rfl rfl rfl rfl rfl (fun w84 hS85 => ?_)
  refine RW.nil ?_
  refine WP.seq ?_
  refine WP.region ?_
  refine RW.loadN ttok rfl rfl rfl rfl rfl ((hS85.bring 0 rfl).box) rfl rfl rfl ?_
  have hS86 := hS85.bring 5 rfl
  refine RW.store ttok (A := []) hS86 rfl rfl rfl rfl rfl 0 rfl rfl rfl rfl rfl (fun w87 hS88 => ?_)
  refine RW.nil ?_
  refine WP.ret ?_
  cases hm
  exact ⟨_, .cons (ResIs.agg ttok rfl rfl rfl ((hS88.bring 0 rfl).box) rfl) .nil, A34, k35, A55, k56, A67, k68, A79, k80, rfl, (((((hS88.bring 2 rfl).bring 3 rfl).bring 4 rfl).bring 5 rfl).taken 4)⟩

theorem enters67 : Enters Try.prog 67 := ⟨_, _, Try.func67, rfl, by kernel_rfl⟩
def m_spec_l00In (fuel : Nat) (x0 : Int) (x1 : Int) (x2 : Int) : Option (Bool) := (if (decide (x0 ≥ x1)) = true then some (decide (x0 ≤ x2)) else some false)

set_option maxRecDepth 100000 in
theorem spec_l00In_ok {w : World} {x0 : Int} {x1 : Int} {x2 : Int}  {fuel : Nat} {r : Bool} (hm : m_spec_l00In fuel x0 x1 x2 = some r) :
    Calls Try.prog 67 ⟨[.int .i64 x0, .int .i64 x1, .int .i64 x2]⟩ w (Ret fun v w8 => v = .bool r ∧ St w w8 []) := by
  refine Calls.into Try.func67 rfl 15 rfl rfl _ rfl ?_
  unfold m_spec_l00In at hm
  have hS := St.start w
  refine WP.seq ?_
  refine WP.region ?_
  refine RW.run ttok 1 rfl ?_
  refine RW.nil ?_
  refine WP.seq ?_
  refine WP.region ?_
  refine RW.run ttok 4 rfl ?_
  by_cases hg1 : (decide (x0 ≥ x1)) = true
  · skip
    rw [if_pos hg1] at hm
    refine RW.know 10 rfl (congrArg Value.bool hg1) ?_
    refine RW.run ttok 5 rfl ?_
    refine RW.nil ?_
    refine WP.ret ?_
    cases hm
    exact ⟨_, .cons (.tmp rfl) .nil, rfl, hS⟩
  · skip
    rw [if_neg hg1] at hm
    refine RW.know 10 rfl (congrArg Value.bool (Bool.eq_false_iff.2 hg1)) ?_
    refine RW.run ttok 5 rfl ?_
    refine RW.nil ?_
    refine WP.ret ?_
    cases hm
    exact ⟨_, .cons (.tmp rfl) .nil, rfl, hS⟩

theorem enters137 : Enters Try.prog 137 := ⟨_, _, Try.func137, rfl, by kernel_rfl⟩
def m_spec_l28Flight (fuel : Nat) (x0 : D.Channel) (x1 : D.Packet) : Option (Bool) := (if x1.Ack = true then ((m_spec_l00In fuel x1.Number 0 x0.Expected).bind fun r17 => (if r17 = true then some (seqb x1.Text (⟨#[]⟩ : ByteArray)) else some false)) else ((m_spec_l00In fuel x1.Number 0 (w64 (x0.Next - 1))).bind fun r27 => (if r27 = true then ((idx x0.Messages x1.Number).bind fun x35 => some (seqb x1.Text x35)) else some false)))

set_option maxRecDepth 100000 in
theorem spec_l28Flight_ok {w : World} {p0_ : Addr} {c0_ : List Value} {x0 : D.Channel} {p1_ : Addr} {c1_ : List Value} {x1 : D.Packet} (h0_ : ty39.ro w c0_ x0) (g0_ : At w p0_ c0_) (h1_ : ty126.ro w c1_ x1) (g1_ : At w p1_ c1_) {fuel : Nat} {r : Bool} (hm : m_spec_l28Flight fuel x0 x1 = some r) :
    Calls Try.prog 137 ⟨[.pointer (some p0_), .pointer (some p1_)]⟩ w (Ret fun v w8 => v = .bool r ∧ St w w8 []) := by
  obtain ⟨A1, k2, A4, k5, A7, k8, A10, k11, e13, h3, h6, h9, h12⟩ := ty39_open h0_; subst e13
  have e14 := ty126_open h1_; subst e14
  refine Calls.into Try.func137 rfl 52 rfl rfl _ rfl ?_
  unfold m_spec_l28Flight at hm
  have hS := St.start w
  refine WP.seq ?_
  refine WP.region ?_
  refine RW.run ttok 1 rfl ?_
  refine RW.nil ?_
  refine WP.seq ?_
  refine WP.seq ?_
  refine WP.region ?_
  refine RW.run ttok 3 rfl ?_
  refine RW.load1 ttok rfl rfl rfl rfl rfl (At.ext hS.ext g1_) 0 rfl rfl rfl rfl ?_
  refine RW.nil ?_
  refine WP.cond x1.Ack rfl (fun hc => ?_) (fun hc => ?_)
  · skip
    rw [if_pos hc] at hm
    refine WP.seq ?_
    refine WP.drawnM 0 mixed 17 (by kernel_rfl) (by kernel_rfl) [([], 131071), ([0], 131070), ([1], 131069), ([2], 131067), ([], 131071), ([4], 131055), ([5], 131039), ([6], 131007), ([3, 7], 130935), ([8, 8], 130815), ([9], 130559), ([10, 9], 129535), ([11, 9], 128511), ([12, 9], 126463), ([13, 9], 122367), ([9, 14], 114175), ([15, 9, 0, 1, 2, 3, 4, 5, 6, 7, 8, 9, 10, 11, 12, 13, 14, 15], 98303)] (by kernel_rfl) (fun hsk15 => ?_)
    have hS16 := hS.step (Ext.draw _)
    refine DM.run (fuel := 11) ttok hsk15 [0, 1, 2, 4, 5, 6] 119 (by kernel_rfl) (by kernel_rfl) rfl ?_
    refine DM.weak [(1, .pointer (some p1_)), (4, .bool false), (11, .pointer (some (p1_.add 1))), (15, .pointer (some (p0_.add 4)))] ⟨rfl, rfl, rfl, rfl, trivial⟩ ?_
    refine DM.load1 ttok hsk15 3 127 (by kernel_rfl) (by kernel_rfl) (by kernel_rfl) (by kernel_rfl) rfl (by kernel_rfl) rfl rfl rfl rfl rfl (At.ext hS.ext g1_) 1 rfl rfl rfl rfl ?_
    refine DM.load1 ttok hsk15 7 255 (by kernel_rfl) (by kernel_rfl) (by kernel_rfl) (by kernel_rfl) rfl (by kernel_rfl) rfl rfl rfl rfl rfl (At.ext hS.ext g0_) 4 rfl rfl rfl rfl ?_
    obtain ⟨r17, hx18, hm⟩ := bind_some hm
    refine DM.one hsk15 8 (by kernel_rfl) (LM.call hsk15 511 (by kernel_rfl) (by kernel_rfl) rfl rfl rfl rfl enters67 (spec_l00In_ok  hx18) (fun v19 w20 hR21 => ?_))
    obtain ⟨rfl, hR22⟩ := hR21
    refine ⟨hR22.ext, ?_⟩
    have hS23 := hS16.join hR22
    refine DM.run (fuel := 7) ttok hsk15 [9] 1023 (by kernel_rfl) (by kernel_rfl) rfl ?_
    by_cases hg24 : r17 = true
    · skip
      rw [if_pos hg24] at hm
      refine DM.know 18 rfl (congrArg Value.bool hg24) ?_
      refine DM.run (fuel := 4) ttok hsk15 [10, 11, 12] 8191 (by kernel_rfl) (by kernel_rfl) rfl ?_
      refine DM.weak [(4, .bool false), (18, .bool true), (21, .pointer (some (p1_.add 2)))] ⟨rfl, rfl, rfl, trivial⟩ ?_
      refine DM.load1 ttok hsk15 13 16383 (by kernel_rfl) (by kernel_rfl) (by kernel_rfl) (by kernel_rfl) rfl (by kernel_rfl) rfl rfl rfl rfl rfl (At.ext hS.ext g1_) 2 rfl rfl rfl rfl ?_
      refine DM.run (fuel := 0) ttok hsk15 [14, 15, 16] 131071 (by kernel_rfl) (by kernel_rfl) rfl ?_
      refine DM.done hsk15 (by kernel_rfl) ?_
      refine WP.ret ?_
      cases hm
      exact ⟨_, .cons (.tmp rfl) .nil, rfl, hS23⟩
    · skip
      rw [if_neg hg24] at hm
      refine DM.know 18 rfl (congrArg Value.bool (Bool.eq_false_iff.2 hg24)) ?_
      refine DM.run (fuel := 0) ttok hsk15 [10, 11, 12, 13, 14, 15, 16] 131071 (by kernel_rfl) (by kernel_rfl) rfl ?_
      refine DM.weak [(4, .bool false)] ⟨rfl, trivial⟩ ?_
      refine DM.done hsk15 (by kernel_rfl) ?_
      refine WP.ret ?_
      cases hm
      exact ⟨_, .cons (.tmp rfl) .nil, rfl, hS23⟩
  · skip
    rw [if_neg (not_t hc)] at hm
    refine WP.skip ?_
    refine WP.seq ?_
    refine WP.drawnM 0 mixed 28 (by kernel_rfl) (by kernel_rfl) [([], 268435455), ([0], 268435454), ([1], 268435453), ([2], 268435451), ([], 268435455), ([4], 268435439), ([5], 268435423), ([6], 268435391), ([7], 268435327), ([3, 8], 268435191), ([9, 9], 268434943), ([10], 268434431), ([11, 10], 268432383), ([12, 10], 268430335), ([13, 10], 268426239), ([10], 268434431), ([15, 10], 268401663), ([16, 10], 268368895), ([17, 10], 268303359), ([10], 268434431), ([19, 10], 267910143), ([20, 10], 267385855), ([21, 10], 266337279), ([18, 22, 10], 263977983), ([23, 10], 260045823), ([14, 24, 10], 251640831), ([10, 25], 234879999), ([26, 10, 0, 1, 2, 3, 4, 5, 6, 7, 8, 9, 10, 11, 12, 13, 14, 15, 16, 17, 18, 19, 20, 21, 22, 23, 24, 25, 26], 201326591)] (by kernel_rfl) (fun hsk25 => ?_)
    have hS26 := hS.step (Ext.draw _)
    refine DM.run (fuel := 22) ttok hsk25 [0, 1, 2, 4, 5, 6] 119 (by kernel_rfl) (by kernel_rfl) rfl ?_
    refine DM.weak [(0, .pointer (some p0_)), (1, .pointer (some p1_)), (4, .bool false), (27, .pointer (some (p1_.add 1))), (31, .pointer (some (p0_.add 3)))] ⟨rfl, rfl, rfl, rfl, rfl, trivial⟩ ?_
    refine DM.load1 ttok hsk25 3 127 (by kernel_rfl) (by kernel_rfl) (by kernel_rfl) (by kernel_rfl) rfl (by kernel_rfl) rfl rfl rfl rfl rfl (At.ext hS.ext g1_) 1 rfl rfl rfl rfl ?_
    refine DM.load1 ttok hsk25 7 255 (by kernel_rfl) (by kernel_rfl) (by kernel_rfl) (by kernel_rfl) rfl (by kernel_rfl) rfl rfl rfl rfl rfl (At.ext hS.ext g0_) 3 rfl rfl rfl rfl ?_
    refine DM.run (fuel := 19) ttok hsk25 [8] 511 (by kernel_rfl) (by kernel_rfl) rfl ?_
    obtain ⟨r27, hx28, hm⟩ := bind_some hm
    refine DM.one hsk25 9 (by kernel_rfl) (LM.call hsk25 1023 (by kernel_rfl) (by kernel_rfl) rfl rfl rfl rfl enters67 (spec_l00In_ok  hx28) (fun v29 w30 hR31 => ?_))
    obtain ⟨rfl, hR32⟩ := hR31
    refine ⟨hR32.ext, ?_⟩
    have hS33 := hS26.join hR32
    refine DM.run (fuel := 17) ttok hsk25 [10] 2047 (by kernel_rfl) (by kernel_rfl) rfl ?_
    refine DM.weak [(0, .pointer (some p0_)), (1, .pointer (some p1_)), (4, .bool false), (35, .bool r27)] ⟨rfl, rfl, rfl, rfl, trivial⟩ ?_
    by_cases hg34 : r27 = true
    · skip
      rw [if_pos hg34] at hm
      refine DM.know 35 rfl (congrArg Value.bool hg34) ?_
      refine DM.run (fuel := 8) ttok hsk25 [11, 12, 13, 15, 16, 17, 19, 20, 21] 3915775 (by kernel_rfl) (by kernel_rfl) rfl ?_
      refine DM.weak [(4, .bool false), (35, .bool true), (38, .pointer (some (p1_.add 2))), (42, .pointer (some (p0_.add 1))), (46, .pointer (some (p1_.add 1)))] ⟨rfl, rfl, rfl, rfl, rfl, trivial⟩ ?_
      refine DM.load1 ttok hsk25 14 3932159 (by kernel_rfl) (by kernel_rfl) (by kernel_rfl) (by kernel_rfl) rfl (by kernel_rfl) rfl rfl rfl rfl rfl (At.ext hS.ext g1_) 2 rfl rfl rfl rfl ?_
      refine DM.load1 ttok hsk25 18 4194303 (by kernel_rfl) (by kernel_rfl) (by kernel_rfl) (by kernel_rfl) rfl (by kernel_rfl) rfl rfl rfl rfl rfl (At.ext hS.ext g0_) 1 rfl rfl rfl rfl ?_
      refine DM.load1 ttok hsk25 22 8388607 (by kernel_rfl) (by kernel_rfl) (by kernel_rfl) (by kernel_rfl) rfl (by kernel_rfl) rfl rfl rfl rfl rfl (At.ext hS.ext g1_) 1 rfl rfl rfl rfl ?_
      obtain ⟨x35, hx36, hm⟩ := bind_some hm
      refine DM.idx ttok hS.ext hsk25 23 16777215 (by kernel_rfl) (by kernel_rfl) (by kernel_rfl) (by kernel_rfl) rfl (by kernel_rfl) rfl rfl rfl rfl rfl rfl (by decide) rfl rfl h3 (idx_some hx36).1 (idx_some hx36).2 rfl rfl (fun p37 es38 ha39 hr40 => ?_)
      cases hr40
      refine DM.load1 ttok hsk25 24 33554431 (by kernel_rfl) (by kernel_rfl) (by kernel_rfl) (by kernel_rfl) rfl (by kernel_rfl) rfl rfl rfl rfl rfl (At.ext hS.ext ha39) 0 rfl rfl rfl rfl ?_
      refine DM.run (fuel := 0) ttok hsk25 [25, 26, 27] 268435455 (by kernel_rfl) (by kernel_rfl) rfl ?_
      refine DM.weak [(4, .bool (seqb x1.Text x35))] ⟨rfl, trivial⟩ ?_
      refine DM.done hsk25 (by kernel_rfl) ?_
      refine WP.ret ?_
      cases hm
      exact ⟨_, .cons (.tmp rfl) .nil, rfl, hS33⟩
    · skip
      rw [if_neg hg34] at hm
      refine DM.know 35 rfl (congrArg Value.bool (Bool.eq_false_iff.2 hg34)) ?_
      refine DM.run (fuel := 0) ttok hsk25 [11, 12, 13, 14, 15, 16, 17, 18, 19, 20, 21, 22, 23, 24, 25, 26, 27] 268435455 (by kernel_rfl) (by kernel_rfl) rfl ?_
      refine DM.weak [(4, .bool false)] ⟨rfl, trivial⟩ ?_
      refine DM.done hsk25 (by kernel_rfl) ?_
      refine WP.ret ?_
      cases hm
      exact ⟨_, .cons (.tmp rfl) .nil, rfl, hS33⟩

theorem enters81 : Enters Try.prog 81 := ⟨_, _, Try.func81, rfl, by kernel_rfl⟩
def m_spec_l28Ok_j5 (fuel : Nat) (t55 : Unit) : Option Bool := some true
def m_spec_l28Ok_b4 (fuel : Nat) (x0 : D.Channel) (s54 : Int) : Option (Rd (Int) (Unit) (Bool)) := (if (decide (s54 < (x0.Flight.length : Int))) = true then ((idx x0.Flight s54).bind fun x70 => ((m_spec_l28Flight fuel x0 x70).bind fun r77 => (if (!r77) = true then some (.ret false) else some (.next (w64 (s54 + 1)))))) else some (.brk ()))
def m_spec_l28Ok_j4 (fuel : Nat) (x0 : D.Channel) (t44 : Unit) : Option Bool := ((iter (m_spec_l28Ok_b4 fuel x0) fuel 0).bind fun o => aft o (m_spec_l28Ok_j5 fuel))
def m_spec_l28Ok_j6 (fuel : Nat) (s43 : Int × Int) (x89 : D.Packet) (t96 : Bool) : Option (Rd (Int × Int) (Unit) (Bool)) := (if t96 = true then some (.ret false) else some (.next (x89.Number, w64 (s43.2 + 1))))
def m_spec_l28Ok_b3 (fuel : Nat) (x0 : D.Channel) (s43 : Int × Int) : Option (Rd (Int × Int) (Unit) (Bool)) := (if (decide (s43.2 < (x0.Early.length : Int))) = true then ((idx x0.Early s43.2).bind fun x89 => (if x89.Ack = true then m_spec_l28Ok_j6 fuel s43 x89 true else (if (decide (x89.Number ≤ s43.1)) = true then m_spec_l28Ok_j6 fuel s43 x89 true else ((m_spec_l28Flight fuel x0 x89).bind fun r103 => m_spec_l28Ok_j6 fuel s43 x89 (!r103))))) else some (.brk ()))
def m_spec_l28Ok_j3 (fuel : Nat) (x0 : D.Channel) (t33 : Unit) : Option Bool := ((iter (m_spec_l28Ok_b3 fuel x0) fuel (x0.Expected, 0)).bind fun o => aft o (m_spec_l28Ok_j4 fuel x0))
def m_spec_l28Ok_b2 (fuel : Nat) (x0 : D.Channel) (s32 : Int) : Option (Rd (Int) (Unit) (Bool)) := (if (decide (s32 < (x0.Delivered.length : Int))) = true then ((idx x0.Delivered s32).bind fun x117 => ((idx x0.Messages s32).bind fun x123 => (if (!(seqb x117 x123)) = true then some (.ret false) else some (.next (w64 (s32 + 1)))))) else some (.brk ()))
def m_spec_l28Ok_j2 (fuel : Nat) (x0 : D.Channel) (t20 : Unit) : Option Bool := (if ((x0.Delivered.length : Int) != x0.Expected) = true then some false else ((iter (m_spec_l28Ok_b2 fuel x0) fuel 0).bind fun o => aft o (m_spec_l28Ok_j3 fuel x0)))
def m_spec_l28Ok_b1 (fuel : Nat) (x0 : D.Channel) (s19 : Int) : Option (Rd (Int) (Unit) (Bool)) := (if (decide (s19 < (x0.Messages.length : Int))) = true then ((idx x0.Messages s19).bind fun x134 => (if (decide ((x134.size : Int) > 40)) = true then some (.ret false) else some (.next (w64 (s19 + 1))))) else some (.brk ()))
def m_spec_l28Ok_j1 (fuel : Nat) (x0 : D.Channel) (t14 : Bool) : Option Bool := (if t14 = true then some false else ((iter (m_spec_l28Ok_b1 fuel x0) fuel 0).bind fun o => aft o (m_spec_l28Ok_j2 fuel x0)))
def m_spec_l28Ok (fuel : Nat) (x0 : D.Channel) : Option (Bool) := ((m_spec_l00In fuel x0.Window 1 8).bind fun r142 => (if (!r142) = true then m_spec_l28Ok_j1 fuel x0 true else (if (decide ((x0.Messages.length : Int) > 30)) = true then m_spec_l28Ok_j1 fuel x0 true else ((m_spec_l00In fuel x0.Base 0 (x0.Messages.length : Int)).bind fun r151 => (if (!r151) = true then m_spec_l28Ok_j1 fuel x0 true else ((m_spec_l00In fuel x0.Next x0.Base (x0.Messages.length : Int)).bind fun r159 => (if (!r159) = true then m_spec_l28Ok_j1 fuel x0 true else (if (decide ((w64 (x0.Next - x0.Base)) > x0.Window)) = true then m_spec_l28Ok_j1 fuel x0 true else ((m_spec_l00In fuel x0.Expected x0.Base x0.Next).bind fun r168 => (if (!r168) = true then m_spec_l28Ok_j1 fuel x0 true else m_spec_l28Ok_j1 fuel x0 (decide ((x0.Flight.length : Int) > 60))))))))))))

set_option maxRecDepth 100000 in
theorem spec_l28Ok_ok {w : World} {p0_ : Addr} {c0_ : List Value} {x0 : D.Channel} (h0_ : ty39.ro w c0_ x0) (g0_ : At w p0_ c0_) {fuel : Nat} {r : Bool} (hm : m_spec_l28Ok fuel x0 = some r) :
    Calls Try.prog 81 ⟨[.pointer (some p0_)]⟩ w (Ret fun v w8 => v = .bool r ∧ St w w8 []) := by
  obtain ⟨A1, k2, A4, k5, A7, k8, A10, k11, e13, h3, h6, h9, h12⟩ := ty39_open h0_; subst e13
  refine Calls.into Try.func81 rfl 194 rfl rfl _ rfl ?_
  unfold m_spec_l28Ok at hm
  have hS := St.start w
  refine WP.seq ?_
  refine WP.region ?_
  refine RW.run ttok 1 rfl ?_
  refine RW.nil ?_
  refine WP.seq ?_
  refine WP.region ?_
  refine RW.run ttok 3 rfl ?_
  refine RW.load1 ttok rfl rfl rfl rfl rfl (At.ext hS.ext g0_) 1 rfl rfl rfl rfl ?_
  refine RW.run ttok 2 rfl ?_
  refine RW.nil ?_
  refine WP.seq ?_
  refine WP.seq ?_
  refine WP.cut (fun (t14 : Bool) F w9 => m_spec_l28Ok_j1 fuel x0 t14 = some r ∧ Ext w w9 ∧ St w w9 [] ∧ F = [(0, .pointer (some p0_)), (3, .int .i64 (x0.Messages.length : Int)), (86, .bool t14)]) ?_ ?_
  · skip
    rintro t14 F w17 ⟨hm, hE15, hS16, rfl⟩
    unfold m_spec_l28Ok_j1 at hm
    refine WP.cond t14 rfl (fun hc => ?_) (fun hc => ?_)
    · skip
      rw [if_pos hc] at hm
      refine WP.seq ?_
      refine WP.region ?_
      refine RW.run ttok 1 rfl ?_
      refine RW.nil ?_
      refine WP.ret ?_
      cases hm
      exact ⟨_, .cons (.tmp rfl) .nil, rfl, hS16⟩
    · skip
      rw [if_neg (not_t hc)] at hm
      refine WP.skip ?_
      refine WP.seq ?_
      refine WP.seq ?_
      refine WP.region ?_
      refine RW.run ttok 1 rfl ?_
      refine RW.nil ?_
      obtain ⟨o26, hl27, hm⟩ := bind_some hm
      refine WP.cut (fun (t20 : Unit) F w9 => o26 = .inl t20 ∧ Ext w17 w9 ∧ St w w9 [] ∧ F = [(0, .pointer (some p0_))]) ?_ ?_
      · skip
        rintro t20 F w25 ⟨ho29, hE24, hS28, rfl⟩
        subst ho29
        rw [aft_inl] at hm
        unfold m_spec_l28Ok_j2 at hm
        refine WP.seq ?_
        refine WP.seq ?_
        refine WP.drawnM 0 mixed 10 (by kernel_rfl) (by kernel_rfl) [([], 1023), ([0], 1022), ([1], 1021), ([2], 1019), ([3], 1015), ([], 1023), ([5], 991), ([6], 959), ([7], 895), ([4, 8], 751)] (by kernel_rfl) (fun hsk30 => ?_)
        have hS31 := hS28.step (Ext.draw _)
        refine DM.run (fuel := 4) ttok hsk30 [0, 1, 2, 5, 6, 7] 231 (by kernel_rfl) (by kernel_rfl) rfl ?_
        refine DM.load1 ttok hsk30 3 239 (by kernel_rfl) (by kernel_rfl) (by kernel_rfl) (by kernel_rfl) rfl (by kernel_rfl) rfl rfl rfl rfl rfl (At.ext hS28.ext g0_) 6 rfl rfl rfl rfl ?_
        refine DM.run (fuel := 2) ttok hsk30 [4] 255 (by kernel_rfl) (by kernel_rfl) rfl ?_
        refine DM.weak [(0, .pointer (some p0_)), (105, .int .i64 (x0.Delivered.length : Int)), (108, .pointer (some (p0_.add 4)))] ⟨rfl, rfl, rfl, trivial⟩ ?_
        refine DM.load1 ttok hsk30 8 511 (by kernel_rfl) (by kernel_rfl) (by kernel_rfl) (by kernel_rfl) rfl (by kernel_rfl) rfl rfl rfl rfl rfl (At.ext hS28.ext g0_) 4 rfl rfl rfl rfl ?_
        refine DM.run (fuel := 0) ttok hsk30 [9] 1023 (by kernel_rfl) (by kernel_rfl) rfl ?_
        refine DM.done hsk30 (by kernel_rfl) ?_
        refine WP.cond ((x0.Delivered.length : Int) != x0.Expected) rfl (fun hc => ?_) (fun hc => ?_)
        · skip
          rw [if_pos hc] at hm
          refine WP.seq ?_
          refine WP.region ?_
          refine RW.run ttok 1 rfl ?_
          refine RW.nil ?_
          refine WP.ret ?_
          cases hm
          exact ⟨_, .cons (.tmp rfl) .nil, rfl, hS31⟩
        · skip
          rw [if_neg (not_t hc)] at hm
          refine WP.skip ?_
          refine WP.seq ?_
          refine WP.seq ?_
          refine WP.region ?_
          refine RW.run ttok 1 rfl ?_
          refine RW.nil ?_
          obtain ⟨o39, hl40, hm⟩ := bind_some hm
          refine WP.cut (fun (t33 : Unit) F w9 => o39 = .inl t33 ∧ Ext ({ w25 with drawn := w25.drawn + 1 }) w9 ∧ St w w9 [] ∧ F = [(0, .pointer (some p0_))]) ?_ ?_
          · skip
            rintro t33 F w38 ⟨ho42, hE37, hS41, rfl⟩
            subst ho42
            rw [aft_inl] at hm
            unfold m_spec_l28Ok_j3 at hm
            refine WP.seq ?_
            refine WP.region ?_
            refine RW.run ttok 3 rfl ?_
            refine RW.load1 ttok rfl rfl rfl rfl rfl (At.ext hS41.ext g0_) 4 rfl rfl rfl rfl ?_
            refine RW.run ttok 1 rfl ?_
            refine RW.nil ?_
            refine WP.seq ?_
            refine WP.seq ?_
            refine WP.region ?_
            refine RW.run ttok 1 rfl ?_
            refine RW.nil ?_
            obtain ⟨o50, hl51, hm⟩ := bind_some hm
            refine WP.cut (fun (t44 : Unit) F w9 => o50 = .inl t44 ∧ Ext w38 w9 ∧ St w w9 [] ∧ F = [(0, .pointer (some p0_))]) ?_ ?_
            · skip
              rintro t44 F w49 ⟨ho53, hE48, hS52, rfl⟩
              subst ho53
              rw [aft_inl] at hm
              unfold m_spec_l28Ok_j4 at hm
              refine WP.seq ?_
              refine WP.seq ?_
              refine WP.region ?_
              refine RW.run ttok 1 rfl ?_
              refine RW.nil ?_
              obtain ⟨o61, hl62, hm⟩ := bind_some hm
              refine WP.cut (fun (t55 : Unit) F w9 => o61 = .inl t55 ∧ Ext w49 w9 ∧ St w w9 [] ∧ F = []) ?_ ?_
              · skip
                rintro t55 F w60 ⟨ho64, hE59, hS63, rfl⟩
                subst ho64
                rw [aft_inl] at hm
                unfold m_spec_l28Ok_j5 at hm
                refine WP.seq ?_
                refine WP.region ?_
                refine RW.run ttok 1 rfl ?_
                refine RW.nil ?_
                refine WP.ret ?_
                cases hm
                exact ⟨_, .cons (.tmp rfl) .nil, rfl, hS63⟩
              · skip
                refine WP.block ?_
                refine WP.weak [(0, .pointer (some p0_)), (9, .int .i64 0)] ⟨rfl, rfl, trivial⟩ ?_
                refine WP.iter (fun (s54 : Int) F w9 => Ext w49 w9 ∧ St w w9 [] ∧ F = [(0, .pointer (some p0_)), (9, .int .i64 s54)]) _ hl62 ⟨(Ext.refl _), hS52, rfl⟩ ?_
                rintro s54 F w69 _ o67 ⟨hE58, hS68, rfl⟩ hb65 ho66
                unfold m_spec_l28Ok_b4 at hb65
                refine WP.seq ?_
                refine WP.seq ?_
                refine WP.region ?_
                refine RW.run ttok 4 rfl ?_
                refine RW.load1 ttok rfl rfl rfl rfl rfl (At.ext hS68.ext g0_) 7 rfl rfl rfl rfl ?_
                refine RW.run ttok 2 rfl ?_
                refine RW.nil ?_
                refine WP.cond (decide (s54 < (x0.Flight.length : Int))) rfl (fun hc => ?_) (fun hc => ?_)
                · skip
                  rw [if_pos hc] at hb65
                  refine WP.skip ?_
                  refine WP.seq ?_
                  refine WP.block ?_
                  refine WP.seq ?_
                  refine WP.region ?_
                  refine RW.run ttok 4 rfl ?_
                  refine RW.load1 ttok rfl rfl rfl rfl rfl (At.ext hS68.ext g0_) 7 rfl rfl rfl rfl ?_
                  refine RW.run ttok 1 rfl ?_
                  obtain ⟨x70, hx71, hb65⟩ := bind_some hb65
                  refine RW.idx ttok hS68.ext rfl rfl rfl rfl rfl rfl (by decide) rfl rfl h12 (idx_some hx71).1 (idx_some hx71).2 rfl rfl (fun p72 es73 ha74 hr75 => ?_)
                  have e76 := ty126_open hr75; subst e76
                  obtain ⟨r77, hx78, hb65⟩ := bind_some hb65
                  refine RW.call rfl rfl rfl enters137 (spec_l28Flight_ok (ty39.ext hS68.ext h0_) (At.ext hS68.ext g0_) (ty126.ext hS68.ext hr75) (At.ext hS68.ext ha74) hx78) (fun v79 w80 hR81 => ?_)
                  obtain ⟨rfl, hR82⟩ := hR81
                  have hS83 := hS68.join hR82
                  refine RW.run ttok 1 rfl ?_
                  refine RW.nil ?_
                  refine WP.cond (!r77) rfl (fun hc => ?_) (fun hc => ?_)
                  · skip
                    rw [if_pos hc] at hb65
                    refine WP.seq ?_
                    refine WP.region ?_
                    refine RW.run ttok 1 rfl ?_
                    refine RW.nil ?_
                    refine WP.ret ?_
                    cases hb65
                    cases ho66
                    have hm : some _ = some _ := hm
                    cases hm
                    exact ⟨_, .cons (.tmp rfl) .nil, rfl, hS83⟩
                  · skip
                    rw [if_neg (not_t hc)] at hb65
                    refine WP.skip ?_
                    refine WP.region ?_
                    refine RW.run ttok 3 rfl ?_
                    refine RW.nil ?_
                    cases hb65
                    exact ⟨_, [(0, .pointer (some p0_)), (9, .int .i64 (w64 (s54 + 1)))], ⟨rfl, rfl, trivial⟩, rfl, (hE58.trans hR82.ext), hS83, rfl⟩
                · skip
                  rw [if_neg (not_t hc)] at hb65
                  refine WP.exit ?_
                  cases hb65
                  exact ⟨_, [], trivial, ho66, hE58, hS68, rfl⟩
            · skip
              refine WP.block ?_
              refine WP.weak [(0, .pointer (some p0_)), (6, .int .i64 x0.Expected), (7, .int .i64 0)] ⟨rfl, rfl, rfl, trivial⟩ ?_
              refine WP.iter (fun (s43 : Int × Int) F w9 => Ext w38 w9 ∧ St w w9 [] ∧ F = [(0, .pointer (some p0_)), (6, .int .i64 s43.1), (7, .int .i64 s43.2)]) _ hl51 ⟨(Ext.refl _), hS41, rfl⟩ ?_
              rintro s43 F w88 _ o86 ⟨hE47, hS87, rfl⟩ hb84 ho85
              unfold m_spec_l28Ok_b3 at hb84
              refine WP.seq ?_
              refine WP.seq ?_
              refine WP.region ?_
              refine RW.run ttok 4 rfl ?_
              refine RW.load1 ttok rfl rfl rfl rfl rfl (At.ext hS87.ext g0_) 5 rfl rfl rfl rfl ?_
              refine RW.run ttok 2 rfl ?_
              refine RW.nil ?_
              refine WP.cond (decide (s43.2 < (x0.Early.length : Int))) rfl (fun hc => ?_) (fun hc => ?_)
              · skip
                rw [if_pos hc] at hb84
                refine WP.skip ?_
                refine WP.seq ?_
                refine WP.block ?_
                refine WP.seq ?_
                refine WP.region ?_
                refine RW.run ttok 3 rfl ?_
                refine RW.load1 ttok rfl rfl rfl rfl rfl (At.ext hS87.ext g0_) 5 rfl rfl rfl rfl ?_
                refine RW.run ttok 1 rfl ?_
                obtain ⟨x89, hx90, hb84⟩ := bind_some hb84
                refine RW.idx ttok hS87.ext rfl rfl rfl rfl rfl rfl (by decide) rfl rfl h6 (idx_some hx90).1 (idx_some hx90).2 rfl rfl (fun p91 es92 ha93 hr94 => ?_)
                have e95 := ty126_open hr94; subst e95
                refine RW.run ttok 1 rfl ?_
                refine RW.nil ?_
                refine WP.seq ?_
                refine WP.seq ?_
                refine WP.cut (fun (t96 : Bool) F w9 => m_spec_l28Ok_j6 fuel s43 x89 t96 = some o86 ∧ Ext w88 w9 ∧ St w w9 [] ∧ F = [(0, .pointer (some p0_)), (7, .int .i64 s43.2), (8, .pointer (some p91)), (171, .bool t96)]) ?_ ?_
                · skip
                  rintro t96 F w99 ⟨hb84, hE97, hS98, rfl⟩
                  unfold m_spec_l28Ok_j6 at hb84
                  refine WP.cond t96 rfl (fun hc => ?_) (fun hc => ?_)
                  · skip
                    rw [if_pos hc] at hb84
                    refine WP.seq ?_
                    refine WP.region ?_
                    refine RW.run ttok 1 rfl ?_
                    refine RW.nil ?_
                    refine WP.ret ?_
                    cases hb84
                    cases ho85
                    have hm : some _ = some _ := hm
                    cases hm
                    exact ⟨_, .cons (.tmp rfl) .nil, rfl, hS98⟩
                  · skip
                    rw [if_neg (not_t hc)] at hb84
                    refine WP.skip ?_
                    refine WP.region ?_
                    refine RW.run ttok 3 rfl ?_
                    refine RW.load1 ttok rfl rfl rfl rfl rfl (At.ext hS98.ext ha93) 1 rfl rfl rfl rfl ?_
                    refine RW.run ttok 1 rfl ?_
                    refine RW.nil ?_
                    refine WP.region ?_
                    refine RW.run ttok 3 rfl ?_
                    refine RW.nil ?_
                    cases hb84
                    exact ⟨_, [(0, .pointer (some p0_)), (6, .int .i64 x89.Number), (7, .int .i64 (w64 (s43.2 + 1)))], ⟨rfl, rfl, rfl, trivial⟩, rfl, (hE47.trans hE97), hS98, rfl⟩
                · skip
                  refine WP.region ?_
                  refine RW.run ttok 3 rfl ?_
                  refine RW.load1 ttok rfl rfl rfl rfl rfl (At.ext hS87.ext ha93) 0 rfl rfl rfl rfl ?_
                  refine RW.run ttok 1 rfl ?_
                  by_cases hg101 : x89.Ack = true
                  · skip
                    rw [if_pos hg101] at hb84
                    refine RW.know 158 rfl (congrArg Value.bool hg101) ?_
                    refine RW.run ttok 13 rfl ?_
                    refine RW.nil ?_
                    exact ⟨true, [(0, .pointer (some p0_)), (7, .int .i64 s43.2), (8, .pointer (some p91)), (171, .bool true)], ⟨rfl, rfl, rfl, rfl, trivial⟩, hb84, (Ext.refl _), hS87, rfl⟩
                  · skip
                    rw [if_neg hg101] at hb84
                    refine RW.know 158 rfl (congrArg Value.bool (Bool.eq_false_iff.2 hg101)) ?_
                    refine RW.run ttok 3 rfl ?_
                    refine RW.load1 ttok rfl rfl rfl rfl rfl (At.ext hS87.ext ha93) 1 rfl rfl rfl rfl ?_
                    refine RW.run ttok 4 rfl ?_
                    by_cases hg102 : (decide (x89.Number ≤ s43.1)) = true
                    · skip
                      rw [if_pos hg102] at hb84
                      refine RW.know 166 rfl (congrArg Value.bool hg102) ?_
                      refine RW.run ttok 5 rfl ?_
                      refine RW.nil ?_
                      exact ⟨true, [(0, .pointer (some p0_)), (7, .int .i64 s43.2), (8, .pointer (some p91)), (171, .bool true)], ⟨rfl, rfl, rfl, rfl, trivial⟩, hb84, (Ext.refl _), hS87, rfl⟩
                    · skip
                      rw [if_neg hg102] at hb84
                      refine RW.know 166 rfl (congrArg Value.bool (Bool.eq_false_iff.2 hg102)) ?_
                      refine RW.run ttok 2 rfl ?_
                      obtain ⟨r103, hx104, hb84⟩ := bind_some hb84
                      refine RW.call rfl rfl rfl enters137 (spec_l28Flight_ok (ty39.ext hS87.ext h0_) (At.ext hS87.ext g0_) (ty126.ext hS87.ext hr94) (At.ext hS87.ext ha93) hx104) (fun v105 w106 hR107 => ?_)
                      obtain ⟨rfl, hR108⟩ := hR107
                      have hS109 := hS87.join hR108
                      refine RW.run ttok 2 rfl ?_
                      refine RW.nil ?_
                      exact ⟨!r103, [(0, .pointer (some p0_)), (7, .int .i64 s43.2), (8, .pointer (some p91)), (171, .bool (!r103))], ⟨rfl, rfl, rfl, rfl, trivial⟩, hb84, hR108.ext, hS109, rfl⟩
              · skip
                rw [if_neg (not_t hc)] at hb84
                refine WP.exit ?_
                cases hb84
                exact ⟨_, [(0, .pointer (some p0_))], ⟨rfl, trivial⟩, ho85, hE47, hS87, rfl⟩
          · skip
            refine WP.block ?_
            refine WP.weak [(0, .pointer (some p0_)), (5, .int .i64 0)] ⟨rfl, rfl, trivial⟩ ?_
            refine WP.iter (fun (s32 : Int) F w9 => Ext ({ w25 with drawn := w25.drawn + 1 }) w9 ∧ St w w9 [] ∧ F = [(0, .pointer (some p0_)), (5, .int .i64 s32)]) _ hl40 ⟨(Ext.refl _), hS31, rfl⟩ ?_
            rintro s32 F w114 _ o112 ⟨hE36, hS113, rfl⟩ hb110 ho111
            unfold m_spec_l28Ok_b2 at hb110
            refine WP.seq ?_
            refine WP.seq ?_
            refine WP.region ?_
            refine RW.run ttok 4 rfl ?_
            refine RW.load1 ttok rfl rfl rfl rfl rfl (At.ext hS113.ext g0_) 6 rfl rfl rfl rfl ?_
            refine RW.run ttok 2 rfl ?_
            refine RW.nil ?_
            refine WP.cond (decide (s32 < (x0.Delivered.length : Int))) rfl (fun hc => ?_) (fun hc => ?_)
            · skip
              rw [if_pos hc] at hb110
              refine WP.skip ?_
              refine WP.seq ?_
              refine WP.block ?_
              refine WP.seq ?_
              refine WP.drawnM 0 mixed 15 (by kernel_rfl) (by kernel_rfl) [([], 32767), ([0], 32766), ([1], 32765), ([2], 32763), ([], 32767), ([3, 4], 32743), ([5], 32735), ([], 32767), ([7], 32639), ([8], 32511), ([9], 32255), ([], 32767), ([10, 11], 29695), ([12], 28671), ([6, 13], 24511)] (by kernel_rfl) (fun hsk115 => ?_)
              have hS116 := hS113.step (Ext.draw _)
              refine DM.run (fuel := 7) ttok hsk115 [0, 1, 2, 4, 7, 8, 9, 11] 2967 (by kernel_rfl) (by kernel_rfl) rfl ?_
              refine DM.weak [(0, .pointer (some p0_)), (5, .int .i64 s32), (122, .pointer (some (p0_.add 6))), (124, .int .i64 s32), (129, .pointer (some (p0_.add 1))), (131, .int .i64 s32)] ⟨rfl, rfl, rfl, rfl, rfl, rfl, trivial⟩ ?_
              refine DM.load1 ttok hsk115 3 2975 (by kernel_rfl) (by kernel_rfl) (by kernel_rfl) (by kernel_rfl) rfl (by kernel_rfl) rfl rfl rfl rfl rfl (At.ext hS113.ext g0_) 6 rfl rfl rfl rfl ?_
              obtain ⟨x117, hx118, hb110⟩ := bind_some hb110
              refine DM.idx ttok hS113.ext hsk115 5 3007 (by kernel_rfl) (by kernel_rfl) (by kernel_rfl) (by kernel_rfl) rfl (by kernel_rfl) rfl rfl rfl rfl rfl rfl (by decide) rfl rfl h9 (idx_some hx118).1 (idx_some hx118).2 rfl rfl (fun p119 es120 ha121 hr122 => ?_)
              cases hr122
              refine DM.load1 ttok hsk115 6 3071 (by kernel_rfl) (by kernel_rfl) (by kernel_rfl) (by kernel_rfl) rfl (by kernel_rfl) rfl rfl rfl rfl rfl (At.ext hS113.ext ha121) 0 rfl rfl rfl rfl ?_
              refine DM.load1 ttok hsk115 10 4095 (by kernel_rfl) (by kernel_rfl) (by kernel_rfl) (by kernel_rfl) rfl (by kernel_rfl) rfl rfl rfl rfl rfl (At.ext hS113.ext g0_) 1 rfl rfl rfl rfl ?_
              obtain ⟨x123, hx124, hb110⟩ := bind_some hb110
              refine DM.idx ttok hS113.ext hsk115 12 8191 (by kernel_rfl) (by kernel_rfl) (by kernel_rfl) (by kernel_rfl) rfl (by kernel_rfl) rfl rfl rfl rfl rfl rfl (by decide) rfl rfl h3 (idx_some hx124).1 (idx_some hx124).2 rfl rfl (fun p125 es126 ha127 hr128 => ?_)
              cases hr128
              refine DM.load1 ttok hsk115 13 16383 (by kernel_rfl) (by kernel_rfl) (by kernel_rfl) (by kernel_rfl) rfl (by kernel_rfl) rfl rfl rfl rfl rfl (At.ext hS113.ext ha127) 0 rfl rfl rfl rfl ?_
              refine DM.run (fuel := 0) ttok hsk115 [14] 32767 (by kernel_rfl) (by kernel_rfl) rfl ?_
              refine DM.weak [(0, .pointer (some p0_)), (5, .int .i64 s32), (134, .bool (!(seqb x117 x123)))] ⟨rfl, rfl, rfl, trivial⟩ ?_
              refine DM.done hsk115 (by kernel_rfl) ?_
              refine WP.cond (!(seqb x117 x123)) rfl (fun hc => ?_) (fun hc => ?_)
              · skip
                rw [if_pos hc] at hb110
                refine WP.seq ?_
                refine WP.region ?_
                refine RW.run ttok 1 rfl ?_
                refine RW.nil ?_
                refine WP.ret ?_
                cases hb110
                cases ho111
                have hm : some _ = some _ := hm
                cases hm
                exact ⟨_, .cons (.tmp rfl) .nil, rfl, hS116⟩
              · skip
                rw [if_neg (not_t hc)] at hb110
                refine WP.skip ?_
                refine WP.region ?_
                refine RW.run ttok 3 rfl ?_
                refine RW.nil ?_
                cases hb110
                exact ⟨_, [(0, .pointer (some p0_)), (5, .int .i64 (w64 (s32 + 1)))], ⟨rfl, rfl, trivial⟩, rfl, (hE36.trans (Ext.draw _)), hS116, rfl⟩
            · skip
              rw [if_neg (not_t hc)] at hb110
              refine WP.exit ?_
              cases hb110
              exact ⟨_, [(0, .pointer (some p0_))], ⟨rfl, trivial⟩, ho111, hE36, hS113, rfl⟩
      · skip
        refine WP.block ?_
        refine WP.weak [(0, .pointer (some p0_)), (3, .int .i64 (x0.Messages.length : Int)), (4, .int .i64 0)] ⟨rfl, rfl, rfl, trivial⟩ ?_
        refine WP.iter (fun (s19 : Int) F w9 => Ext w17 w9 ∧ St w w9 [] ∧ F = [(0, .pointer (some p0_)), (3, .int .i64 (x0.Messages.length : Int)), (4, .int .i64 s19)]) _ hl27 ⟨(Ext.refl _), hS16, rfl⟩ ?_
        rintro s19 F w133 _ o131 ⟨hE23, hS132, rfl⟩ hb129 ho130
        unfold m_spec_l28Ok_b1 at hb129
        refine WP.seq ?_
        refine WP.seq ?_
        refine WP.region ?_
        refine RW.run ttok 3 rfl ?_
        refine RW.nil ?_
        refine WP.cond (decide (s19 < (x0.Messages.length : Int))) rfl (fun hc => ?_) (fun hc => ?_)
        · skip
          rw [if_pos hc] at hb129
          refine WP.skip ?_
          refine WP.seq ?_
          refine WP.block ?_
          refine WP.seq ?_
          refine WP.region ?_
          refine RW.run ttok 3 rfl ?_
          refine RW.load1 ttok rfl rfl rfl rfl rfl (At.ext hS132.ext g0_) 1 rfl rfl rfl rfl ?_
          refine RW.run ttok 1 rfl ?_
          obtain ⟨x134, hx135, hb129⟩ := bind_some hb129
          refine RW.idx ttok hS132.ext rfl rfl rfl rfl rfl rfl (by decide) rfl rfl h3 (idx_some hx135).1 (idx_some hx135).2 rfl rfl (fun p136 es137 ha138 hr139 => ?_)
          cases hr139
          refine RW.load1 ttok rfl rfl rfl rfl rfl (At.ext hS132.ext ha138) 0 rfl rfl rfl rfl ?_
          refine RW.run ttok 2 rfl ?_
          refine RW.nil ?_
          refine WP.cond (decide ((x134.size : Int) > 40)) rfl (fun hc => ?_) (fun hc => ?_)
          · skip
            rw [if_pos hc] at hb129
            refine WP.seq ?_
            refine WP.region ?_
            refine RW.run ttok 1 rfl ?_
            refine RW.nil ?_
            refine WP.ret ?_
            cases hb129
            cases ho130
            have hm : some _ = some _ := hm
            cases hm
            exact ⟨_, .cons (.tmp rfl) .nil, rfl, hS132⟩
          · skip
            rw [if_neg (not_t hc)] at hb129
            refine WP.skip ?_
            refine WP.region ?_
            refine RW.run ttok 3 rfl ?_
            refine RW.nil ?_
            cases hb129
            exact ⟨_, [(0, .pointer (some p0_)), (3, .int .i64 (x0.Messages.length : Int)), (4, .int .i64 (w64 (s19 + 1)))], ⟨rfl, rfl, rfl, trivial⟩, rfl, hE23, hS132, rfl⟩
        · skip
          rw [if_neg (not_t hc)] at hb129
          refine WP.exit ?_
          cases hb129
          exact ⟨_, [(0, .pointer (some p0_))], ⟨rfl, trivial⟩, ho130, hE23, hS132, rfl⟩
  · skip
    refine WP.drawnM 0 mixed 72 (by kernel_rfl) (by kernel_rfl) [([], 4722366482869645213695), ([0], 4722366482869645213694), ([1], 4722366482869645213693), ([2], 4722366482869645213691), ([3], 4722366482869645213687), ([4], 4722366482869645213679), ([5, 4], 4722366482869645213663), ([6], 4722366482869645213631), ([7, 6], 4722366482869645213503), ([6, 8], 4722366482869645213375), ([9, 6], 4722366482869645213183), ([10], 4722366482869645212671), ([11, 10], 4722366482869645210623), ([12, 10], 4722366482869645208575), ([13, 10], 4722366482869645204479), ([10], 4722366482869645212671), ([14, 15, 10, 10], 4722366482869645163519), ([16, 10], 4722366482869645147135), ([10, 17], 4722366482869645081599), ([18, 16], 4722366482869644951551), ([19], 4722366482869644689407), ([20, 19], 4722366482869643640831), ([21, 19], 4722366482869642592255), ([22, 19], 4722366482869640495103), ([19], 4722366482869644689407), ([24, 19], 4722366482869627912191), ([25, 19], 4722366482869611134975), ([26, 19], 4722366482869577580543), ([19], 4722366482869644689407), ([23, 27, 28, 19, 19], 4722366482869233647615), ([29, 19], 4722366482869107818495), ([19, 30], 4722366482868570947583), ([31, 29], 4722366482867497730047), ([32], 4722366482865350246399), ([33, 32], 4722366482856760311807), ([34, 32], 4722366482848170377215), ([35, 32], 4722366482830990508031), ([32], 4722366482865350246399), ([37, 32], 4722366482727911292927), ([38, 32], 4722366482590472339455), ([39, 32], 4722366482315594432511), ([36, 40, 32], 4722366481697119141887), ([32], 4722366482865350246399), ([42, 32], 4722366478467303735295), ([43, 32], 4722366474069257224191), ([44, 32], 4722366465273164201983), ([41, 45, 32], 4722366445481954902015), ([32, 46], 4722366412496606068735), ([47, 32], 4722366342132156858367), ([48], 4722366201394668503039), ([49, 48], 4722365638444715081727), ([50, 48], 4722365075494761660415), ([51, 48], 4722363949594854817791), ([48], 4722366201394668503039), ([53, 48], 4722357194195413762047), ([54, 48], 4722348186996159021055), ([55, 48], 4722330172597649539071), ([48], 4722366201394668503039), ([57, 48], 4722222086206592647167), ([58, 48], 4722077971018516791295), ([59, 48], 4721789740642365079551), ([52, 56, 60, 48, 48], 4721136718696396357631), ([61, 48], 4720060358385454809087), ([48, 62], 4717754515376241115135), ([63, 61], 4713143110832790437887), ([64], 4703919738795935662079), ([65, 64], 4667026250648516558847), ([66, 64], 4630132762501097455615), ([67, 64], 4556345786206259249151), ([68, 64], 4408771833616582836223), ([69, 64], 4113623928437230010367), ([64, 70], 3523328118078524358655)] (by kernel_rfl) (fun hsk140 => ?_)
    have hS141 := hS.step (Ext.draw _)
    refine DM.run (fuel := 69) ttok hsk140 [0, 1, 2] 7 (by kernel_rfl) (by kernel_rfl) rfl ?_
    refine DM.weak [(0, .pointer (some p0_)), (3, .int .i64 (x0.Messages.length : Int)), (17, .pointer (some p0_))] ⟨rfl, rfl, rfl, trivial⟩ ?_
    refine DM.load1 ttok hsk140 3 15 (by kernel_rfl) (by kernel_rfl) (by kernel_rfl) (by kernel_rfl) rfl (by kernel_rfl) rfl rfl rfl rfl rfl (At.ext hS.ext g0_) 0 rfl rfl rfl rfl ?_
    obtain ⟨r142, hx143, hm⟩ := bind_some hm
    refine DM.one hsk140 4 (by kernel_rfl) (LM.call hsk140 31 (by kernel_rfl) (by kernel_rfl) rfl rfl rfl rfl enters67 (spec_l00In_ok  hx143) (fun v144 w145 hR146 => ?_))
    obtain ⟨rfl, hR147⟩ := hR146
    refine ⟨hR147.ext, ?_⟩
    have hS148 := hS141.join hR147
    refine DM.run (fuel := 65) ttok hsk140 [5, 6] 127 (by kernel_rfl) (by kernel_rfl) rfl ?_
    by_cases hg149 : (!r142) = true
    · skip
      rw [if_pos hg149] at hm
      refine DM.know 21 rfl (congrArg Value.bool hg149) ?_
      refine DM.run (fuel := 0) ttok hsk140 [7, 8, 9, 10, 11, 12, 13, 14, 15, 16, 17, 18, 19, 20, 21, 22, 23, 24, 25, 26, 27, 28, 29, 30, 31, 32, 33, 34, 35, 36, 37, 38, 39, 40, 41, 42, 43, 44, 45, 46, 47, 48, 49, 50, 51, 52, 53, 54, 55, 56, 57, 58, 59, 60, 61, 62, 63, 64, 65, 66, 67, 68, 69, 70, 71] 4722366482869645213695 (by kernel_rfl) (by kernel_rfl) rfl ?_
      refine DM.weak [(0, .pointer (some p0_)), (3, .int .i64 (x0.Messages.length : Int)), (86, .bool true)] ⟨rfl, rfl, rfl, trivial⟩ ?_
      refine DM.done hsk140 (by kernel_rfl) ?_
      exact ⟨true, [(0, .pointer (some p0_)), (3, .int .i64 (x0.Messages.length : Int)), (86, .bool true)], ⟨rfl, rfl, rfl, trivial⟩, hm, ((Ext.draw _).trans hR147.ext), hS148, rfl⟩
    · skip
      rw [if_neg hg149] at hm
      refine DM.know 21 rfl (congrArg Value.bool (Bool.eq_false_iff.2 hg149)) ?_
      refine DM.run (fuel := 61) ttok hsk140 [7, 8, 9, 10] 2047 (by kernel_rfl) (by kernel_rfl) rfl ?_
      refine DM.weak [(0, .pointer (some p0_)), (3, .int .i64 (x0.Messages.length : Int)), (25, .bool (decide ((x0.Messages.length : Int) > 30)))] ⟨rfl, rfl, rfl, trivial⟩ ?_
      by_cases hg150 : (decide ((x0.Messages.length : Int) > 30)) = true
      · skip
        rw [if_pos hg150] at hm
        refine DM.know 25 rfl (congrArg Value.bool hg150) ?_
        refine DM.run (fuel := 0) ttok hsk140 [11, 12, 13, 14, 15, 16, 17, 18, 19, 20, 21, 22, 23, 24, 25, 26, 27, 28, 29, 30, 31, 32, 33, 34, 35, 36, 37, 38, 39, 40, 41, 42, 43, 44, 45, 46, 47, 48, 49, 50, 51, 52, 53, 54, 55, 56, 57, 58, 59, 60, 61, 62, 63, 64, 65, 66, 67, 68, 69, 70, 71] 4722366482869645213695 (by kernel_rfl) (by kernel_rfl) rfl ?_
        refine DM.weak [(0, .pointer (some p0_)), (3, .int .i64 (x0.Messages.length : Int)), (86, .bool true)] ⟨rfl, rfl, rfl, trivial⟩ ?_
        refine DM.done hsk140 (by kernel_rfl) ?_
        exact ⟨true, [(0, .pointer (some p0_)), (3, .int .i64 (x0.Messages.length : Int)), (86, .bool true)], ⟨rfl, rfl, rfl, trivial⟩, hm, ((Ext.draw _).trans hR147.ext), hS148, rfl⟩
      · skip
        rw [if_neg hg150] at hm
        refine DM.know 25 rfl (congrArg Value.bool (Bool.eq_false_iff.2 hg150)) ?_
        refine DM.run (fuel := 57) ttok hsk140 [11, 12, 13, 15] 49151 (by kernel_rfl) (by kernel_rfl) rfl ?_
        refine DM.load1 ttok hsk140 14 65535 (by kernel_rfl) (by kernel_rfl) (by kernel_rfl) (by kernel_rfl) rfl (by kernel_rfl) rfl rfl rfl rfl rfl (At.ext hS.ext g0_) 2 rfl rfl rfl rfl ?_
        obtain ⟨r151, hx152, hm⟩ := bind_some hm
        refine DM.one hsk140 16 (by kernel_rfl) (LM.call hsk140 131071 (by kernel_rfl) (by kernel_rfl) rfl rfl rfl rfl enters67 (spec_l00In_ok  hx152) (fun v153 w154 hR155 => ?_))
        obtain ⟨rfl, hR156⟩ := hR155
        refine ⟨hR156.ext, ?_⟩
        have hS157 := hS148.join hR156
        refine DM.run (fuel := 52) ttok hsk140 [17, 18, 19] 1048575 (by kernel_rfl) (by kernel_rfl) rfl ?_
        refine DM.weak [(0, .pointer (some p0_)), (3, .int .i64 (x0.Messages.length : Int)), (34, .bool (!r151))] ⟨rfl, rfl, rfl, trivial⟩ ?_
        by_cases hg158 : (!r151) = true
        · skip
          rw [if_pos hg158] at hm
          refine DM.know 34 rfl (congrArg Value.bool hg158) ?_
          refine DM.run (fuel := 0) ttok hsk140 [20, 21, 22, 23, 24, 25, 26, 27, 28, 29, 30, 31, 32, 33, 34, 35, 36, 37, 38, 39, 40, 41, 42, 43, 44, 45, 46, 47, 48, 49, 50, 51, 52, 53, 54, 55, 56, 57, 58, 59, 60, 61, 62, 63, 64, 65, 66, 67, 68, 69, 70, 71] 4722366482869645213695 (by kernel_rfl) (by kernel_rfl) rfl ?_
          refine DM.weak [(0, .pointer (some p0_)), (3, .int .i64 (x0.Messages.length : Int)), (86, .bool true)] ⟨rfl, rfl, rfl, trivial⟩ ?_
          refine DM.done hsk140 (by kernel_rfl) ?_
          exact ⟨true, [(0, .pointer (some p0_)), (3, .int .i64 (x0.Messages.length : Int)), (86, .bool true)], ⟨rfl, rfl, rfl, trivial⟩, hm, (((Ext.draw _).trans hR147.ext).trans hR156.ext), hS157, rfl⟩
        · skip
          rw [if_neg hg158] at hm
          refine DM.know 34 rfl (congrArg Value.bool (Bool.eq_false_iff.2 hg158)) ?_
          refine DM.run (fuel := 45) ttok hsk140 [20, 21, 22, 24, 25, 26, 28] 394264575 (by kernel_rfl) (by kernel_rfl) rfl ?_
          refine DM.load1 ttok hsk140 23 402653183 (by kernel_rfl) (by kernel_rfl) (by kernel_rfl) (by kernel_rfl) rfl (by kernel_rfl) rfl rfl rfl rfl rfl (At.ext hS.ext g0_) 3 rfl rfl rfl rfl ?_
          refine DM.load1 ttok hsk140 27 536870911 (by kernel_rfl) (by kernel_rfl) (by kernel_rfl) (by kernel_rfl) rfl (by kernel_rfl) rfl rfl rfl rfl rfl (At.ext hS.ext g0_) 2 rfl rfl rfl rfl ?_
          obtain ⟨r159, hx160, hm⟩ := bind_some hm
          refine DM.one hsk140 29 (by kernel_rfl) (LM.call hsk140 1073741823 (by kernel_rfl) (by kernel_rfl) rfl rfl rfl rfl enters67 (spec_l00In_ok  hx160) (fun v161 w162 hR163 => ?_))
          obtain ⟨rfl, hR164⟩ := hR163
          refine ⟨hR164.ext, ?_⟩
          have hS165 := hS157.join hR164
          refine DM.run (fuel := 39) ttok hsk140 [30, 31, 32] 8589934591 (by kernel_rfl) (by kernel_rfl) rfl ?_
          refine DM.weak [(0, .pointer (some p0_)), (3, .int .i64 (x0.Messages.length : Int)), (47, .bool (!r159))] ⟨rfl, rfl, rfl, trivial⟩ ?_
          by_cases hg166 : (!r159) = true
          · skip
            rw [if_pos hg166] at hm
            refine DM.know 47 rfl (congrArg Value.bool hg166) ?_
            refine DM.run (fuel := 0) ttok hsk140 [33, 34, 35, 36, 37, 38, 39, 40, 41, 42, 43, 44, 45, 46, 47, 48, 49, 50, 51, 52, 53, 54, 55, 56, 57, 58, 59, 60, 61, 62, 63, 64, 65, 66, 67, 68, 69, 70, 71] 4722366482869645213695 (by kernel_rfl) (by kernel_rfl) rfl ?_
            refine DM.weak [(0, .pointer (some p0_)), (3, .int .i64 (x0.Messages.length : Int)), (86, .bool true)] ⟨rfl, rfl, rfl, trivial⟩ ?_
            refine DM.done hsk140 (by kernel_rfl) ?_
            exact ⟨true, [(0, .pointer (some p0_)), (3, .int .i64 (x0.Messages.length : Int)), (86, .bool true)], ⟨rfl, rfl, rfl, trivial⟩, hm, ((((Ext.draw _).trans hR147.ext).trans hR156.ext).trans hR164.ext), hS165, rfl⟩
          · skip
            rw [if_neg hg166] at hm
            refine DM.know 47 rfl (congrArg Value.bool (Bool.eq_false_iff.2 hg166)) ?_
            refine DM.run (fuel := 30) ttok hsk140 [33, 34, 35, 37, 38, 39, 42, 43, 44] 31817117728767 (by kernel_rfl) (by kernel_rfl) rfl ?_
            refine DM.weak [(0, .pointer (some p0_)), (3, .int .i64 (x0.Messages.length : Int)), (47, .bool false), (50, .pointer (some (p0_.add 3))), (54, .pointer (some (p0_.add 2))), (59, .pointer (some p0_))] ⟨rfl, rfl, rfl, rfl, rfl, rfl, trivial⟩ ?_
            refine DM.load1 ttok hsk140 36 31885837205503 (by kernel_rfl) (by kernel_rfl) (by kernel_rfl) (by kernel_rfl) rfl (by kernel_rfl) rfl rfl rfl rfl rfl (At.ext hS.ext g0_) 3 rfl rfl rfl rfl ?_
            refine DM.load1 ttok hsk140 40 32985348833279 (by kernel_rfl) (by kernel_rfl) (by kernel_rfl) (by kernel_rfl) rfl (by kernel_rfl) rfl rfl rfl rfl rfl (At.ext hS.ext g0_) 2 rfl rfl rfl rfl ?_
            refine DM.run (fuel := 27) ttok hsk140 [41] 35184372088831 (by kernel_rfl) (by kernel_rfl) rfl ?_
            refine DM.load1 ttok hsk140 45 70368744177663 (by kernel_rfl) (by kernel_rfl) (by kernel_rfl) (by kernel_rfl) rfl (by kernel_rfl) rfl rfl rfl rfl rfl (At.ext hS.ext g0_) 0 rfl rfl rfl rfl ?_
            refine DM.run (fuel := 23) ttok hsk140 [46, 47, 48] 562949953421311 (by kernel_rfl) (by kernel_rfl) rfl ?_
            refine DM.weak [(0, .pointer (some p0_)), (3, .int .i64 (x0.Messages.length : Int)), (63, .bool (decide ((w64 (x0.Next - x0.Base)) > x0.Window)))] ⟨rfl, rfl, rfl, trivial⟩ ?_
            by_cases hg167 : (decide ((w64 (x0.Next - x0.Base)) > x0.Window)) = true
            · skip
              rw [if_pos hg167] at hm
              refine DM.know 63 rfl (congrArg Value.bool hg167) ?_
              refine DM.run (fuel := 0) ttok hsk140 [49, 50, 51, 52, 53, 54, 55, 56, 57, 58, 59, 60, 61, 62, 63, 64, 65, 66, 67, 68, 69, 70, 71] 4722366482869645213695 (by kernel_rfl) (by kernel_rfl) rfl ?_
              refine DM.weak [(0, .pointer (some p0_)), (3, .int .i64 (x0.Messages.length : Int)), (86, .bool true)] ⟨rfl, rfl, rfl, trivial⟩ ?_
              refine DM.done hsk140 (by kernel_rfl) ?_
              exact ⟨true, [(0, .pointer (some p0_)), (3, .int .i64 (x0.Messages.length : Int)), (86, .bool true)], ⟨rfl, rfl, rfl, trivial⟩, hm, ((((Ext.draw _).trans hR147.ext).trans hR156.ext).trans hR164.ext), hS165, rfl⟩
            · skip
              rw [if_neg hg167] at hm
              refine DM.know 63 rfl (congrArg Value.bool (Bool.eq_false_iff.2 hg167)) ?_
              refine DM.run (fuel := 14) ttok hsk140 [49, 50, 51, 53, 54, 55, 57, 58, 59] 1076360310941548543 (by kernel_rfl) (by kernel_rfl) rfl ?_
              refine DM.weak [(0, .pointer (some p0_)), (3, .int .i64 (x0.Messages.length : Int)), (63, .bool false), (66, .pointer (some (p0_.add 4))), (70, .pointer (some (p0_.add 2))), (74, .pointer (some (p0_.add 3)))] ⟨rfl, rfl, rfl, rfl, rfl, rfl, trivial⟩ ?_
              refine DM.load1 ttok hsk140 52 1080863910568919039 (by kernel_rfl) (by kernel_rfl) (by kernel_rfl) (by kernel_rfl) rfl (by kernel_rfl) rfl rfl rfl rfl rfl (At.ext hS.ext g0_) 4 rfl rfl rfl rfl ?_
              refine DM.load1 ttok hsk140 56 1152921504606846975 (by kernel_rfl) (by kernel_rfl) (by kernel_rfl) (by kernel_rfl) rfl (by kernel_rfl) rfl rfl rfl rfl rfl (At.ext hS.ext g0_) 2 rfl rfl rfl rfl ?_
              refine DM.load1 ttok hsk140 60 2305843009213693951 (by kernel_rfl) (by kernel_rfl) (by kernel_rfl) (by kernel_rfl) rfl (by kernel_rfl) rfl rfl rfl rfl rfl (At.ext hS.ext g0_) 3 rfl rfl rfl rfl ?_
              obtain ⟨r168, hx169, hm⟩ := bind_some hm
              refine DM.one hsk140 61 (by kernel_rfl) (LM.call hsk140 4611686018427387903 (by kernel_rfl) (by kernel_rfl) rfl rfl rfl rfl enters67 (spec_l00In_ok  hx169) (fun v170 w171 hR172 => ?_))
              obtain ⟨rfl, hR173⟩ := hR172
              refine ⟨hR173.ext, ?_⟩
              have hS174 := hS165.join hR173
              refine DM.run (fuel := 7) ttok hsk140 [62, 63, 64] 36893488147419103231 (by kernel_rfl) (by kernel_rfl) rfl ?_
              refine DM.weak [(0, .pointer (some p0_)), (3, .int .i64 (x0.Messages.length : Int)), (79, .bool (!r168))] ⟨rfl, rfl, rfl, trivial⟩ ?_
              by_cases hg175 : (!r168) = true
              · skip
                rw [if_pos hg175] at hm
                refine DM.know 79 rfl (congrArg Value.bool hg175) ?_
                refine DM.run (fuel := 0) ttok hsk140 [65, 66, 67, 68, 69, 70, 71] 4722366482869645213695 (by kernel_rfl) (by kernel_rfl) rfl ?_
                refine DM.weak [(0, .pointer (some p0_)), (3, .int .i64 (x0.Messages.length : Int)), (86, .bool true)] ⟨rfl, rfl, rfl, trivial⟩ ?_
                refine DM.done hsk140 (by kernel_rfl) ?_
                exact ⟨true, [(0, .pointer (some p0_)), (3, .int .i64 (x0.Messages.length : Int)), (86, .bool true)], ⟨rfl, rfl, rfl, trivial⟩, hm, (((((Ext.draw _).trans hR147.ext).trans hR156.ext).trans hR164.ext).trans hR173.ext), hS174, rfl⟩
              · skip
                rw [if_neg hg175] at hm
                refine DM.know 79 rfl (congrArg Value.bool (Bool.eq_false_iff.2 hg175)) ?_
                refine DM.run (fuel := 4) ttok hsk140 [65, 66, 67] 295147905179352825855 (by kernel_rfl) (by kernel_rfl) rfl ?_
                refine DM.load1 ttok hsk140 68 590295810358705651711 (by kernel_rfl) (by kernel_rfl) (by kernel_rfl) (by kernel_rfl) rfl (by kernel_rfl) rfl rfl rfl rfl rfl (At.ext hS.ext g0_) 7 rfl rfl rfl rfl ?_
                refine DM.run (fuel := 0) ttok hsk140 [69, 70, 71] 4722366482869645213695 (by kernel_rfl) (by kernel_rfl) rfl ?_
                refine DM.weak [(0, .pointer (some p0_)), (3, .int .i64 (x0.Messages.length : Int)), (86, .bool (decide ((x0.Flight.length : Int) > 60)))] ⟨rfl, rfl, rfl, trivial⟩ ?_
                refine DM.done hsk140 (by kernel_rfl) ?_
                exact ⟨decide ((x0.Flight.length : Int) > 60), [(0, .pointer (some p0_)), (3, .int .i64 (x0.Messages.length : Int)), (86, .bool (decide ((x0.Flight.length : Int) > 60)))], ⟨rfl, rfl, rfl, trivial⟩, hm, (((((Ext.draw _).trans hR147.ext).trans hR156.ext).trans hR164.ext).trans hR173.ext), hS174, rfl⟩

theorem enters148 : Enters Try.prog 148 := ⟨_, _, Try.func148, rfl, by kernel_rfl⟩
def m_spec_l28CanSend (fuel : Nat) (x0 : D.Channel) : Option (Bool) := (if (decide (x0.Next < (x0.Messages.length : Int))) = true then (if (decide (x0.Next < (w64 (x0.Base + x0.Window)))) = true then some (decide ((x0.Flight.length : Int) < 60)) else some false) else some false)

set_option maxRecDepth 100000 in
theorem spec_l28CanSend_ok {w : World} {p0_ : Addr} {c0_ : List Value} {x0 : D.Channel} (h0_ : ty39.ro w c0_ x0) (g0_ : At w p0_ c0_) {fuel : Nat} {r : Bool} (hm : m_spec_l28CanSend fuel x0 = some r) :
    Calls Try.prog 148 ⟨[.pointer (some p0_)]⟩ w (Ret fun v w8 => v = .bool r ∧ St w w8 []) := by
  obtain ⟨A1, k2, A4, k5, A7, k8, A10, k11, e13, h3, h6, h9, h12⟩ := ty39_open h0_; subst e13
  refine Calls.into Try.func148 rfl 37 rfl rfl _ rfl ?_
  unfold m_spec_l28CanSend at hm
  have hS := St.start w
  refine WP.seq ?_
  refine WP.region ?_
  refine RW.run ttok 1 rfl ?_
  refine RW.nil ?_
  refine WP.seq ?_
  refine WP.drawnM 0 mixed 35 (by kernel_rfl) (by kernel_rfl) [([], 34359738367), ([0], 34359738366), ([1], 34359738365), ([2], 34359738363), ([], 34359738367), ([4], 34359738351), ([5], 34359738335), ([6], 34359738303), ([7], 34359738239), ([3, 8], 34359738103), ([9], 34359737855), ([10], 34359737343), ([11, 10], 34359735295), ([12, 10], 34359733247), ([13, 10], 34359729151), ([10], 34359737343), ([15, 10], 34359704575), ([16, 10], 34359671807), ([17, 10], 34359606271), ([10], 34359737343), ([19, 10], 34359213055), ([20, 10], 34358688767), ([21, 10], 34357640191), ([18, 22, 10], 34355280895), ([14, 23, 10], 34351332351), ([10, 24], 34342960127), ([25, 10], 34326183935), ([26], 34292629503), ([27, 26], 34158411775), ([28, 26], 34024194047), ([29, 26], 33755758591), ([30, 26], 33218887679), ([31, 26], 32145145855), ([26, 32], 29997662207), ([33, 26, 0, 1, 2, 3, 4, 5, 6, 7, 8, 9, 10, 11, 12, 13, 14, 15, 16, 17, 18, 19, 20, 21, 22, 23, 24, 25, 26, 27, 28, 29, 30, 31, 32, 33], 25769803775)] (by kernel_rfl) (fun hsk14 => ?_)
  have hS15 := hS.step (Ext.draw _)
  refine DM.run (fuel := 29) ttok hsk14 [0, 1, 2, 4, 5, 6] 119 (by kernel_rfl) (by kernel_rfl) rfl ?_
  refine DM.load1 ttok hsk14 3 127 (by kernel_rfl) (by kernel_rfl) (by kernel_rfl) (by kernel_rfl) rfl (by kernel_rfl) rfl rfl rfl rfl rfl (At.ext hS.ext g0_) 3 rfl rfl rfl rfl ?_
  refine DM.load1 ttok hsk14 7 255 (by kernel_rfl) (by kernel_rfl) (by kernel_rfl) (by kernel_rfl) rfl (by kernel_rfl) rfl rfl rfl rfl rfl (At.ext hS.ext g0_) 1 rfl rfl rfl rfl ?_
  refine DM.run (fuel := 24) ttok hsk14 [8, 9, 10] 2047 (by kernel_rfl) (by kernel_rfl) rfl ?_
  refine DM.weak [(0, .pointer (some p0_)), (2, .bool false), (13, .bool (decide (x0.Next < (x0.Messages.length : Int))))] ⟨rfl, rfl, rfl, trivial⟩ ?_
  by_cases hg16 : (decide (x0.Next < (x0.Messages.length : Int))) = true
  · skip
    rw [if_pos hg16] at hm
    refine DM.know 13 rfl (congrArg Value.bool hg16) ?_
    refine DM.run (fuel := 15) ttok hsk14 [11, 12, 13, 15, 16, 17, 19, 20, 21] 3915775 (by kernel_rfl) (by kernel_rfl) rfl ?_
    refine DM.weak [(0, .pointer (some p0_)), (2, .bool false), (13, .bool true), (16, .pointer (some (p0_.add 3))), (20, .pointer (some (p0_.add 2))), (24, .pointer (some p0_))] ⟨rfl, rfl, rfl, rfl, rfl, rfl, trivial⟩ ?_
    refine DM.load1 ttok hsk14 14 3932159 (by kernel_rfl) (by kernel_rfl) (by kernel_rfl) (by kernel_rfl) rfl (by kernel_rfl) rfl rfl rfl rfl rfl (At.ext hS.ext g0_) 3 rfl rfl rfl rfl ?_
    refine DM.load1 ttok hsk14 18 4194303 (by kernel_rfl) (by kernel_rfl) (by kernel_rfl) (by kernel_rfl) rfl (by kernel_rfl) rfl rfl rfl rfl rfl (At.ext hS.ext g0_) 2 rfl rfl rfl rfl ?_
    refine DM.load1 ttok hsk14 22 8388607 (by kernel_rfl) (by kernel_rfl) (by kernel_rfl) (by kernel_rfl) rfl (by kernel_rfl) rfl rfl rfl rfl rfl (At.ext hS.ext g0_) 0 rfl rfl rfl rfl ?_
    refine DM.run (fuel := 8) ttok hsk14 [23, 24, 25, 26] 134217727 (by kernel_rfl) (by kernel_rfl) rfl ?_
    refine DM.weak [(0, .pointer (some p0_)), (2, .bool false), (29, .bool (decide (x0.Next < (w64 (x0.Base + x0.Window)))))] ⟨rfl, rfl, rfl, trivial⟩ ?_
    by_cases hg17 : (decide (x0.Next < (w64 (x0.Base + x0.Window)))) = true
    · skip
      rw [if_pos hg17] at hm
      refine DM.know 29 rfl (congrArg Value.bool hg17) ?_
      refine DM.run (fuel := 5) ttok hsk14 [27, 28, 29] 1073741823 (by kernel_rfl) (by kernel_rfl) rfl ?_
      refine DM.load1 ttok hsk14 30 2147483647 (by kernel_rfl) (by kernel_rfl) (by kernel_rfl) (by kernel_rfl) rfl (by kernel_rfl) rfl rfl rfl rfl rfl (At.ext hS.ext g0_) 7 rfl rfl rfl rfl ?_
      refine DM.run (fuel := 0) ttok hsk14 [31, 32, 33, 34] 34359738367 (by kernel_rfl) (by kernel_rfl) rfl ?_
      refine DM.weak [(2, .bool (decide ((x0.Flight.length : Int) < 60)))] ⟨rfl, trivial⟩ ?_
      refine DM.done hsk14 (by kernel_rfl) ?_
      refine WP.ret ?_
      cases hm
      exact ⟨_, .cons (.tmp rfl) .nil, rfl, hS15⟩
    · skip
      rw [if_neg hg17] at hm
      refine DM.know 29 rfl (congrArg Value.bool (Bool.eq_false_iff.2 hg17)) ?_
      refine DM.run (fuel := 0) ttok hsk14 [27, 28, 29, 30, 31, 32, 33, 34] 34359738367 (by kernel_rfl) (by kernel_rfl) rfl ?_
      refine DM.weak [(2, .bool false)] ⟨rfl, trivial⟩ ?_
      refine DM.done hsk14 (by kernel_rfl) ?_
      refine WP.ret ?_
      cases hm
      exact ⟨_, .cons (.tmp rfl) .nil, rfl, hS15⟩
  · skip
    rw [if_neg hg16] at hm
    refine DM.know 13 rfl (congrArg Value.bool (Bool.eq_false_iff.2 hg16)) ?_
    refine DM.run (fuel := 0) ttok hsk14 [11, 12, 13, 14, 15, 16, 17, 18, 19, 20, 21, 22, 23, 24, 25, 26, 27, 28, 29, 30, 31, 32, 33, 34] 34359738367 (by kernel_rfl) (by kernel_rfl) rfl ?_
    refine DM.weak [(2, .bool false)] ⟨rfl, trivial⟩ ?_
    refine DM.done hsk14 (by kernel_rfl) ?_
    refine WP.ret ?_
    cases hm
    exact ⟨_, .cons (.tmp rfl) .nil, rfl, hS15⟩

theorem enters94 : Enters Try.prog 94 := ⟨_, _, Try.func94, rfl, by kernel_rfl⟩
def m_spec_l28Events_j3 (fuel : Nat) (t47 : (List D.ChannelEvent)) : Option (List D.ChannelEvent) := some t47
def m_spec_l28Events_j4 (fuel : Nat) (s46 : Int × (List D.ChannelEvent)) (t77 : (List D.ChannelEvent)) : Option (Rd (Int × (List D.ChannelEvent)) ((List D.ChannelEvent)) ((List D.ChannelEvent))) := some (.next (w64 (s46.1 + 1), t77))
def m_spec_l28Events_b2 (fuel : Nat) (x0 : D.Channel) (s46 : Int × (List D.ChannelEvent)) : Option (Rd (Int × (List D.ChannelEvent)) ((List D.ChannelEvent)) ((List D.ChannelEvent))) := (if (decide (s46.1 < (x0.Flight.length : Int))) = true then (if decide ((s46.2.length : Int) + (([(⟨3, s46.1⟩ : D.ChannelEvent), (⟨4, s46.1⟩ : D.ChannelEvent)] : (List D.ChannelEvent)).length : Int) ≤ 4294967296) = true then (if (decide ((x0.Flight.length : Int) < 60)) = true then (if decide (((s46.2 ++ ([(⟨3, s46.1⟩ : D.ChannelEvent), (⟨4, s46.1⟩ : D.ChannelEvent)] : (List D.ChannelEvent))).length : Int) + (([(⟨5, s46.1⟩ : D.ChannelEvent)] : (List D.ChannelEvent)).length : Int) ≤ 4294967296) = true then m_spec_l28Events_j4 fuel s46 ((s46.2 ++ ([(⟨3, s46.1⟩ : D.ChannelEvent), (⟨4, s46.1⟩ : D.ChannelEvent)] : (List D.ChannelEvent))) ++ ([(⟨5, s46.1⟩ : D.ChannelEvent)] : (List D.ChannelEvent))) else none) else m_spec_l28Events_j4 fuel s46 (s46.2 ++ ([(⟨3, s46.1⟩ : D.ChannelEvent), (⟨4, s46.1⟩ : D.ChannelEvent)] : (List D.ChannelEvent)))) else none) else some (.brk s46.2))
def m_spec_l28Events_j2 (fuel : Nat) (x0 : D.Channel) (t33 : (List D.ChannelEvent)) : Option (List D.ChannelEvent) := ((iter (m_spec_l28Events_b2 fuel x0) fuel (0, t33)).bind fun o => aft o (m_spec_l28Events_j3 fuel))
def m_spec_l28Events_j5 (fuel : Nat) (s32 : Int × (List D.ChannelEvent)) (t99 : Bool) : Option (Rd (Int × (List D.ChannelEvent)) ((List D.ChannelEvent)) ((List D.ChannelEvent))) := (if t99 = true then (if decide ((s32.2.length : Int) + (([(⟨2, s32.1⟩ : D.ChannelEvent)] : (List D.ChannelEvent)).length : Int) ≤ 4294967296) = true then some (.next (w64 (s32.1 + 1), (s32.2 ++ ([(⟨2, s32.1⟩ : D.ChannelEvent)] : (List D.ChannelEvent))))) else none) else some (.brk s32.2))
def m_spec_l28Events_b1 (fuel : Nat) (x0 : D.Channel) (s32 : Int × (List D.ChannelEvent)) : Option (Rd (Int × (List D.ChannelEvent)) ((List D.ChannelEvent)) ((List D.ChannelEvent))) := (if (decide (s32.1 < (w64 (x0.Next - x0.Base)))) = true then m_spec_l28Events_j5 fuel s32 (decide ((x0.Flight.length : Int) < 60)) else m_spec_l28Events_j5 fuel s32 false)
def m_spec_l28Events_j1 (fuel : Nat) (x0 : D.Channel) (t26 : (List D.ChannelEvent)) : Option (List D.ChannelEvent) := ((iter (m_spec_l28Events_b1 fuel x0) fuel (0, t26)).bind fun o => aft o (m_spec_l28Events_j2 fuel x0))
def m_spec_l28Events (fuel : Nat) (x0 : D.Channel) : Option ((List D.ChannelEvent)) := ((m_spec_l28CanSend fuel x0).bind fun r19 => (if r19 = true then (if decide ((([] : (List D.ChannelEvent)).length : Int) + (([(⟨1, 0⟩ : D.ChannelEvent)] : (List D.ChannelEvent)).length : Int) ≤ 4294967296) = true then m_spec_l28Events_j1 fuel x0 (([] : (List D.ChannelEvent)) ++ ([(⟨1, 0⟩ : D.ChannelEvent)] : (List D.ChannelEvent))) else none) else m_spec_l28Events_j1 fuel x0 ([] : (List D.ChannelEvent))))

set_option maxRecDepth 100000 in
theorem spec_l28Events_ok {w : World} {p0_ : Addr} {c0_ : List Value} {x0 : D.Channel} (h0_ : ty39.ro w c0_ x0) (g0_ : At w p0_ c0_) {fuel : Nat} {r : (List D.ChannelEvent)} (hm : m_spec_l28Events fuel x0 = some r) :
    Calls Try.prog 94 ⟨[.pointer (some p0_)]⟩ w (Ret fun v w8 => ∃ A0 k0, v = .slice A0 r.length k0 ∧ St w w8 [Own ty55 [.slice A0 r.length k0] r]) := by
  obtain ⟨A1, k2, A4, k5, A7, k8, A10, k11, e13, h3, h6, h9, h12⟩ := ty39_open h0_; subst e13
  refine Calls.into Try.func94 rfl 64 rfl rfl _ rfl ?_
  unfold m_spec_l28Events at hm
  have hS := St.start w
  refine WP.seq ?_
  refine WP.region ?_
  refine RW.run ttok 1 rfl ?_
  refine RW.nil ?_
  refine WP.seq ?_
  refine WP.region ?_
  refine RW.newSlice0 (U := ty66) ttok hS rfl rfl rfl rfl rfl rfl rfl (fun A14 k15 w16 e17 hS18 => ?_)
  refine RW.run ttok 1 rfl ?_
  refine RW.nil ?_
  refine WP.seq ?_
  refine WP.seq ?_
  refine WP.region ?_
  refine RW.run ttok 1 rfl ?_
  obtain ⟨r19, hx20, hm⟩ := bind_some hm
  refine RW.call rfl rfl rfl enters148 (spec_l28CanSend_ok (ty39.ext hS18.ext h0_) (At.ext hS18.ext g0_) hx20) (fun v21 w22 hR23 => ?_)
  obtain ⟨rfl, hR24⟩ := hR23
  have hS25 := hS18.join hR24
  refine RW.nil ?_
  refine WP.cut (fun (t26 : (List D.ChannelEvent)) F w9 => ∃ A27 k28, m_spec_l28Events_j1 fuel x0 t26 = some r ∧ St w w9 [Own ty55 [.slice A27 t26.length k28] t26] ∧ F = [(0, .pointer (some p0_)), (3, .slice A27 t26.length k28)]) ?_ ?_
  · skip
    rintro t26 F w30 ⟨A27, k28, hm, hS29, rfl⟩
    unfold m_spec_l28Events_j1 at hm
    refine WP.seq ?_
    refine WP.region ?_
    refine RW.run ttok 3 rfl ?_
    refine RW.load1 ttok rfl rfl rfl rfl rfl (At.ext hS29.ext g0_) 7 rfl rfl rfl rfl ?_
    refine RW.run ttok 3 rfl ?_
    refine RW.nil ?_
    refine WP.seq ?_
    refine WP.seq ?_
    refine WP.region ?_
    refine RW.run ttok 1 rfl ?_
    refine RW.nil ?_
    obtain ⟨o42, hl43, hm⟩ := bind_some hm
    refine WP.cut (fun (t33 : (List D.ChannelEvent)) F w9 => ∃ A39 k40, o42 = .inl t33 ∧ St w w9 [Own ty55 [.slice A39 t33.length k40] t33] ∧ F = [(0, .pointer (some p0_)), (3, .slice A39 t33.length k40), (4, .bool (decide ((x0.Flight.length : Int) < 60)))]) ?_ ?_
    · skip
      rintro t33 F w41 ⟨A39, k40, ho45, hS44, rfl⟩
      subst ho45
      rw [aft_inl] at hm
      unfold m_spec_l28Events_j2 at hm
      refine WP.seq ?_
      refine WP.seq ?_
      refine WP.region ?_
      refine RW.run ttok 1 rfl ?_
      refine RW.nil ?_
      obtain ⟨o56, hl57, hm⟩ := bind_some hm
      refine WP.cut (fun (t47 : (List D.ChannelEvent)) F w9 => ∃ A53 k54, o56 = .inl t47 ∧ St w w9 [Own ty55 [.slice A53 t47.length k54] t47] ∧ F = [(3, .slice A53 t47.length k54)]) ?_ ?_
      · skip
        rintro t47 F w55 ⟨A53, k54, ho59, hS58, rfl⟩
        subst ho59
        rw [aft_inl] at hm
        unfold m_spec_l28Events_j3 at hm
        refine WP.seq ?_
        refine WP.region ?_
        refine RW.run ttok 2 rfl ?_
        refine RW.nil ?_
        refine WP.ret ?_
        cases hm
        exact ⟨_, .cons (.tmp rfl) .nil, A53, k54, rfl, hS58⟩
      · skip
        refine WP.block ?_
        refine WP.weak [(0, .pointer (some p0_)), (3, .slice A39 t33.length k40), (4, .bool (decide ((x0.Flight.length : Int) < 60))), (6, .int .i64 0)] ⟨rfl, rfl, rfl, rfl, trivial⟩ ?_
        refine WP.iter (fun (s46 : Int × (List D.ChannelEvent)) F w9 => ∃ A51 k52, St w w9 [Own ty55 [.slice A51 s46.2.length k52] s46.2] ∧ F = [(0, .pointer (some p0_)), (3, .slice A51 s46.2.length k52), (4, .bool (decide ((x0.Flight.length : Int) < 60))), (6, .int .i64 s46.1)]) _ hl57 ⟨A39, k40, hS44, rfl⟩ ?_
        rintro s46 F w65 _ o62 ⟨A51, k52, hS63, rfl⟩ hb60 ho61
        unfold m_spec_l28Events_b2 at hb60
        refine WP.seq ?_
        refine WP.seq ?_
        refine WP.region ?_
        refine RW.run ttok 4 rfl ?_
        refine RW.load1 ttok rfl rfl rfl rfl rfl (At.ext hS63.ext g0_) 7 rfl rfl rfl rfl ?_
        refine RW.run ttok 2 rfl ?_
        refine RW.nil ?_
        refine WP.cond (decide (s46.1 < (x0.Flight.length : Int))) rfl (fun hc => ?_) (fun hc => ?_)
        · skip
          rw [if_pos hc] at hb60
          refine WP.skip ?_
          refine WP.seq ?_
          refine WP.block ?_
          refine WP.seq ?_
          refine WP.region ?_
          refine RW.run ttok 2 rfl ?_
          refine RW.quiet rfl (Quiet.build ttok rfl rfl rfl rfl rfl) rfl rfl ?_
          refine RW.run ttok 1 rfl ?_
          refine RW.quiet rfl (Quiet.build ttok rfl rfl rfl rfl rfl) rfl rfl ?_
          refine RW.newSlice (U := ty66) (els := [.int .i64 3, .int .i64 s46.1, .int .i64 4, .int .i64 s46.1]) (ys := [(⟨3, s46.1⟩ : D.ChannelEvent), (⟨4, s46.1⟩ : D.ChannelEvent)]) ttok (hS63.flatEls (U := ty66) (els := [.int .i64 3, .int .i64 s46.1, .int .i64 4, .int .i64 s46.1]) (ys := [(⟨3, s46.1⟩ : D.ChannelEvent), (⟨4, s46.1⟩ : D.ChannelEvent)]) ⟨[.int .i64 3, .int .i64 s46.1], _, [], [], rfl, rfl, (ty66_ownI (c := (⟨3, s46.1⟩ : D.ChannelEvent)) rfl), ⟨[.int .i64 4, .int .i64 s46.1], _, [], [], rfl, rfl, (ty66_ownI (c := (⟨4, s46.1⟩ : D.ChannelEvent)) rfl), ⟨rfl, rfl⟩⟩⟩) rfl rfl rfl rfl rfl rfl rfl rfl rfl rfl rfl rfl (fun A66 k67 w68 e69 hS70 => ?_)
          have hS71 := hS70.bring 1 rfl
          by_cases hk72 : decide ((s46.2.length : Int) + (([(⟨3, s46.1⟩ : D.ChannelEvent), (⟨4, s46.1⟩ : D.ChannelEvent)] : (List D.ChannelEvent)).length : Int) ≤ 4294967296) = true
          case neg => rw [if_neg hk72] at hb60; cases hb60
          rw [if_pos hk72] at hb60
          refine RW.appendRo ttok (Flat.map (Flat.pair Flat.int (Flat.pair Flat.int Flat.unit))) hS71 rfl rfl rfl rfl rfl rfl (by decide) rfl rfl ((hS71.bring 1 rfl).own) (of_decide_eq_true hk72) (by decide) rfl rfl (fun A73 k74 w75 hS76 => ?_)
          refine RW.run ttok 1 rfl ?_
          refine RW.nil ?_
          refine WP.seq ?_
          refine WP.region ?_
          refine RW.run ttok 1 rfl ?_
          refine RW.nil ?_
          refine WP.cut (fun (t77 : (List D.ChannelEvent)) F w9 => ∃ A78 k79, m_spec_l28Events_j4 fuel s46 t77 = some o62 ∧ St w w9 [Own ty55 [.slice A78 t77.length k79] t77, Own ty55 [.slice A66 ([(⟨3, s46.1⟩ : D.ChannelEvent), (⟨4, s46.1⟩ : D.ChannelEvent)] : (List D.ChannelEvent)).length k67] ([(⟨3, s46.1⟩ : D.ChannelEvent), (⟨4, s46.1⟩ : D.ChannelEvent)] : (List D.ChannelEvent))] ∧ F = [(0, .pointer (some p0_)), (3, .slice A78 t77.length k79), (4, .bool (decide ((x0.Flight.length : Int) < 60))), (6, .int .i64 s46.1)]) ?_ ?_
          · skip
            rintro t77 F w81 ⟨A78, k79, hb60, hS80, rfl⟩
            unfold m_spec_l28Events_j4 at hb60
            refine WP.region ?_
            refine RW.run ttok 3 rfl ?_
            refine RW.nil ?_
            cases hb60
            exact ⟨_, [(0, .pointer (some p0_)), (3, .slice A78 t77.length k79), (4, .bool (decide ((x0.Flight.length : Int) < 60))), (6, .int .i64 (w64 (s46.1 + 1)))], ⟨rfl, rfl, rfl, rfl, trivial⟩, rfl, A78, k79, (hS80.taken 1), rfl⟩
          · skip
            refine WP.cond (decide ((x0.Flight.length : Int) < 60)) rfl (fun hc => ?_) (fun hc => ?_)
            · skip
              rw [if_pos hc] at hb60
              refine WP.region ?_
              refine RW.run ttok 2 rfl ?_
              refine RW.quiet rfl (Quiet.build ttok rfl rfl rfl rfl rfl) rfl rfl ?_
              refine RW.newSlice (U := ty66) (els := [.int .i64 5, .int .i64 s46.1]) (ys := [(⟨5, s46.1⟩ : D.ChannelEvent)]) ttok (hS76.flatEls (U := ty66) (els := [.int .i64 5, .int .i64 s46.1]) (ys := [(⟨5, s46.1⟩ : D.ChannelEvent)]) ⟨[.int .i64 5, .int .i64 s46.1], _, [], [], rfl, rfl, (ty66_ownI (c := (⟨5, s46.1⟩ : D.ChannelEvent)) rfl), ⟨rfl, rfl⟩⟩) rfl rfl rfl rfl rfl rfl rfl rfl rfl rfl rfl rfl (fun A83 k84 w85 e86 hS87 => ?_)
              have hS88 := hS87.bring 1 rfl
              by_cases hk89 : decide (((s46.2 ++ ([(⟨3, s46.1⟩ : D.ChannelEvent), (⟨4, s46.1⟩ : D.ChannelEvent)] : (List D.ChannelEvent))).length : Int) + (([(⟨5, s46.1⟩ : D.ChannelEvent)] : (List D.ChannelEvent)).length : Int) ≤ 4294967296) = true
              case neg => rw [if_neg hk89] at hb60; cases hb60
              rw [if_pos hk89] at hb60
              refine RW.appendRo ttok (Flat.map (Flat.pair Flat.int (Flat.pair Flat.int Flat.unit))) hS88 rfl rfl rfl rfl rfl rfl (by decide) rfl rfl ((hS88.bring 1 rfl).own) (of_decide_eq_true hk89) (by decide) rfl rfl (fun A90 k91 w92 hS93 => ?_)
              refine RW.run ttok 1 rfl ?_
              refine RW.nil ?_
              exact ⟨((s46.2 ++ ([(⟨3, s46.1⟩ : D.ChannelEvent), (⟨4, s46.1⟩ : D.ChannelEvent)] : (List D.ChannelEvent))) ++ ([(⟨5, s46.1⟩ : D.ChannelEvent)] : (List D.ChannelEvent))), [(0, .pointer (some p0_)), (3, .slice A90 ((s46.2 ++ ([(⟨3, s46.1⟩ : D.ChannelEvent), (⟨4, s46.1⟩ : D.ChannelEvent)] : (List D.ChannelEvent))) ++ ([(⟨5, s46.1⟩ : D.ChannelEvent)] : (List D.ChannelEvent))).length k91), (4, .bool (decide ((x0.Flight.length : Int) < 60))), (6, .int .i64 s46.1)], ⟨rfl, rfl, rfl, rfl, trivial⟩, A90, k91, hb60, (hS93.bring 1 rfl).drop, rfl⟩
            · skip
              rw [if_neg (not_t hc)] at hb60
              refine WP.skip ?_
              exact ⟨(s46.2 ++ ([(⟨3, s46.1⟩ : D.ChannelEvent), (⟨4, s46.1⟩ : D.ChannelEvent)] : (List D.ChannelEvent))), [(0, .pointer (some p0_)), (3, .slice A73 (s46.2 ++ ([(⟨3, s46.1⟩ : D.ChannelEvent), (⟨4, s46.1⟩ : D.ChannelEvent)] : (List D.ChannelEvent))).length k74), (4, .bool (decide ((x0.Flight.length : Int) < 60))), (6, .int .i64 s46.1)], ⟨rfl, rfl, rfl, rfl, trivial⟩, A73, k74, hb60, hS76, rfl⟩
        · skip
          rw [if_neg (not_t hc)] at hb60
          refine WP.exit ?_
          cases hb60
          exact ⟨_, [(3, .slice A51 s46.2.length k52)], ⟨rfl, trivial⟩, A51, k52, ho61, hS63, rfl⟩
    · skip
      refine WP.block ?_
      refine WP.weak [(0, .pointer (some p0_)), (3, .slice A27 t26.length k28), (4, .bool (decide ((x0.Flight.length : Int) < 60))), (5, .int .i64 0)] ⟨rfl, rfl, rfl, rfl, trivial⟩ ?_
      refine WP.iter (fun (s32 : Int × (List D.ChannelEvent)) F w9 => ∃ A37 k38, St w w9 [Own ty55 [.slice A37 s32.2.length k38] s32.2] ∧ F = [(0, .pointer (some p0_)), (3, .slice A37 s32.2.length k38), (4, .bool (decide ((x0.Flight.length : Int) < 60))), (5, .int .i64 s32.1)]) _ hl43 ⟨A27, k28, hS29, rfl⟩ ?_
      rintro s32 F w98 _ o96 ⟨A37, k38, hS97, rfl⟩ hb94 ho95
      unfold m_spec_l28Events_b1 at hb94
      refine WP.seq ?_
      refine WP.seq ?_
      refine WP.cut (fun (t99 : Bool) F w9 => m_spec_l28Events_j5 fuel s32 t99 = some o96 ∧ Ext w98 w9 ∧ St w w9 [Own ty55 [.slice A37 s32.2.length k38] s32.2] ∧ F = [(0, .pointer (some p0_)), (3, .slice A37 s32.2.length k38), (4, .bool (decide ((x0.Flight.length : Int) < 60))), (5, .int .i64 s32.1), (33, .bool t99)]) ?_ ?_
      · skip
        rintro t99 F w102 ⟨hb94, hE100, hS101, rfl⟩
        unfold m_spec_l28Events_j5 at hb94
        refine WP.cond t99 rfl (fun hc => ?_) (fun hc => ?_)
        · skip
          rw [if_pos hc] at hb94
          refine WP.skip ?_
          refine WP.seq ?_
          refine WP.block ?_
          refine WP.region ?_
          refine RW.run ttok 2 rfl ?_
          refine RW.quiet rfl (Quiet.build ttok rfl rfl rfl rfl rfl) rfl rfl ?_
          refine RW.newSlice (U := ty66) (els := [.int .i64 2, .int .i64 s32.1]) (ys := [(⟨2, s32.1⟩ : D.ChannelEvent)]) ttok (hS101.flatEls (U := ty66) (els := [.int .i64 2, .int .i64 s32.1]) (ys := [(⟨2, s32.1⟩ : D.ChannelEvent)]) ⟨[.int .i64 2, .int .i64 s32.1], _, [], [], rfl, rfl, (ty66_ownI (c := (⟨2, s32.1⟩ : D.ChannelEvent)) rfl), ⟨rfl, rfl⟩⟩) rfl rfl rfl rfl rfl rfl rfl rfl rfl rfl rfl rfl (fun A104 k105 w106 e107 hS108 => ?_)
          have hS109 := hS108.bring 1 rfl
          by_cases hk110 : decide ((s32.2.length : Int) + (([(⟨2, s32.1⟩ : D.ChannelEvent)] : (List D.ChannelEvent)).length : Int) ≤ 4294967296) = true
          case neg => rw [if_neg hk110] at hb94; cases hb94
          rw [if_pos hk110] at hb94
          refine RW.appendRo ttok (Flat.map (Flat.pair Flat.int (Flat.pair Flat.int Flat.unit))) hS109 rfl rfl rfl rfl rfl rfl (by decide) rfl rfl ((hS109.bring 1 rfl).own) (of_decide_eq_true hk110) (by decide) rfl rfl (fun A111 k112 w113 hS114 => ?_)
          refine RW.run ttok 1 rfl ?_
          refine RW.nil ?_
          refine WP.region ?_
          refine RW.run ttok 3 rfl ?_
          refine RW.nil ?_
          cases hb94
          exact ⟨_, [(0, .pointer (some p0_)), (3, .slice A111 (s32.2 ++ ([(⟨2, s32.1⟩ : D.ChannelEvent)] : (List D.ChannelEvent))).length k112), (4, .bool (decide ((x0.Flight.length : Int) < 60))), (5, .int .i64 (w64 (s32.1 + 1)))], ⟨rfl, rfl, rfl, rfl, trivial⟩, rfl, A111, k112, (hS114.taken 1), rfl⟩
        · skip
          rw [if_neg (not_t hc)] at hb94
          refine WP.exit ?_
          cases hb94
          exact ⟨_, [(0, .pointer (some p0_)), (3, .slice A37 s32.2.length k38), (4, .bool (decide ((x0.Flight.length : Int) < 60)))], ⟨rfl, rfl, rfl, trivial⟩, A37, k38, ho95, hS101, rfl⟩
      · skip
        refine WP.drawnM 0 mixed 14 (by kernel_rfl) (by kernel_rfl) [([], 16383), ([], 16383), ([1], 16381), ([2], 16379), ([3], 16375), ([], 16383), ([5], 16351), ([6], 16319), ([7], 16255), ([4, 8], 16111), ([0, 9], 15870), ([10], 15359), ([11], 14335), ([11, 12], 10239)] (by kernel_rfl) (fun hsk115 => ?_)
        have hS116 := hS97.step (Ext.draw _)
        refine DM.run (fuel := 7) ttok hsk115 [0, 1, 2, 3, 5, 6, 7] 239 (by kernel_rfl) (by kernel_rfl) rfl ?_
        refine DM.load1 ttok hsk115 4 255 (by kernel_rfl) (by kernel_rfl) (by kernel_rfl) (by kernel_rfl) rfl (by kernel_rfl) rfl rfl rfl rfl rfl (At.ext hS97.ext g0_) 3 rfl rfl rfl rfl ?_
        refine DM.load1 ttok hsk115 8 511 (by kernel_rfl) (by kernel_rfl) (by kernel_rfl) (by kernel_rfl) rfl (by kernel_rfl) rfl rfl rfl rfl rfl (At.ext hS97.ext g0_) 2 rfl rfl rfl rfl ?_
        refine DM.run (fuel := 2) ttok hsk115 [9, 10, 11] 4095 (by kernel_rfl) (by kernel_rfl) rfl ?_
        refine DM.weak [(0, .pointer (some p0_)), (3, .slice A37 s32.2.length k38), (4, .bool (decide ((x0.Flight.length : Int) < 60))), (5, .int .i64 s32.1), (31, .bool (decide (s32.1 < (w64 (x0.Next - x0.Base)))))] ⟨rfl, rfl, rfl, rfl, rfl, trivial⟩ ?_
        by_cases hg117 : (decide (s32.1 < (w64 (x0.Next - x0.Base)))) = true
        · skip
          rw [if_pos hg117] at hb94
          refine DM.know 31 rfl (congrArg Value.bool hg117) ?_
          refine DM.run (fuel := 0) ttok hsk115 [12, 13] 16383 (by kernel_rfl) (by kernel_rfl) rfl ?_
          refine DM.done hsk115 (by kernel_rfl) ?_
          exact ⟨decide ((x0.Flight.length : Int) < 60), [(0, .pointer (some p0_)), (3, .slice A37 s32.2.length k38), (4, .bool (decide ((x0.Flight.length : Int) < 60))), (5, .int .i64 s32.1), (33, .bool (decide ((x0.Flight.length : Int) < 60)))], ⟨rfl, rfl, rfl, rfl, rfl, trivial⟩, hb94, (Ext.draw _), hS116, rfl⟩
        · skip
          rw [if_neg hg117] at hb94
          refine DM.know 31 rfl (congrArg Value.bool (Bool.eq_false_iff.2 hg117)) ?_
          refine DM.run (fuel := 0) ttok hsk115 [12, 13] 16383 (by kernel_rfl) (by kernel_rfl) rfl ?_
          refine DM.done hsk115 (by kernel_rfl) ?_
          exact ⟨false, [(0, .pointer (some p0_)), (3, .slice A37 s32.2.length k38), (4, .bool (decide ((x0.Flight.length : Int) < 60))), (5, .int .i64 s32.1), (33, .bool false)], ⟨rfl, rfl, rfl, rfl, rfl, trivial⟩, hb94, (Ext.draw _), hS116, rfl⟩
  · skip
    refine WP.cond r19 rfl (fun hc => ?_) (fun hc => ?_)
    · skip
      rw [if_pos hc] at hm
      refine WP.region ?_
      refine RW.run ttok 1 rfl ?_
      refine RW.quiet rfl (Quiet.build ttok rfl rfl rfl rfl rfl) rfl rfl ?_
      refine RW.newSlice (U := ty66) (els := [.int .i64 1, .int .i64 0]) (ys := [(⟨1, 0⟩ : D.ChannelEvent)]) ttok (hS25.flatEls (U := ty66) (els := [.int .i64 1, .int .i64 0]) (ys := [(⟨1, 0⟩ : D.ChannelEvent)]) ⟨[.int .i64 1, .int .i64 0], _, [], [], rfl, rfl, (ty66_ownI (c := (⟨1, 0⟩ : D.ChannelEvent)) rfl), ⟨rfl, rfl⟩⟩) rfl rfl rfl rfl rfl rfl rfl rfl rfl rfl rfl rfl (fun A118 k119 w120 e121 hS122 => ?_)
      have hS123 := hS122.bring 1 rfl
      by_cases hk124 : decide ((([] : (List D.ChannelEvent)).length : Int) + (([(⟨1, 0⟩ : D.ChannelEvent)] : (List D.ChannelEvent)).length : Int) ≤ 4294967296) = true
      case neg => rw [if_neg hk124] at hm; cases hm
      rw [if_pos hk124] at hm
      refine RW.appendRo ttok (Flat.map (Flat.pair Flat.int (Flat.pair Flat.int Flat.unit))) hS123 rfl rfl rfl rfl rfl rfl (by decide) rfl rfl ((hS123.bring 1 rfl).own) (of_decide_eq_true hk124) (by decide) rfl rfl (fun A125 k126 w127 hS128 => ?_)
      refine RW.run ttok 1 rfl ?_
      refine RW.nil ?_
      exact ⟨(([] : (List D.ChannelEvent)) ++ ([(⟨1, 0⟩ : D.ChannelEvent)] : (List D.ChannelEvent))), [(0, .pointer (some p0_)), (3, .slice A125 (([] : (List D.ChannelEvent)) ++ ([(⟨1, 0⟩ : D.ChannelEvent)] : (List D.ChannelEvent))).length k126)], ⟨rfl, rfl, trivial⟩, A125, k126, hm, (hS128.taken 1), rfl⟩
    · skip
      rw [if_neg (not_t hc)] at hm
      refine WP.skip ?_
      exact ⟨([] : (List D.ChannelEvent)), [(0, .pointer (some p0_)), (3, .slice A14 ([] : (List D.ChannelEvent)).length k15)], ⟨rfl, rfl, trivial⟩, A14, k15, hm, hS25, rfl⟩

theorem enters37 : Enters Try.prog 37 := ⟨_, _, Try.func37, rfl, by kernel_rfl⟩
def m_spec_ChannelEvents (fuel : Nat) (x0 : D.Channel) : Option ((List D.ChannelEvent) × Int) := ((m_spec_l28Ok fuel x0).bind fun r18 => (if (!r18) = true then some ([], 1) else ((m_spec_l28Events fuel x0).bind fun r26 => some (r26, 0))))

set_option maxRecDepth 100000 in
theorem spec_ChannelEvents_ok {w : World} {c0_ : List Value} {x0 : D.Channel} (h0_ : ty39.ro w c0_ x0) {fuel : Nat} {r : (List D.ChannelEvent) × Int} (hm : m_spec_ChannelEvents fuel x0 = some r) :
    Calls Try.prog 37 ⟨[.agg ⟨c0_⟩]⟩ w (Ret fun v w8 => ∃ A0 k0, v = .tuple ⟨[.slice A0 r.1.length k0, .int .i64 r.2]⟩ ∧ St w w8 [Own ty55 [.slice A0 r.1.length k0] r.1]) := by
  obtain ⟨A1, k2, A4, k5, A7, k8, A10, k11, e13, h3, h6, h9, h12⟩ := ty39_open h0_; subst e13
  refine Calls.into Try.func37 rfl 7 rfl rfl _ rfl ?_
  unfold m_spec_ChannelEvents at hm
  have hS := St.start w
  refine WP.seq ?_
  refine WP.region ?_
  refine RW.new ttok hS rfl rfl rfl rfl (fun g14 w15 e16 hS17 => ?_)
  refine RW.run ttok 2 rfl ?_
  refine RW.nil ?_
  refine WP.seq ?_
  refine WP.seq ?_
  refine WP.region ?_
  obtain ⟨r18, hx19, hm⟩ := bind_some hm
  refine RW.call rfl rfl rfl enters81 (spec_l28Ok_ok (ty39.ext hS17.ext h0_) ((hS17.bring 0 rfl).box) hx19) (fun v20 w21 hR22 => ?_)
  obtain ⟨rfl, hR23⟩ := hR22
  have hS24 := hS17.join hR23
  refine RW.run ttok 1 rfl ?_
  refine RW.nil ?_
  refine WP.cond (!r18) rfl (fun hc => ?_) (fun hc => ?_)
  · skip
    rw [if_pos hc] at hm
    refine WP.seq ?_
    refine WP.region ?_
    refine RW.run ttok 2 rfl ?_
    refine RW.nil ?_
    refine WP.ret ?_
    cases hm
    have hS25 := hS24.nilSl ty66 66
    exact ⟨_, .cons (.tmp rfl) (.cons (.tmp rfl) .nil), none, 0, rfl, (hS25.taken 1)⟩
  · skip
    rw [if_neg (not_t hc)] at hm
    refine WP.skip ?_
    refine WP.seq ?_
    refine WP.region ?_
    obtain ⟨r26, hx27, hm⟩ := bind_some hm
    refine RW.call rfl rfl rfl enters94 (spec_l28Events_ok (ty39.ext hS24.ext h0_) ((hS24.bring 0 rfl).box) hx27) (fun v28 w29 hR30 => ?_)
    obtain ⟨A31, k32, rfl, hR33⟩ := hR30
    have hS34 := hS24.join hR33
    refine RW.run ttok 2 rfl ?_
    refine RW.nil ?_
    refine WP.ret ?_
    cases hm
    exact ⟨_, .cons (.tmp rfl) (.cons (.tmp rfl) .nil), A31, k32, rfl, (hS34.taken 1)⟩

theorem enters198 : Enters Try.prog 198 := ⟨_, _, Try.func198, rfl, by kernel_rfl⟩
def m_slices_IndexFunc_string_string_j1 (fuel : Nat) (t2 : Unit) : Option Int := some (-1)
def m_slices_IndexFunc_string_string_b1 (fuel : Nat) (x0 : (List ByteArray)) (x1 : ByteArray → Option Bool) (s1 : Int) : Option (Rd (Int) (Unit) (Int)) := (if (decide (s1 < (x0.length : Int))) = true then ((idx x0 s1).bind fun x17 => ((x1 x17).bind fun r23 => (if r23 = true then some (.ret s1) else some (.next (w64 (s1 + 1)))))) else some (.brk ()))
def m_slices_IndexFunc_string_string (fuel : Nat) (x0 : (List ByteArray)) (x1 : ByteArray → Option Bool) : Option (Int) := ((iter (m_slices_IndexFunc_string_string_b1 fuel x0 x1) fuel 0).bind fun o => aft o (m_slices_IndexFunc_string_string_j1 fuel))

set_option maxRecDepth 100000 in
theorem slices_IndexFunc_string_string_ok {w : World} {A0_ : Option Addr} {k0_ : Nat} {x0 : (List ByteArray)} {f1_ : Nat} {u1_ : List Value} {x1 : ByteArray → Option Bool} (h0_ : ty35.ro w [.slice A0_ x0.length k0_] x0) (h1_ : Enters Try.prog f1_ ∧ ∀ {w9 : World}, Ext w w9 → ∀ {z0 : ByteArray} {y9 : Bool}, x1 z0 = some y9 → Calls Try.prog f1_ ⟨[.string z0] ++ u1_⟩ w9 (Ret fun v w8 => v = .bool y9 ∧ St w9 w8 [])) {fuel : Nat} {r : Int} (hm : m_slices_IndexFunc_string_string fuel x0 x1 = some r) :
    Calls Try.prog 198 ⟨[.slice A0_ x0.length k0_, .func (.func f1_) #[] ⟨u1_⟩]⟩ w (Ret fun v w8 => v = .int .i64 r ∧ St w w8 []) := by
  refine Calls.into Try.func198 rfl 19 rfl rfl _ rfl ?_
  unfold m_slices_IndexFunc_string_string at hm
  have hS := St.start w
  refine WP.seq ?_
  refine WP.region ?_
  refine RW.run ttok 1 rfl ?_
  refine RW.nil ?_
  refine WP.seq ?_
  refine WP.seq ?_
  refine WP.region ?_
  refine RW.run ttok 3 rfl ?_
  refine RW.nil ?_
  obtain ⟨o8, hl9, hm⟩ := bind_some hm
  refine WP.cut (fun (t2 : Unit) F w9 => o8 = .inl t2 ∧ Ext w w9 ∧ St w w9 [] ∧ F = []) ?_ ?_
  · skip
    rintro t2 F w7 ⟨ho11, hE6, hS10, rfl⟩
    subst ho11
    rw [aft_inl] at hm
    unfold m_slices_IndexFunc_string_string_j1 at hm
    refine WP.seq ?_
    refine WP.region ?_
    refine RW.run ttok 1 rfl ?_
    refine RW.nil ?_
    refine WP.ret ?_
    cases hm
    exact ⟨_, .cons (.tmp rfl) .nil, rfl, hS10⟩
  · skip
    refine WP.block ?_
    refine WP.weak [(0, .slice A0_ x0.length k0_), (1, .func (.func f1_) #[] ⟨u1_⟩), (7, .int .i64 (x0.length : Int)), (8, .int .i64 0)] ⟨rfl, rfl, rfl, rfl, trivial⟩ ?_
    refine WP.iter (fun (s1 : Int) F w9 => Ext w w9 ∧ St w w9 [] ∧ F = [(0, .slice A0_ x0.length k0_), (1, .func (.func f1_) #[] ⟨u1_⟩), (7, .int .i64 (x0.length : Int)), (8, .int .i64 s1)]) _ hl9 ⟨(Ext.refl _), hS, rfl⟩ ?_
    rintro s1 F w16 _ o14 ⟨hE5, hS15, rfl⟩ hb12 ho13
    unfold m_slices_IndexFunc_string_string_b1 at hb12
    refine WP.seq ?_
    refine WP.region ?_
    refine RW.run ttok 1 rfl ?_
    refine RW.nil ?_
    refine WP.seq ?_
    refine WP.cond (decide (s1 < (x0.length : Int))) rfl (fun hc => ?_) (fun hc => ?_)
    · skip
      rw [if_pos hc] at hb12
      refine WP.skip ?_
      refine WP.seq ?_
      refine WP.block ?_
      refine WP.seq ?_
      refine WP.region ?_
      refine RW.run ttok 2 rfl ?_
      refine RW.nil ?_
      refine WP.seq ?_
      refine WP.region ?_
      refine RW.run ttok 3 rfl ?_
      obtain ⟨x17, hx18, hb12⟩ := bind_some hb12
      refine RW.idx ttok hS15.ext rfl rfl rfl rfl rfl rfl (by decide) rfl rfl h0_ (idx_some hx18).1 (idx_some hx18).2 rfl rfl (fun p19 es20 ha21 hr22 => ?_)
      cases hr22
      refine RW.load1 ttok rfl rfl rfl rfl rfl (At.ext hS15.ext ha21) 0 rfl rfl rfl rfl ?_
      obtain ⟨r23, hx24, hb12⟩ := bind_some hb12
      refine RW.call rfl rfl rfl h1_.1 (h1_.2 hS15.ext  hx24) (fun v25 w26 hR27 => ?_)
      obtain ⟨rfl, hR28⟩ := hR27
      have hS29 := hS15.join hR28
      refine RW.nil ?_
      refine WP.cond r23 rfl (fun hc => ?_) (fun hc => ?_)
      · skip
        rw [if_pos hc] at hb12
        refine WP.seq ?_
        refine WP.region ?_
        refine RW.run ttok 2 rfl ?_
        refine RW.nil ?_
        refine WP.ret ?_
        cases hb12
        cases ho13
        have hm : some _ = some _ := hm
        cases hm
        exact ⟨_, .cons (.tmp rfl) .nil, rfl, hS29⟩
      · skip
        rw [if_neg (not_t hc)] at hb12
        refine WP.skip ?_
        refine WP.region ?_
        refine RW.run ttok 2 rfl ?_
        refine RW.nil ?_
        cases hb12
        exact ⟨_, [(0, .slice A0_ x0.length k0_), (1, .func (.func f1_) #[] ⟨u1_⟩), (7, .int .i64 (x0.length : Int)), (8, .int .i64 (w64 (s1 + 1)))], ⟨rfl, rfl, rfl, rfl, trivial⟩, rfl, (hE5.trans hR28.ext), hS29, rfl⟩
    · skip
      rw [if_neg (not_t hc)] at hb12
      refine WP.exit ?_
      cases hb12
      exact ⟨_, [], trivial, ho13, hE5, hS15, rfl⟩

theorem enters138 : Enters Try.prog 138 := ⟨_, _, Try.func138, rfl, by kernel_rfl⟩
def m_slices_ContainsFunc_string_string (fuel : Nat) (x0 : (List ByteArray)) (x1 : ByteArray → Option Bool) : Option (Bool) := ((m_slices_IndexFunc_string_string fuel x0 x1).bind fun r1 => some (decide (r1 ≥ 0)))

set_option maxRecDepth 100000 in
theorem slices_ContainsFunc_string_string_ok {w : World} {A0_ : Option Addr} {k0_ : Nat} {x0 : (List ByteArray)} {f1_ : Nat} {u1_ : List Value} {x1 : ByteArray → Option Bool} (h0_ : ty35.ro w [.slice A0_ x0.length k0_] x0) (h1_ : Enters Try.prog f1_ ∧ ∀ {w9 : World}, Ext w w9 → ∀ {z0 : ByteArray} {y9 : Bool}, x1 z0 = some y9 → Calls Try.prog f1_ ⟨[.string z0] ++ u1_⟩ w9 (Ret fun v w8 => v = .bool y9 ∧ St w9 w8 [])) {fuel : Nat} {r : Bool} (hm : m_slices_ContainsFunc_string_string fuel x0 x1 = some r) :
    Calls Try.prog 138 ⟨[.slice A0_ x0.length k0_, .func (.func f1_) #[] ⟨u1_⟩]⟩ w (Ret fun v w8 => v = .bool r ∧ St w w8 []) := by
  refine Calls.into Try.func138 rfl 9 rfl rfl _ rfl ?_
  unfold m_slices_ContainsFunc_string_string at hm
  have hS := St.start w
  refine WP.seq ?_
  refine WP.region ?_
  refine RW.run ttok 1 rfl ?_
  refine RW.nil ?_
  refine WP.seq ?_
  refine WP.region ?_
  refine RW.run ttok 2 rfl ?_
  obtain ⟨r1, hx2, hm⟩ := bind_some hm
  refine RW.call rfl rfl rfl enters198 (slices_IndexFunc_string_string_ok (ty35.ext hS.ext h0_) ⟨h1_.1, fun e9 => h1_.2 (hS.ext.trans e9)⟩ hx2) (fun v3 w4 hR5 => ?_)
  obtain ⟨rfl, hR6⟩ := hR5
  have hS7 := hS.join hR6
  refine RW.run ttok 2 rfl ?_
  refine RW.nil ?_
  refine WP.ret ?_
  cases hm
  exact ⟨_, .cons (.tmp rfl) .nil, rfl, hS7⟩

theorem enters139 : Enters Try.prog 139 := ⟨_, _, Try.func139, rfl, by kernel_rfl⟩
def m_impl_ValidChannel_c1 (fuel : Nat) (x0 : ByteArray) : Option (Bool) := some (decide ((x0.size : Int) > 40))

set_option maxRecDepth 100000 in
theorem impl_ValidChannel_c1_ok {w : World} {x0 : ByteArray}  {fuel : Nat} {r : Bool} (hm : m_impl_ValidChannel_c1 fuel x0 = some r) :
    Calls Try.prog 139 ⟨[.string x0]⟩ w (Ret fun v w8 => v = .bool r ∧ St w w8 []) := by
  refine Calls.into Try.func139 rfl 6 rfl rfl _ rfl ?_
  unfold m_impl_ValidChannel_c1 at hm
  have hS := St.start w
  refine WP.seq ?_
  refine WP.region ?_
  refine RW.run ttok 1 rfl ?_
  refine RW.nil ?_
  refine WP.seq ?_
  refine WP.region ?_
  refine RW.run ttok 4 rfl ?_
  refine RW.nil ?_
  refine WP.ret ?_
  cases hm
  exact ⟨_, .cons (.tmp rfl) .nil, rfl, hS⟩

theorem enters140 : Enters Try.prog 140 := ⟨_, _, Try.func140, rfl, by kernel_rfl⟩
def m_impl_Channel_numbersOk (fuel : Nat) (x0 : D.Channel) : Option (Bool) := (if (decide (x0.Base ≥ 0)) = true then (if (decide (x0.Base ≤ x0.Expected)) = true then (if (decide (x0.Expected ≤ x0.Next)) = true then (if (decide (x0.Next ≤ (x0.Messages.length : Int))) = true then some (decide ((w64 (x0.Next - x0.Base)) ≤ x0.Window)) else some false) else some false) else some false) else some false)

set_option maxRecDepth 100000 in
theorem impl_Channel_numbersOk_ok {w : World} {p0_ : Addr} {c0_ : List Value} {x0 : D.Channel} (h0_ : ty39.ro w c0_ x0) (g0_ : At w p0_ c0_) {fuel : Nat} {r : Bool} (hm : m_impl_Channel_numbersOk fuel x0 = some r) :
    Calls Try.prog 140 ⟨[.pointer (some p0_)]⟩ w (Ret fun v w8 => v = .bool r ∧ St w w8 []) := by
  obtain ⟨A1, k2, A4, k5, A7, k8, A10, k11, e13, h3, h6, h9, h12⟩ := ty39_open h0_; subst e13
  refine Calls.into Try.func140 rfl 58 rfl rfl _ rfl ?_
  unfold m_impl_Channel_numbersOk at hm
  have hS := St.start w
  refine WP.seq ?_
  refine WP.region ?_
  refine RW.run ttok 1 rfl ?_
  refine RW.nil ?_
  refine WP.seq ?_
  refine WP.drawnM 0 mixed 56 (by kernel_rfl) (by kernel_rfl) [([], 72057594037927935), ([0], 72057594037927934), ([1], 72057594037927933), ([2], 72057594037927931), ([3], 72057594037927927), ([4], 72057594037927919), ([5], 72057594037927903), ([6, 5], 72057594037927839), ([7, 5], 72057594037927775), ([8, 5], 72057594037927647), ([5], 72057594037927903), ([10, 5], 72057594037926879), ([11, 5], 72057594037925855), ([12, 5], 72057594037923807), ([9, 13, 5], 72057594037919199), ([5, 14], 72057594037911519), ([15, 5], 72057594037895167), ([16], 72057594037862399), ([17, 16], 72057594037731327), ([18, 16], 72057594037600255), ([19, 16], 72057594037338111), ([16], 72057594037862399), ([21, 16], 72057594035765247), ([22, 16], 72057594033668095), ([23, 16], 72057594029473791), ([20, 24, 16], 72057594020036607), ([16, 25], 72057594004307967), ([26, 16], 72057593970819071), ([27], 72057593903710207), ([28, 27], 72057593635274751), ([29, 27], 72057593366839295), ([30, 27], 72057592829968383), ([27], 72057593903710207), ([32, 27], 72057589608742911), ([33, 27], 72057585313775615), ([34, 27], 72057576723841023), ([35, 27], 72057559543971839), ([31, 36, 27], 72057523036749823), ([27, 37], 72057456464756735), ([38, 27], 72057319160020991), ([39], 72057044282114047), ([40, 39], 72055944770486271), ([41, 39], 72054845258858495), ([42, 39], 72052646235602943), ([39], 72057044282114047), ([44, 39], 72039452096069631), ([45, 39], 72021859910025215), ([46, 39], 71986675537936383), ([43, 47, 39], 71907510700736511), ([39], 72057044282114047), ([49, 39], 71494094328692735), ([50, 39], 70931144375271423), ([51, 39], 69805244468428799), ([48, 52, 39], 67271969678032895), ([39, 53], 63049845027373055), ([54, 39, 0, 1, 2, 3, 4, 5, 6, 7, 8, 9, 10, 11, 12, 13, 14, 15, 16, 17, 18, 19, 20, 21, 22, 23, 24, 25, 26, 27, 28, 29, 30, 31, 32, 33, 34, 35, 36, 37, 38, 39, 40, 41, 42, 43, 44, 45, 46, 47, 48, 49, 50, 51, 52, 53, 54], 54043195528445951)] (by kernel_rfl) (fun hsk14 => ?_)
  have hS15 := hS.step (Ext.draw _)
  refine DM.run (fuel := 53) ttok hsk14 [0, 1, 2] 7 (by kernel_rfl) (by kernel_rfl) rfl ?_
  refine DM.load1 ttok hsk14 3 15 (by kernel_rfl) (by kernel_rfl) (by kernel_rfl) (by kernel_rfl) rfl (by kernel_rfl) rfl rfl rfl rfl rfl (At.ext hS.ext g0_) 2 rfl rfl rfl rfl ?_
  refine DM.run (fuel := 50) ttok hsk14 [4, 5] 63 (by kernel_rfl) (by kernel_rfl) rfl ?_
  by_cases hg16 : (decide (x0.Base ≥ 0)) = true
  · skip
    rw [if_pos hg16] at hm
    refine DM.know 8 rfl (congrArg Value.bool hg16) ?_
    refine DM.run (fuel := 44) ttok hsk14 [6, 7, 8, 10, 11, 12] 7679 (by kernel_rfl) (by kernel_rfl) rfl ?_
    refine DM.weak [(0, .pointer (some p0_)), (2, .bool false), (8, .bool true), (11, .pointer (some (p0_.add 2))), (15, .pointer (some (p0_.add 4)))] ⟨rfl, rfl, rfl, rfl, rfl, trivial⟩ ?_
    refine DM.load1 ttok hsk14 9 8191 (by kernel_rfl) (by kernel_rfl) (by kernel_rfl) (by kernel_rfl) rfl (by kernel_rfl) rfl rfl rfl rfl rfl (At.ext hS.ext g0_) 2 rfl rfl rfl rfl ?_
    refine DM.load1 ttok hsk14 13 16383 (by kernel_rfl) (by kernel_rfl) (by kernel_rfl) (by kernel_rfl) rfl (by kernel_rfl) rfl rfl rfl rfl rfl (At.ext hS.ext g0_) 4 rfl rfl rfl rfl ?_
    refine DM.run (fuel := 39) ttok hsk14 [14, 15, 16] 131071 (by kernel_rfl) (by kernel_rfl) rfl ?_
    refine DM.weak [(0, .pointer (some p0_)), (2, .bool false), (19, .bool (decide (x0.Base ≤ x0.Expected)))] ⟨rfl, rfl, rfl, trivial⟩ ?_
    by_cases hg17 : (decide (x0.Base ≤ x0.Expected)) = true
    · skip
      rw [if_pos hg17] at hm
      refine DM.know 19 rfl (congrArg Value.bool hg17) ?_
      refine DM.run (fuel := 33) ttok hsk14 [17, 18, 19, 21, 22, 23] 15728639 (by kernel_rfl) (by kernel_rfl) rfl ?_
      refine DM.load1 ttok hsk14 20 16777215 (by kernel_rfl) (by kernel_rfl) (by kernel_rfl) (by kernel_rfl) rfl (by kernel_rfl) rfl rfl rfl rfl rfl (At.ext hS.ext g0_) 4 rfl rfl rfl rfl ?_
      refine DM.load1 ttok hsk14 24 33554431 (by kernel_rfl) (by kernel_rfl) (by kernel_rfl) (by kernel_rfl) rfl (by kernel_rfl) rfl rfl rfl rfl rfl (At.ext hS.ext g0_) 3 rfl rfl rfl rfl ?_
      refine DM.run (fuel := 28) ttok hsk14 [25, 26, 27] 268435455 (by kernel_rfl) (by kernel_rfl) rfl ?_
      refine DM.weak [(0, .pointer (some p0_)), (2, .bool false), (30, .bool (decide (x0.Expected ≤ x0.Next)))] ⟨rfl, rfl, rfl, trivial⟩ ?_
      by_cases hg18 : (decide (x0.Expected ≤ x0.Next)) = true
      · skip
        rw [if_pos hg18] at hm
        refine DM.know 30 rfl (congrArg Value.bool hg18) ?_
        refine DM.run (fuel := 22) ttok hsk14 [28, 29, 30, 32, 33, 34] 32212254719 (by kernel_rfl) (by kernel_rfl) rfl ?_
        refine DM.load1 ttok hsk14 31 34359738367 (by kernel_rfl) (by kernel_rfl) (by kernel_rfl) (by kernel_rfl) rfl (by kernel_rfl) rfl rfl rfl rfl rfl (At.ext hS.ext g0_) 3 rfl rfl rfl rfl ?_
        refine DM.load1 ttok hsk14 35 68719476735 (by kernel_rfl) (by kernel_rfl) (by kernel_rfl) (by kernel_rfl) rfl (by kernel_rfl) rfl rfl rfl rfl rfl (At.ext hS.ext g0_) 1 rfl rfl rfl rfl ?_
        refine DM.run (fuel := 16) ttok hsk14 [36, 37, 38, 39] 1099511627775 (by kernel_rfl) (by kernel_rfl) rfl ?_
        refine DM.weak [(0, .pointer (some p0_)), (2, .bool false), (42, .bool (decide (x0.Next ≤ (x0.Messages.length : Int))))] ⟨rfl, rfl, rfl, trivial⟩ ?_
        by_cases hg19 : (decide (x0.Next ≤ (x0.Messages.length : Int))) = true
        · skip
          rw [if_pos hg19] at hm
          refine DM.know 42 rfl (congrArg Value.bool hg19) ?_
          refine DM.run (fuel := 7) ttok hsk14 [40, 41, 42, 44, 45, 46, 49, 50, 51] 4072591069282303 (by kernel_rfl) (by kernel_rfl) rfl ?_
          refine DM.weak [(2, .bool false), (42, .bool true), (45, .pointer (some (p0_.add 3))), (49, .pointer (some (p0_.add 2))), (54, .pointer (some p0_))] ⟨rfl, rfl, rfl, rfl, rfl, trivial⟩ ?_
          refine DM.load1 ttok hsk14 43 4081387162304511 (by kernel_rfl) (by kernel_rfl) (by kernel_rfl) (by kernel_rfl) rfl (by kernel_rfl) rfl rfl rfl rfl rfl (At.ext hS.ext g0_) 3 rfl rfl rfl rfl ?_
          refine DM.load1 ttok hsk14 47 4222124650659839 (by kernel_rfl) (by kernel_rfl) (by kernel_rfl) (by kernel_rfl) rfl (by kernel_rfl) rfl rfl rfl rfl rfl (At.ext hS.ext g0_) 2 rfl rfl rfl rfl ?_
          refine DM.run (fuel := 4) ttok hsk14 [48] 4503599627370495 (by kernel_rfl) (by kernel_rfl) rfl ?_
          refine DM.load1 ttok hsk14 52 9007199254740991 (by kernel_rfl) (by kernel_rfl) (by kernel_rfl) (by kernel_rfl) rfl (by kernel_rfl) rfl rfl rfl rfl rfl (At.ext hS.ext g0_) 0 rfl rfl rfl rfl ?_
          refine DM.run (fuel := 0) ttok hsk14 [53, 54, 55] 72057594037927935 (by kernel_rfl) (by kernel_rfl) rfl ?_
          refine DM.weak [(2, .bool (decide ((w64 (x0.Next - x0.Base)) ≤ x0.Window)))] ⟨rfl, trivial⟩ ?_
          refine DM.done hsk14 (by kernel_rfl) ?_
          refine WP.ret ?_
          cases hm
          exact ⟨_, .cons (.tmp rfl) .nil, rfl, hS15⟩
        · skip
          rw [if_neg hg19] at hm
          refine DM.know 42 rfl (congrArg Value.bool (Bool.eq_false_iff.2 hg19)) ?_
          refine DM.run (fuel := 0) ttok hsk14 [40, 41, 42, 43, 44, 45, 46, 47, 48, 49, 50, 51, 52, 53, 54, 55] 72057594037927935 (by kernel_rfl) (by kernel_rfl) rfl ?_
          refine DM.weak [(2, .bool false)] ⟨rfl, trivial⟩ ?_
          refine DM.done hsk14 (by kernel_rfl) ?_
          refine WP.ret ?_
          cases hm
          exact ⟨_, .cons (.tmp rfl) .nil, rfl, hS15⟩
      · skip
        rw [if_neg hg18] at hm
        refine DM.know 30 rfl (congrArg Value.bool (Bool.eq_false_iff.2 hg18)) ?_
        refine DM.run (fuel := 0) ttok hsk14 [28, 29, 30, 31, 32, 33, 34, 35, 36, 37, 38, 39, 40, 41, 42, 43, 44, 45, 46, 47, 48, 49, 50, 51, 52, 53, 54, 55] 72057594037927935 (by kernel_rfl) (by kernel_rfl) rfl ?_
        refine DM.weak [(2, .bool false)] ⟨rfl, trivial⟩ ?_
        refine DM.done hsk14 (by kernel_rfl) ?_
        refine WP.ret ?_
        cases hm
        exact ⟨_, .cons (.tmp rfl) .nil, rfl, hS15⟩
    · skip
      rw [if_neg hg17] at hm
      refine DM.know 19 rfl (congrArg Value.bool (Bool.eq_false_iff.2 hg17)) ?_
      refine DM.run (fuel := 0) ttok hsk14 [17, 18, 19, 20, 21, 22, 23, 24, 25, 26, 27, 28, 29, 30, 31, 32, 33, 34, 35, 36, 37, 38, 39, 40, 41, 42, 43, 44, 45, 46, 47, 48, 49, 50, 51, 52, 53, 54, 55] 72057594037927935 (by kernel_rfl) (by kernel_rfl) rfl ?_
      refine DM.weak [(2, .bool false)] ⟨rfl, trivial⟩ ?_
      refine DM.done hsk14 (by kernel_rfl) ?_
      refine WP.ret ?_
      cases hm
      exact ⟨_, .cons (.tmp rfl) .nil, rfl, hS15⟩
  · skip
    rw [if_neg hg16] at hm
    refine DM.know 8 rfl (congrArg Value.bool (Bool.eq_false_iff.2 hg16)) ?_
    refine DM.run (fuel := 0) ttok hsk14 [6, 7, 8, 9, 10, 11, 12, 13, 14, 15, 16, 17, 18, 19, 20, 21, 22, 23, 24, 25, 26, 27, 28, 29, 30, 31, 32, 33, 34, 35, 36, 37, 38, 39, 40, 41, 42, 43, 44, 45, 46, 47, 48, 49, 50, 51, 52, 53, 54, 55] 72057594037927935 (by kernel_rfl) (by kernel_rfl) rfl ?_
    refine DM.weak [(2, .bool false)] ⟨rfl, trivial⟩ ?_
    refine DM.done hsk14 (by kernel_rfl) ?_
    refine WP.ret ?_
    cases hm
    exact ⟨_, .cons (.tmp rfl) .nil, rfl, hS15⟩

theorem enters141 : Enters Try.prog 141 := ⟨_, _, Try.func141, rfl, by kernel_rfl⟩
def m_slices_Equal_string_string_j1 (fuel : Nat) (t2 : Unit) : Option Bool := some true
def m_slices_Equal_string_string_b1 (fuel : Nat) (x0 : (List ByteArray)) (x1 : (List ByteArray)) (s1 : Int) : Option (Rd (Int) (Unit) (Bool)) := (if (decide (s1 < (x0.length : Int))) = true then ((idx x0 s1).bind fun x19 => ((idx x1 s1).bind fun x25 => (if (!(seqb x19 x25)) = true then some (.ret false) else some (.next (w64 (s1 + 1)))))) else some (.brk ()))
def m_slices_Equal_string_string (fuel : Nat) (x0 : (List ByteArray)) (x1 : (List ByteArray)) : Option (Bool) := (if ((x0.length : Int) != (x1.length : Int)) = true then some false else ((iter (m_slices_Equal_string_string_b1 fuel x0 x1) fuel 0).bind fun o => aft o (m_slices_Equal_string_string_j1 fuel)))

set_option maxRecDepth 100000 in
theorem slices_Equal_string_string_ok {w : World} {A0_ : Option Addr} {k0_ : Nat} {x0 : (List ByteArray)} {A1_ : Option Addr} {k1_ : Nat} {x1 : (List ByteArray)} (h0_ : ty35.ro w [.slice A0_ x0.length k0_] x0) (h1_ : ty35.ro w [.slice A1_ x1.length k1_] x1) {fuel : Nat} {r : Bool} (hm : m_slices_Equal_string_string fuel x0 x1 = some r) :
    Calls Try.prog 141 ⟨[.slice A0_ x0.length k0_, .slice A1_ x1.length k1_]⟩ w (Ret fun v w8 => v = .bool r ∧ St w w8 []) := by
  refine Calls.into Try.func141 rfl 26 rfl rfl _ rfl ?_
  unfold m_slices_Equal_string_string at hm
  have hS := St.start w
  refine WP.seq ?_
  refine WP.region ?_
  refine RW.run ttok 1 rfl ?_
  refine RW.nil ?_
  refine WP.seq ?_
  refine WP.seq ?_
  refine WP.region ?_
  refine RW.run ttok 5 rfl ?_
  refine RW.nil ?_
  refine WP.cond ((x0.length : Int) != (x1.length : Int)) rfl (fun hc => ?_) (fun hc => ?_)
  · skip
    rw [if_pos hc] at hm
    refine WP.seq ?_
    refine WP.region ?_
    refine RW.run ttok 1 rfl ?_
    refine RW.nil ?_
    refine WP.ret ?_
    cases hm
    exact ⟨_, .cons (.tmp rfl) .nil, rfl, hS⟩
  · skip
    rw [if_neg (not_t hc)] at hm
    refine WP.skip ?_
    refine WP.seq ?_
    refine WP.seq ?_
    refine WP.region ?_
    refine RW.run ttok 3 rfl ?_
    refine RW.nil ?_
    obtain ⟨o8, hl9, hm⟩ := bind_some hm
    refine WP.cut (fun (t2 : Unit) F w9 => o8 = .inl t2 ∧ Ext w w9 ∧ St w w9 [] ∧ F = []) ?_ ?_
    · skip
      rintro t2 F w7 ⟨ho11, hE6, hS10, rfl⟩
      subst ho11
      rw [aft_inl] at hm
      unfold m_slices_Equal_string_string_j1 at hm
      refine WP.seq ?_
      refine WP.region ?_
      refine RW.run ttok 1 rfl ?_
      refine RW.nil ?_
      refine WP.ret ?_
      cases hm
      exact ⟨_, .cons (.tmp rfl) .nil, rfl, hS10⟩
    · skip
      refine WP.block ?_
      refine WP.weak [(0, .slice A0_ x0.length k0_), (1, .slice A1_ x1.length k1_), (12, .int .i64 (x0.length : Int)), (13, .int .i64 0)] ⟨rfl, rfl, rfl, rfl, trivial⟩ ?_
      refine WP.iter (fun (s1 : Int) F w9 => Ext w w9 ∧ St w w9 [] ∧ F = [(0, .slice A0_ x0.length k0_), (1, .slice A1_ x1.length k1_), (12, .int .i64 (x0.length : Int)), (13, .int .i64 s1)]) _ hl9 ⟨(Ext.refl _), hS, rfl⟩ ?_
      rintro s1 F w16 _ o14 ⟨hE5, hS15, rfl⟩ hb12 ho13
      unfold m_slices_Equal_string_string_b1 at hb12
      refine WP.seq ?_
      refine WP.region ?_
      refine RW.run ttok 1 rfl ?_
      refine RW.nil ?_
      refine WP.seq ?_
      refine WP.cond (decide (s1 < (x0.length : Int))) rfl (fun hc => ?_) (fun hc => ?_)
      · skip
        rw [if_pos hc] at hb12
        refine WP.skip ?_
        refine WP.seq ?_
        refine WP.block ?_
        refine WP.seq ?_
        refine WP.region ?_
        refine RW.run ttok 2 rfl ?_
        refine RW.nil ?_
        refine WP.seq ?_
        refine WP.drawnM 0 mixed 9 (by kernel_rfl) (by kernel_rfl) [([], 511), ([], 511), ([0, 1], 508), ([2], 507), ([], 511), ([], 511), ([4, 5], 463), ([6], 447), ([3, 7], 375)] (by kernel_rfl) (fun hsk17 => ?_)
        have hS18 := hS15.step (Ext.draw _)
        refine DM.run (fuel := 5) ttok hsk17 [0, 1, 4, 5] 51 (by kernel_rfl) (by kernel_rfl) rfl ?_
        obtain ⟨x19, hx20, hb12⟩ := bind_some hb12
        refine DM.idx ttok hS15.ext hsk17 2 55 (by kernel_rfl) (by kernel_rfl) (by kernel_rfl) (by kernel_rfl) rfl (by kernel_rfl) rfl rfl rfl rfl rfl rfl (by decide) rfl rfl h0_ (idx_some hx20).1 (idx_some hx20).2 rfl rfl (fun p21 es22 ha23 hr24 => ?_)
        cases hr24
        refine DM.load1 ttok hsk17 3 63 (by kernel_rfl) (by kernel_rfl) (by kernel_rfl) (by kernel_rfl) rfl (by kernel_rfl) rfl rfl rfl rfl rfl (At.ext hS15.ext ha23) 0 rfl rfl rfl rfl ?_
        obtain ⟨x25, hx26, hb12⟩ := bind_some hb12
        refine DM.idx ttok hS15.ext hsk17 6 127 (by kernel_rfl) (by kernel_rfl) (by kernel_rfl) (by kernel_rfl) rfl (by kernel_rfl) rfl rfl rfl rfl rfl rfl (by decide) rfl rfl h1_ (idx_some hx26).1 (idx_some hx26).2 rfl rfl (fun p27 es28 ha29 hr30 => ?_)
        cases hr30
        refine DM.load1 ttok hsk17 7 255 (by kernel_rfl) (by kernel_rfl) (by kernel_rfl) (by kernel_rfl) rfl (by kernel_rfl) rfl rfl rfl rfl rfl (At.ext hS15.ext ha29) 0 rfl rfl rfl rfl ?_
        refine DM.run (fuel := 0) ttok hsk17 [8] 511 (by kernel_rfl) (by kernel_rfl) rfl ?_
        refine DM.weak [(0, .slice A0_ x0.length k0_), (1, .slice A1_ x1.length k1_), (12, .int .i64 (x0.length : Int)), (13, .int .i64 s1), (24, .bool (!(seqb x19 x25)))] ⟨rfl, rfl, rfl, rfl, rfl, trivial⟩ ?_
        refine DM.done hsk17 (by kernel_rfl) ?_
        refine WP.cond (!(seqb x19 x25)) rfl (fun hc => ?_) (fun hc => ?_)
        · skip
          rw [if_pos hc] at hb12
          refine WP.seq ?_
          refine WP.region ?_
          refine RW.run ttok 1 rfl ?_
          refine RW.nil ?_
          refine WP.ret ?_
          cases hb12
          cases ho13
          have hm : some _ = some _ := hm
          cases hm
          exact ⟨_, .cons (.tmp rfl) .nil, rfl, hS18⟩
        · skip
          rw [if_neg (not_t hc)] at hb12
          refine WP.skip ?_
          refine WP.region ?_
          refine RW.run ttok 2 rfl ?_
          refine RW.nil ?_
          cases hb12
          exact ⟨_, [(0, .slice A0_ x0.length k0_), (1, .slice A1_ x1.length k1_), (12, .int .i64 (x0.length : Int)), (13, .int .i64 (w64 (s1 + 1)))], ⟨rfl, rfl, rfl, rfl, trivial⟩, rfl, (hE5.trans (Ext.draw _)), hS18, rfl⟩
      · skip
        rw [if_neg (not_t hc)] at hb12
        refine WP.exit ?_
        cases hb12
        exact ⟨_, [], trivial, ho13, hE5, hS15, rfl⟩

theorem enters142 : Enters Try.prog 142 := ⟨_, _, Try.func142, rfl, by kernel_rfl⟩
def m_impl_Channel_validPacket (fuel : Nat) (x0 : D.Channel) (x1 : D.Packet) : Option (Bool) := (if x1.Ack = true then (if (decide (x1.Number ≥ 0)) = true then (if (decide (x1.Number ≤ x0.Expected)) = true then some (seqb x1.Text (⟨#[]⟩ : ByteArray)) else some false) else some false) else (if (decide (x1.Number ≥ 0)) = true then (if (decide (x1.Number < x0.Next)) = true then ((idx x0.Messages x1.Number).bind fun x27 => some (seqb x1.Text x27)) else some false) else some false))

set_option maxRecDepth 100000 in
theorem impl_Channel_validPacket_ok {w : World} {p0_ : Addr} {c0_ : List Value} {x0 : D.Channel} {c1_ : List Value} {x1 : D.Packet} (h0_ : ty39.ro w c0_ x0) (g0_ : At w p0_ c0_) (h1_ : ty126.ro w c1_ x1) {fuel : Nat} {r : Bool} (hm : m_impl_Channel_validPacket fuel x0 x1 = some r) :
    Calls Try.prog 142 ⟨[.pointer (some p0_), .agg ⟨c1_⟩]⟩ w (Ret fun v w8 => v = .bool r ∧ St w w8 []) := by
  obtain ⟨A1, k2, A4, k5, A7, k8, A10, k11, e13, h3, h6, h9, h12⟩ := ty39_open h0_; subst e13
  have e14 := ty126_open h1_; subst e14
  refine Calls.into Try.func142 rfl 49 rfl rfl _ rfl ?_
  unfold m_impl_Channel_validPacket at hm
  have hS := St.start w
  refine WP.seq ?_
  refine WP.region ?_
  refine RW.new ttok hS rfl rfl rfl rfl (fun g15 w16 e17 hS18 => ?_)
  refine RW.run ttok 1 rfl ?_
  refine RW.nil ?_
  refine WP.seq ?_
  refine WP.seq ?_
  refine WP.region ?_
  refine RW.run ttok 1 rfl ?_
  refine RW.load1 ttok rfl rfl rfl rfl rfl ((hS18.bring 0 rfl).box) 0 rfl rfl rfl rfl ?_
  refine RW.nil ?_
  refine WP.cond x1.Ack rfl (fun hc => ?_) (fun hc => ?_)
  · skip
    rw [if_pos hc] at hm
    refine WP.seq ?_
    refine WP.drawnM 0 mixed 18 (by kernel_rfl) (by kernel_rfl) [([], 262143), ([0], 262142), ([1], 262141), ([2], 262139), ([3], 262135), ([4, 3], 262119), ([3], 262135), ([6, 3], 262071), ([7, 3], 262007), ([8, 3], 261879), ([5, 9, 3], 261591), ([3, 10], 261111), ([11, 3], 260095), ([12], 258047), ([13, 12], 249855), ([14, 12], 241663), ([12, 15], 225279), ([16, 12, 0, 1, 2, 3, 4, 5, 6, 7, 8, 9, 10, 11, 12, 13, 14, 15, 16], 196607)] (by kernel_rfl) (fun hsk19 => ?_)
    have hS20 := hS18.step (Ext.draw _)
    refine DM.run (fuel := 17) ttok hsk19 [0] 1 (by kernel_rfl) (by kernel_rfl) rfl ?_
    refine DM.load1 ttok hsk19 1 3 (by kernel_rfl) (by kernel_rfl) (by kernel_rfl) (by kernel_rfl) rfl (by kernel_rfl) rfl rfl rfl rfl rfl ((hS18.bring 0 rfl).box) 1 rfl rfl rfl rfl ?_
    refine DM.run (fuel := 14) ttok hsk19 [2, 3] 15 (by kernel_rfl) (by kernel_rfl) rfl ?_
    refine DM.weak [(0, .pointer (some p0_)), (3, .pointer (some ⟨g15, 0, none⟩)), (4, .bool false), (10, .bool (decide (x1.Number ≥ 0)))] ⟨rfl, rfl, rfl, rfl, trivial⟩ ?_
    by_cases hg21 : (decide (x1.Number ≥ 0)) = true
    · skip
      rw [if_pos hg21] at hm
      refine DM.know 10 rfl (congrArg Value.bool hg21) ?_
      refine DM.run (fuel := 10) ttok hsk19 [4, 6, 7, 8] 479 (by kernel_rfl) (by kernel_rfl) rfl ?_
      refine DM.load1 ttok hsk19 5 511 (by kernel_rfl) (by kernel_rfl) (by kernel_rfl) (by kernel_rfl) rfl (by kernel_rfl) rfl rfl rfl rfl rfl ((hS18.bring 0 rfl).box) 1 rfl rfl rfl rfl ?_
      refine DM.load1 ttok hsk19 9 1023 (by kernel_rfl) (by kernel_rfl) (by kernel_rfl) (by kernel_rfl) rfl (by kernel_rfl) rfl rfl rfl rfl rfl (At.ext hS18.ext g0_) 4 rfl rfl rfl rfl ?_
      refine DM.run (fuel := 5) ttok hsk19 [10, 11, 12] 8191 (by kernel_rfl) (by kernel_rfl) rfl ?_
      refine DM.weak [(3, .pointer (some ⟨g15, 0, none⟩)), (4, .bool false), (19, .bool (decide (x1.Number ≤ x0.Expected)))] ⟨rfl, rfl, rfl, trivial⟩ ?_
      by_cases hg22 : (decide (x1.Number ≤ x0.Expected)) = true
      · skip
        rw [if_pos hg22] at hm
        refine DM.know 19 rfl (congrArg Value.bool hg22) ?_
        refine DM.run (fuel := 4) ttok hsk19 [13] 16383 (by kernel_rfl) (by kernel_rfl) rfl ?_
        refine DM.load1 ttok hsk19 14 32767 (by kernel_rfl) (by kernel_rfl) (by kernel_rfl) (by kernel_rfl) rfl (by kernel_rfl) rfl rfl rfl rfl rfl ((hS18.bring 0 rfl).box) 2 rfl rfl rfl rfl ?_
        refine DM.run (fuel := 0) ttok hsk19 [15, 16, 17] 262143 (by kernel_rfl) (by kernel_rfl) rfl ?_
        refine DM.weak [(4, .bool (seqb x1.Text (⟨#[]⟩ : ByteArray)))] ⟨rfl, trivial⟩ ?_
        refine DM.done hsk19 (by kernel_rfl) ?_
        refine WP.ret ?_
        cases hm
        exact ⟨_, .cons (.tmp rfl) .nil, rfl, (hS20.taken 0)⟩
      · skip
        rw [if_neg hg22] at hm
        refine DM.know 19 rfl (congrArg Value.bool (Bool.eq_false_iff.2 hg22)) ?_
        refine DM.run (fuel := 0) ttok hsk19 [13, 14, 15, 16, 17] 262143 (by kernel_rfl) (by kernel_rfl) rfl ?_
        refine DM.weak [(4, .bool false)] ⟨rfl, trivial⟩ ?_
        refine DM.done hsk19 (by kernel_rfl) ?_
        refine WP.ret ?_
        cases hm
        exact ⟨_, .cons (.tmp rfl) .nil, rfl, (hS20.taken 0)⟩
    · skip
      rw [if_neg hg21] at hm
      refine DM.know 10 rfl (congrArg Value.bool (Bool.eq_false_iff.2 hg21)) ?_
      refine DM.run (fuel := 0) ttok hsk19 [4, 5, 6, 7, 8, 9, 10, 11, 12, 13, 14, 15, 16, 17] 262143 (by kernel_rfl) (by kernel_rfl) rfl ?_
      refine DM.weak [(4, .bool false)] ⟨rfl, trivial⟩ ?_
      refine DM.done hsk19 (by kernel_rfl) ?_
      refine WP.ret ?_
      cases hm
      exact ⟨_, .cons (.tmp rfl) .nil, rfl, (hS20.taken 0)⟩
  · skip
    rw [if_neg (not_t hc)] at hm
    refine WP.skip ?_
    refine WP.seq ?_
    refine WP.drawnM 0 mixed 26 (by kernel_rfl) (by kernel_rfl) [([], 67108863), ([0], 67108862), ([1], 67108861), ([2], 67108859), ([3], 67108855), ([4, 3], 67108839), ([3], 67108855), ([6, 3], 67108791), ([7, 3], 67108727), ([8, 3], 67108599), ([5, 9, 3], 67108311), ([3, 10], 67107831), ([11, 3], 67106815), ([12], 67104767), ([13, 12], 67096575), ([12], 67104767), ([15, 12], 67071999), ([16, 12], 67039231), ([17, 12], 66973695), ([12], 67104767), ([19, 12], 66580479), ([18, 20, 12], 65794047), ([21, 12], 65007615), ([14, 22, 12], 62894079), ([12, 23], 58716159), ([24, 12, 0, 1, 2, 3, 4, 5, 6, 7, 8, 9, 10, 11, 12, 13, 14, 15, 16, 17, 18, 19, 20, 21, 22, 23, 24], 50331647)] (by kernel_rfl) (fun hsk23 => ?_)
    have hS24 := hS18.step (Ext.draw _)
    refine DM.run (fuel := 25) ttok hsk23 [0] 1 (by kernel_rfl) (by kernel_rfl) rfl ?_
    refine DM.load1 ttok hsk23 1 3 (by kernel_rfl) (by kernel_rfl) (by kernel_rfl) (by kernel_rfl) rfl (by kernel_rfl) rfl rfl rfl rfl rfl ((hS18.bring 0 rfl).box) 1 rfl rfl rfl rfl ?_
    refine DM.run (fuel := 22) ttok hsk23 [2, 3] 15 (by kernel_rfl) (by kernel_rfl) rfl ?_
    refine DM.weak [(0, .pointer (some p0_)), (3, .pointer (some ⟨g15, 0, none⟩)), (4, .bool false), (27, .bool (decide (x1.Number ≥ 0)))] ⟨rfl, rfl, rfl, rfl, trivial⟩ ?_
    by_cases hg25 : (decide (x1.Number ≥ 0)) = true
    · skip
      rw [if_pos hg25] at hm
      refine DM.know 27 rfl (congrArg Value.bool hg25) ?_
      refine DM.run (fuel := 18) ttok hsk23 [4, 6, 7, 8] 479 (by kernel_rfl) (by kernel_rfl) rfl ?_
      refine DM.load1 ttok hsk23 5 511 (by kernel_rfl) (by kernel_rfl) (by kernel_rfl) (by kernel_rfl) rfl (by kernel_rfl) rfl rfl rfl rfl rfl ((hS18.bring 0 rfl).box) 1 rfl rfl rfl rfl ?_
      refine DM.load1 ttok hsk23 9 1023 (by kernel_rfl) (by kernel_rfl) (by kernel_rfl) (by kernel_rfl) rfl (by kernel_rfl) rfl rfl rfl rfl rfl (At.ext hS18.ext g0_) 3 rfl rfl rfl rfl ?_
      refine DM.run (fuel := 13) ttok hsk23 [10, 11, 12] 8191 (by kernel_rfl) (by kernel_rfl) rfl ?_
      refine DM.weak [(0, .pointer (some p0_)), (3, .pointer (some ⟨g15, 0, none⟩)), (4, .bool false), (36, .bool (decide (x1.Number < x0.Next)))] ⟨rfl, rfl, rfl, rfl, trivial⟩ ?_
      by_cases hg26 : (decide (x1.Number < x0.Next)) = true
      · skip
        rw [if_pos hg26] at hm
        refine DM.know 36 rfl (congrArg Value.bool hg26) ?_
        refine DM.run (fuel := 8) ttok hsk23 [13, 15, 16, 17, 19] 770047 (by kernel_rfl) (by kernel_rfl) rfl ?_
        refine DM.load1 ttok hsk23 14 786431 (by kernel_rfl) (by kernel_rfl) (by kernel_rfl) (by kernel_rfl) rfl (by kernel_rfl) rfl rfl rfl rfl rfl ((hS18.bring 0 rfl).box) 2 rfl rfl rfl rfl ?_
        refine DM.load1 ttok hsk23 18 1048575 (by kernel_rfl) (by kernel_rfl) (by kernel_rfl) (by kernel_rfl) rfl (by kernel_rfl) rfl rfl rfl rfl rfl (At.ext hS18.ext g0_) 1 rfl rfl rfl rfl ?_
        refine DM.load1 ttok hsk23 20 2097151 (by kernel_rfl) (by kernel_rfl) (by kernel_rfl) (by kernel_rfl) rfl (by kernel_rfl) rfl rfl rfl rfl rfl ((hS18.bring 0 rfl).box) 1 rfl rfl rfl rfl ?_
        obtain ⟨x27, hx28, hm⟩ := bind_some hm
        refine DM.idx ttok hS18.ext hsk23 21 4194303 (by kernel_rfl) (by kernel_rfl) (by kernel_rfl) (by kernel_rfl) rfl (by kernel_rfl) rfl rfl rfl rfl rfl rfl (by decide) rfl rfl h3 (idx_some hx28).1 (idx_some hx28).2 rfl rfl (fun p29 es30 ha31 hr32 => ?_)
        cases hr32
        refine DM.load1 ttok hsk23 22 8388607 (by kernel_rfl) (by kernel_rfl) (by kernel_rfl) (by kernel_rfl) rfl (by kernel_rfl) rfl rfl rfl rfl rfl (At.ext hS18.ext ha31) 0 rfl rfl rfl rfl ?_
        refine DM.run (fuel := 0) ttok hsk23 [23, 24, 25] 67108863 (by kernel_rfl) (by kernel_rfl) rfl ?_
        refine DM.weak [(4, .bool (seqb x1.Text x27))] ⟨rfl, trivial⟩ ?_
        refine DM.done hsk23 (by kernel_rfl) ?_
        refine WP.ret ?_
        cases hm
        exact ⟨_, .cons (.tmp rfl) .nil, rfl, (hS24.taken 0)⟩
      · skip
        rw [if_neg hg26] at hm
        refine DM.know 36 rfl (congrArg Value.bool (Bool.eq_false_iff.2 hg26)) ?_
        refine DM.run (fuel := 0) ttok hsk23 [13, 14, 15, 16, 17, 18, 19, 20, 21, 22, 23, 24, 25] 67108863 (by kernel_rfl) (by kernel_rfl) rfl ?_
        refine DM.weak [(4, .bool false)] ⟨rfl, trivial⟩ ?_
        refine DM.done hsk23 (by kernel_rfl) ?_
        refine WP.ret ?_
        cases hm
        exact ⟨_, .cons (.tmp rfl) .nil, rfl, (hS24.taken 0)⟩
    · skip
      rw [if_neg hg25] at hm
      refine DM.know 27 rfl (congrArg Value.bool (Bool.eq_false_iff.2 hg25)) ?_
      refine DM.run (fuel := 0) ttok hsk23 [4, 5, 6, 7, 8, 9, 10, 11, 12, 13, 14, 15, 16, 17, 18, 19, 20, 21, 22, 23, 24, 25] 67108863 (by kernel_rfl) (by kernel_rfl) rfl ?_
      refine DM.weak [(4, .bool false)] ⟨rfl, trivial⟩ ?_
      refine DM.done hsk23 (by kernel_rfl) ?_
      refine WP.ret ?_
      cases hm
      exact ⟨_, .cons (.tmp rfl) .nil, rfl, (hS24.taken 0)⟩

theorem enters147 : Enters Try.prog 147 := ⟨_, _, Try.func147, rfl, by kernel_rfl⟩
def m_slices_IndexFunc_impl_Packet_impl_Packet_j1 (fuel : Nat) (t2 : Unit) : Option Int := some (-1)
def m_slices_IndexFunc_impl_Packet_impl_Packet_b1 (fuel : Nat) (x0 : (List D.Packet)) (x1 : D.Packet → Option Bool) (s1 : Int) : Option (Rd (Int) (Unit) (Int)) := (if (decide (s1 < (x0.length : Int))) = true then ((idx x0 s1).bind fun x17 => ((x1 x17).bind fun r24 => (if r24 = true then some (.ret s1) else some (.next (w64 (s1 + 1)))))) else some (.brk ()))
def m_slices_IndexFunc_impl_Packet_impl_Packet (fuel : Nat) (x0 : (List D.Packet)) (x1 : D.Packet → Option Bool) : Option (Int) := ((iter (m_slices_IndexFunc_impl_Packet_impl_Packet_b1 fuel x0 x1) fuel 0).bind fun o => aft o (m_slices_IndexFunc_impl_Packet_impl_Packet_j1 fuel))

set_option maxRecDepth 100000 in
theorem slices_IndexFunc_impl_Packet_impl_Packet_ok {w : World} {A0_ : Option Addr} {k0_ : Nat} {x0 : (List D.Packet)} {f1_ : Nat} {u1_ : List Value} {x1 : D.Packet → Option Bool} (h0_ : ty37.ro w [.slice A0_ x0.length k0_] x0) (h1_ : Enters Try.prog f1_ ∧ ∀ {w9 : World}, Ext w w9 → ∀ {cz0 : List Value} {z0 : D.Packet} {y9 : Bool}, ty126.ro w9 cz0 z0 → x1 z0 = some y9 → Calls Try.prog f1_ ⟨[.agg ⟨cz0⟩] ++ u1_⟩ w9 (Ret fun v w8 => v = .bool y9 ∧ St w9 w8 [])) {fuel : Nat} {r : Int} (hm : m_slices_IndexFunc_impl_Packet_impl_Packet fuel x0 x1 = some r) :
    Calls Try.prog 147 ⟨[.slice A0_ x0.length k0_, .func (.func f1_) #[] ⟨u1_⟩]⟩ w (Ret fun v w8 => v = .int .i64 r ∧ St w w8 []) := by
  refine Calls.into Try.func147 rfl 19 rfl rfl _ rfl ?_
  unfold m_slices_IndexFunc_impl_Packet_impl_Packet at hm
  have hS := St.start w
  refine WP.seq ?_
  refine WP.region ?_
  refine RW.run ttok 1 rfl ?_
  refine RW.nil ?_
  refine WP.seq ?_
  refine WP.seq ?_
  refine WP.region ?_
  refine RW.run ttok 3 rfl ?_
  refine RW.nil ?_
  obtain ⟨o8, hl9, hm⟩ := bind_some hm
  refine WP.cut (fun (t2 : Unit) F w9 => o8 = .inl t2 ∧ Ext w w9 ∧ St w w9 [] ∧ F = []) ?_ ?_
  · skip
    rintro t2 F w7 ⟨ho11, hE6, hS10, rfl⟩
    subst ho11
    rw [aft_inl] at hm
    unfold m_slices_IndexFunc_impl_Packet_impl_Packet_j1 at hm
    refine WP.seq ?_
    refine WP.region ?_
    refine RW.run ttok 1 rfl ?_
    refine RW.nil ?_
    refine WP.ret ?_
    cases hm
    exact ⟨_, .cons (.tmp rfl) .nil, rfl, hS10⟩
  · skip
    refine WP.block ?_
    refine WP.weak [(0, .slice A0_ x0.length k0_), (1, .func (.func f1_) #[] ⟨u1_⟩), (7, .int .i64 (x0.length : Int)), (8, .int .i64 0)] ⟨rfl, rfl, rfl, rfl, trivial⟩ ?_
    refine WP.iter (fun (s1 : Int) F w9 => Ext w w9 ∧ St w w9 [] ∧ F = [(0, .slice A0_ x0.length k0_), (1, .func (.func f1_) #[] ⟨u1_⟩), (7, .int .i64 (x0.length : Int)), (8, .int .i64 s1)]) _ hl9 ⟨(Ext.refl _), hS, rfl⟩ ?_
    rintro s1 F w16 _ o14 ⟨hE5, hS15, rfl⟩ hb12 ho13
    unfold m_slices_IndexFunc_impl_Packet_impl_Packet_b1 at hb12
    refine WP.seq ?_
    refine WP.region ?_
    refine RW.run ttok 1 rfl ?_
    refine RW.nil ?_
    refine WP.seq ?_
    refine WP.cond (decide (s1 < (x0.length : Int))) rfl (fun hc => ?_) (fun hc => ?_)
    · skip
      rw [if_pos hc] at hb12
      refine WP.skip ?_
      refine WP.seq ?_
      refine WP.block ?_
      refine WP.seq ?_
      refine WP.region ?_
      refine RW.run ttok 2 rfl ?_
      refine RW.nil ?_
      refine WP.seq ?_
      refine WP.region ?_
      refine RW.run ttok 3 rfl ?_
      obtain ⟨x17, hx18, hb12⟩ := bind_some hb12
      refine RW.idx ttok hS15.ext rfl rfl rfl rfl rfl rfl (by decide) rfl rfl h0_ (idx_some hx18).1 (idx_some hx18).2 rfl rfl (fun p19 es20 ha21 hr22 => ?_)
      have e23 := ty126_open hr22; subst e23
      refine RW.loadN ttok rfl rfl rfl rfl rfl (At.ext hS15.ext ha21) rfl rfl rfl ?_
      obtain ⟨r24, hx25, hb12⟩ := bind_some hb12
      refine RW.call rfl rfl rfl h1_.1 (h1_.2 hS15.ext (ty126.ext hS15.ext hr22) hx25) (fun v26 w27 hR28 => ?_)
      obtain ⟨rfl, hR29⟩ := hR28
      have hS30 := hS15.join hR29
      refine RW.nil ?_
      refine WP.cond r24 rfl (fun hc => ?_) (fun hc => ?_)
      · skip
        rw [if_pos hc] at hb12
        refine WP.seq ?_
        refine WP.region ?_
        refine RW.run ttok 2 rfl ?_
        refine RW.nil ?_
        refine WP.ret ?_
        cases hb12
        cases ho13
        have hm : some _ = some _ := hm
        cases hm
        exact ⟨_, .cons (.tmp rfl) .nil, rfl, hS30⟩
      · skip
        rw [if_neg (not_t hc)] at hb12
        refine WP.skip ?_
        refine WP.region ?_
        refine RW.run ttok 2 rfl ?_
        refine RW.nil ?_
        cases hb12
        exact ⟨_, [(0, .slice A0_ x0.length k0_), (1, .func (.func f1_) #[] ⟨u1_⟩), (7, .int .i64 (x0.length : Int)), (8, .int .i64 (w64 (s1 + 1)))], ⟨rfl, rfl, rfl, rfl, trivial⟩, rfl, (hE5.trans hR29.ext), hS30, rfl⟩
    · skip
      rw [if_neg (not_t hc)] at hb12
      refine WP.exit ?_
      cases hb12
      exact ⟨_, [], trivial, ho13, hE5, hS15, rfl⟩

theorem enters92 : Enters Try.prog 92 := ⟨_, _, Try.func92, rfl, by kernel_rfl⟩
def m_slices_ContainsFunc_impl_Packet_impl_Packet (fuel : Nat) (x0 : (List D.Packet)) (x1 : D.Packet → Option Bool) : Option (Bool) := ((m_slices_IndexFunc_impl_Packet_impl_Packet fuel x0 x1).bind fun r1 => some (decide (r1 ≥ 0)))

set_option maxRecDepth 100000 in
theorem slices_ContainsFunc_impl_Packet_impl_Packet_ok {w : World} {A0_ : Option Addr} {k0_ : Nat} {x0 : (List D.Packet)} {f1_ : Nat} {u1_ : List Value} {x1 : D.Packet → Option Bool} (h0_ : ty37.ro w [.slice A0_ x0.length k0_] x0) (h1_ : Enters Try.prog f1_ ∧ ∀ {w9 : World}, Ext w w9 → ∀ {cz0 : List Value} {z0 : D.Packet} {y9 : Bool}, ty126.ro w9 cz0 z0 → x1 z0 = some y9 → Calls Try.prog f1_ ⟨[.agg ⟨cz0⟩] ++ u1_⟩ w9 (Ret fun v w8 => v = .bool y9 ∧ St w9 w8 [])) {fuel : Nat} {r : Bool} (hm : m_slices_ContainsFunc_impl_Packet_impl_Packet fuel x0 x1 = some r) :
    Calls Try.prog 92 ⟨[.slice A0_ x0.length k0_, .func (.func f1_) #[] ⟨u1_⟩]⟩ w (Ret fun v w8 => v = .bool r ∧ St w w8 []) := by
  refine Calls.into Try.func92 rfl 9 rfl rfl _ rfl ?_
  unfold m_slices_ContainsFunc_impl_Packet_impl_Packet at hm
  have hS := St.start w
  refine WP.seq ?_
  refine WP.region ?_
  refine RW.run ttok 1 rfl ?_
  refine RW.nil ?_
  refine WP.seq ?_
  refine WP.region ?_
  refine RW.run ttok 2 rfl ?_
  obtain ⟨r1, hx2, hm⟩ := bind_some hm
  refine RW.call rfl rfl rfl enters147 (slices_IndexFunc_impl_Packet_impl_Packet_ok (ty37.ext hS.ext h0_) ⟨h1_.1, fun e9 => h1_.2 (hS.ext.trans e9)⟩ hx2) (fun v3 w4 hR5 => ?_)
  obtain ⟨rfl, hR6⟩ := hR5
  have hS7 := hS.join hR6
  refine RW.run ttok 2 rfl ?_
  refine RW.nil ?_
  refine WP.ret ?_
  cases hm
  exact ⟨_, .cons (.tmp rfl) .nil, rfl, hS7⟩

theorem enters143 : Enters Try.prog 143 := ⟨_, _, Try.func143, rfl, by kernel_rfl⟩
def m_impl_ValidChannel_c2 (fuel : Nat) (x0 : D.Packet) (x1 : D.Channel) : Option (Bool) := ((m_impl_Channel_validPacket fuel x1 x0).bind fun r19 => some (!r19))

set_option maxRecDepth 100000 in
theorem impl_ValidChannel_c2_ok {w : World} {c0_ : List Value} {x0 : D.Packet} {p1_ : Addr} {c1_ : List Value} {x1 : D.Channel} (h0_ : ty126.ro w c0_ x0) (h1_ : ty39.ro w c1_ x1) (g1_ : At w p1_ c1_) {fuel : Nat} {r : Bool} (hm : m_impl_ValidChannel_c2 fuel x0 x1 = some r) :
    Calls Try.prog 143 ⟨[.agg ⟨c0_⟩, .pointer (some p1_)]⟩ w (Ret fun v w8 => v = .bool r ∧ St w w8 []) := by
  have e1 := ty126_open h0_; subst e1
  obtain ⟨A2, k3, A5, k6, A8, k9, A11, k12, e14, h4, h7, h10, h13⟩ := ty39_open h1_; subst e14
  refine Calls.into Try.func143 rfl 7 rfl rfl _ rfl ?_
  unfold m_impl_ValidChannel_c2 at hm
  have hS := St.start w
  refine WP.seq ?_
  refine WP.region ?_
  refine RW.new ttok hS rfl rfl rfl rfl (fun g15 w16 e17 hS18 => ?_)
  refine RW.run ttok 1 rfl ?_
  refine RW.nil ?_
  refine WP.seq ?_
  refine WP.region ?_
  refine RW.loadN ttok rfl rfl rfl rfl rfl ((hS18.bring 0 rfl).box) rfl rfl rfl ?_
  obtain ⟨r19, hx20, hm⟩ := bind_some hm
  refine RW.call rfl rfl rfl enters142 (impl_Channel_validPacket_ok (ty39.ext hS18.ext h1_) (At.ext hS18.ext g1_) (ty126.ext hS18.ext h0_) hx20) (fun v21 w22 hR23 => ?_)
  obtain ⟨rfl, hR24⟩ := hR23
  have hS25 := hS18.join hR24
  refine RW.run ttok 2 rfl ?_
  refine RW.nil ?_
  refine WP.ret ?_
  cases hm
  exact ⟨_, .cons (.tmp rfl) .nil, rfl, (hS25.taken 0)⟩

theorem enters84 : Enters Try.prog 84 := ⟨_, _, Try.func84, rfl, by kernel_rfl⟩
def m_impl_ValidChannel_j3 (fuel : Nat) (x0 : D.Channel) (t29 : Unit) : Option Bool := ((m_slices_ContainsFunc_impl_Packet_impl_Packet fuel x0.Flight (fun y0 => m_impl_ValidChannel_c2 fuel y0 x0)).bind fun r36 => some (!r36))
def m_impl_ValidChannel_j4 (fuel : Nat) (s28 : Int × Int) (x48 : D.Packet) (t62 : Bool) : Option (Rd (Int × Int) (Unit) (Bool)) := (if t62 = true then some (.ret false) else some (.next (x48.Number, w64 (s28.2 + 1))))
def m_impl_ValidChannel_b1 (fuel : Nat) (x0 : D.Channel) (s28 : Int × Int) : Option (Rd (Int × Int) (Unit) (Bool)) := (if (decide (s28.2 < (x0.Early.length : Int))) = true then ((idx x0.Early s28.2).bind fun x48 => (if x48.Ack = true then m_impl_ValidChannel_j4 fuel s28 x48 true else (if (decide (x48.Number ≤ s28.1)) = true then m_impl_ValidChannel_j4 fuel s28 x48 true else ((m_impl_Channel_validPacket fuel x0 x48).bind fun r69 => m_impl_ValidChannel_j4 fuel s28 x48 (!r69))))) else some (.brk ()))
def m_impl_ValidChannel_j2 (fuel : Nat) (x0 : D.Channel) (t23 : Bool) : Option Bool := (if t23 = true then some false else ((iter (m_impl_ValidChannel_b1 fuel x0) fuel (x0.Expected, 0)).bind fun o => aft o (m_impl_ValidChannel_j3 fuel x0)))
def m_impl_ValidChannel_j1 (fuel : Nat) (x0 : D.Channel) (t18 : Bool) : Option Bool := (if t18 = true then some false else ((m_impl_Channel_numbersOk fuel x0).bind fun r78 => (if (!r78) = true then m_impl_ValidChannel_j2 fuel x0 true else (if decide (0 ≤ (0 : Int) ∧ 0 ≤ x0.Expected ∧ x0.Expected ≤ (x0.Messages.length : Int)) = true then ((m_slices_Equal_string_string fuel x0.Delivered ((x0.Messages.take x0.Expected.toNat).drop 0)).bind fun r92 => (if (!r92) = true then m_impl_ValidChannel_j2 fuel x0 true else m_impl_ValidChannel_j2 fuel x0 (decide ((x0.Flight.length : Int) > 60)))) else none))))
def m_impl_ValidChannel (fuel : Nat) (x0 : D.Channel) : Option (Bool) := (if (decide (x0.Window < 1)) = true then m_impl_ValidChannel_j1 fuel x0 true else (if (decide (x0.Window > 8)) = true then m_impl_ValidChannel_j1 fuel x0 true else (if (decide ((x0.Messages.length : Int) > 30)) = true then m_impl_ValidChannel_j1 fuel x0 true else ((m_slices_ContainsFunc_string_string fuel x0.Messages (fun y0 => m_impl_ValidChannel_c1 fuel y0)).bind fun r103 => m_impl_ValidChannel_j1 fuel x0 r103))))

set_option maxRecDepth 100000 in
theorem impl_ValidChannel_ok {w : World} {c0_ : List Value} {x0 : D.Channel} (h0_ : ty39.ro w c0_ x0) {fuel : Nat} {r : Bool} (hm : m_impl_ValidChannel fuel x0 = some r) :
    Calls Try.prog 84 ⟨[.agg ⟨c0_⟩]⟩ w (Ret fun v w8 => v = .bool r ∧ St w w8 []) := by
  obtain ⟨A1, k2, A4, k5, A7, k8, A10, k11, e13, h3, h6, h9, h12⟩ := ty39_open h0_; subst e13
  refine Calls.into Try.func84 rfl 74 rfl rfl _ rfl ?_
  unfold m_impl_ValidChannel at hm
  have hS := St.start w
  refine WP.seq ?_
  refine WP.region ?_
  refine RW.new ttok hS rfl rfl rfl rfl (fun g14 w15 e16 hS17 => ?_)
  refine RW.run ttok 1 rfl ?_
  refine RW.nil ?_
  refine WP.seq ?_
  refine WP.seq ?_
  refine WP.cut (fun (t18 : Bool) F w9 => m_impl_ValidChannel_j1 fuel x0 t18 = some r ∧ Ext w15 w9 ∧ St w w9 [Box g14 [.int .i64 x0.Window, .slice A1 x0.Messages.length k2, .int .i64 x0.Base, .int .i64 x0.Next, .int .i64 x0.Expected, .slice A4 x0.Early.length k5, .slice A7 x0.Delivered.length k8, .slice A10 x0.Flight.length k11] 39] ∧ F = [(1, .pointer (some ⟨g14, 0, none⟩)), (24, .bool t18)]) ?_ ?_
  · skip
    rintro t18 F w21 ⟨hm, hE19, hS20, rfl⟩
    unfold m_impl_ValidChannel_j1 at hm
    refine WP.cond t18 rfl (fun hc => ?_) (fun hc => ?_)
    · skip
      rw [if_pos hc] at hm
      refine WP.seq ?_
      refine WP.region ?_
      refine RW.run ttok 1 rfl ?_
      refine RW.nil ?_
      refine WP.ret ?_
      cases hm
      exact ⟨_, .cons (.tmp rfl) .nil, rfl, (hS20.taken 0)⟩
    · skip
      rw [if_neg (not_t hc)] at hm
      refine WP.skip ?_
      refine WP.seq ?_
      refine WP.seq ?_
      refine WP.cut (fun (t23 : Bool) F w9 => m_impl_ValidChannel_j2 fuel x0 t23 = some r ∧ Ext w21 w9 ∧ St w w9 [Box g14 [.int .i64 x0.Window, .slice A1 x0.Messages.length k2, .int .i64 x0.Base, .int .i64 x0.Next, .int .i64 x0.Expected, .slice A4 x0.Early.length k5, .slice A7 x0.Delivered.length k8, .slice A10 x0.Flight.length k11] 39] ∧ F = [(1, .pointer (some ⟨g14, 0, none⟩)), (43, .bool t23)]) ?_ ?_
      · skip
        rintro t23 F w26 ⟨hm, hE24, hS25, rfl⟩
        unfold m_impl_ValidChannel_j2 at hm
        refine WP.cond t23 rfl (fun hc => ?_) (fun hc => ?_)
        · skip
          rw [if_pos hc] at hm
          refine WP.seq ?_
          refine WP.region ?_
          refine RW.run ttok 1 rfl ?_
          refine RW.nil ?_
          refine WP.ret ?_
          cases hm
          exact ⟨_, .cons (.tmp rfl) .nil, rfl, (hS25.taken 0)⟩
        · skip
          rw [if_neg (not_t hc)] at hm
          refine WP.skip ?_
          refine WP.seq ?_
          refine WP.region ?_
          refine RW.run ttok 1 rfl ?_
          refine RW.load1 ttok rfl rfl rfl rfl rfl ((hS25.bring 0 rfl).box) 4 rfl rfl rfl rfl ?_
          refine RW.run ttok 1 rfl ?_
          refine RW.nil ?_
          refine WP.seq ?_
          refine WP.seq ?_
          refine WP.region ?_
          refine RW.run ttok 1 rfl ?_
          refine RW.load1 ttok rfl rfl rfl rfl rfl ((hS25.bring 0 rfl).box) 5 rfl rfl rfl rfl ?_
          refine RW.run ttok 2 rfl ?_
          refine RW.nil ?_
          obtain ⟨o32, hl33, hm⟩ := bind_some hm
          refine WP.cut (fun (t29 : Unit) F w9 => o32 = .inl t29 ∧ St w w9 [Box g14 [.int .i64 x0.Window, .slice A1 x0.Messages.length k2, .int .i64 x0.Base, .int .i64 x0.Next, .int .i64 x0.Expected, .slice A4 x0.Early.length k5, .slice A7 x0.Delivered.length k8, .slice A10 x0.Flight.length k11] 39] ∧ F = [(1, .pointer (some ⟨g14, 0, none⟩))]) ?_ ?_
          · skip
            rintro t29 F w31 ⟨ho35, hS34, rfl⟩
            subst ho35
            rw [aft_inl] at hm
            unfold m_impl_ValidChannel_j3 at hm
            refine WP.seq ?_
            refine WP.region ?_
            refine RW.run ttok 1 rfl ?_
            refine RW.load1 ttok rfl rfl rfl rfl rfl ((hS34.bring 0 rfl).box) 7 rfl rfl rfl rfl ?_
            refine RW.run ttok 1 rfl ?_
            obtain ⟨r36, hx37, hm⟩ := bind_some hm
            refine RW.call rfl rfl rfl enters92 (slices_ContainsFunc_impl_Packet_impl_Packet_ok (ty37.ext hS34.ext h12) ⟨enters143, fun e9 => (fun a0_0 hx9 => impl_ValidChannel_c2_ok a0_0 (ty39.ext e9 (ty39.ext hS34.ext h0_)) (At.ext e9 ((hS34.bring 0 rfl).box)) hx9)⟩ hx37) (fun v38 w39 hR40 => ?_)
            obtain ⟨rfl, hR41⟩ := hR40
            have hS42 := hS34.join hR41
            refine RW.run ttok 2 rfl ?_
            refine RW.nil ?_
            refine WP.ret ?_
            cases hm
            exact ⟨_, .cons (.tmp rfl) .nil, rfl, (hS42.taken 0)⟩
          · skip
            refine WP.block ?_
            refine WP.weak [(1, .pointer (some ⟨g14, 0, none⟩)), (3, .int .i64 x0.Expected), (47, .slice A4 x0.Early.length k5), (48, .int .i64 (x0.Early.length : Int)), (49, .int .i64 0)] ⟨rfl, rfl, rfl, rfl, rfl, trivial⟩ ?_
            refine WP.iter (fun (s28 : Int × Int) F w9 => St w w9 [Box g14 [.int .i64 x0.Window, .slice A1 x0.Messages.length k2, .int .i64 x0.Base, .int .i64 x0.Next, .int .i64 x0.Expected, .slice A4 x0.Early.length k5, .slice A7 x0.Delivered.length k8, .slice A10 x0.Flight.length k11] 39] ∧ F = [(1, .pointer (some ⟨g14, 0, none⟩)), (3, .int .i64 s28.1), (47, .slice A4 x0.Early.length k5), (48, .int .i64 (x0.Early.length : Int)), (49, .int .i64 s28.2)]) _ hl33 ⟨hS25, rfl⟩ ?_
            rintro s28 F w47 _ o45 ⟨hS46, rfl⟩ hb43 ho44
            unfold m_impl_ValidChannel_b1 at hb43
            refine WP.seq ?_
            refine WP.region ?_
            refine RW.run ttok 1 rfl ?_
            refine RW.nil ?_
            refine WP.seq ?_
            refine WP.cond (decide (s28.2 < (x0.Early.length : Int))) rfl (fun hc => ?_) (fun hc => ?_)
            · skip
              rw [if_pos hc] at hb43
              refine WP.skip ?_
              refine WP.seq ?_
              refine WP.block ?_
              refine WP.seq ?_
              refine WP.region ?_
              obtain ⟨x48, hx49, hb43⟩ := bind_some hb43
              refine RW.idx ttok hS46.ext rfl rfl rfl rfl rfl rfl (by decide) rfl rfl h6 (idx_some hx49).1 (idx_some hx49).2 rfl rfl (fun p50 es51 ha52 hr53 => ?_)
              have e54 := ty126_open hr53; subst e54
              refine RW.loadN ttok rfl rfl rfl rfl rfl (At.ext hS46.ext ha52) rfl rfl rfl ?_
              refine RW.new ttok hS46 rfl rfl rfl rfl (fun g55 w56 e57 hS58 => ?_)
              have hS59 := hS58.bring 0 rfl
              refine RW.store ttok (A := []) hS59 rfl rfl rfl rfl rfl 0 rfl rfl rfl rfl rfl (fun w60 hS61 => ?_)
              refine RW.nil ?_
              refine WP.seq ?_
              refine WP.seq ?_
              refine WP.cut (fun (t62 : Bool) F w9 => m_impl_ValidChannel_j4 fuel s28 x48 t62 = some o45 ∧ Ext w60 w9 ∧ St w w9 [Box g55 [.bool x48.Ack, .int .i64 x48.Number, .string x48.Text] 126, Box g14 [.int .i64 x0.Window, .slice A1 x0.Messages.length k2, .int .i64 x0.Base, .int .i64 x0.Next, .int .i64 x0.Expected, .slice A4 x0.Early.length k5, .slice A7 x0.Delivered.length k8, .slice A10 x0.Flight.length k11] 39] ∧ F = [(1, .pointer (some ⟨g14, 0, none⟩)), (5, .pointer (some ⟨g55, 0, none⟩)), (47, .slice A4 x0.Early.length k5), (48, .int .i64 (x0.Early.length : Int)), (49, .int .i64 s28.2), (65, .bool t62)]) ?_ ?_
              · skip
                rintro t62 F w65 ⟨hb43, hE63, hS64, rfl⟩
                unfold m_impl_ValidChannel_j4 at hb43
                refine WP.cond t62 rfl (fun hc => ?_) (fun hc => ?_)
                · skip
                  rw [if_pos hc] at hb43
                  refine WP.seq ?_
                  refine WP.region ?_
                  refine RW.run ttok 1 rfl ?_
                  refine RW.nil ?_
                  refine WP.ret ?_
                  cases hb43
                  cases ho44
                  have hm : some _ = some _ := hm
                  cases hm
                  exact ⟨_, .cons (.tmp rfl) .nil, rfl, (hS64.taken 0)⟩
                · skip
                  rw [if_neg (not_t hc)] at hb43
                  refine WP.skip ?_
                  refine WP.region ?_
                  refine RW.run ttok 1 rfl ?_
                  refine RW.load1 ttok rfl rfl rfl rfl rfl ((hS64.bring 0 rfl).box) 1 rfl rfl rfl rfl ?_
                  refine RW.run ttok 1 rfl ?_
                  refine RW.nil ?_
                  refine WP.region ?_
                  refine RW.run ttok 2 rfl ?_
                  refine RW.nil ?_
                  cases hb43
                  exact ⟨_, [(1, .pointer (some ⟨g14, 0, none⟩)), (3, .int .i64 x48.Number), (47, .slice A4 x0.Early.length k5), (48, .int .i64 (x0.Early.length : Int)), (49, .int .i64 (w64 (s28.2 + 1)))], ⟨rfl, rfl, rfl, rfl, rfl, trivial⟩, rfl, ((hS64.bring 1 rfl).taken 1), rfl⟩
              · skip
                refine WP.region ?_
                refine RW.run ttok 1 rfl ?_
                refine RW.load1 ttok rfl rfl rfl rfl rfl ((hS61.bring 0 rfl).box) 0 rfl rfl rfl rfl ?_
                refine RW.run ttok 1 rfl ?_
                by_cases hg67 : x48.Ack = true
                · skip
                  rw [if_pos hg67] at hb43
                  refine RW.know 55 rfl (congrArg Value.bool hg67) ?_
                  refine RW.run ttok 10 rfl ?_
                  refine RW.nil ?_
                  exact ⟨true, [(1, .pointer (some ⟨g14, 0, none⟩)), (5, .pointer (some ⟨g55, 0, none⟩)), (47, .slice A4 x0.Early.length k5), (48, .int .i64 (x0.Early.length : Int)), (49, .int .i64 s28.2), (65, .bool true)], ⟨rfl, rfl, rfl, rfl, rfl, rfl, trivial⟩, hb43, (Ext.refl _), hS61, rfl⟩
                · skip
                  rw [if_neg hg67] at hb43
                  refine RW.know 55 rfl (congrArg Value.bool (Bool.eq_false_iff.2 hg67)) ?_
                  refine RW.run ttok 1 rfl ?_
                  refine RW.load1 ttok rfl rfl rfl rfl rfl ((hS61.bring 0 rfl).box) 1 rfl rfl rfl rfl ?_
                  refine RW.run ttok 4 rfl ?_
                  by_cases hg68 : (decide (x48.Number ≤ s28.1)) = true
                  · skip
                    rw [if_pos hg68] at hb43
                    refine RW.know 61 rfl (congrArg Value.bool hg68) ?_
                    refine RW.run ttok 4 rfl ?_
                    refine RW.nil ?_
                    exact ⟨true, [(1, .pointer (some ⟨g14, 0, none⟩)), (5, .pointer (some ⟨g55, 0, none⟩)), (47, .slice A4 x0.Early.length k5), (48, .int .i64 (x0.Early.length : Int)), (49, .int .i64 s28.2), (65, .bool true)], ⟨rfl, rfl, rfl, rfl, rfl, rfl, trivial⟩, hb43, (Ext.refl _), hS61, rfl⟩
                  · skip
                    rw [if_neg hg68] at hb43
                    refine RW.know 61 rfl (congrArg Value.bool (Bool.eq_false_iff.2 hg68)) ?_
                    refine RW.loadN ttok rfl rfl rfl rfl rfl ((hS61.bring 0 rfl).box) rfl rfl rfl ?_
                    obtain ⟨r69, hx70, hb43⟩ := bind_some hb43
                    refine RW.call rfl rfl rfl enters142 (impl_Channel_validPacket_ok (ty39.ext hS61.ext h0_) ((hS61.bring 1 rfl).box) (ty126_shut x48) hx70) (fun v71 w72 hR73 => ?_)
                    obtain ⟨rfl, hR74⟩ := hR73
                    have hS75 := hS61.join hR74
                    refine RW.run ttok 2 rfl ?_
                    refine RW.nil ?_
                    exact ⟨!r69, [(1, .pointer (some ⟨g14, 0, none⟩)), (5, .pointer (some ⟨g55, 0, none⟩)), (47, .slice A4 x0.Early.length k5), (48, .int .i64 (x0.Early.length : Int)), (49, .int .i64 s28.2), (65, .bool (!r69))], ⟨rfl, rfl, rfl, rfl, rfl, rfl, trivial⟩, hb43, hR74.ext, hS75, rfl⟩
            · skip
              rw [if_neg (not_t hc)] at hb43
              refine WP.exit ?_
              cases hb43
              exact ⟨_, [(1, .pointer (some ⟨g14, 0, none⟩))], ⟨rfl, trivial⟩, ho44, hS46, rfl⟩
      · skip
        refine WP.drawnM 0 mixed 19 (by kernel_rfl) (by kernel_rfl) [([], 524287), ([0], 524286), ([1, 0], 524285), ([2], 524283), ([3, 2], 524275), ([2], 524283), ([5, 2], 524251), ([2], 524283), ([7, 2], 524155), ([6, 8, 2], 523963), ([4, 9, 2, 2], 523755), ([10, 2], 523259), ([2, 11], 522235), ([12, 10], 520191), ([13], 516095), ([14, 13], 499711), ([15, 13], 483327), ([16, 13], 450559), ([13, 17], 385023)] (by kernel_rfl) (fun hsk76 => ?_)
        have hS77 := hS20.step (Ext.draw _)
        obtain ⟨r78, hx79, hm⟩ := bind_some hm
        refine DM.one hsk76 0 (by kernel_rfl) (LM.call hsk76 1 (by kernel_rfl) (by kernel_rfl) rfl rfl rfl rfl enters140 (impl_Channel_numbersOk_ok (ty39.ext hS77.ext h0_) ((hS77.bring 0 rfl).box) hx79) (fun v80 w81 hR82 => ?_))
        obtain ⟨rfl, hR83⟩ := hR82
        refine ⟨hR83.ext, ?_⟩
        have hS84 := hS77.join hR83
        refine DM.run (fuel := 16) ttok hsk76 [1, 2] 7 (by kernel_rfl) (by kernel_rfl) rfl ?_
        by_cases hg85 : (!r78) = true
        · skip
          rw [if_pos hg85] at hm
          refine DM.know 27 rfl (congrArg Value.bool hg85) ?_
          refine DM.run (fuel := 0) ttok hsk76 [3, 4, 5, 6, 7, 8, 9, 10, 11, 12, 13, 14, 15, 16, 17, 18] 524287 (by kernel_rfl) (by kernel_rfl) rfl ?_
          refine DM.weak [(1, .pointer (some ⟨g14, 0, none⟩)), (43, .bool true)] ⟨rfl, rfl, trivial⟩ ?_
          refine DM.done hsk76 (by kernel_rfl) ?_
          exact ⟨true, [(1, .pointer (some ⟨g14, 0, none⟩)), (43, .bool true)], ⟨rfl, rfl, trivial⟩, hm, ((Ext.draw _).trans hR83.ext), hS84, rfl⟩
        · skip
          rw [if_neg hg85] at hm
          refine DM.know 27 rfl (congrArg Value.bool (Bool.eq_false_iff.2 hg85)) ?_
          refine DM.run (fuel := 13) ttok hsk76 [3, 5, 7] 175 (by kernel_rfl) (by kernel_rfl) rfl ?_
          refine DM.load1 ttok hsk76 4 191 (by kernel_rfl) (by kernel_rfl) (by kernel_rfl) (by kernel_rfl) rfl (by kernel_rfl) rfl rfl rfl rfl rfl ((hS20.bring 0 rfl).box) 6 rfl rfl rfl rfl ?_
          refine DM.load1 ttok hsk76 6 255 (by kernel_rfl) (by kernel_rfl) (by kernel_rfl) (by kernel_rfl) rfl (by kernel_rfl) rfl rfl rfl rfl rfl ((hS20.bring 0 rfl).box) 1 rfl rfl rfl rfl ?_
          refine DM.load1 ttok hsk76 8 511 (by kernel_rfl) (by kernel_rfl) (by kernel_rfl) (by kernel_rfl) rfl (by kernel_rfl) rfl rfl rfl rfl rfl ((hS20.bring 0 rfl).box) 4 rfl rfl rfl rfl ?_
          by_cases hk86 : decide (0 ≤ (0 : Int) ∧ 0 ≤ x0.Expected ∧ x0.Expected ≤ (x0.Messages.length : Int)) = true
          case neg => rw [if_neg hk86] at hm; cases hm
          rw [if_pos hk86] at hm
          have hb87 := of_decide_eq_true hk86
          refine DM.cut ttok hS20.ext hsk76 9 1023 (by kernel_rfl) (by kernel_rfl) (by kernel_rfl) (by kernel_rfl) rfl (by kernel_rfl) rfl rfl rfl rfl rfl rfl rfl h3 (l := 0) (h := x0.Expected.toNat) (.inl ⟨rfl, rfl⟩) (.inr ⟨_, _, rfl, by rw [Int.toNat_of_nonneg (Int.le_trans hb87.1 hb87.2.1)]; rfl⟩) (by have := hb87; omega) (by have := hb87; omega) rfl rfl (fun A88 k89 h90 => ?_)
          have h91 := cut_len (by have := hb87; omega : 0 ≤ x0.Expected.toNat) (by have := hb87; omega) h90
          refine DM.know (u := .slice A88 ((x0.Messages.take x0.Expected.toNat).drop 0).length k89) 34 rfl (by rw [cut_length (by have := hb87; omega : x0.Expected.toNat ≤ x0.Messages.length)]) ?_
          obtain ⟨r92, hx93, hm⟩ := bind_some hm
          refine DM.one hsk76 10 (by kernel_rfl) (LM.call hsk76 2047 (by kernel_rfl) (by kernel_rfl) rfl rfl rfl rfl enters141 (slices_Equal_string_string_ok (ty35.ext hS84.ext h9) (ty35.ext hS84.ext h91) hx93) (fun v94 w95 hR96 => ?_))
          obtain ⟨rfl, hR97⟩ := hR96
          refine ⟨hR97.ext, ?_⟩
          have hS98 := hS84.join hR97
          refine DM.run (fuel := 5) ttok hsk76 [11, 12, 13] 16383 (by kernel_rfl) (by kernel_rfl) rfl ?_
          refine DM.weak [(1, .pointer (some ⟨g14, 0, none⟩)), (38, .bool (!r92))] ⟨rfl, rfl, trivial⟩ ?_
          by_cases hg99 : (!r92) = true
          · skip
            rw [if_pos hg99] at hm
            refine DM.know 38 rfl (congrArg Value.bool hg99) ?_
            refine DM.run (fuel := 0) ttok hsk76 [14, 15, 16, 17, 18] 524287 (by kernel_rfl) (by kernel_rfl) rfl ?_
            refine DM.done hsk76 (by kernel_rfl) ?_
            exact ⟨true, [(1, .pointer (some ⟨g14, 0, none⟩)), (43, .bool true)], ⟨rfl, rfl, trivial⟩, hm, (((Ext.draw _).trans hR83.ext).trans hR97.ext), hS98, rfl⟩
          · skip
            rw [if_neg hg99] at hm
            refine DM.know 38 rfl (congrArg Value.bool (Bool.eq_false_iff.2 hg99)) ?_
            refine DM.run (fuel := 4) ttok hsk76 [14] 32767 (by kernel_rfl) (by kernel_rfl) rfl ?_
            refine DM.load1 ttok hsk76 15 65535 (by kernel_rfl) (by kernel_rfl) (by kernel_rfl) (by kernel_rfl) rfl (by kernel_rfl) rfl rfl rfl rfl rfl ((hS20.bring 0 rfl).box) 7 rfl rfl rfl rfl ?_
            refine DM.run (fuel := 0) ttok hsk76 [16, 17, 18] 524287 (by kernel_rfl) (by kernel_rfl) rfl ?_
            refine DM.done hsk76 (by kernel_rfl) ?_
            exact ⟨decide ((x0.Flight.length : Int) > 60), [(1, .pointer (some ⟨g14, 0, none⟩)), (43, .bool (decide ((x0.Flight.length : Int) > 60)))], ⟨rfl, rfl, trivial⟩, hm, (((Ext.draw _).trans hR83.ext).trans hR97.ext), hS98, rfl⟩
  · skip
    refine WP.region ?_
    refine RW.run ttok 1 rfl ?_
    refine RW.load1 ttok rfl rfl rfl rfl rfl ((hS17.bring 0 rfl).box) 0 rfl rfl rfl rfl ?_
    refine RW.run ttok 2 rfl ?_
    by_cases hg100 : (decide (x0.Window < 1)) = true
    · skip
      rw [if_pos hg100] at hm
      refine RW.know 9 rfl (congrArg Value.bool hg100) ?_
      refine RW.run ttok 15 rfl ?_
      refine RW.nil ?_
      exact ⟨true, [(1, .pointer (some ⟨g14, 0, none⟩)), (24, .bool true)], ⟨rfl, rfl, trivial⟩, hm, (Ext.refl _), hS17, rfl⟩
    · skip
      rw [if_neg hg100] at hm
      refine RW.know 9 rfl (congrArg Value.bool (Bool.eq_false_iff.2 hg100)) ?_
      refine RW.run ttok 1 rfl ?_
      refine RW.load1 ttok rfl rfl rfl rfl rfl ((hS17.bring 0 rfl).box) 0 rfl rfl rfl rfl ?_
      refine RW.run ttok 3 rfl ?_
      by_cases hg101 : (decide (x0.Window > 8)) = true
      · skip
        rw [if_pos hg101] at hm
        refine RW.know 14 rfl (congrArg Value.bool hg101) ?_
        refine RW.run ttok 10 rfl ?_
        refine RW.nil ?_
        exact ⟨true, [(1, .pointer (some ⟨g14, 0, none⟩)), (24, .bool true)], ⟨rfl, rfl, trivial⟩, hm, (Ext.refl _), hS17, rfl⟩
      · skip
        rw [if_neg hg101] at hm
        refine RW.know 14 rfl (congrArg Value.bool (Bool.eq_false_iff.2 hg101)) ?_
        refine RW.run ttok 1 rfl ?_
        refine RW.load1 ttok rfl rfl rfl rfl rfl ((hS17.bring 0 rfl).box) 1 rfl rfl rfl rfl ?_
        refine RW.run ttok 4 rfl ?_
        by_cases hg102 : (decide ((x0.Messages.length : Int) > 30)) = true
        · skip
          rw [if_pos hg102] at hm
          refine RW.know 20 rfl (congrArg Value.bool hg102) ?_
          refine RW.run ttok 4 rfl ?_
          refine RW.nil ?_
          exact ⟨true, [(1, .pointer (some ⟨g14, 0, none⟩)), (24, .bool true)], ⟨rfl, rfl, trivial⟩, hm, (Ext.refl _), hS17, rfl⟩
        · skip
          rw [if_neg hg102] at hm
          refine RW.know 20 rfl (congrArg Value.bool (Bool.eq_false_iff.2 hg102)) ?_
          refine RW.run ttok 1 rfl ?_
          refine RW.load1 ttok rfl rfl rfl rfl rfl ((hS17.bring 0 rfl).box) 1 rfl rfl rfl rfl ?_
          obtain ⟨r103, hx104, hm⟩ := bind_some hm
          refine RW.call rfl rfl rfl enters138 (slices_ContainsFunc_string_string_ok (ty35.ext hS17.ext h3) ⟨enters139, fun e9 => (fun  hx9 => impl_ValidChannel_c1_ok  hx9)⟩ hx104) (fun v105 w106 hR107 => ?_)
          obtain ⟨rfl, hR108⟩ := hR107
          have hS109 := hS17.join hR108
          refine RW.run ttok 1 rfl ?_
          refine RW.nil ?_
          exact ⟨r103, [(1, .pointer (some ⟨g14, 0, none⟩)), (24, .bool r103)], ⟨rfl, rfl, trivial⟩, hm, hR108.ext, hS109, rfl⟩

theorem enters104 : Enters Try.prog 104 := ⟨_, _, Try.func104, rfl, by kernel_rfl⟩
def m_impl_Channel_canSend (fuel : Nat) (x0 : D.Channel) : Option (Bool) := (if (decide (x0.Next < (x0.Messages.length : Int))) = true then (if (decide (x0.Next < (w64 (x0.Base + x0.Window)))) = true then some (decide ((x0.Flight.length : Int) < 60)) else some false) else some false)

set_option maxRecDepth 100000 in
theorem impl_Channel_canSend_ok {w : World} {p0_ : Addr} {c0_ : List Value} {x0 : D.Channel} (h0_ : ty39.ro w c0_ x0) (g0_ : At w p0_ c0_) {fuel : Nat} {r : Bool} (hm : m_impl_Channel_canSend fuel x0 = some r) :
    Calls Try.prog 104 ⟨[.pointer (some p0_)]⟩ w (Ret fun v w8 => v = .bool r ∧ St w w8 []) := by
  obtain ⟨A1, k2, A4, k5, A7, k8, A10, k11, e13, h3, h6, h9, h12⟩ := ty39_open h0_; subst e13
  refine Calls.into Try.func104 rfl 37 rfl rfl _ rfl ?_
  unfold m_impl_Channel_canSend at hm
  have hS := St.start w
  refine WP.seq ?_
  refine WP.region ?_
  refine RW.run ttok 1 rfl ?_
  refine RW.nil ?_
  refine WP.seq ?_
  refine WP.drawnM 0 mixed 35 (by kernel_rfl) (by kernel_rfl) [([], 34359738367), ([0], 34359738366), ([1], 34359738365), ([2], 34359738363), ([], 34359738367), ([4], 34359738351), ([5], 34359738335), ([6], 34359738303), ([7], 34359738239), ([3, 8], 34359738103), ([9], 34359737855), ([10], 34359737343), ([11, 10], 34359735295), ([12, 10], 34359733247), ([13, 10], 34359729151), ([10], 34359737343), ([15, 10], 34359704575), ([16, 10], 34359671807), ([17, 10], 34359606271), ([10], 34359737343), ([19, 10], 34359213055), ([20, 10], 34358688767), ([21, 10], 34357640191), ([18, 22, 10], 34355280895), ([14, 23, 10], 34351332351), ([10, 24], 34342960127), ([25, 10], 34326183935), ([26], 34292629503), ([27, 26], 34158411775), ([28, 26], 34024194047), ([29, 26], 33755758591), ([30, 26], 33218887679), ([31, 26], 32145145855), ([26, 32], 29997662207), ([33, 26, 0, 1, 2, 3, 4, 5, 6, 7, 8, 9, 10, 11, 12, 13, 14, 15, 16, 17, 18, 19, 20, 21, 22, 23, 24, 25, 26, 27, 28, 29, 30, 31, 32, 33], 25769803775)] (by kernel_rfl) (fun hsk14 => ?_)
  have hS15 := hS.step (Ext.draw _)
  refine DM.run (fuel := 29) ttok hsk14 [0, 1, 2, 4, 5, 6] 119 (by kernel_rfl) (by kernel_rfl) rfl ?_
  refine DM.load1 ttok hsk14 3 127 (by kernel_rfl) (by kernel_rfl) (by kernel_rfl) (by kernel_rfl) rfl (by kernel_rfl) rfl rfl rfl rfl rfl (At.ext hS.ext g0_) 3 rfl rfl rfl rfl ?_
  refine DM.load1 ttok hsk14 7 255 (by kernel_rfl) (by kernel_rfl) (by kernel_rfl) (by kernel_rfl) rfl (by kernel_rfl) rfl rfl rfl rfl rfl (At.ext hS.ext g0_) 1 rfl rfl rfl rfl ?_
  refine DM.run (fuel := 24) ttok hsk14 [8, 9, 10] 2047 (by kernel_rfl) (by kernel_rfl) rfl ?_
  refine DM.weak [(0, .pointer (some p0_)), (2, .bool false), (13, .bool (decide (x0.Next < (x0.Messages.length : Int))))] ⟨rfl, rfl, rfl, trivial⟩ ?_
  by_cases hg16 : (decide (x0.Next < (x0.Messages.length : Int))) = true
  · skip
    rw [if_pos hg16] at hm
    refine DM.know 13 rfl (congrArg Value.bool hg16) ?_
    refine DM.run (fuel := 15) ttok hsk14 [11, 12, 13, 15, 16, 17, 19, 20, 21] 3915775 (by kernel_rfl) (by kernel_rfl) rfl ?_
    refine DM.weak [(0, .pointer (some p0_)), (2, .bool false), (13, .bool true), (16, .pointer (some (p0_.add 3))), (20, .pointer (some (p0_.add 2))), (24, .pointer (some p0_))] ⟨rfl, rfl, rfl, rfl, rfl, rfl, trivial⟩ ?_
    refine DM.load1 ttok hsk14 14 3932159 (by kernel_rfl) (by kernel_rfl) (by kernel_rfl) (by kernel_rfl) rfl (by kernel_rfl) rfl rfl rfl rfl rfl (At.ext hS.ext g0_) 3 rfl rfl rfl rfl ?_
    refine DM.load1 ttok hsk14 18 4194303 (by kernel_rfl) (by kernel_rfl) (by kernel_rfl) (by kernel_rfl) rfl (by kernel_rfl) rfl rfl rfl rfl rfl (At.ext hS.ext g0_) 2 rfl rfl rfl rfl ?_
    refine DM.load1 ttok hsk14 22 8388607 (by kernel_rfl) (by kernel_rfl) (by kernel_rfl) (by kernel_rfl) rfl (by kernel_rfl) rfl rfl rfl rfl rfl (At.ext hS.ext g0_) 0 rfl rfl rfl rfl ?_
    refine DM.run (fuel := 8) ttok hsk14 [23, 24, 25, 26] 134217727 (by kernel_rfl) (by kernel_rfl) rfl ?_
    refine DM.weak [(0, .pointer (some p0_)), (2, .bool false), (29, .bool (decide (x0.Next < (w64 (x0.Base + x0.Window)))))] ⟨rfl, rfl, rfl, trivial⟩ ?_
    by_cases hg17 : (decide (x0.Next < (w64 (x0.Base + x0.Window)))) = true
    · skip
      rw [if_pos hg17] at hm
      refine DM.know 29 rfl (congrArg Value.bool hg17) ?_
      refine DM.run (fuel := 5) ttok hsk14 [27, 28, 29] 1073741823 (by kernel_rfl) (by kernel_rfl) rfl ?_
      refine DM.load1 ttok hsk14 30 2147483647 (by kernel_rfl) (by kernel_rfl) (by kernel_rfl) (by kernel_rfl) rfl (by kernel_rfl) rfl rfl rfl rfl rfl (At.ext hS.ext g0_) 7 rfl rfl rfl rfl ?_
      refine DM.run (fuel := 0) ttok hsk14 [31, 32, 33, 34] 34359738367 (by kernel_rfl) (by kernel_rfl) rfl ?_
      refine DM.weak [(2, .bool (decide ((x0.Flight.length : Int) < 60)))] ⟨rfl, trivial⟩ ?_
      refine DM.done hsk14 (by kernel_rfl) ?_
      refine WP.ret ?_
      cases hm
      exact ⟨_, .cons (.tmp rfl) .nil, rfl, hS15⟩
    · skip
      rw [if_neg hg17] at hm
      refine DM.know 29 rfl (congrArg Value.bool (Bool.eq_false_iff.2 hg17)) ?_
      refine DM.run (fuel := 0) ttok hsk14 [27, 28, 29, 30, 31, 32, 33, 34] 34359738367 (by kernel_rfl) (by kernel_rfl) rfl ?_
      refine DM.weak [(2, .bool false)] ⟨rfl, trivial⟩ ?_
      refine DM.done hsk14 (by kernel_rfl) ?_
      refine WP.ret ?_
      cases hm
      exact ⟨_, .cons (.tmp rfl) .nil, rfl, hS15⟩
  · skip
    rw [if_neg hg16] at hm
    refine DM.know 13 rfl (congrArg Value.bool (Bool.eq_false_iff.2 hg16)) ?_
    refine DM.run (fuel := 0) ttok hsk14 [11, 12, 13, 14, 15, 16, 17, 18, 19, 20, 21, 22, 23, 24, 25, 26, 27, 28, 29, 30, 31, 32, 33, 34] 34359738367 (by kernel_rfl) (by kernel_rfl) rfl ?_
    refine DM.weak [(2, .bool false)] ⟨rfl, trivial⟩ ?_
    refine DM.done hsk14 (by kernel_rfl) ?_
    refine WP.ret ?_
    cases hm
    exact ⟨_, .cons (.tmp rfl) .nil, rfl, hS15⟩

theorem enters95 : Enters Try.prog 95 := ⟨_, _, Try.func95, rfl, by kernel_rfl⟩
def m_impl_Channel_events_j3 (fuel : Nat) (t42 : (List D.ChannelEvent)) : Option (List D.ChannelEvent) := some t42
def m_impl_Channel_events_j4 (fuel : Nat) (s41 : Int × (List D.ChannelEvent)) (t71 : (List D.ChannelEvent)) : Option (Rd (Int × (List D.ChannelEvent)) ((List D.ChannelEvent)) ((List D.ChannelEvent))) := some (.next (w64 (s41.1 + 1), t71))
def m_impl_Channel_events_b2 (fuel : Nat) (x0 : D.Channel) (s41 : Int × (List D.ChannelEvent)) : Option (Rd (Int × (List D.ChannelEvent)) ((List D.ChannelEvent)) ((List D.ChannelEvent))) := (if (decide (s41.1 < (x0.Flight.length : Int))) = true then (if decide ((s41.2.length : Int) + (([(⟨3, s41.1⟩ : D.ChannelEvent), (⟨4, s41.1⟩ : D.ChannelEvent)] : (List D.ChannelEvent)).length : Int) ≤ 4294967296) = true then (if (decide ((x0.Flight.length : Int) < 60)) = true then (if decide (((s41.2 ++ ([(⟨3, s41.1⟩ : D.ChannelEvent), (⟨4, s41.1⟩ : D.ChannelEvent)] : (List D.ChannelEvent))).length : Int) + (([(⟨5, s41.1⟩ : D.ChannelEvent)] : (List D.ChannelEvent)).length : Int) ≤ 4294967296) = true then m_impl_Channel_events_j4 fuel s41 ((s41.2 ++ ([(⟨3, s41.1⟩ : D.ChannelEvent), (⟨4, s41.1⟩ : D.ChannelEvent)] : (List D.ChannelEvent))) ++ ([(⟨5, s41.1⟩ : D.ChannelEvent)] : (List D.ChannelEvent))) else none) else m_impl_Channel_events_j4 fuel s41 (s41.2 ++ ([(⟨3, s41.1⟩ : D.ChannelEvent), (⟨4, s41.1⟩ : D.ChannelEvent)] : (List D.ChannelEvent)))) else none) else some (.brk s41.2))
def m_impl_Channel_events_j2 (fuel : Nat) (x0 : D.Channel) (t28 : (List D.ChannelEvent)) : Option (List D.ChannelEvent) := ((iter (m_impl_Channel_events_b2 fuel x0) fuel (0, t28)).bind fun o => aft o (m_impl_Channel_events_j3 fuel))
def m_impl_Channel_events_j5 (fuel : Nat) (s27 : Int × (List D.ChannelEvent)) (t93 : Bool) : Option (Rd (Int × (List D.ChannelEvent)) ((List D.ChannelEvent)) ((List D.ChannelEvent))) := (if t93 = true then (if decide ((s27.2.length : Int) + (([(⟨2, s27.1⟩ : D.ChannelEvent)] : (List D.ChannelEvent)).length : Int) ≤ 4294967296) = true then some (.next (w64 (s27.1 + 1), (s27.2 ++ ([(⟨2, s27.1⟩ : D.ChannelEvent)] : (List D.ChannelEvent))))) else none) else some (.brk s27.2))
def m_impl_Channel_events_b1 (fuel : Nat) (x0 : D.Channel) (s27 : Int × (List D.ChannelEvent)) : Option (Rd (Int × (List D.ChannelEvent)) ((List D.ChannelEvent)) ((List D.ChannelEvent))) := (if (decide (s27.1 < (w64 (x0.Next - x0.Base)))) = true then m_impl_Channel_events_j5 fuel s27 (decide ((x0.Flight.length : Int) < 60)) else m_impl_Channel_events_j5 fuel s27 false)
def m_impl_Channel_events_j1 (fuel : Nat) (x0 : D.Channel) (t21 : (List D.ChannelEvent)) : Option (List D.ChannelEvent) := ((iter (m_impl_Channel_events_b1 fuel x0) fuel (0, t21)).bind fun o => aft o (m_impl_Channel_events_j2 fuel x0))
def m_impl_Channel_events (fuel : Nat) (x0 : D.Channel) : Option ((List D.ChannelEvent)) := ((m_impl_Channel_canSend fuel x0).bind fun r14 => (if r14 = true then (if decide ((([] : (List D.ChannelEvent)).length : Int) + (([(⟨1, 0⟩ : D.ChannelEvent)] : (List D.ChannelEvent)).length : Int) ≤ 4294967296) = true then m_impl_Channel_events_j1 fuel x0 (([] : (List D.ChannelEvent)) ++ ([(⟨1, 0⟩ : D.ChannelEvent)] : (List D.ChannelEvent))) else none) else m_impl_Channel_events_j1 fuel x0 ([])))

set_option maxRecDepth 100000 in
theorem impl_Channel_events_ok {w : World} {p0_ : Addr} {c0_ : List Value} {x0 : D.Channel} (h0_ : ty39.ro w c0_ x0) (g0_ : At w p0_ c0_) {fuel : Nat} {r : (List D.ChannelEvent)} (hm : m_impl_Channel_events fuel x0 = some r) :
    Calls Try.prog 95 ⟨[.pointer (some p0_)]⟩ w (Ret fun v w8 => ∃ A0 k0, v = .slice A0 r.length k0 ∧ St w w8 [Own ty55 [.slice A0 r.length k0] r]) := by
  obtain ⟨A1, k2, A4, k5, A7, k8, A10, k11, e13, h3, h6, h9, h12⟩ := ty39_open h0_; subst e13
  refine Calls.into Try.func95 rfl 63 rfl rfl _ rfl ?_
  unfold m_impl_Channel_events at hm
  have hS := St.start w
  refine WP.seq ?_
  refine WP.region ?_
  refine RW.run ttok 1 rfl ?_
  refine RW.nil ?_
  refine WP.seq ?_
  refine WP.region ?_
  refine RW.run ttok 1 rfl ?_
  refine RW.nil ?_
  refine WP.seq ?_
  refine WP.seq ?_
  refine WP.region ?_
  refine RW.run ttok 1 rfl ?_
  obtain ⟨r14, hx15, hm⟩ := bind_some hm
  refine RW.call rfl rfl rfl enters104 (impl_Channel_canSend_ok (ty39.ext hS.ext h0_) (At.ext hS.ext g0_) hx15) (fun v16 w17 hR18 => ?_)
  obtain ⟨rfl, hR19⟩ := hR18
  have hS20 := hS.join hR19
  refine RW.nil ?_
  refine WP.cut (fun (t21 : (List D.ChannelEvent)) F w9 => ∃ A22 k23, m_impl_Channel_events_j1 fuel x0 t21 = some r ∧ St w w9 [Own ty55 [.slice A22 t21.length k23] t21] ∧ F = [(0, .pointer (some p0_)), (3, .slice A22 t21.length k23)]) ?_ ?_
  · skip
    rintro t21 F w25 ⟨A22, k23, hm, hS24, rfl⟩
    unfold m_impl_Channel_events_j1 at hm
    refine WP.seq ?_
    refine WP.region ?_
    refine RW.run ttok 3 rfl ?_
    refine RW.load1 ttok rfl rfl rfl rfl rfl (At.ext hS24.ext g0_) 7 rfl rfl rfl rfl ?_
    refine RW.run ttok 3 rfl ?_
    refine RW.nil ?_
    refine WP.seq ?_
    refine WP.seq ?_
    refine WP.region ?_
    refine RW.run ttok 1 rfl ?_
    refine RW.nil ?_
    obtain ⟨o37, hl38, hm⟩ := bind_some hm
    refine WP.cut (fun (t28 : (List D.ChannelEvent)) F w9 => ∃ A34 k35, o37 = .inl t28 ∧ St w w9 [Own ty55 [.slice A34 t28.length k35] t28] ∧ F = [(0, .pointer (some p0_)), (3, .slice A34 t28.length k35), (4, .bool (decide ((x0.Flight.length : Int) < 60)))]) ?_ ?_
    · skip
      rintro t28 F w36 ⟨A34, k35, ho40, hS39, rfl⟩
      subst ho40
      rw [aft_inl] at hm
      unfold m_impl_Channel_events_j2 at hm
      refine WP.seq ?_
      refine WP.seq ?_
      refine WP.region ?_
      refine RW.run ttok 3 rfl ?_
      refine RW.load1 ttok rfl rfl rfl rfl rfl (At.ext hS39.ext g0_) 7 rfl rfl rfl rfl ?_
      refine RW.run ttok 2 rfl ?_
      refine RW.nil ?_
      obtain ⟨o51, hl52, hm⟩ := bind_some hm
      refine WP.cut (fun (t42 : (List D.ChannelEvent)) F w9 => ∃ A48 k49, o51 = .inl t42 ∧ St w w9 [Own ty55 [.slice A48 t42.length k49] t42] ∧ F = [(3, .slice A48 t42.length k49)]) ?_ ?_
      · skip
        rintro t42 F w50 ⟨A48, k49, ho54, hS53, rfl⟩
        subst ho54
        rw [aft_inl] at hm
        unfold m_impl_Channel_events_j3 at hm
        refine WP.seq ?_
        refine WP.region ?_
        refine RW.run ttok 2 rfl ?_
        refine RW.nil ?_
        refine WP.ret ?_
        cases hm
        exact ⟨_, .cons (.tmp rfl) .nil, A48, k49, rfl, hS53⟩
      · skip
        refine WP.block ?_
        refine WP.weak [(3, .slice A34 t28.length k35), (4, .bool (decide ((x0.Flight.length : Int) < 60))), (44, .int .i64 (x0.Flight.length : Int)), (45, .int .i64 0)] ⟨rfl, rfl, rfl, rfl, trivial⟩ ?_
        refine WP.iter (fun (s41 : Int × (List D.ChannelEvent)) F w9 => ∃ A46 k47, St w w9 [Own ty55 [.slice A46 s41.2.length k47] s41.2] ∧ F = [(3, .slice A46 s41.2.length k47), (4, .bool (decide ((x0.Flight.length : Int) < 60))), (44, .int .i64 (x0.Flight.length : Int)), (45, .int .i64 s41.1)]) _ hl52 ⟨A34, k35, hS39, rfl⟩ ?_
        rintro s41 F w59 _ o57 ⟨A46, k47, hS58, rfl⟩ hb55 ho56
        unfold m_impl_Channel_events_b2 at hb55
        refine WP.seq ?_
        refine WP.region ?_
        refine RW.run ttok 1 rfl ?_
        refine RW.nil ?_
        refine WP.seq ?_
        refine WP.cond (decide (s41.1 < (x0.Flight.length : Int))) rfl (fun hc => ?_) (fun hc => ?_)
        · skip
          rw [if_pos hc] at hb55
          refine WP.skip ?_
          refine WP.seq ?_
          refine WP.block ?_
          refine WP.seq ?_
          refine WP.region ?_
          refine RW.run ttok 2 rfl ?_
          refine RW.nil ?_
          refine WP.seq ?_
          refine WP.region ?_
          refine RW.run ttok 2 rfl ?_
          refine RW.quiet rfl (Quiet.build ttok rfl rfl rfl rfl rfl) rfl rfl ?_
          refine RW.run ttok 1 rfl ?_
          refine RW.quiet rfl (Quiet.build ttok rfl rfl rfl rfl rfl) rfl rfl ?_
          refine RW.newSlice (U := ty66) (els := [.int .i64 3, .int .i64 s41.1, .int .i64 4, .int .i64 s41.1]) (ys := [(⟨3, s41.1⟩ : D.ChannelEvent), (⟨4, s41.1⟩ : D.ChannelEvent)]) ttok (hS58.flatEls (U := ty66) (els := [.int .i64 3, .int .i64 s41.1, .int .i64 4, .int .i64 s41.1]) (ys := [(⟨3, s41.1⟩ : D.ChannelEvent), (⟨4, s41.1⟩ : D.ChannelEvent)]) ⟨[.int .i64 3, .int .i64 s41.1], _, [], [], rfl, rfl, (ty66_ownI (c := (⟨3, s41.1⟩ : D.ChannelEvent)) rfl), ⟨[.int .i64 4, .int .i64 s41.1], _, [], [], rfl, rfl, (ty66_ownI (c := (⟨4, s41.1⟩ : D.ChannelEvent)) rfl), ⟨rfl, rfl⟩⟩⟩) rfl rfl rfl rfl rfl rfl rfl rfl rfl rfl rfl rfl (fun A60 k61 w62 e63 hS64 => ?_)
          have hS65 := hS64.bring 1 rfl
          by_cases hk66 : decide ((s41.2.length : Int) + (([(⟨3, s41.1⟩ : D.ChannelEvent), (⟨4, s41.1⟩ : D.ChannelEvent)] : (List D.ChannelEvent)).length : Int) ≤ 4294967296) = true
          case neg => rw [if_neg hk66] at hb55; cases hb55
          rw [if_pos hk66] at hb55
          refine RW.appendRo ttok (Flat.map (Flat.pair Flat.int (Flat.pair Flat.int Flat.unit))) hS65 rfl rfl rfl rfl rfl rfl (by decide) rfl rfl ((hS65.bring 1 rfl).own) (of_decide_eq_true hk66) (by decide) rfl rfl (fun A67 k68 w69 hS70 => ?_)
          refine RW.run ttok 1 rfl ?_
          refine RW.nil ?_
          refine WP.seq ?_
          refine WP.region ?_
          refine RW.run ttok 1 rfl ?_
          refine RW.nil ?_
          refine WP.cut (fun (t71 : (List D.ChannelEvent)) F w9 => ∃ A72 k73, m_impl_Channel_events_j4 fuel s41 t71 = some o57 ∧ St w w9 [Own ty55 [.slice A72 t71.length k73] t71, Own ty55 [.slice A60 ([(⟨3, s41.1⟩ : D.ChannelEvent), (⟨4, s41.1⟩ : D.ChannelEvent)] : (List D.ChannelEvent)).length k61] ([(⟨3, s41.1⟩ : D.ChannelEvent), (⟨4, s41.1⟩ : D.ChannelEvent)] : (List D.ChannelEvent))] ∧ F = [(3, .slice A72 t71.length k73), (4, .bool (decide ((x0.Flight.length : Int) < 60))), (44, .int .i64 (x0.Flight.length : Int)), (45, .int .i64 s41.1)]) ?_ ?_
          · skip
            rintro t71 F w75 ⟨A72, k73, hb55, hS74, rfl⟩
            unfold m_impl_Channel_events_j4 at hb55
            refine WP.region ?_
            refine RW.run ttok 2 rfl ?_
            refine RW.nil ?_
            cases hb55
            exact ⟨_, [(3, .slice A72 t71.length k73), (4, .bool (decide ((x0.Flight.length : Int) < 60))), (44, .int .i64 (x0.Flight.length : Int)), (45, .int .i64 (w64 (s41.1 + 1)))], ⟨rfl, rfl, rfl, rfl, trivial⟩, rfl, A72, k73, (hS74.taken 1), rfl⟩
          · skip
            refine WP.cond (decide ((x0.Flight.length : Int) < 60)) rfl (fun hc => ?_) (fun hc => ?_)
            · skip
              rw [if_pos hc] at hb55
              refine WP.region ?_
              refine RW.run ttok 2 rfl ?_
              refine RW.quiet rfl (Quiet.build ttok rfl rfl rfl rfl rfl) rfl rfl ?_
              refine RW.newSlice (U := ty66) (els := [.int .i64 5, .int .i64 s41.1]) (ys := [(⟨5, s41.1⟩ : D.ChannelEvent)]) ttok (hS70.flatEls (U := ty66) (els := [.int .i64 5, .int .i64 s41.1]) (ys := [(⟨5, s41.1⟩ : D.ChannelEvent)]) ⟨[.int .i64 5, .int .i64 s41.1], _, [], [], rfl, rfl, (ty66_ownI (c := (⟨5, s41.1⟩ : D.ChannelEvent)) rfl), ⟨rfl, rfl⟩⟩) rfl rfl rfl rfl rfl rfl rfl rfl rfl rfl rfl rfl (fun A77 k78 w79 e80 hS81 => ?_)
              have hS82 := hS81.bring 1 rfl
              by_cases hk83 : decide (((s41.2 ++ ([(⟨3, s41.1⟩ : D.ChannelEvent), (⟨4, s41.1⟩ : D.ChannelEvent)] : (List D.ChannelEvent))).length : Int) + (([(⟨5, s41.1⟩ : D.ChannelEvent)] : (List D.ChannelEvent)).length : Int) ≤ 4294967296) = true
              case neg => rw [if_neg hk83] at hb55; cases hb55
              rw [if_pos hk83] at hb55
              refine RW.appendRo ttok (Flat.map (Flat.pair Flat.int (Flat.pair Flat.int Flat.unit))) hS82 rfl rfl rfl rfl rfl rfl (by decide) rfl rfl ((hS82.bring 1 rfl).own) (of_decide_eq_true hk83) (by decide) rfl rfl (fun A84 k85 w86 hS87 => ?_)
              refine RW.run ttok 1 rfl ?_
              refine RW.nil ?_
              exact ⟨((s41.2 ++ ([(⟨3, s41.1⟩ : D.ChannelEvent), (⟨4, s41.1⟩ : D.ChannelEvent)] : (List D.ChannelEvent))) ++ ([(⟨5, s41.1⟩ : D.ChannelEvent)] : (List D.ChannelEvent))), [(3, .slice A84 ((s41.2 ++ ([(⟨3, s41.1⟩ : D.ChannelEvent), (⟨4, s41.1⟩ : D.ChannelEvent)] : (List D.ChannelEvent))) ++ ([(⟨5, s41.1⟩ : D.ChannelEvent)] : (List D.ChannelEvent))).length k85), (4, .bool (decide ((x0.Flight.length : Int) < 60))), (44, .int .i64 (x0.Flight.length : Int)), (45, .int .i64 s41.1)], ⟨rfl, rfl, rfl, rfl, trivial⟩, A84, k85, hb55, (hS87.bring 1 rfl).drop, rfl⟩
            · skip
              rw [if_neg (not_t hc)] at hb55
              refine WP.skip ?_
              exact ⟨(s41.2 ++ ([(⟨3, s41.1⟩ : D.ChannelEvent), (⟨4, s41.1⟩ : D.ChannelEvent)] : (List D.ChannelEvent))), [(3, .slice A67 (s41.2 ++ ([(⟨3, s41.1⟩ : D.ChannelEvent), (⟨4, s41.1⟩ : D.ChannelEvent)] : (List D.ChannelEvent))).length k68), (4, .bool (decide ((x0.Flight.length : Int) < 60))), (44, .int .i64 (x0.Flight.length : Int)), (45, .int .i64 s41.1)], ⟨rfl, rfl, rfl, rfl, trivial⟩, A67, k68, hb55, hS70, rfl⟩
        · skip
          rw [if_neg (not_t hc)] at hb55
          refine WP.exit ?_
          cases hb55
          exact ⟨_, [(3, .slice A46 s41.2.length k47)], ⟨rfl, trivial⟩, A46, k47, ho56, hS58, rfl⟩
    · skip
      refine WP.block ?_
      refine WP.weak [(0, .pointer (some p0_)), (3, .slice A22 t21.length k23), (4, .bool (decide ((x0.Flight.length : Int) < 60))), (5, .int .i64 0)] ⟨rfl, rfl, rfl, rfl, trivial⟩ ?_
      refine WP.iter (fun (s27 : Int × (List D.ChannelEvent)) F w9 => ∃ A32 k33, St w w9 [Own ty55 [.slice A32 s27.2.length k33] s27.2] ∧ F = [(0, .pointer (some p0_)), (3, .slice A32 s27.2.length k33), (4, .bool (decide ((x0.Flight.length : Int) < 60))), (5, .int .i64 s27.1)]) _ hl38 ⟨A22, k23, hS24, rfl⟩ ?_
      rintro s27 F w92 _ o90 ⟨A32, k33, hS91, rfl⟩ hb88 ho89
      unfold m_impl_Channel_events_b1 at hb88
      refine WP.seq ?_
      refine WP.seq ?_
      refine WP.cut (fun (t93 : Bool) F w9 => m_impl_Channel_events_j5 fuel s27 t93 = some o90 ∧ Ext w92 w9 ∧ St w w9 [Own ty55 [.slice A32 s27.2.length k33] s27.2] ∧ F = [(0, .pointer (some p0_)), (3, .slice A32 s27.2.length k33), (4, .bool (decide ((x0.Flight.length : Int) < 60))), (5, .int .i64 s27.1), (32, .bool t93)]) ?_ ?_
      · skip
        rintro t93 F w96 ⟨hb88, hE94, hS95, rfl⟩
        unfold m_impl_Channel_events_j5 at hb88
        refine WP.cond t93 rfl (fun hc => ?_) (fun hc => ?_)
        · skip
          rw [if_pos hc] at hb88
          refine WP.skip ?_
          refine WP.seq ?_
          refine WP.block ?_
          refine WP.region ?_
          refine RW.run ttok 2 rfl ?_
          refine RW.quiet rfl (Quiet.build ttok rfl rfl rfl rfl rfl) rfl rfl ?_
          refine RW.newSlice (U := ty66) (els := [.int .i64 2, .int .i64 s27.1]) (ys := [(⟨2, s27.1⟩ : D.ChannelEvent)]) ttok (hS95.flatEls (U := ty66) (els := [.int .i64 2, .int .i64 s27.1]) (ys := [(⟨2, s27.1⟩ : D.ChannelEvent)]) ⟨[.int .i64 2, .int .i64 s27.1], _, [], [], rfl, rfl, (ty66_ownI (c := (⟨2, s27.1⟩ : D.ChannelEvent)) rfl), ⟨rfl, rfl⟩⟩) rfl rfl rfl rfl rfl rfl rfl rfl rfl rfl rfl rfl (fun A98 k99 w100 e101 hS102 => ?_)
          have hS103 := hS102.bring 1 rfl
          by_cases hk104 : decide ((s27.2.length : Int) + (([(⟨2, s27.1⟩ : D.ChannelEvent)] : (List D.ChannelEvent)).length : Int) ≤ 4294967296) = true
          case neg => rw [if_neg hk104] at hb88; cases hb88
          rw [if_pos hk104] at hb88
          refine RW.appendRo ttok (Flat.map (Flat.pair Flat.int (Flat.pair Flat.int Flat.unit))) hS103 rfl rfl rfl rfl rfl rfl (by decide) rfl rfl ((hS103.bring 1 rfl).own) (of_decide_eq_true hk104) (by decide) rfl rfl (fun A105 k106 w107 hS108 => ?_)
          refine RW.run ttok 1 rfl ?_
          refine RW.nil ?_
          refine WP.region ?_
          refine RW.run ttok 3 rfl ?_
          refine RW.nil ?_
          cases hb88
          exact ⟨_, [(0, .pointer (some p0_)), (3, .slice A105 (s27.2 ++ ([(⟨2, s27.1⟩ : D.ChannelEvent)] : (List D.ChannelEvent))).length k106), (4, .bool (decide ((x0.Flight.length : Int) < 60))), (5, .int .i64 (w64 (s27.1 + 1)))], ⟨rfl, rfl, rfl, rfl, trivial⟩, rfl, A105, k106, (hS108.taken 1), rfl⟩
        · skip
          rw [if_neg (not_t hc)] at hb88
          refine WP.exit ?_
          cases hb88
          exact ⟨_, [(0, .pointer (some p0_)), (3, .slice A32 s27.2.length k33), (4, .bool (decide ((x0.Flight.length : Int) < 60)))], ⟨rfl, rfl, rfl, trivial⟩, A32, k33, ho89, hS95, rfl⟩
      · skip
        refine WP.drawnM 0 mixed 14 (by kernel_rfl) (by kernel_rfl) [([], 16383), ([], 16383), ([1], 16381), ([2], 16379), ([3], 16375), ([], 16383), ([5], 16351), ([6], 16319), ([7], 16255), ([4, 8], 16111), ([0, 9], 15870), ([10], 15359), ([11], 14335), ([11, 12], 10239)] (by kernel_rfl) (fun hsk109 => ?_)
        have hS110 := hS91.step (Ext.draw _)
        refine DM.run (fuel := 7) ttok hsk109 [0, 1, 2, 3, 5, 6, 7] 239 (by kernel_rfl) (by kernel_rfl) rfl ?_
        refine DM.load1 ttok hsk109 4 255 (by kernel_rfl) (by kernel_rfl) (by kernel_rfl) (by kernel_rfl) rfl (by kernel_rfl) rfl rfl rfl rfl rfl (At.ext hS91.ext g0_) 3 rfl rfl rfl rfl ?_
        refine DM.load1 ttok hsk109 8 511 (by kernel_rfl) (by kernel_rfl) (by kernel_rfl) (by kernel_rfl) rfl (by kernel_rfl) rfl rfl rfl rfl rfl (At.ext hS91.ext g0_) 2 rfl rfl rfl rfl ?_
        refine DM.run (fuel := 2) ttok hsk109 [9, 10, 11] 4095 (by kernel_rfl) (by kernel_rfl) rfl ?_
        refine DM.weak [(0, .pointer (some p0_)), (3, .slice A32 s27.2.length k33), (4, .bool (decide ((x0.Flight.length : Int) < 60))), (5, .int .i64 s27.1), (30, .bool (decide (s27.1 < (w64 (x0.Next - x0.Base)))))] ⟨rfl, rfl, rfl, rfl, rfl, trivial⟩ ?_
        by_cases hg111 : (decide (s27.1 < (w64 (x0.Next - x0.Base)))) = true
        · skip
          rw [if_pos hg111] at hb88
          refine DM.know 30 rfl (congrArg Value.bool hg111) ?_
          refine DM.run (fuel := 0) ttok hsk109 [12, 13] 16383 (by kernel_rfl) (by kernel_rfl) rfl ?_
          refine DM.done hsk109 (by kernel_rfl) ?_
          exact ⟨decide ((x0.Flight.length : Int) < 60), [(0, .pointer (some p0_)), (3, .slice A32 s27.2.length k33), (4, .bool (decide ((x0.Flight.length : Int) < 60))), (5, .int .i64 s27.1), (32, .bool (decide ((x0.Flight.length : Int) < 60)))], ⟨rfl, rfl, rfl, rfl, rfl, trivial⟩, hb88, (Ext.draw _), hS110, rfl⟩
        · skip
          rw [if_neg hg111] at hb88
          refine DM.know 30 rfl (congrArg Value.bool (Bool.eq_false_iff.2 hg111)) ?_
          refine DM.run (fuel := 0) ttok hsk109 [12, 13] 16383 (by kernel_rfl) (by kernel_rfl) rfl ?_
          refine DM.done hsk109 (by kernel_rfl) ?_
          exact ⟨false, [(0, .pointer (some p0_)), (3, .slice A32 s27.2.length k33), (4, .bool (decide ((x0.Flight.length : Int) < 60))), (5, .int .i64 s27.1), (32, .bool false)], ⟨rfl, rfl, rfl, rfl, rfl, trivial⟩, hb88, (Ext.draw _), hS110, rfl⟩
  · skip
    refine WP.cond r14 rfl (fun hc => ?_) (fun hc => ?_)
    · skip
      rw [if_pos hc] at hm
      refine WP.region ?_
      refine RW.run ttok 1 rfl ?_
      refine RW.quiet rfl (Quiet.build ttok rfl rfl rfl rfl rfl) rfl rfl ?_
      refine RW.newSlice (U := ty66) (els := [.int .i64 1, .int .i64 0]) (ys := [(⟨1, 0⟩ : D.ChannelEvent)]) ttok (hS20.flatEls (U := ty66) (els := [.int .i64 1, .int .i64 0]) (ys := [(⟨1, 0⟩ : D.ChannelEvent)]) ⟨[.int .i64 1, .int .i64 0], _, [], [], rfl, rfl, (ty66_ownI (c := (⟨1, 0⟩ : D.ChannelEvent)) rfl), ⟨rfl, rfl⟩⟩) rfl rfl rfl rfl rfl rfl rfl rfl rfl rfl rfl rfl (fun A112 k113 w114 e115 hS116 => ?_)
      have hS117 := hS116.nilSl ty66 66
      have hS118 := hS117.bring 0 rfl
      by_cases hk119 : decide ((([] : (List D.ChannelEvent)).length : Int) + (([(⟨1, 0⟩ : D.ChannelEvent)] : (List D.ChannelEvent)).length : Int) ≤ 4294967296) = true
      case neg => rw [if_neg hk119] at hm; cases hm
      rw [if_pos hk119] at hm
      refine RW.appendRo ttok (Flat.map (Flat.pair Flat.int (Flat.pair Flat.int Flat.unit))) hS118 rfl rfl rfl rfl rfl rfl (by decide) rfl rfl ((hS118.bring 1 rfl).own) (of_decide_eq_true hk119) (by decide) rfl rfl (fun A120 k121 w122 hS123 => ?_)
      refine RW.run ttok 1 rfl ?_
      refine RW.nil ?_
      exact ⟨(([] : (List D.ChannelEvent)) ++ ([(⟨1, 0⟩ : D.ChannelEvent)] : (List D.ChannelEvent))), [(0, .pointer (some p0_)), (3, .slice A120 (([] : (List D.ChannelEvent)) ++ ([(⟨1, 0⟩ : D.ChannelEvent)] : (List D.ChannelEvent))).length k121)], ⟨rfl, rfl, trivial⟩, A120, k121, hm, (hS123.taken 1), rfl⟩
    · skip
      rw [if_neg (not_t hc)] at hm
      refine WP.skip ?_
      have hS124 := hS20.nilSl ty66 66
      exact ⟨[], [(0, .pointer (some p0_)), (3, .slice none 0 0)], ⟨rfl, rfl, trivial⟩, none, 0, hm, hS124, rfl⟩

theorem enters38 : Enters Try.prog 38 := ⟨_, _, Try.func38, rfl, by kernel_rfl⟩
def m_impl_ChannelEvents (fuel : Nat) (x0 : D.Channel) : Option ((List D.ChannelEvent) × Int) := ((m_impl_ValidChannel fuel x0).bind fun r18 => (if (!r18) = true then some ([], 1) else ((m_impl_Channel_events fuel x0).bind fun r26 => some (r26, 0))))

set_option maxRecDepth 100000 in
theorem impl_ChannelEvents_ok {w : World} {c0_ : List Value} {x0 : D.Channel} (h0_ : ty39.ro w c0_ x0) {fuel : Nat} {r : (List D.ChannelEvent) × Int} (hm : m_impl_ChannelEvents fuel x0 = some r) :
    Calls Try.prog 38 ⟨[.agg ⟨c0_⟩]⟩ w (Ret fun v w8 => ∃ A0 k0, v = .tuple ⟨[.slice A0 r.1.length k0, .int .i64 r.2]⟩ ∧ St w w8 [Own ty55 [.slice A0 r.1.length k0] r.1]) := by
  obtain ⟨A1, k2, A4, k5, A7, k8, A10, k11, e13, h3, h6, h9, h12⟩ := ty39_open h0_; subst e13
  refine Calls.into Try.func38 rfl 8 rfl rfl _ rfl ?_
  unfold m_impl_ChannelEvents at hm
  have hS := St.start w
  refine WP.seq ?_
  refine WP.region ?_
  refine RW.new ttok hS rfl rfl rfl rfl (fun g14 w15 e16 hS17 => ?_)
  refine RW.run ttok 2 rfl ?_
  refine RW.nil ?_
  refine WP.seq ?_
  refine WP.seq ?_
  refine WP.region ?_
  refine RW.loadN ttok rfl rfl rfl rfl rfl ((hS17.bring 0 rfl).box) rfl rfl rfl ?_
  obtain ⟨r18, hx19, hm⟩ := bind_some hm
  refine RW.call rfl rfl rfl enters84 (impl_ValidChannel_ok (ty39.ext hS17.ext h0_) hx19) (fun v20 w21 hR22 => ?_)
  obtain ⟨rfl, hR23⟩ := hR22
  have hS24 := hS17.join hR23
  refine RW.run ttok 1 rfl ?_
  refine RW.nil ?_
  refine WP.cond (!r18) rfl (fun hc => ?_) (fun hc => ?_)
  · skip
    rw [if_pos hc] at hm
    refine WP.seq ?_
    refine WP.region ?_
    refine RW.run ttok 2 rfl ?_
    refine RW.nil ?_
    refine WP.ret ?_
    cases hm
    have hS25 := hS24.nilSl ty66 66
    exact ⟨_, .cons (.tmp rfl) (.cons (.tmp rfl) .nil), none, 0, rfl, (hS25.taken 1)⟩
  · skip
    rw [if_neg (not_t hc)] at hm
    refine WP.skip ?_
    refine WP.seq ?_
    refine WP.region ?_
    obtain ⟨r26, hx27, hm⟩ := bind_some hm
    refine RW.call rfl rfl rfl enters95 (impl_Channel_events_ok (ty39.ext hS24.ext h0_) ((hS24.bring 0 rfl).box) hx27) (fun v28 w29 hR30 => ?_)
    obtain ⟨A31, k32, rfl, hR33⟩ := hR30
    have hS34 := hS24.join hR33
    refine RW.run ttok 2 rfl ?_
    refine RW.nil ?_
    refine WP.ret ?_
    cases hm
    exact ⟨_, .cons (.tmp rfl) (.cons (.tmp rfl) .nil), A31, k32, rfl, (hS34.taken 1)⟩

theorem enters96 : Enters Try.prog 96 := ⟨_, _, Try.func96, rfl, by kernel_rfl⟩
def m_laws_eqChannelEvent (fuel : Nat) (x0 : D.ChannelEvent) (x1 : D.ChannelEvent) : Option (Bool) := (if (x0.Kind != x1.Kind) = true then some false else (if (x0.Index != x1.Index) = true then some false else some true))

set_option maxRecDepth 100000 in
theorem laws_eqChannelEvent_ok {w : World} {c0_ : List Value} {x0 : D.ChannelEvent} {c1_ : List Value} {x1 : D.ChannelEvent} (h0_ : ty66.ro w c0_ x0) (h1_ : ty66.ro w c1_ x1) {fuel : Nat} {r : Bool} (hm : m_laws_eqChannelEvent fuel x0 x1 = some r) :
    Calls Try.prog 96 ⟨[.agg ⟨c0_⟩, .agg ⟨c1_⟩]⟩ w (Ret fun v w8 => v = .bool r ∧ St w w8 []) := by
  have e1 := ty66_open h0_; subst e1
  have e2 := ty66_open h1_; subst e2
  refine Calls.into Try.func96 rfl 15 rfl rfl _ rfl ?_
  unfold m_laws_eqChannelEvent at hm
  have hS := St.start w
  refine WP.seq ?_
  refine WP.region ?_
  refine RW.new ttok hS rfl rfl rfl rfl (fun g3 w4 e5 hS6 => ?_)
  refine RW.new ttok hS6 rfl rfl rfl rfl (fun g7 w8 e9 hS10 => ?_)
  refine RW.run ttok 1 rfl ?_
  refine RW.nil ?_
  refine WP.seq ?_
  refine WP.seq ?_
  refine WP.region ?_
  refine RW.run ttok 1 rfl ?_
  refine RW.load1 ttok rfl rfl rfl rfl rfl ((hS10.bring 1 rfl).box) 0 rfl rfl rfl rfl ?_
  refine RW.run ttok 1 rfl ?_
  refine RW.load1 ttok rfl rfl rfl rfl rfl ((hS10.bring 0 rfl).box) 0 rfl rfl rfl rfl ?_
  refine RW.run ttok 1 rfl ?_
  refine RW.nil ?_
  refine WP.cond (x0.Kind != x1.Kind) rfl (fun hc => ?_) (fun hc => ?_)
  · skip
    rw [if_pos hc] at hm
    refine WP.seq ?_
    refine WP.region ?_
    refine RW.run ttok 1 rfl ?_
    refine RW.nil ?_
    refine WP.ret ?_
    cases hm
    exact ⟨_, .cons (.tmp rfl) .nil, rfl, (hS10.taken 0)⟩
  · skip
    rw [if_neg (not_t hc)] at hm
    refine WP.skip ?_
    refine WP.seq ?_
    refine WP.seq ?_
    refine WP.region ?_
    refine RW.run ttok 1 rfl ?_
    refine RW.load1 ttok rfl rfl rfl rfl rfl ((hS10.bring 1 rfl).box) 1 rfl rfl rfl rfl ?_
    refine RW.run ttok 1 rfl ?_
    refine RW.load1 ttok rfl rfl rfl rfl rfl ((hS10.bring 0 rfl).box) 1 rfl rfl rfl rfl ?_
    refine RW.run ttok 1 rfl ?_
    refine RW.nil ?_
    refine WP.cond (x0.Index != x1.Index) rfl (fun hc => ?_) (fun hc => ?_)
    · skip
      rw [if_pos hc] at hm
      refine WP.seq ?_
      refine WP.region ?_
      refine RW.run ttok 1 rfl ?_
      refine RW.nil ?_
      refine WP.ret ?_
      cases hm
      exact ⟨_, .cons (.tmp rfl) .nil, rfl, (hS10.taken 0)⟩
    · skip
      rw [if_neg (not_t hc)] at hm
      refine WP.skip ?_
      refine WP.seq ?_
      refine WP.region ?_
      refine RW.run ttok 1 rfl ?_
      refine RW.nil ?_
      refine WP.ret ?_
      cases hm
      exact ⟨_, .cons (.tmp rfl) .nil, rfl, (hS10.taken 0)⟩

theorem enters39 : Enters Try.prog 39 := ⟨_, _, Try.func39, rfl, by kernel_rfl⟩
def m_laws_eqChannelEventS_j1 (fuel : Nat) (t2 : Unit) : Option Bool := some true
def m_laws_eqChannelEventS_b1 (fuel : Nat) (x0 : (List D.ChannelEvent)) (x1 : (List D.ChannelEvent)) (s1 : Int) : Option (Rd (Int) (Unit) (Bool)) := (if (decide (s1 < (x0.length : Int))) = true then ((idx x0 s1).bind fun x19 => ((idx x1 s1).bind fun x26 => ((m_laws_eqChannelEvent fuel x19 x26).bind fun r33 => (if (!r33) = true then some (.ret false) else some (.next (w64 (s1 + 1))))))) else some (.brk ()))
def m_laws_eqChannelEventS (fuel : Nat) (x0 : (List D.ChannelEvent)) (x1 : (List D.ChannelEvent)) : Option (Bool) := (if ((x0.length : Int) != (x1.length : Int)) = true then some false else ((iter (m_laws_eqChannelEventS_b1 fuel x0 x1) fuel 0).bind fun o => aft o (m_laws_eqChannelEventS_j1 fuel)))

set_option maxRecDepth 100000 in
theorem laws_eqChannelEventS_ok {w : World} {A0_ : Option Addr} {k0_ : Nat} {x0 : (List D.ChannelEvent)} {A1_ : Option Addr} {k1_ : Nat} {x1 : (List D.ChannelEvent)} (h0_ : ty55.ro w [.slice A0_ x0.length k0_] x0) (h1_ : ty55.ro w [.slice A1_ x1.length k1_] x1) {fuel : Nat} {r : Bool} (hm : m_laws_eqChannelEventS fuel x0 x1 = some r) :
    Calls Try.prog 39 ⟨[.slice A0_ x0.length k0_, .slice A1_ x1.length k1_]⟩ w (Ret fun v w8 => v = .bool r ∧ St w w8 []) := by
  refine Calls.into Try.func39 rfl 27 rfl rfl _ rfl ?_
  unfold m_laws_eqChannelEventS at hm
  have hS := St.start w
  refine WP.seq ?_
  refine WP.region ?_
  refine RW.run ttok 1 rfl ?_
  refine RW.nil ?_
  refine WP.seq ?_
  refine WP.seq ?_
  refine WP.region ?_
  refine RW.run ttok 5 rfl ?_
  refine RW.nil ?_
  refine WP.cond ((x0.length : Int) != (x1.length : Int)) rfl (fun hc => ?_) (fun hc => ?_)
  · skip
    rw [if_pos hc] at hm
    refine WP.seq ?_
    refine WP.region ?_
    refine RW.run ttok 1 rfl ?_
    refine RW.nil ?_
    refine WP.ret ?_
    cases hm
    exact ⟨_, .cons (.tmp rfl) .nil, rfl, hS⟩
  · skip
    rw [if_neg (not_t hc)] at hm
    refine WP.skip ?_
    refine WP.seq ?_
    refine WP.seq ?_
    refine WP.region ?_
    refine RW.run ttok 1 rfl ?_
    refine RW.nil ?_
    obtain ⟨o8, hl9, hm⟩ := bind_some hm
    refine WP.cut (fun (t2 : Unit) F w9 => o8 = .inl t2 ∧ Ext w w9 ∧ St w w9 [] ∧ F = []) ?_ ?_
    · skip
      rintro t2 F w7 ⟨ho11, hE6, hS10, rfl⟩
      subst ho11
      rw [aft_inl] at hm
      unfold m_laws_eqChannelEventS_j1 at hm
      refine WP.seq ?_
      refine WP.region ?_
      refine RW.run ttok 1 rfl ?_
      refine RW.nil ?_
      refine WP.ret ?_
      cases hm
      exact ⟨_, .cons (.tmp rfl) .nil, rfl, hS10⟩
    · skip
      refine WP.block ?_
      refine WP.weak [(0, .slice A0_ x0.length k0_), (1, .slice A1_ x1.length k1_), (5, .int .i64 0)] ⟨rfl, rfl, rfl, trivial⟩ ?_
      refine WP.iter (fun (s1 : Int) F w9 => Ext w w9 ∧ St w w9 [] ∧ F = [(0, .slice A0_ x0.length k0_), (1, .slice A1_ x1.length k1_), (5, .int .i64 s1)]) _ hl9 ⟨(Ext.refl _), hS, rfl⟩ ?_
      rintro s1 F w16 _ o14 ⟨hE5, hS15, rfl⟩ hb12 ho13
      unfold m_laws_eqChannelEventS_b1 at hb12
      refine WP.seq ?_
      refine WP.seq ?_
      refine WP.region ?_
      refine RW.run ttok 4 rfl ?_
      refine RW.nil ?_
      refine WP.cond (decide (s1 < (x0.length : Int))) rfl (fun hc => ?_) (fun hc => ?_)
      · skip
        rw [if_pos hc] at hb12
        refine WP.skip ?_
        refine WP.seq ?_
        refine WP.block ?_
        refine WP.seq ?_
        refine WP.drawnM 0 mixed 10 (by kernel_rfl) (by kernel_rfl) [([], 1023), ([], 1023), ([0, 1], 1020), ([2], 1019), ([], 1023), ([], 1023), ([4, 5], 975), ([6], 959), ([3, 7], 887), ([8], 767)] (by kernel_rfl) (fun hsk17 => ?_)
        have hS18 := hS15.step (Ext.draw _)
        refine DM.run (fuel := 6) ttok hsk17 [0, 1, 4, 5] 51 (by kernel_rfl) (by kernel_rfl) rfl ?_
        obtain ⟨x19, hx20, hb12⟩ := bind_some hb12
        refine DM.idx ttok hS15.ext hsk17 2 55 (by kernel_rfl) (by kernel_rfl) (by kernel_rfl) (by kernel_rfl) rfl (by kernel_rfl) rfl rfl rfl rfl rfl rfl (by decide) rfl rfl h0_ (idx_some hx20).1 (idx_some hx20).2 rfl rfl (fun p21 es22 ha23 hr24 => ?_)
        have e25 := ty66_open hr24; subst e25
        refine DM.loadN ttok hsk17 3 63 (by kernel_rfl) (by kernel_rfl) (by kernel_rfl) (by kernel_rfl) rfl (by kernel_rfl) rfl rfl rfl rfl rfl (At.ext hS15.ext ha23) rfl rfl rfl ?_
        obtain ⟨x26, hx27, hb12⟩ := bind_some hb12
        refine DM.idx ttok hS15.ext hsk17 6 127 (by kernel_rfl) (by kernel_rfl) (by kernel_rfl) (by kernel_rfl) rfl (by kernel_rfl) rfl rfl rfl rfl rfl rfl (by decide) rfl rfl h1_ (idx_some hx27).1 (idx_some hx27).2 rfl rfl (fun p28 es29 ha30 hr31 => ?_)
        have e32 := ty66_open hr31; subst e32
        refine DM.loadN ttok hsk17 7 255 (by kernel_rfl) (by kernel_rfl) (by kernel_rfl) (by kernel_rfl) rfl (by kernel_rfl) rfl rfl rfl rfl rfl (At.ext hS15.ext ha30) rfl rfl rfl ?_
        obtain ⟨r33, hx34, hb12⟩ := bind_some hb12
        refine DM.one hsk17 8 (by kernel_rfl) (LM.call hsk17 511 (by kernel_rfl) (by kernel_rfl) rfl rfl rfl rfl enters96 (laws_eqChannelEvent_ok (ty66.ext hS18.ext hr24) (ty66.ext hS18.ext hr31) hx34) (fun v35 w36 hR37 => ?_))
        obtain ⟨rfl, hR38⟩ := hR37
        refine ⟨hR38.ext, ?_⟩
        have hS39 := hS18.join hR38
        refine DM.run (fuel := 0) ttok hsk17 [9] 1023 (by kernel_rfl) (by kernel_rfl) rfl ?_
        refine DM.weak [(0, .slice A0_ x0.length k0_), (1, .slice A1_ x1.length k1_), (5, .int .i64 s1), (26, .bool (!r33))] ⟨rfl, rfl, rfl, rfl, trivial⟩ ?_
        refine DM.done hsk17 (by kernel_rfl) ?_
        refine WP.cond (!r33) rfl (fun hc => ?_) (fun hc => ?_)
        · skip
          rw [if_pos hc] at hb12
          refine WP.seq ?_
          refine WP.region ?_
          refine RW.run ttok 1 rfl ?_
          refine RW.nil ?_
          refine WP.ret ?_
          cases hb12
          cases ho13
          have hm : some _ = some _ := hm
          cases hm
          exact ⟨_, .cons (.tmp rfl) .nil, rfl, hS39⟩
        · skip
          rw [if_neg (not_t hc)] at hb12
          refine WP.skip ?_
          refine WP.region ?_
          refine RW.run ttok 3 rfl ?_
          refine RW.nil ?_
          cases hb12
          exact ⟨_, [(0, .slice A0_ x0.length k0_), (1, .slice A1_ x1.length k1_), (5, .int .i64 (w64 (s1 + 1)))], ⟨rfl, rfl, rfl, trivial⟩, rfl, ((hE5.trans (Ext.draw _)).trans hR38.ext), hS39, rfl⟩
      · skip
        rw [if_neg (not_t hc)] at hb12
        refine WP.exit ?_
        cases hb12
        exact ⟨_, [], trivial, ho13, hE5, hS15, rfl⟩

theorem enters28 : Enters Try.prog 28 := ⟨_, _, Try.func28, rfl, by kernel_rfl⟩
def m_laws_eqStringS_j1 (fuel : Nat) (t2 : Unit) : Option Bool := some true
def m_laws_eqStringS_b1 (fuel : Nat) (x0 : (List ByteArray)) (x1 : (List ByteArray)) (s1 : Int) : Option (Rd (Int) (Unit) (Bool)) := (if (decide (s1 < (x0.length : Int))) = true then ((idx x0 s1).bind fun x19 => ((idx x1 s1).bind fun x25 => (if (!(seqb x19 x25)) = true then some (.ret false) else some (.next (w64 (s1 + 1)))))) else some (.brk ()))
def m_laws_eqStringS (fuel : Nat) (x0 : (List ByteArray)) (x1 : (List ByteArray)) : Option (Bool) := (if ((x0.length : Int) != (x1.length : Int)) = true then some false else ((iter (m_laws_eqStringS_b1 fuel x0 x1) fuel 0).bind fun o => aft o (m_laws_eqStringS_j1 fuel)))

set_option maxRecDepth 100000 in
theorem laws_eqStringS_ok {w : World} {A0_ : Option Addr} {k0_ : Nat} {x0 : (List ByteArray)} {A1_ : Option Addr} {k1_ : Nat} {x1 : (List ByteArray)} (h0_ : ty35.ro w [.slice A0_ x0.length k0_] x0) (h1_ : ty35.ro w [.slice A1_ x1.length k1_] x1) {fuel : Nat} {r : Bool} (hm : m_laws_eqStringS fuel x0 x1 = some r) :
    Calls Try.prog 28 ⟨[.slice A0_ x0.length k0_, .slice A1_ x1.length k1_]⟩ w (Ret fun v w8 => v = .bool r ∧ St w w8 []) := by
  refine Calls.into Try.func28 rfl 26 rfl rfl _ rfl ?_
  unfold m_laws_eqStringS at hm
  have hS := St.start w
  refine WP.seq ?_
  refine WP.region ?_
  refine RW.run ttok 1 rfl ?_
  refine RW.nil ?_
  refine WP.seq ?_
  refine WP.seq ?_
  refine WP.region ?_
  refine RW.run ttok 5 rfl ?_
  refine RW.nil ?_
  refine WP.cond ((x0.length : Int) != (x1.length : Int)) rfl (fun hc => ?_) (fun hc => ?_)
  · skip
    rw [if_pos hc] at hm
    refine WP.seq ?_
    refine WP.region ?_
    refine RW.run ttok 1 rfl ?_
    refine RW.nil ?_
    refine WP.ret ?_
    cases hm
    exact ⟨_, .cons (.tmp rfl) .nil, rfl, hS⟩
  · skip
    rw [if_neg (not_t hc)] at hm
    refine WP.skip ?_
    refine WP.seq ?_
    refine WP.seq ?_
    refine WP.region ?_
    refine RW.run ttok 1 rfl ?_
    refine RW.nil ?_
    obtain ⟨o8, hl9, hm⟩ := bind_some hm
    refine WP.cut (fun (t2 : Unit) F w9 => o8 = .inl t2 ∧ Ext w w9 ∧ St w w9 [] ∧ F = []) ?_ ?_
    · skip
      rintro t2 F w7 ⟨ho11, hE6, hS10, rfl⟩
      subst ho11
      rw [aft_inl] at hm
      unfold m_laws_eqStringS_j1 at hm
      refine WP.seq ?_
      refine WP.region ?_
      refine RW.run ttok 1 rfl ?_
      refine RW.nil ?_
      refine WP.ret ?_
      cases hm
      exact ⟨_, .cons (.tmp rfl) .nil, rfl, hS10⟩
    · skip
      refine WP.block ?_
      refine WP.weak [(0, .slice A0_ x0.length k0_), (1, .slice A1_ x1.length k1_), (5, .int .i64 0)] ⟨rfl, rfl, rfl, trivial⟩ ?_
      refine WP.iter (fun (s1 : Int) F w9 => Ext w w9 ∧ St w w9 [] ∧ F = [(0, .slice A0_ x0.length k0_), (1, .slice A1_ x1.length k1_), (5, .int .i64 s1)]) _ hl9 ⟨(Ext.refl _), hS, rfl⟩ ?_
      rintro s1 F w16 _ o14 ⟨hE5, hS15, rfl⟩ hb12 ho13
      unfold m_laws_eqStringS_b1 at hb12
      refine WP.seq ?_
      refine WP.seq ?_
      refine WP.region ?_
      refine RW.run ttok 4 rfl ?_
      refine RW.nil ?_
      refine WP.cond (decide (s1 < (x0.length : Int))) rfl (fun hc => ?_) (fun hc => ?_)
      · skip
        rw [if_pos hc] at hb12
        refine WP.skip ?_
        refine WP.seq ?_
        refine WP.block ?_
        refine WP.seq ?_
        refine WP.drawnM 0 mixed 9 (by kernel_rfl) (by kernel_rfl) [([], 511), ([], 511), ([0, 1], 508), ([2], 507), ([], 511), ([], 511), ([4, 5], 463), ([6], 447), ([3, 7], 375)] (by kernel_rfl) (fun hsk17 => ?_)
        have hS18 := hS15.step (Ext.draw _)
        refine DM.run (fuel := 5) ttok hsk17 [0, 1, 4, 5] 51 (by kernel_rfl) (by kernel_rfl) rfl ?_
        obtain ⟨x19, hx20, hb12⟩ := bind_some hb12
        refine DM.idx ttok hS15.ext hsk17 2 55 (by kernel_rfl) (by kernel_rfl) (by kernel_rfl) (by kernel_rfl) rfl (by kernel_rfl) rfl rfl rfl rfl rfl rfl (by decide) rfl rfl h0_ (idx_some hx20).1 (idx_some hx20).2 rfl rfl (fun p21 es22 ha23 hr24 => ?_)
        cases hr24
        refine DM.load1 ttok hsk17 3 63 (by kernel_rfl) (by kernel_rfl) (by kernel_rfl) (by kernel_rfl) rfl (by kernel_rfl) rfl rfl rfl rfl rfl (At.ext hS15.ext ha23) 0 rfl rfl rfl rfl ?_
        obtain ⟨x25, hx26, hb12⟩ := bind_some hb12
        refine DM.idx ttok hS15.ext hsk17 6 127 (by kernel_rfl) (by kernel_rfl) (by kernel_rfl) (by kernel_rfl) rfl (by kernel_rfl) rfl rfl rfl rfl rfl rfl (by decide) rfl rfl h1_ (idx_some hx26).1 (idx_some hx26).2 rfl rfl (fun p27 es28 ha29 hr30 => ?_)
        cases hr30
        refine DM.load1 ttok hsk17 7 255 (by kernel_rfl) (by kernel_rfl) (by kernel_rfl) (by kernel_rfl) rfl (by kernel_rfl) rfl rfl rfl rfl rfl (At.ext hS15.ext ha29) 0 rfl rfl rfl rfl ?_
        refine DM.run (fuel := 0) ttok hsk17 [8] 511 (by kernel_rfl) (by kernel_rfl) rfl ?_
        refine DM.weak [(0, .slice A0_ x0.length k0_), (1, .slice A1_ x1.length k1_), (5, .int .i64 s1), (25, .bool (!(seqb x19 x25)))] ⟨rfl, rfl, rfl, rfl, trivial⟩ ?_
        refine DM.done hsk17 (by kernel_rfl) ?_
        refine WP.cond (!(seqb x19 x25)) rfl (fun hc => ?_) (fun hc => ?_)
        · skip
          rw [if_pos hc] at hb12
          refine WP.seq ?_
          refine WP.region ?_
          refine RW.run ttok 1 rfl ?_
          refine RW.nil ?_
          refine WP.ret ?_
          cases hb12
          cases ho13
          have hm : some _ = some _ := hm
          cases hm
          exact ⟨_, .cons (.tmp rfl) .nil, rfl, hS18⟩
        · skip
          rw [if_neg (not_t hc)] at hb12
          refine WP.skip ?_
          refine WP.region ?_
          refine RW.run ttok 3 rfl ?_
          refine RW.nil ?_
          cases hb12
          exact ⟨_, [(0, .slice A0_ x0.length k0_), (1, .slice A1_ x1.length k1_), (5, .int .i64 (w64 (s1 + 1)))], ⟨rfl, rfl, rfl, trivial⟩, rfl, (hE5.trans (Ext.draw _)), hS18, rfl⟩
      · skip
        rw [if_neg (not_t hc)] at hb12
        refine WP.exit ?_
        cases hb12
        exact ⟨_, [], trivial, ho13, hE5, hS15, rfl⟩

theorem enters144 : Enters Try.prog 144 := ⟨_, _, Try.func144, rfl, by kernel_rfl⟩
def m_laws_eqPacket (fuel : Nat) (x0 : D.Packet) (x1 : D.Packet) : Option (Bool) := (if (!(x0.Ack == x1.Ack)) = true then some false else (if (x0.Number != x1.Number) = true then some false else (if (!(seqb x0.Text x1.Text)) = true then some false else some true)))

set_option maxRecDepth 100000 in
theorem laws_eqPacket_ok {w : World} {c0_ : List Value} {x0 : D.Packet} {c1_ : List Value} {x1 : D.Packet} (h0_ : ty126.ro w c0_ x0) (h1_ : ty126.ro w c1_ x1) {fuel : Nat} {r : Bool} (hm : m_laws_eqPacket fuel x0 x1 = some r) :
    Calls Try.prog 144 ⟨[.agg ⟨c0_⟩, .agg ⟨c1_⟩]⟩ w (Ret fun v w8 => v = .bool r ∧ St w w8 []) := by
  have e1 := ty126_open h0_; subst e1
  have e2 := ty126_open h1_; subst e2
  refine Calls.into Try.func144 rfl 20 rfl rfl _ rfl ?_
  unfold m_laws_eqPacket at hm
  have hS := St.start w
  refine WP.seq ?_
  refine WP.region ?_
  refine RW.new ttok hS rfl rfl rfl rfl (fun g3 w4 e5 hS6 => ?_)
  refine RW.new ttok hS6 rfl rfl rfl rfl (fun g7 w8 e9 hS10 => ?_)
  refine RW.run ttok 1 rfl ?_
  refine RW.nil ?_
  refine WP.seq ?_
  refine WP.seq ?_
  refine WP.region ?_
  refine RW.run ttok 1 rfl ?_
  refine RW.load1 ttok rfl rfl rfl rfl rfl ((hS10.bring 1 rfl).box) 0 rfl rfl rfl rfl ?_
  refine RW.run ttok 1 rfl ?_
  refine RW.load1 ttok rfl rfl rfl rfl rfl ((hS10.bring 0 rfl).box) 0 rfl rfl rfl rfl ?_
  refine RW.run ttok 1 rfl ?_
  refine RW.nil ?_
  refine WP.cond (!(x0.Ack == x1.Ack)) rfl (fun hc => ?_) (fun hc => ?_)
  · skip
    rw [if_pos hc] at hm
    refine WP.seq ?_
    refine WP.region ?_
    refine RW.run ttok 1 rfl ?_
    refine RW.nil ?_
    refine WP.ret ?_
    cases hm
    exact ⟨_, .cons (.tmp rfl) .nil, rfl, (hS10.taken 0)⟩
  · skip
    rw [if_neg (not_t hc)] at hm
    refine WP.skip ?_
    refine WP.seq ?_
    refine WP.seq ?_
    refine WP.region ?_
    refine RW.run ttok 1 rfl ?_
    refine RW.load1 ttok rfl rfl rfl rfl rfl ((hS10.bring 1 rfl).box) 1 rfl rfl rfl rfl ?_
    refine RW.run ttok 1 rfl ?_
    refine RW.load1 ttok rfl rfl rfl rfl rfl ((hS10.bring 0 rfl).box) 1 rfl rfl rfl rfl ?_
    refine RW.run ttok 1 rfl ?_
    refine RW.nil ?_
    refine WP.cond (x0.Number != x1.Number) rfl (fun hc => ?_) (fun hc => ?_)
    · skip
      rw [if_pos hc] at hm
      refine WP.seq ?_
      refine WP.region ?_
      refine RW.run ttok 1 rfl ?_
      refine RW.nil ?_
      refine WP.ret ?_
      cases hm
      exact ⟨_, .cons (.tmp rfl) .nil, rfl, (hS10.taken 0)⟩
    · skip
      rw [if_neg (not_t hc)] at hm
      refine WP.skip ?_
      refine WP.seq ?_
      refine WP.seq ?_
      refine WP.region ?_
      refine RW.run ttok 1 rfl ?_
      refine RW.load1 ttok rfl rfl rfl rfl rfl ((hS10.bring 1 rfl).box) 2 rfl rfl rfl rfl ?_
      refine RW.run ttok 1 rfl ?_
      refine RW.load1 ttok rfl rfl rfl rfl rfl ((hS10.bring 0 rfl).box) 2 rfl rfl rfl rfl ?_
      refine RW.run ttok 1 rfl ?_
      refine RW.nil ?_
      refine WP.cond (!(seqb x0.Text x1.Text)) rfl (fun hc => ?_) (fun hc => ?_)
      · skip
        rw [if_pos hc] at hm
        refine WP.seq ?_
        refine WP.region ?_
        refine RW.run ttok 1 rfl ?_
        refine RW.nil ?_
        refine WP.ret ?_
        cases hm
        exact ⟨_, .cons (.tmp rfl) .nil, rfl, (hS10.taken 0)⟩
      · skip
        rw [if_neg (not_t hc)] at hm
        refine WP.skip ?_
        refine WP.seq ?_
        refine WP.region ?_
        refine RW.run ttok 1 rfl ?_
        refine RW.nil ?_
        refine WP.ret ?_
        cases hm
        exact ⟨_, .cons (.tmp rfl) .nil, rfl, (hS10.taken 0)⟩

end Go.E
