/- Models of functions and proofs that the code runs as they say (written by program). Conditions: the model gives a value. -/
import Derived.Test.YtlepmbkfpfnnfaaIter
namespace Go.E
open Go.RowKit Go.Proofs
set_option linter.unusedVariables false
set_option linter.unusedSimpArgs false

theorem enters30 : Enters Try.prog 30 := ⟨_, _, Try.func30, rfl, by kernel_rfl⟩
def m_laws_szStringS_j1 (fuel : Nat) (t2 : Int) : Option Int := some t2
def m_laws_szStringS_b1 (fuel : Nat) (x0 : (List ByteArray)) (s1 : Int × Int) : Option (Rd (Int × Int) (Int) (Int)) := (if (decide (s1.2 < (x0.length : Int))) = true then ((idx x0 s1.2).bind fun x13 => (if (decide ((w64 (s1.1 - (x13.size : Int))) < 0)) = true then some (.ret (-1)) else some (.next (w64 (s1.1 - (x13.size : Int)), w64 (s1.2 + 1))))) else some (.brk s1.1))
def m_laws_szStringS (fuel : Nat) (x0 : (List ByteArray)) (x1 : Int) : Option (Int) := (if (decide ((w64 (x1 - (x0.length : Int))) < 0)) = true then some (-1) else ((iter (m_laws_szStringS_b1 fuel x0) fuel (w64 (x1 - (x0.length : Int)), 0)).bind fun o => aft o (m_laws_szStringS_j1 fuel)))

set_option maxRecDepth 100000 in
theorem laws_szStringS_ok {w : World} {A0_ : Option Addr} {k0_ : Nat} {x0 : (List ByteArray)} {x1 : Int} (h0_ : ty22.ro w [.slice A0_ x0.length k0_] x0) {fuel : Nat} {r : Int} (hm : m_laws_szStringS fuel x0 x1 = some r) :
    Calls Try.prog 30 ⟨[.slice A0_ x0.length k0_, .int .i64 x1]⟩ w (Ret fun v w8 => v = .int .i64 r ∧ St w w8 []) := by
  refine Calls.into Try.func30 rfl 28 rfl rfl _ rfl ?_
  unfold m_laws_szStringS at hm
  have hS := St.start w
  refine WP.seq ?_
  refine WP.region ?_
  refine RW.run ttok 1 rfl ?_
  refine RW.nil ?_
  refine WP.seq ?_
  refine WP.region ?_
  refine RW.run ttok 5 rfl ?_
  refine RW.nil ?_
  refine WP.seq ?_
  refine WP.seq ?_
  refine WP.region ?_
  refine RW.run ttok 2 rfl ?_
  refine RW.nil ?_
  refine WP.cond (decide ((w64 (x1 - (x0.length : Int))) < 0)) rfl (fun hc => ?_) (fun hc => ?_)
  · skip
    rw [if_pos hc] at hm
    refine WP.seq ?_
    refine WP.region ?_
    refine RW.run ttok 1 rfl ?_
    refine RW.nil ?_
    refine WP.ret ?_
    cases hm
    exact ⟨_, .cons (.tmp rfl) .nil, rfl, (hS.taken 0)⟩
  · skip
    rw [if_neg (not_t hc)] at hm
    refine WP.skip ?_
    refine WP.seq ?_
    refine WP.seq ?_
    refine WP.region ?_
    refine RW.run ttok 1 rfl ?_
    refine RW.nil ?_
    obtain ⟨o3, hl4, hm⟩ := bind_some hm
    refine WP.cut (fun (t2 : Int) F w9 => o3 = .inl t2 ∧ St w w9 [] ∧ F = [(1, .int .i64 t2)]) ?_ ?_
    · skip
      rintro t2 F w7 ⟨ho6, hS5, rfl⟩
      subst ho6
      have hm : m_laws_szStringS_j1 fuel t2 = some r := hm
      unfold m_laws_szStringS_j1 at hm
      refine WP.seq ?_
      refine WP.region ?_
      refine RW.run ttok 2 rfl ?_
      refine RW.nil ?_
      refine WP.ret ?_
      cases hm
      exact ⟨_, .cons (.tmp rfl) .nil, rfl, (hS5.taken 0)⟩
    · skip
      refine WP.block ?_
      refine WP.weak [(0, .slice A0_ x0.length k0_), (1, .int .i64 (w64 (x1 - (x0.length : Int)))), (5, .int .i64 0)] ⟨rfl, rfl, rfl, trivial⟩ ?_
      refine WP.iter (fun (s1 : Int × Int) F w9 => St w w9 [] ∧ F = [(0, .slice A0_ x0.length k0_), (1, .int .i64 s1.1), (5, .int .i64 s1.2)]) _ hl4 ⟨(hS.taken 0), rfl⟩ ?_
      rintro s1 F w12 _ o10 ⟨hS11, rfl⟩ hb8 ho9
      unfold m_laws_szStringS_b1 at hb8
      refine WP.seq ?_
      refine WP.seq ?_
      refine WP.region ?_
      refine RW.run ttok 4 rfl ?_
      refine RW.nil ?_
      refine WP.cond (decide (s1.2 < (x0.length : Int))) rfl (fun hc => ?_) (fun hc => ?_)
      · skip
        rw [if_pos hc] at hb8
        refine WP.skip ?_
        refine WP.seq ?_
        refine WP.block ?_
        refine WP.seq ?_
        refine WP.region ?_
        refine RW.run ttok 3 rfl ?_
        obtain ⟨x13, hx14, hb8⟩ := bind_some hb8
        refine RW.idx ttok rfl rfl rfl rfl rfl rfl (by decide) rfl rfl (ty22.ext hS11.ext h0_) (idx_some hx14).1 (idx_some hx14).2 rfl rfl (fun p15 es16 ha17 hr18 => ?_)
        cases hr18
        refine RW.load1 ttok rfl rfl rfl rfl rfl ha17 0 rfl rfl rfl rfl ?_
        refine RW.run ttok 3 rfl ?_
        refine RW.nil ?_
        refine WP.seq ?_
        refine WP.region ?_
        refine RW.run ttok 2 rfl ?_
        refine RW.nil ?_
        refine WP.cond (decide ((w64 (s1.1 - (x13.size : Int))) < 0)) rfl (fun hc => ?_) (fun hc => ?_)
        · skip
          rw [if_pos hc] at hb8
          refine WP.seq ?_
          refine WP.region ?_
          refine RW.run ttok 1 rfl ?_
          refine RW.nil ?_
          refine WP.ret ?_
          cases hb8
          cases ho9
          have hm : some _ = some _ := hm
          cases hm
          exact ⟨_, .cons (.tmp rfl) .nil, rfl, (hS11.taken 0)⟩
        · skip
          rw [if_neg (not_t hc)] at hb8
          refine WP.skip ?_
          refine WP.region ?_
          refine RW.run ttok 3 rfl ?_
          refine RW.nil ?_
          cases hb8
          exact ⟨_, [(0, .slice A0_ x0.length k0_), (1, .int .i64 (w64 (s1.1 - (x13.size : Int)))), (5, .int .i64 (w64 (s1.2 + 1)))], ⟨rfl, rfl, rfl, trivial⟩, rfl, (hS11.taken 0), rfl⟩
      · skip
        rw [if_neg (not_t hc)] at hb8
        refine WP.exit ?_
        cases hb8
        exact ⟨_, [(1, .int .i64 s1.1)], ⟨rfl, trivial⟩, ho9, (hS11.taken 0), rfl⟩

theorem enters85 : Enters Try.prog 85 := ⟨_, _, Try.func85, rfl, by kernel_rfl⟩
def m_laws_szPacket (fuel : Nat) (x0 : D.Packet) (x1 : Int) : Option (Int) := (if (decide ((w64 (x1 - (x0.Text.size : Int))) < 0)) = true then some (-1) else some (w64 (x1 - (x0.Text.size : Int))))

set_option maxRecDepth 100000 in
theorem laws_szPacket_ok {w : World} {c0_ : List Value} {x0 : D.Packet} {x1 : Int} (h0_ : ty97.ro w c0_ x0) {fuel : Nat} {r : Int} (hm : m_laws_szPacket fuel x0 x1 = some r) :
    Calls Try.prog 85 ⟨[.agg ⟨c0_⟩, .int .i64 x1]⟩ w (Ret fun v w8 => v = .int .i64 r ∧ St w w8 []) := by
  have e1 := ty97_open h0_; subst e1
  refine Calls.into Try.func85 rfl 13 rfl rfl _ rfl ?_
  unfold m_laws_szPacket at hm
  have hS := St.start w
  refine WP.seq ?_
  refine WP.region ?_
  refine RW.new ttok hS rfl rfl rfl rfl (fun g2 w3 e4 hS5 => ?_)
  refine RW.run ttok 1 rfl ?_
  refine RW.nil ?_
  refine WP.seq ?_
  refine WP.region ?_
  refine RW.run ttok 2 rfl ?_
  refine RW.load1 ttok rfl rfl rfl rfl rfl ((hS5.bring 0 rfl).box) 2 rfl rfl rfl rfl ?_
  refine RW.run ttok 3 rfl ?_
  refine RW.nil ?_
  refine WP.seq ?_
  refine WP.seq ?_
  refine WP.region ?_
  refine RW.run ttok 2 rfl ?_
  refine RW.nil ?_
  refine WP.cond (decide ((w64 (x1 - (x0.Text.size : Int))) < 0)) rfl (fun hc => ?_) (fun hc => ?_)
  · skip
    rw [if_pos hc] at hm
    refine WP.seq ?_
    refine WP.region ?_
    refine RW.run ttok 1 rfl ?_
    refine RW.nil ?_
    refine WP.ret ?_
    cases hm
    exact ⟨_, .cons (.tmp rfl) .nil, rfl, (hS5.taken 0)⟩
  · skip
    rw [if_neg (not_t hc)] at hm
    refine WP.skip ?_
    refine WP.seq ?_
    refine WP.region ?_
    refine RW.run ttok 2 rfl ?_
    refine RW.nil ?_
    refine WP.ret ?_
    cases hm
    exact ⟨_, .cons (.tmp rfl) .nil, rfl, (hS5.taken 0)⟩

theorem enters38 : Enters Try.prog 38 := ⟨_, _, Try.func38, rfl, by kernel_rfl⟩
def m_laws_szPacketS_j1 (fuel : Nat) (t2 : Int) : Option Int := some t2
def m_laws_szPacketS_b1 (fuel : Nat) (x0 : (List D.Packet)) (s1 : Int × Int) : Option (Rd (Int × Int) (Int) (Int)) := (if (decide (s1.2 < (x0.length : Int))) = true then ((idx x0 s1.2).bind fun x13 => ((m_laws_szPacket fuel x13 s1.1).bind fun r20 => (if (decide (r20 < 0)) = true then some (.ret (-1)) else some (.next (r20, w64 (s1.2 + 1)))))) else some (.brk s1.1))
def m_laws_szPacketS (fuel : Nat) (x0 : (List D.Packet)) (x1 : Int) : Option (Int) := (if (decide ((w64 (x1 - (x0.length : Int))) < 0)) = true then some (-1) else ((iter (m_laws_szPacketS_b1 fuel x0) fuel (w64 (x1 - (x0.length : Int)), 0)).bind fun o => aft o (m_laws_szPacketS_j1 fuel)))

set_option maxRecDepth 100000 in
theorem laws_szPacketS_ok {w : World} {A0_ : Option Addr} {k0_ : Nat} {x0 : (List D.Packet)} {x1 : Int} (h0_ : ty23.ro w [.slice A0_ x0.length k0_] x0) {fuel : Nat} {r : Int} (hm : m_laws_szPacketS fuel x0 x1 = some r) :
    Calls Try.prog 38 ⟨[.slice A0_ x0.length k0_, .int .i64 x1]⟩ w (Ret fun v w8 => v = .int .i64 r ∧ St w w8 []) := by
  refine Calls.into Try.func38 rfl 27 rfl rfl _ rfl ?_
  unfold m_laws_szPacketS at hm
  have hS := St.start w
  refine WP.seq ?_
  refine WP.region ?_
  refine RW.run ttok 1 rfl ?_
  refine RW.nil ?_
  refine WP.seq ?_
  refine WP.region ?_
  refine RW.run ttok 5 rfl ?_
  refine RW.nil ?_
  refine WP.seq ?_
  refine WP.seq ?_
  refine WP.region ?_
  refine RW.run ttok 2 rfl ?_
  refine RW.nil ?_
  refine WP.cond (decide ((w64 (x1 - (x0.length : Int))) < 0)) rfl (fun hc => ?_) (fun hc => ?_)
  · skip
    rw [if_pos hc] at hm
    refine WP.seq ?_
    refine WP.region ?_
    refine RW.run ttok 1 rfl ?_
    refine RW.nil ?_
    refine WP.ret ?_
    cases hm
    exact ⟨_, .cons (.tmp rfl) .nil, rfl, (hS.taken 0)⟩
  · skip
    rw [if_neg (not_t hc)] at hm
    refine WP.skip ?_
    refine WP.seq ?_
    refine WP.seq ?_
    refine WP.region ?_
    refine RW.run ttok 1 rfl ?_
    refine RW.nil ?_
    obtain ⟨o3, hl4, hm⟩ := bind_some hm
    refine WP.cut (fun (t2 : Int) F w9 => o3 = .inl t2 ∧ St w w9 [] ∧ F = [(1, .int .i64 t2)]) ?_ ?_
    · skip
      rintro t2 F w7 ⟨ho6, hS5, rfl⟩
      subst ho6
      have hm : m_laws_szPacketS_j1 fuel t2 = some r := hm
      unfold m_laws_szPacketS_j1 at hm
      refine WP.seq ?_
      refine WP.region ?_
      refine RW.run ttok 2 rfl ?_
      refine RW.nil ?_
      refine WP.ret ?_
      cases hm
      exact ⟨_, .cons (.tmp rfl) .nil, rfl, (hS5.taken 0)⟩
    · skip
      refine WP.block ?_
      refine WP.weak [(0, .slice A0_ x0.length k0_), (1, .int .i64 (w64 (x1 - (x0.length : Int)))), (5, .int .i64 0)] ⟨rfl, rfl, rfl, trivial⟩ ?_
      refine WP.iter (fun (s1 : Int × Int) F w9 => St w w9 [] ∧ F = [(0, .slice A0_ x0.length k0_), (1, .int .i64 s1.1), (5, .int .i64 s1.2)]) _ hl4 ⟨(hS.taken 0), rfl⟩ ?_
      rintro s1 F w12 _ o10 ⟨hS11, rfl⟩ hb8 ho9
      unfold m_laws_szPacketS_b1 at hb8
      refine WP.seq ?_
      refine WP.seq ?_
      refine WP.region ?_
      refine RW.run ttok 4 rfl ?_
      refine RW.nil ?_
      refine WP.cond (decide (s1.2 < (x0.length : Int))) rfl (fun hc => ?_) (fun hc => ?_)
      · skip
        rw [if_pos hc] at hb8
        refine WP.skip ?_
        refine WP.seq ?_
        refine WP.block ?_
        refine WP.seq ?_
        refine WP.region ?_
        refine RW.run ttok 2 rfl ?_
        obtain ⟨x13, hx14, hb8⟩ := bind_some hb8
        refine RW.idx ttok rfl rfl rfl rfl rfl rfl (by decide) rfl rfl (ty23.ext hS11.ext h0_) (idx_some hx14).1 (idx_some hx14).2 rfl rfl (fun p15 es16 ha17 hr18 => ?_)
        have e19 := ty97_open hr18; subst e19
        refine RW.loadN ttok rfl rfl rfl rfl rfl ha17 rfl rfl rfl ?_
        refine RW.run ttok 1 rfl ?_
        obtain ⟨r20, hx21, hb8⟩ := bind_some hb8
        refine RW.call rfl rfl rfl enters85 (laws_szPacket_ok hr18 hx21) (fun v22 w23 hR24 => ?_)
        obtain ⟨rfl, hR25⟩ := hR24
        have hS26 := hS11.join hR25
        refine RW.run ttok 1 rfl ?_
        refine RW.nil ?_
        refine WP.seq ?_
        refine WP.region ?_
        refine RW.run ttok 2 rfl ?_
        refine RW.nil ?_
        refine WP.cond (decide (r20 < 0)) rfl (fun hc => ?_) (fun hc => ?_)
        · skip
          rw [if_pos hc] at hb8
          refine WP.seq ?_
          refine WP.region ?_
          refine RW.run ttok 1 rfl ?_
          refine RW.nil ?_
          refine WP.ret ?_
          cases hb8
          cases ho9
          have hm : some _ = some _ := hm
          cases hm
          exact ⟨_, .cons (.tmp rfl) .nil, rfl, (hS26.taken 0)⟩
        · skip
          rw [if_neg (not_t hc)] at hb8
          refine WP.skip ?_
          refine WP.region ?_
          refine RW.run ttok 3 rfl ?_
          refine RW.nil ?_
          cases hb8
          exact ⟨_, [(0, .slice A0_ x0.length k0_), (1, .int .i64 r20), (5, .int .i64 (w64 (s1.2 + 1)))], ⟨rfl, rfl, rfl, trivial⟩, rfl, (hS26.taken 0), rfl⟩
      · skip
        rw [if_neg (not_t hc)] at hb8
        refine WP.exit ?_
        cases hb8
        exact ⟨_, [(1, .int .i64 s1.1)], ⟨rfl, trivial⟩, ho9, (hS11.taken 0), rfl⟩

theorem enters9 : Enters Try.prog 9 := ⟨_, _, Try.func9, rfl, by kernel_rfl⟩
def m_laws_szChannel (fuel : Nat) (x0 : D.Channel) (x1 : Int) : Option (Int) := ((m_laws_szStringS fuel x0.Messages x1).bind fun r18 => (if (decide (r18 < 0)) = true then some (-1) else ((m_laws_szPacketS fuel x0.Early r18).bind fun r25 => (if (decide (r25 < 0)) = true then some (-1) else ((m_laws_szStringS fuel x0.Delivered r25).bind fun r32 => (if (decide (r32 < 0)) = true then some (-1) else ((m_laws_szPacketS fuel x0.Flight r32).bind fun r39 => (if (decide (r39 < 0)) = true then some (-1) else some r39))))))))

set_option maxRecDepth 100000 in
theorem laws_szChannel_ok {w : World} {c0_ : List Value} {x0 : D.Channel} {x1 : Int} (h0_ : ty25.ro w c0_ x0) {fuel : Nat} {r : Int} (hm : m_laws_szChannel fuel x0 x1 = some r) :
    Calls Try.prog 9 ⟨[.agg ⟨c0_⟩, .int .i64 x1]⟩ w (Ret fun v w8 => v = .int .i64 r ∧ St w w8 []) := by
  obtain ⟨A1, k2, A4, k5, A7, k8, A10, k11, e13, h3, h6, h9, h12⟩ := ty25_open h0_; subst e13
  refine Calls.into Try.func9 rfl 30 rfl rfl _ rfl ?_
  unfold m_laws_szChannel at hm
  have hS := St.start w
  refine WP.seq ?_
  refine WP.region ?_
  refine RW.new ttok hS rfl rfl rfl rfl (fun g14 w15 e16 hS17 => ?_)
  refine RW.run ttok 1 rfl ?_
  refine RW.nil ?_
  refine WP.seq ?_
  refine WP.region ?_
  refine RW.run ttok 1 rfl ?_
  refine RW.load1 ttok rfl rfl rfl rfl rfl ((hS17.bring 0 rfl).box) 1 rfl rfl rfl rfl ?_
  refine RW.run ttok 1 rfl ?_
  obtain ⟨r18, hx19, hm⟩ := bind_some hm
  refine RW.call rfl rfl rfl enters30 (laws_szStringS_ok (ty22.ext hS17.ext h3) hx19) (fun v20 w21 hR22 => ?_)
  obtain ⟨rfl, hR23⟩ := hR22
  have hS24 := hS17.join hR23
  refine RW.run ttok 1 rfl ?_
  refine RW.nil ?_
  refine WP.seq ?_
  refine WP.seq ?_
  refine WP.region ?_
  refine RW.run ttok 2 rfl ?_
  refine RW.nil ?_
  refine WP.cond (decide (r18 < 0)) rfl (fun hc => ?_) (fun hc => ?_)
  · skip
    rw [if_pos hc] at hm
    refine WP.seq ?_
    refine WP.region ?_
    refine RW.run ttok 1 rfl ?_
    refine RW.nil ?_
    refine WP.ret ?_
    cases hm
    exact ⟨_, .cons (.tmp rfl) .nil, rfl, (hS24.taken 0)⟩
  · skip
    rw [if_neg (not_t hc)] at hm
    refine WP.skip ?_
    refine WP.seq ?_
    refine WP.region ?_
    refine RW.run ttok 1 rfl ?_
    refine RW.load1 ttok rfl rfl rfl rfl rfl ((hS24.bring 0 rfl).box) 5 rfl rfl rfl rfl ?_
    refine RW.run ttok 1 rfl ?_
    obtain ⟨r25, hx26, hm⟩ := bind_some hm
    refine RW.call rfl rfl rfl enters38 (laws_szPacketS_ok (ty23.ext hS24.ext h6) hx26) (fun v27 w28 hR29 => ?_)
    obtain ⟨rfl, hR30⟩ := hR29
    have hS31 := hS24.join hR30
    refine RW.run ttok 1 rfl ?_
    refine RW.nil ?_
    refine WP.seq ?_
    refine WP.seq ?_
    refine WP.region ?_
    refine RW.run ttok 2 rfl ?_
    refine RW.nil ?_
    refine WP.cond (decide (r25 < 0)) rfl (fun hc => ?_) (fun hc => ?_)
    · skip
      rw [if_pos hc] at hm
      refine WP.seq ?_
      refine WP.region ?_
      refine RW.run ttok 1 rfl ?_
      refine RW.nil ?_
      refine WP.ret ?_
      cases hm
      exact ⟨_, .cons (.tmp rfl) .nil, rfl, (hS31.taken 0)⟩
    · skip
      rw [if_neg (not_t hc)] at hm
      refine WP.skip ?_
      refine WP.seq ?_
      refine WP.region ?_
      refine RW.run ttok 1 rfl ?_
      refine RW.load1 ttok rfl rfl rfl rfl rfl ((hS31.bring 0 rfl).box) 6 rfl rfl rfl rfl ?_
      refine RW.run ttok 1 rfl ?_
      obtain ⟨r32, hx33, hm⟩ := bind_some hm
      refine RW.call rfl rfl rfl enters30 (laws_szStringS_ok (ty22.ext hS31.ext h9) hx33) (fun v34 w35 hR36 => ?_)
      obtain ⟨rfl, hR37⟩ := hR36
      have hS38 := hS31.join hR37
      refine RW.run ttok 1 rfl ?_
      refine RW.nil ?_
      refine WP.seq ?_
      refine WP.seq ?_
      refine WP.region ?_
      refine RW.run ttok 2 rfl ?_
      refine RW.nil ?_
      refine WP.cond (decide (r32 < 0)) rfl (fun hc => ?_) (fun hc => ?_)
      · skip
        rw [if_pos hc] at hm
        refine WP.seq ?_
        refine WP.region ?_
        refine RW.run ttok 1 rfl ?_
        refine RW.nil ?_
        refine WP.ret ?_
        cases hm
        exact ⟨_, .cons (.tmp rfl) .nil, rfl, (hS38.taken 0)⟩
      · skip
        rw [if_neg (not_t hc)] at hm
        refine WP.skip ?_
        refine WP.seq ?_
        refine WP.region ?_
        refine RW.run ttok 1 rfl ?_
        refine RW.load1 ttok rfl rfl rfl rfl rfl ((hS38.bring 0 rfl).box) 7 rfl rfl rfl rfl ?_
        refine RW.run ttok 1 rfl ?_
        obtain ⟨r39, hx40, hm⟩ := bind_some hm
        refine RW.call rfl rfl rfl enters38 (laws_szPacketS_ok (ty23.ext hS38.ext h12) hx40) (fun v41 w42 hR43 => ?_)
        obtain ⟨rfl, hR44⟩ := hR43
        have hS45 := hS38.join hR44
        refine RW.run ttok 1 rfl ?_
        refine RW.nil ?_
        refine WP.seq ?_
        refine WP.seq ?_
        refine WP.region ?_
        refine RW.run ttok 2 rfl ?_
        refine RW.nil ?_
        refine WP.cond (decide (r39 < 0)) rfl (fun hc => ?_) (fun hc => ?_)
        · skip
          rw [if_pos hc] at hm
          refine WP.seq ?_
          refine WP.region ?_
          refine RW.run ttok 1 rfl ?_
          refine RW.nil ?_
          refine WP.ret ?_
          cases hm
          exact ⟨_, .cons (.tmp rfl) .nil, rfl, (hS45.taken 0)⟩
        · skip
          rw [if_neg (not_t hc)] at hm
          refine WP.skip ?_
          refine WP.seq ?_
          refine WP.region ?_
          refine RW.run ttok 2 rfl ?_
          refine RW.nil ?_
          refine WP.ret ?_
          cases hm
          exact ⟨_, .cons (.tmp rfl) .nil, rfl, (hS45.taken 0)⟩

theorem enters32 : Enters Try.prog 32 := ⟨_, _, Try.func32, rfl, by kernel_rfl⟩
def m_laws_toStringS_j1 (fuel : Nat) (t9 : (List ByteArray)) : Option (List ByteArray) := some t9
def m_laws_toStringS_b1 (fuel : Nat) (x0 : (List ByteArray)) (s8 : Int × (List ByteArray)) : Option (Rd (Int × (List ByteArray)) ((List ByteArray)) ((List ByteArray))) := (if (decide (s8.1 < (x0.length : Int))) = true then ((idx x0 s8.1).bind fun x26 => (if decide (0 ≤ s8.1 ∧ s8.1.toNat < s8.2.length) = true then some (.next (w64 (s8.1 + 1), (s8.2.set s8.1.toNat x26))) else none)) else some (.brk s8.2))
def m_laws_toStringS (fuel : Nat) (x0 : (List ByteArray)) : Option ((List ByteArray)) := (if decide (0 ≤ (x0.length : Int) ∧ (x0.length : Int) ≤ 4294967296) = true then ((iter (m_laws_toStringS_b1 fuel x0) fuel (0, (List.replicate (x0.length : Int).toNat (⟨#[]⟩ : ByteArray)))).bind fun o => aft o (m_laws_toStringS_j1 fuel)) else none)

set_option maxRecDepth 100000 in
theorem laws_toStringS_ok {w : World} {A0_ : Option Addr} {k0_ : Nat} {x0 : (List ByteArray)} (h0_ : ty22.ro w [.slice A0_ x0.length k0_] x0) {fuel : Nat} {r : (List ByteArray)} (hm : m_laws_toStringS fuel x0 = some r) :
    Calls Try.prog 32 ⟨[.slice A0_ x0.length k0_]⟩ w (Ret fun v w8 => ∃ A0 k0, v = .slice A0 r.length k0 ∧ St w w8 [Own ty22 [.slice A0 r.length k0] r]) := by
  refine Calls.into Try.func32 rfl 22 rfl rfl _ rfl ?_
  unfold m_laws_toStringS at hm
  have hS := St.start w
  refine WP.seq ?_
  refine WP.region ?_
  refine RW.run ttok 1 rfl ?_
  refine RW.nil ?_
  refine WP.seq ?_
  refine WP.region ?_
  refine RW.run ttok 2 rfl ?_
  by_cases hk1 : decide (0 ≤ (x0.length : Int) ∧ (x0.length : Int) ≤ 4294967296) = true
  case neg => rw [if_neg hk1] at hm; cases hm
  rw [if_pos hk1] at hm
  have hz7 := of_decide_eq_true hk1
  refine RW.make (U := tStr) ttok (⟨#[]⟩ : ByteArray) hS rfl rfl rfl rfl rfl rfl rfl rfl hz7.1 (by have := hz7.2; show _ * (16 : Int) ≤ _; omega) (by have := hz7.2; simp only [maxLen]; omega) (fun _ => ⟨rfl, rfl⟩) rfl rfl (fun A2 k3 w4 e5 hS6 => ?_)
  refine RW.run ttok 1 rfl ?_
  refine RW.nil ?_
  refine WP.seq ?_
  refine WP.seq ?_
  refine WP.region ?_
  refine RW.run ttok 1 rfl ?_
  refine RW.nil ?_
  obtain ⟨o16, hl17, hm⟩ := bind_some hm
  refine WP.cut (fun (t9 : (List ByteArray)) F w9 => ∃ A14 k15, o16 = .inl t9 ∧ St w w9 [Own ty22 [.slice A14 t9.length k15] t9] ∧ F = [(3, .slice A14 t9.length k15)]) ?_ ?_
  · skip
    rintro t9 F w20 ⟨A14, k15, ho19, hS18, rfl⟩
    subst ho19
    have hm : m_laws_toStringS_j1 fuel t9 = some r := hm
    unfold m_laws_toStringS_j1 at hm
    refine WP.seq ?_
    refine WP.region ?_
    refine RW.run ttok 2 rfl ?_
    refine RW.nil ?_
    refine WP.ret ?_
    cases hm
    exact ⟨_, .cons (.tmp rfl) .nil, A14, k15, rfl, ((hS18.bring 0 rfl).taken 1)⟩
  · skip
    refine WP.block ?_
    refine WP.weak [(0, .slice A0_ x0.length k0_), (3, .slice A2 (List.replicate (x0.length : Int).toNat (⟨#[]⟩ : ByteArray)).length k3), (4, .int .i64 0)] ⟨rfl, rfl, rfl, trivial⟩ ?_
    refine WP.iter (fun (s8 : Int × (List ByteArray)) F w9 => ∃ A12 k13, St w w9 [Own ty22 [.slice A12 s8.2.length k13] s8.2] ∧ F = [(0, .slice A0_ x0.length k0_), (3, .slice A12 s8.2.length k13), (4, .int .i64 s8.1)]) _ hl17 ⟨A2, k3, ((hS6.bring 0 rfl).taken 1), rfl⟩ ?_
    rintro s8 F w25 _ o23 ⟨A12, k13, hS24, rfl⟩ hb21 ho22
    unfold m_laws_toStringS_b1 at hb21
    refine WP.seq ?_
    refine WP.seq ?_
    refine WP.region ?_
    refine RW.run ttok 4 rfl ?_
    refine RW.nil ?_
    refine WP.cond (decide (s8.1 < (x0.length : Int))) rfl (fun hc => ?_) (fun hc => ?_)
    · skip
      rw [if_pos hc] at hb21
      refine WP.skip ?_
      refine WP.seq ?_
      refine WP.block ?_
      refine WP.region ?_
      refine RW.run ttok 4 rfl ?_
      obtain ⟨x26, hx27, hb21⟩ := bind_some hb21
      refine RW.idx ttok rfl rfl rfl rfl rfl rfl (by decide) rfl rfl (ty22.ext hS24.ext h0_) (idx_some hx27).1 (idx_some hx27).2 rfl rfl (fun p28 es29 ha30 hr31 => ?_)
      cases hr31
      refine RW.load1 ttok rfl rfl rfl rfl rfl ha30 0 rfl rfl rfl rfl ?_
      have hS32 := hS24.bring 0 rfl
      by_cases hk33 : decide (0 ≤ s8.1 ∧ s8.1.toNat < s8.2.length) = true
      case neg => rw [if_neg hk33] at hb21; cases hb21
      rw [if_pos hk33] at hb21
      have hb34 := of_decide_eq_true hk33
      refine RW.idxOwn ttok hS32 rfl rfl rfl rfl rfl rfl rfl rfl hb34.1 hb34.2 rfl rfl (fun q35 hq36 => ?_)
      have hS37 := hS32.flat (T := tStr) (cs := [.string x26]) (x := x26) ⟨rfl, rfl⟩
      have hS38 := hS37.bring 1 rfl
      refine RW.storeEl ttok hS38 rfl rfl rfl rfl rfl rfl hb34.2 hq36 rfl rfl (fun w39 hS40 => ?_)
      refine RW.know (u := .slice A12 (s8.2.set s8.1.toNat x26).length k13) 3 rfl (by simp) ?_
      refine RW.know (u := .slice A12 (s8.2.set s8.1.toNat x26).length k13) 14 rfl (by simp) ?_
      refine RW.nil ?_
      refine WP.region ?_
      refine RW.run ttok 3 rfl ?_
      refine RW.nil ?_
      cases hb21
      exact ⟨_, [(0, .slice A0_ x0.length k0_), (3, .slice A12 (s8.2.set s8.1.toNat x26).length k13), (4, .int .i64 (w64 (s8.1 + 1)))], ⟨rfl, rfl, rfl, trivial⟩, rfl, A12, k13, ((hS40.bring 0 rfl).taken 1), rfl⟩
    · skip
      rw [if_neg (not_t hc)] at hb21
      refine WP.exit ?_
      cases hb21
      exact ⟨_, [(3, .slice A12 s8.2.length k13)], ⟨rfl, trivial⟩, A12, k13, ho22, ((hS24.bring 0 rfl).taken 1), rfl⟩

theorem enters86 : Enters Try.prog 86 := ⟨_, _, Try.func86, rfl, by kernel_rfl⟩
def m_laws_toPacket (fuel : Nat) (x0 : D.Packet) : Option (D.Packet) := some (⟨x0.Ack, x0.Number, x0.Text⟩ : D.Packet)

set_option maxRecDepth 100000 in
theorem laws_toPacket_ok {w : World} {c0_ : List Value} {x0 : D.Packet} (h0_ : ty97.ro w c0_ x0) {fuel : Nat} {r : D.Packet} (hm : m_laws_toPacket fuel x0 = some r) :
    Calls Try.prog 86 ⟨[.agg ⟨c0_⟩]⟩ w (Ret fun v w8 => v = .agg ⟨[.bool r.Ack, .int .i64 r.Number, .string r.Text]⟩ ∧ St w w8 []) := by
  have e1 := ty97_open h0_; subst e1
  refine Calls.into Try.func86 rfl 14 rfl rfl _ rfl ?_
  unfold m_laws_toPacket at hm
  have hS := St.start w
  refine WP.seq ?_
  refine WP.region ?_
  refine RW.new ttok hS rfl rfl rfl rfl (fun g2 w3 e4 hS5 => ?_)
  refine RW.new ttok hS5 rfl rfl rfl rfl (fun g6 w7 e8 hS9 => ?_)
  refine RW.nil ?_
  refine WP.seq ?_
  refine WP.region ?_
  refine RW.new ttok hS9 rfl rfl rfl rfl (fun g10 w11 e12 hS13 => ?_)
  refine RW.nil ?_
  refine WP.seq ?_
  refine WP.region ?_
  refine RW.run ttok 1 rfl ?_
  refine RW.load1 ttok rfl rfl rfl rfl rfl ((hS13.bring 2 rfl).box) 0 rfl rfl rfl rfl ?_
  refine RW.run ttok 1 rfl ?_
  have hS14 := hS13.bring 0 rfl
  refine RW.store ttok (A := []) hS14 rfl rfl rfl rfl rfl 0 rfl rfl rfl rfl rfl (fun w15 hS16 => ?_)
  refine RW.nil ?_
  refine WP.seq ?_
  refine WP.region ?_
  refine RW.run ttok 1 rfl ?_
  refine RW.load1 ttok rfl rfl rfl rfl rfl ((hS16.bring 2 rfl).box) 1 rfl rfl rfl rfl ?_
  refine RW.run ttok 1 rfl ?_
  have hS17 := hS16.bring 0 rfl
  refine RW.store ttok (A := []) hS17 rfl rfl rfl rfl rfl 1 rfl rfl rfl rfl rfl (fun w18 hS19 => ?_)
  refine RW.nil ?_
  refine WP.seq ?_
  refine WP.region ?_
  refine RW.run ttok 1 rfl ?_
  refine RW.load1 ttok rfl rfl rfl rfl rfl ((hS19.bring 2 rfl).box) 2 rfl rfl rfl rfl ?_
  refine RW.run ttok 1 rfl ?_
  have hS20 := hS19.bring 0 rfl
  refine RW.store ttok (A := []) hS20 rfl rfl rfl rfl rfl 2 rfl rfl rfl rfl rfl (fun w21 hS22 => ?_)
  refine RW.nil ?_
  refine WP.seq ?_
  refine WP.region ?_
  refine RW.loadN ttok rfl rfl rfl rfl rfl ((hS22.bring 0 rfl).box) rfl rfl rfl ?_
  have hS23 := hS22.bring 1 rfl
  refine RW.store ttok (A := []) hS23 rfl rfl rfl rfl rfl 0 rfl rfl rfl rfl rfl (fun w24 hS25 => ?_)
  refine RW.nil ?_
  refine WP.ret ?_
  cases hm
  exact ⟨_, .cons (ResIs.agg ttok rfl rfl rfl ((hS25.bring 0 rfl).box) rfl) .nil, rfl, (hS25.taken 0)⟩

theorem enters41 : Enters Try.prog 41 := ⟨_, _, Try.func41, rfl, by kernel_rfl⟩
def m_laws_toPacketS_j1 (fuel : Nat) (t9 : (List D.Packet)) : Option (List D.Packet) := some t9
def m_laws_toPacketS_b1 (fuel : Nat) (x0 : (List D.Packet)) (s8 : Int × (List D.Packet)) : Option (Rd (Int × (List D.Packet)) ((List D.Packet)) ((List D.Packet))) := (if (decide (s8.1 < (x0.length : Int))) = true then ((idx x0 s8.1).bind fun x26 => ((m_laws_toPacket fuel x26).bind fun r33 => (if decide (0 ≤ s8.1 ∧ s8.1.toNat < s8.2.length) = true then some (.next (w64 (s8.1 + 1), (s8.2.set s8.1.toNat r33))) else none))) else some (.brk s8.2))
def m_laws_toPacketS (fuel : Nat) (x0 : (List D.Packet)) : Option ((List D.Packet)) := (if decide (0 ≤ (x0.length : Int) ∧ (x0.length : Int) ≤ 4294967296) = true then ((iter (m_laws_toPacketS_b1 fuel x0) fuel (0, (List.replicate (x0.length : Int).toNat (⟨false, (0 : Int), (⟨#[]⟩ : ByteArray)⟩ : D.Packet)))).bind fun o => aft o (m_laws_toPacketS_j1 fuel)) else none)

set_option maxRecDepth 100000 in
theorem laws_toPacketS_ok {w : World} {A0_ : Option Addr} {k0_ : Nat} {x0 : (List D.Packet)} (h0_ : ty23.ro w [.slice A0_ x0.length k0_] x0) {fuel : Nat} {r : (List D.Packet)} (hm : m_laws_toPacketS fuel x0 = some r) :
    Calls Try.prog 41 ⟨[.slice A0_ x0.length k0_]⟩ w (Ret fun v w8 => ∃ A0 k0, v = .slice A0 r.length k0 ∧ St w w8 [Own ty28 [.slice A0 r.length k0] r]) := by
  refine Calls.into Try.func41 rfl 23 rfl rfl _ rfl ?_
  unfold m_laws_toPacketS at hm
  have hS := St.start w
  refine WP.seq ?_
  refine WP.region ?_
  refine RW.run ttok 1 rfl ?_
  refine RW.nil ?_
  refine WP.seq ?_
  refine WP.region ?_
  refine RW.run ttok 2 rfl ?_
  by_cases hk1 : decide (0 ≤ (x0.length : Int) ∧ (x0.length : Int) ≤ 4294967296) = true
  case neg => rw [if_neg hk1] at hm; cases hm
  rw [if_pos hk1] at hm
  have hz7 := of_decide_eq_true hk1
  refine RW.make (U := ty66) ttok (⟨false, (0 : Int), (⟨#[]⟩ : ByteArray)⟩ : D.Packet) hS rfl rfl rfl rfl rfl rfl rfl rfl hz7.1 (by have := hz7.2; show _ * (32 : Int) ≤ _; omega) (by have := hz7.2; simp only [maxLen]; omega) (fun _ => (ty66_ownI (c := (⟨false, (0 : Int), (⟨#[]⟩ : ByteArray)⟩ : D.Packet)) rfl)) rfl rfl (fun A2 k3 w4 e5 hS6 => ?_)
  refine RW.run ttok 1 rfl ?_
  refine RW.nil ?_
  refine WP.seq ?_
  refine WP.seq ?_
  refine WP.region ?_
  refine RW.run ttok 1 rfl ?_
  refine RW.nil ?_
  obtain ⟨o16, hl17, hm⟩ := bind_some hm
  refine WP.cut (fun (t9 : (List D.Packet)) F w9 => ∃ A14 k15, o16 = .inl t9 ∧ St w w9 [Own ty28 [.slice A14 t9.length k15] t9] ∧ F = [(3, .slice A14 t9.length k15)]) ?_ ?_
  · skip
    rintro t9 F w20 ⟨A14, k15, ho19, hS18, rfl⟩
    subst ho19
    have hm : m_laws_toPacketS_j1 fuel t9 = some r := hm
    unfold m_laws_toPacketS_j1 at hm
    refine WP.seq ?_
    refine WP.region ?_
    refine RW.run ttok 2 rfl ?_
    refine RW.nil ?_
    refine WP.ret ?_
    cases hm
    exact ⟨_, .cons (.tmp rfl) .nil, A14, k15, rfl, ((hS18.bring 0 rfl).taken 1)⟩
  · skip
    refine WP.block ?_
    refine WP.weak [(0, .slice A0_ x0.length k0_), (3, .slice A2 (List.replicate (x0.length : Int).toNat (⟨false, (0 : Int), (⟨#[]⟩ : ByteArray)⟩ : D.Packet)).length k3), (4, .int .i64 0)] ⟨rfl, rfl, rfl, trivial⟩ ?_
    refine WP.iter (fun (s8 : Int × (List D.Packet)) F w9 => ∃ A12 k13, St w w9 [Own ty28 [.slice A12 s8.2.length k13] s8.2] ∧ F = [(0, .slice A0_ x0.length k0_), (3, .slice A12 s8.2.length k13), (4, .int .i64 s8.1)]) _ hl17 ⟨A2, k3, ((hS6.bring 0 rfl).taken 1), rfl⟩ ?_
    rintro s8 F w25 _ o23 ⟨A12, k13, hS24, rfl⟩ hb21 ho22
    unfold m_laws_toPacketS_b1 at hb21
    refine WP.seq ?_
    refine WP.seq ?_
    refine WP.region ?_
    refine RW.run ttok 4 rfl ?_
    refine RW.nil ?_
    refine WP.cond (decide (s8.1 < (x0.length : Int))) rfl (fun hc => ?_) (fun hc => ?_)
    · skip
      rw [if_pos hc] at hb21
      refine WP.skip ?_
      refine WP.seq ?_
      refine WP.block ?_
      refine WP.region ?_
      refine RW.run ttok 4 rfl ?_
      obtain ⟨x26, hx27, hb21⟩ := bind_some hb21
      refine RW.idx ttok rfl rfl rfl rfl rfl rfl (by decide) rfl rfl (ty23.ext hS24.ext h0_) (idx_some hx27).1 (idx_some hx27).2 rfl rfl (fun p28 es29 ha30 hr31 => ?_)
      have e32 := ty97_open hr31; subst e32
      refine RW.loadN ttok rfl rfl rfl rfl rfl ha30 rfl rfl rfl ?_
      obtain ⟨r33, hx34, hb21⟩ := bind_some hb21
      refine RW.call rfl rfl rfl enters86 (laws_toPacket_ok hr31 hx34) (fun v35 w36 hR37 => ?_)
      obtain ⟨rfl, hR38⟩ := hR37
      have hS39 := hS24.join hR38
      have hS40 := hS39.bring 0 rfl
      by_cases hk41 : decide (0 ≤ s8.1 ∧ s8.1.toNat < s8.2.length) = true
      case neg => rw [if_neg hk41] at hb21; cases hb21
      rw [if_pos hk41] at hb21
      have hb42 := of_decide_eq_true hk41
      refine RW.idxOwn ttok hS40 rfl rfl rfl rfl rfl rfl rfl rfl hb42.1 hb42.2 rfl rfl (fun q43 hq44 => ?_)
      have hS45 := ty66_shutS (c := r33) (B := _) hS40
      have hS46 := hS45.bring 1 rfl
      refine RW.storeEl ttok hS46 rfl rfl rfl rfl rfl rfl hb42.2 hq44 rfl rfl (fun w47 hS48 => ?_)
      refine RW.know (u := .slice A12 (s8.2.set s8.1.toNat r33).length k13) 3 rfl (by simp) ?_
      refine RW.know (u := .slice A12 (s8.2.set s8.1.toNat r33).length k13) 14 rfl (by simp) ?_
      refine RW.nil ?_
      refine WP.region ?_
      refine RW.run ttok 3 rfl ?_
      refine RW.nil ?_
      cases hb21
      exact ⟨_, [(0, .slice A0_ x0.length k0_), (3, .slice A12 (s8.2.set s8.1.toNat r33).length k13), (4, .int .i64 (w64 (s8.1 + 1)))], ⟨rfl, rfl, rfl, trivial⟩, rfl, A12, k13, ((hS48.bring 0 rfl).taken 1), rfl⟩
    · skip
      rw [if_neg (not_t hc)] at hb21
      refine WP.exit ?_
      cases hb21
      exact ⟨_, [(3, .slice A12 s8.2.length k13)], ⟨rfl, trivial⟩, A12, k13, ho22, ((hS24.bring 0 rfl).taken 1), rfl⟩

theorem enters11 : Enters Try.prog 11 := ⟨_, _, Try.func11, rfl, by kernel_rfl⟩
def m_laws_toChannel (fuel : Nat) (x0 : D.Channel) : Option (D.Channel) := ((m_laws_toStringS fuel x0.Messages).bind fun r29 => ((m_laws_toPacketS fuel x0.Early).bind fun r50 => ((m_laws_toStringS fuel x0.Delivered).bind fun r62 => ((m_laws_toPacketS fuel x0.Flight).bind fun r74 => some (⟨x0.Window, r29, x0.Base, x0.Next, x0.Expected, r50, r62, r74⟩ : D.Channel)))))

set_option maxRecDepth 100000 in
theorem laws_toChannel_ok {w : World} {c0_ : List Value} {x0 : D.Channel} (h0_ : ty25.ro w c0_ x0) {fuel : Nat} {r : D.Channel} (hm : m_laws_toChannel fuel x0 = some r) :
    Calls Try.prog 11 ⟨[.agg ⟨c0_⟩]⟩ w (Ret fun v w8 => ∃ A0 k0 A1 k1 A2 k2 A3 k3, v = .agg ⟨[.int .i64 r.Window, .slice A0 r.Messages.length k0, .int .i64 r.Base, .int .i64 r.Next, .int .i64 r.Expected, .slice A1 r.Early.length k1, .slice A2 r.Delivered.length k2, .slice A3 r.Flight.length k3]⟩ ∧ St w w8 [Own ty22 [.slice A0 r.Messages.length k0] r.Messages, Own ty28 [.slice A1 r.Early.length k1] r.Early, Own ty22 [.slice A2 r.Delivered.length k2] r.Delivered, Own ty28 [.slice A3 r.Flight.length k3] r.Flight]) := by
  obtain ⟨A1, k2, A4, k5, A7, k8, A10, k11, e13, h3, h6, h9, h12⟩ := ty25_open h0_; subst e13
  refine Calls.into Try.func11 rfl 33 rfl rfl _ rfl ?_
  unfold m_laws_toChannel at hm
  have hS := St.start w
  refine WP.seq ?_
  refine WP.region ?_
  refine RW.new ttok hS rfl rfl rfl rfl (fun g14 w15 e16 hS17 => ?_)
  refine RW.new ttok hS17 rfl rfl rfl rfl (fun g18 w19 e20 hS21 => ?_)
  refine RW.nil ?_
  refine WP.seq ?_
  refine WP.region ?_
  refine RW.new ttok hS21 rfl rfl rfl rfl (fun g22 w23 e24 hS25 => ?_)
  refine RW.nil ?_
  refine WP.seq ?_
  refine WP.region ?_
  refine RW.run ttok 1 rfl ?_
  refine RW.load1 ttok rfl rfl rfl rfl rfl ((hS25.bring 2 rfl).box) 0 rfl rfl rfl rfl ?_
  refine RW.run ttok 1 rfl ?_
  have hS26 := hS25.bring 0 rfl
  refine RW.store ttok (A := []) hS26 rfl rfl rfl rfl rfl 0 rfl rfl rfl rfl rfl (fun w27 hS28 => ?_)
  refine RW.nil ?_
  refine WP.seq ?_
  refine WP.region ?_
  refine RW.run ttok 1 rfl ?_
  refine RW.load1 ttok rfl rfl rfl rfl rfl ((hS28.bring 2 rfl).box) 1 rfl rfl rfl rfl ?_
  obtain ⟨r29, hx30, hm⟩ := bind_some hm
  refine RW.call rfl rfl rfl enters32 (laws_toStringS_ok (ty22.ext hS28.ext h3) hx30) (fun v31 w32 hR33 => ?_)
  obtain ⟨A34, k35, rfl, hR36⟩ := hR33
  have hS37 := hS28.join hR36
  refine RW.run ttok 1 rfl ?_
  have hS38 := hS37.bring 1 rfl
  refine RW.store ttok (A := []) hS38 rfl rfl rfl rfl rfl 1 rfl rfl rfl rfl rfl (fun w39 hS40 => ?_)
  refine RW.nil ?_
  refine WP.seq ?_
  refine WP.region ?_
  refine RW.run ttok 1 rfl ?_
  refine RW.load1 ttok rfl rfl rfl rfl rfl ((hS40.bring 3 rfl).box) 2 rfl rfl rfl rfl ?_
  refine RW.run ttok 1 rfl ?_
  have hS41 := hS40.bring 0 rfl
  refine RW.store ttok (A := []) hS41 rfl rfl rfl rfl rfl 2 rfl rfl rfl rfl rfl (fun w42 hS43 => ?_)
  refine RW.nil ?_
  refine WP.seq ?_
  refine WP.region ?_
  refine RW.run ttok 1 rfl ?_
  refine RW.load1 ttok rfl rfl rfl rfl rfl ((hS43.bring 3 rfl).box) 3 rfl rfl rfl rfl ?_
  refine RW.run ttok 1 rfl ?_
  have hS44 := hS43.bring 0 rfl
  refine RW.store ttok (A := []) hS44 rfl rfl rfl rfl rfl 3 rfl rfl rfl rfl rfl (fun w45 hS46 => ?_)
  refine RW.nil ?_
  refine WP.seq ?_
  refine WP.region ?_
  refine RW.run ttok 1 rfl ?_
  refine RW.load1 ttok rfl rfl rfl rfl rfl ((hS46.bring 3 rfl).box) 4 rfl rfl rfl rfl ?_
  refine RW.run ttok 1 rfl ?_
  have hS47 := hS46.bring 0 rfl
  refine RW.store ttok (A := []) hS47 rfl rfl rfl rfl rfl 4 rfl rfl rfl rfl rfl (fun w48 hS49 => ?_)
  refine RW.nil ?_
  refine WP.seq ?_
  refine WP.region ?_
  refine RW.run ttok 1 rfl ?_
  refine RW.load1 ttok rfl rfl rfl rfl rfl ((hS49.bring 3 rfl).box) 5 rfl rfl rfl rfl ?_
  obtain ⟨r50, hx51, hm⟩ := bind_some hm
  refine RW.call rfl rfl rfl enters41 (laws_toPacketS_ok (ty23.ext hS49.ext h6) hx51) (fun v52 w53 hR54 => ?_)
  obtain ⟨A55, k56, rfl, hR57⟩ := hR54
  have hS58 := hS49.join hR57
  refine RW.run ttok 1 rfl ?_
  have hS59 := hS58.bring 1 rfl
  refine RW.store ttok (A := []) hS59 rfl rfl rfl rfl rfl 5 rfl rfl rfl rfl rfl (fun w60 hS61 => ?_)
  refine RW.nil ?_
  refine WP.seq ?_
  refine WP.region ?_
  refine RW.run ttok 1 rfl ?_
  refine RW.load1 ttok rfl rfl rfl rfl rfl ((hS61.bring 4 rfl).box) 6 rfl rfl rfl rfl ?_
  obtain ⟨r62, hx63, hm⟩ := bind_some hm
  refine RW.call rfl rfl rfl enters32 (laws_toStringS_ok (ty22.ext hS61.ext h9) hx63) (fun v64 w65 hR66 => ?_)
  obtain ⟨A67, k68, rfl, hR69⟩ := hR66
  have hS70 := hS61.join hR69
  refine RW.run ttok 1 rfl ?_
  have hS71 := hS70.bring 1 rfl
  refine RW.store ttok (A := []) hS71 rfl rfl rfl rfl rfl 6 rfl rfl rfl rfl rfl (fun w72 hS73 => ?_)
  refine RW.nil ?_
  refine WP.seq ?_
  refine WP.region ?_
  refine RW.run ttok 1 rfl ?_
  refine RW.load1 ttok rfl rfl rfl rfl rfl ((hS73.bring 5 rfl).box) 7 rfl rfl rfl rfl ?_
  obtain ⟨r74, hx75, hm⟩ := bind_some hm
  refine RW.call rfl rfl rfl enters41 (laws_toPacketS_ok (ty23.ext hS73.ext h12) hx75) (fun v76 w77 hR78 => ?_)
  obtain ⟨A79, k80, rfl, hR81⟩ := hR78
  have hS82 := hS73.join hR81
  refine RW.run ttok 1 rfl ?_
  have hS83 := hS82.bring 1 rfl
  refine RW.store ttok (A := []) hS83 rfl rfl rfl rfl rfl 7 rfl rfl rfl rfl rfl (fun w84 hS85 => ?_)
  refine RW.nil ?_
  refine WP.seq ?_
  refine WP.region ?_
  refine RW.loadN ttok rfl rfl rfl rfl rfl ((hS85.bring 0 rfl).box) rfl rfl rfl ?_
  have hS86 := hS85.bring 5 rfl
  refine RW.store ttok (A := []) hS86 rfl rfl rfl rfl rfl 0 rfl rfl rfl rfl rfl (fun w87 hS88 => ?_)
  refine RW.nil ?_
  refine WP.ret ?_
  cases hm
  exact ⟨_, .cons (ResIs.agg ttok rfl rfl rfl ((hS88.bring 0 rfl).box) rfl) .nil, A34, k35, A55, k56, A67, k68, A79, k80, rfl, (((((hS88.bring 2 rfl).bring 3 rfl).bring 4 rfl).bring 5 rfl).taken 4)⟩

theorem enters39 : Enters Try.prog 39 := ⟨_, _, Try.func39, rfl, by kernel_rfl⟩
def m_spec_l28SameTexts_j1 (fuel : Nat) (t2 : Unit) : Option Bool := some true
def m_spec_l28SameTexts_b1 (fuel : Nat) (x0 : (List ByteArray)) (x1 : (List ByteArray)) (s1 : Int) : Option (Rd (Int) (Unit) (Bool)) := (if (decide (s1 < (x0.length : Int))) = true then ((idx x0 s1).bind fun x14 => ((idx x1 s1).bind fun x20 => (if (!(seqb x14 x20)) = true then some (.ret false) else some (.next (w64 (s1 + 1)))))) else some (.brk ()))
def m_spec_l28SameTexts (fuel : Nat) (x0 : (List ByteArray)) (x1 : (List ByteArray)) : Option (Bool) := (if ((x0.length : Int) != (x1.length : Int)) = true then some false else ((iter (m_spec_l28SameTexts_b1 fuel x0 x1) fuel 0).bind fun o => aft o (m_spec_l28SameTexts_j1 fuel)))

set_option maxRecDepth 100000 in
theorem spec_l28SameTexts_ok {w : World} {A0_ : Option Addr} {k0_ : Nat} {x0 : (List ByteArray)} {A1_ : Option Addr} {k1_ : Nat} {x1 : (List ByteArray)} (h0_ : ty22.ro w [.slice A0_ x0.length k0_] x0) (h1_ : ty22.ro w [.slice A1_ x1.length k1_] x1) {fuel : Nat} {r : Bool} (hm : m_spec_l28SameTexts fuel x0 x1 = some r) :
    Calls Try.prog 39 ⟨[.slice A0_ x0.length k0_, .slice A1_ x1.length k1_]⟩ w (Ret fun v w8 => v = .bool r ∧ St w w8 []) := by
  refine Calls.into Try.func39 rfl 26 rfl rfl _ rfl ?_
  unfold m_spec_l28SameTexts at hm
  have hS := St.start w
  refine WP.seq ?_
  refine WP.region ?_
  refine RW.run ttok 1 rfl ?_
  refine RW.nil ?_
  refine WP.seq ?_
  refine WP.seq ?_
  refine WP.region ?_
  refine RW.run ttok 5 rfl ?_
  refine RW.nil ?_
  refine WP.cond ((x0.length : Int) != (x1.length : Int)) rfl (fun hc => ?_) (fun hc => ?_)
  · skip
    rw [if_pos hc] at hm
    refine WP.seq ?_
    refine WP.region ?_
    refine RW.run ttok 1 rfl ?_
    refine RW.nil ?_
    refine WP.ret ?_
    cases hm
    exact ⟨_, .cons (.tmp rfl) .nil, rfl, (hS.taken 0)⟩
  · skip
    rw [if_neg (not_t hc)] at hm
    refine WP.skip ?_
    refine WP.seq ?_
    refine WP.seq ?_
    refine WP.region ?_
    refine RW.run ttok 1 rfl ?_
    refine RW.nil ?_
    obtain ⟨o3, hl4, hm⟩ := bind_some hm
    refine WP.cut (fun (t2 : Unit) F w9 => o3 = .inl t2 ∧ St w w9 [] ∧ F = []) ?_ ?_
    · skip
      rintro t2 F w7 ⟨ho6, hS5, rfl⟩
      subst ho6
      have hm : m_spec_l28SameTexts_j1 fuel t2 = some r := hm
      unfold m_spec_l28SameTexts_j1 at hm
      refine WP.seq ?_
      refine WP.region ?_
      refine RW.run ttok 1 rfl ?_
      refine RW.nil ?_
      refine WP.ret ?_
      cases hm
      exact ⟨_, .cons (.tmp rfl) .nil, rfl, (hS5.taken 0)⟩
    · skip
      refine WP.block ?_
      refine WP.weak [(0, .slice A0_ x0.length k0_), (1, .slice A1_ x1.length k1_), (5, .int .i64 0)] ⟨rfl, rfl, rfl, trivial⟩ ?_
      refine WP.iter (fun (s1 : Int) F w9 => St w w9 [] ∧ F = [(0, .slice A0_ x0.length k0_), (1, .slice A1_ x1.length k1_), (5, .int .i64 s1)]) _ hl4 ⟨(hS.taken 0), rfl⟩ ?_
      rintro s1 F w12 _ o10 ⟨hS11, rfl⟩ hb8 ho9
      unfold m_spec_l28SameTexts_b1 at hb8
      refine WP.seq ?_
      refine WP.seq ?_
      refine WP.region ?_
      refine RW.run ttok 4 rfl ?_
      refine RW.nil ?_
      refine WP.cond (decide (s1 < (x0.length : Int))) rfl (fun hc => ?_) (fun hc => ?_)
      · skip
        rw [if_pos hc] at hb8
        refine WP.skip ?_
        refine WP.seq ?_
        refine WP.block ?_
        refine WP.seq ?_
        refine WP.drawn mixed 9 rfl (by kernel_rfl) ?_
        have hS13 := hS11.step (Ext.draw _)
        refine DW.run (fuel := 5) ttok [0, 1, 4, 5] (by kernel_rfl) rfl ?_
        obtain ⟨x14, hx15, hb8⟩ := bind_some hb8
        refine DW.idx ttok 2 rfl (by kernel_rfl) rfl rfl rfl rfl rfl rfl (by decide) rfl rfl (ty22.ext hS11.ext h0_) (idx_some hx15).1 (idx_some hx15).2 rfl rfl (fun p16 es17 ha18 hr19 => ?_)
        cases hr19
        refine DW.load1 ttok 3 rfl (by kernel_rfl) rfl rfl rfl rfl rfl ha18 0 rfl rfl rfl rfl ?_
        obtain ⟨x20, hx21, hb8⟩ := bind_some hb8
        refine DW.idx ttok 6 rfl (by kernel_rfl) rfl rfl rfl rfl rfl rfl (by decide) rfl rfl (ty22.ext hS11.ext h1_) (idx_some hx21).1 (idx_some hx21).2 rfl rfl (fun p22 es23 ha24 hr25 => ?_)
        cases hr25
        refine DW.load1 ttok 7 rfl (by kernel_rfl) rfl rfl rfl rfl rfl ha24 0 rfl rfl rfl rfl ?_
        refine DW.run (fuel := 0) ttok [8] (by kernel_rfl) rfl ?_
        refine DW.done (by kernel_rfl) (fun _ => ?_)
        refine WP.cond (!(seqb x14 x20)) rfl (fun hc => ?_) (fun hc => ?_)
        · skip
          rw [if_pos hc] at hb8
          refine WP.seq ?_
          refine WP.region ?_
          refine RW.run ttok 1 rfl ?_
          refine RW.nil ?_
          refine WP.ret ?_
          cases hb8
          cases ho9
          have hm : some _ = some _ := hm
          cases hm
          exact ⟨_, .cons (.tmp rfl) .nil, rfl, (hS13.taken 0)⟩
        · skip
          rw [if_neg (not_t hc)] at hb8
          refine WP.skip ?_
          refine WP.region ?_
          refine RW.run ttok 3 rfl ?_
          refine RW.nil ?_
          cases hb8
          exact ⟨_, [(0, .slice A0_ x0.length k0_), (1, .slice A1_ x1.length k1_), (5, .int .i64 (w64 (s1 + 1)))], ⟨rfl, rfl, rfl, trivial⟩, rfl, (hS13.taken 0), rfl⟩
      · skip
        rw [if_neg (not_t hc)] at hb8
        refine WP.exit ?_
        cases hb8
        exact ⟨_, [], trivial, ho9, (hS11.taken 0), rfl⟩

theorem enters40 : Enters Try.prog 40 := ⟨_, _, Try.func40, rfl, by kernel_rfl⟩
def m_spec_l28SamePackets_j1 (fuel : Nat) (t2 : Unit) : Option Bool := some true
def m_spec_l28SamePackets_b1 (fuel : Nat) (x0 : (List D.Packet)) (x1 : (List D.Packet)) (s1 : Int) : Option (Rd (Int) (Unit) (Bool)) := (if (decide (s1 < (x0.length : Int))) = true then ((idx x0 s1).bind fun x14 => ((idx x1 s1).bind fun x21 => (if (!((x14.Ack == x21.Ack) && (((x14.Number : Int) == x21.Number) && (seqb x14.Text x21.Text && true)))) = true then some (.ret false) else some (.next (w64 (s1 + 1)))))) else some (.brk ()))
def m_spec_l28SamePackets (fuel : Nat) (x0 : (List D.Packet)) (x1 : (List D.Packet)) : Option (Bool) := (if ((x0.length : Int) != (x1.length : Int)) = true then some false else ((iter (m_spec_l28SamePackets_b1 fuel x0 x1) fuel 0).bind fun o => aft o (m_spec_l28SamePackets_j1 fuel)))

set_option maxRecDepth 100000 in
theorem spec_l28SamePackets_ok {w : World} {A0_ : Option Addr} {k0_ : Nat} {x0 : (List D.Packet)} {A1_ : Option Addr} {k1_ : Nat} {x1 : (List D.Packet)} (h0_ : ty28.ro w [.slice A0_ x0.length k0_] x0) (h1_ : ty28.ro w [.slice A1_ x1.length k1_] x1) {fuel : Nat} {r : Bool} (hm : m_spec_l28SamePackets fuel x0 x1 = some r) :
    Calls Try.prog 40 ⟨[.slice A0_ x0.length k0_, .slice A1_ x1.length k1_]⟩ w (Ret fun v w8 => v = .bool r ∧ St w w8 []) := by
  refine Calls.into Try.func40 rfl 26 rfl rfl _ rfl ?_
  unfold m_spec_l28SamePackets at hm
  have hS := St.start w
  refine WP.seq ?_
  refine WP.region ?_
  refine RW.run ttok 1 rfl ?_
  refine RW.nil ?_
  refine WP.seq ?_
  refine WP.seq ?_
  refine WP.region ?_
  refine RW.run ttok 5 rfl ?_
  refine RW.nil ?_
  refine WP.cond ((x0.length : Int) != (x1.length : Int)) rfl (fun hc => ?_) (fun hc => ?_)
  · skip
    rw [if_pos hc] at hm
    refine WP.seq ?_
    refine WP.region ?_
    refine RW.run ttok 1 rfl ?_
    refine RW.nil ?_
    refine WP.ret ?_
    cases hm
    exact ⟨_, .cons (.tmp rfl) .nil, rfl, (hS.taken 0)⟩
  · skip
    rw [if_neg (not_t hc)] at hm
    refine WP.skip ?_
    refine WP.seq ?_
    refine WP.seq ?_
    refine WP.region ?_
    refine RW.run ttok 1 rfl ?_
    refine RW.nil ?_
    obtain ⟨o3, hl4, hm⟩ := bind_some hm
    refine WP.cut (fun (t2 : Unit) F w9 => o3 = .inl t2 ∧ St w w9 [] ∧ F = []) ?_ ?_
    · skip
      rintro t2 F w7 ⟨ho6, hS5, rfl⟩
      subst ho6
      have hm : m_spec_l28SamePackets_j1 fuel t2 = some r := hm
      unfold m_spec_l28SamePackets_j1 at hm
      refine WP.seq ?_
      refine WP.region ?_
      refine RW.run ttok 1 rfl ?_
      refine RW.nil ?_
      refine WP.ret ?_
      cases hm
      exact ⟨_, .cons (.tmp rfl) .nil, rfl, (hS5.taken 0)⟩
    · skip
      refine WP.block ?_
      refine WP.weak [(0, .slice A0_ x0.length k0_), (1, .slice A1_ x1.length k1_), (5, .int .i64 0)] ⟨rfl, rfl, rfl, trivial⟩ ?_
      refine WP.iter (fun (s1 : Int) F w9 => St w w9 [] ∧ F = [(0, .slice A0_ x0.length k0_), (1, .slice A1_ x1.length k1_), (5, .int .i64 s1)]) _ hl4 ⟨(hS.taken 0), rfl⟩ ?_
      rintro s1 F w12 _ o10 ⟨hS11, rfl⟩ hb8 ho9
      unfold m_spec_l28SamePackets_b1 at hb8
      refine WP.seq ?_
      refine WP.seq ?_
      refine WP.region ?_
      refine RW.run ttok 4 rfl ?_
      refine RW.nil ?_
      refine WP.cond (decide (s1 < (x0.length : Int))) rfl (fun hc => ?_) (fun hc => ?_)
      · skip
        rw [if_pos hc] at hb8
        refine WP.skip ?_
        refine WP.seq ?_
        refine WP.block ?_
        refine WP.seq ?_
        refine WP.drawn mixed 9 rfl (by kernel_rfl) ?_
        have hS13 := hS11.step (Ext.draw _)
        refine DW.run (fuel := 5) ttok [0, 1, 4, 5] (by kernel_rfl) rfl ?_
        obtain ⟨x14, hx15, hb8⟩ := bind_some hb8
        refine DW.idx ttok 2 rfl (by kernel_rfl) rfl rfl rfl rfl rfl rfl (by decide) rfl rfl (ty28.ext hS11.ext h0_) (idx_some hx15).1 (idx_some hx15).2 rfl rfl (fun p16 es17 ha18 hr19 => ?_)
        have e20 := ty66_open hr19; subst e20
        refine DW.loadN ttok 3 rfl (by kernel_rfl) rfl rfl rfl rfl rfl ha18 rfl rfl rfl ?_
        obtain ⟨x21, hx22, hb8⟩ := bind_some hb8
        refine DW.idx ttok 6 rfl (by kernel_rfl) rfl rfl rfl rfl rfl rfl (by decide) rfl rfl (ty28.ext hS11.ext h1_) (idx_some hx22).1 (idx_some hx22).2 rfl rfl (fun p23 es24 ha25 hr26 => ?_)
        have e27 := ty66_open hr26; subst e27
        refine DW.loadN ttok 7 rfl (by kernel_rfl) rfl rfl rfl rfl rfl ha25 rfl rfl rfl ?_
        refine DW.run (fuel := 0) ttok [8] (by kernel_rfl) rfl ?_
        refine DW.done (by kernel_rfl) (fun _ => ?_)
        refine WP.cond (!((x14.Ack == x21.Ack) && (((x14.Number : Int) == x21.Number) && (seqb x14.Text x21.Text && true)))) rfl (fun hc => ?_) (fun hc => ?_)
        · skip
          rw [if_pos hc] at hb8
          refine WP.seq ?_
          refine WP.region ?_
          refine RW.run ttok 1 rfl ?_
          refine RW.nil ?_
          refine WP.ret ?_
          cases hb8
          cases ho9
          have hm : some _ = some _ := hm
          cases hm
          exact ⟨_, .cons (.tmp rfl) .nil, rfl, (hS13.taken 0)⟩
        · skip
          rw [if_neg (not_t hc)] at hb8
          refine WP.skip ?_
          refine WP.region ?_
          refine RW.run ttok 3 rfl ?_
          refine RW.nil ?_
          cases hb8
          exact ⟨_, [(0, .slice A0_ x0.length k0_), (1, .slice A1_ x1.length k1_), (5, .int .i64 (w64 (s1 + 1)))], ⟨rfl, rfl, rfl, trivial⟩, rfl, (hS13.taken 0), rfl⟩
      · skip
        rw [if_neg (not_t hc)] at hb8
        refine WP.exit ?_
        cases hb8
        exact ⟨_, [], trivial, ho9, (hS11.taken 0), rfl⟩

theorem enters10 : Enters Try.prog 10 := ⟨_, _, Try.func10, rfl, by kernel_rfl⟩
def m_spec_SameChannel (fuel : Nat) (x0 : D.Channel) (x1 : D.Channel) : Option (Bool) := (if (x0.Window == x1.Window) = true then (if (x0.Base == x1.Base) = true then (if (x0.Next == x1.Next) = true then (if (x0.Expected == x1.Expected) = true then ((m_spec_l28SameTexts fuel x0.Messages x1.Messages).bind fun r39 => (if r39 = true then ((m_spec_l28SameTexts fuel x0.Delivered x1.Delivered).bind fun r47 => (if r47 = true then ((m_spec_l28SamePackets fuel x0.Early x1.Early).bind fun r55 => (if r55 = true then ((m_spec_l28SamePackets fuel x0.Flight x1.Flight).bind fun r63 => some r63) else some false)) else some false)) else some false)) else some false) else some false) else some false) else some false)

set_option maxRecDepth 100000 in
theorem spec_SameChannel_ok {w : World} {c0_ : List Value} {x0 : D.Channel} {c1_ : List Value} {x1 : D.Channel} (h0_ : ty30.ro w c0_ x0) (h1_ : ty30.ro w c1_ x1) {fuel : Nat} {r : Bool} (hm : m_spec_SameChannel fuel x0 x1 = some r) :
    Calls Try.prog 10 ⟨[.agg ⟨c0_⟩, .agg ⟨c1_⟩]⟩ w (Ret fun v w8 => v = .bool r ∧ St w w8 []) := by
  obtain ⟨A1, k2, A4, k5, A7, k8, A10, k11, e13, h3, h6, h9, h12⟩ := ty30_open h0_; subst e13
  obtain ⟨A14, k15, A17, k18, A20, k21, A23, k24, e26, h16, h19, h22, h25⟩ := ty30_open h1_; subst e26
  refine Calls.into Try.func10 rfl 59 rfl rfl _ rfl ?_
  unfold m_spec_SameChannel at hm
  have hS := St.start w
  refine WP.seq ?_
  refine WP.region ?_
  refine RW.new ttok hS rfl rfl rfl rfl (fun g27 w28 e29 hS30 => ?_)
  refine RW.new ttok hS30 rfl rfl rfl rfl (fun g31 w32 e33 hS34 => ?_)
  refine RW.run ttok 1 rfl ?_
  refine RW.nil ?_
  refine WP.seq ?_
  refine WP.region ?_
  refine RW.run ttok 1 rfl ?_
  refine RW.load1 ttok rfl rfl rfl rfl rfl ((hS34.bring 1 rfl).box) 0 rfl rfl rfl rfl ?_
  refine RW.run ttok 1 rfl ?_
  refine RW.load1 ttok rfl rfl rfl rfl rfl ((hS34.bring 0 rfl).box) 0 rfl rfl rfl rfl ?_
  refine RW.run ttok 2 rfl ?_
  by_cases hg35 : (x0.Window == x1.Window) = true
  · skip
    rw [if_pos hg35] at hm
    refine RW.know 10 rfl (congrArg Value.bool hg35) ?_
    refine RW.run ttok 1 rfl ?_
    refine RW.load1 ttok rfl rfl rfl rfl rfl ((hS34.bring 1 rfl).box) 2 rfl rfl rfl rfl ?_
    refine RW.run ttok 1 rfl ?_
    refine RW.load1 ttok rfl rfl rfl rfl rfl ((hS34.bring 0 rfl).box) 2 rfl rfl rfl rfl ?_
    refine RW.run ttok 3 rfl ?_
    by_cases hg36 : (x0.Base == x1.Base) = true
    · skip
      rw [if_pos hg36] at hm
      refine RW.know 17 rfl (congrArg Value.bool hg36) ?_
      refine RW.run ttok 1 rfl ?_
      refine RW.load1 ttok rfl rfl rfl rfl rfl ((hS34.bring 1 rfl).box) 3 rfl rfl rfl rfl ?_
      refine RW.run ttok 1 rfl ?_
      refine RW.load1 ttok rfl rfl rfl rfl rfl ((hS34.bring 0 rfl).box) 3 rfl rfl rfl rfl ?_
      refine RW.run ttok 3 rfl ?_
      by_cases hg37 : (x0.Next == x1.Next) = true
      · skip
        rw [if_pos hg37] at hm
        refine RW.know 24 rfl (congrArg Value.bool hg37) ?_
        refine RW.run ttok 1 rfl ?_
        refine RW.load1 ttok rfl rfl rfl rfl rfl ((hS34.bring 1 rfl).box) 4 rfl rfl rfl rfl ?_
        refine RW.run ttok 1 rfl ?_
        refine RW.load1 ttok rfl rfl rfl rfl rfl ((hS34.bring 0 rfl).box) 4 rfl rfl rfl rfl ?_
        refine RW.run ttok 3 rfl ?_
        by_cases hg38 : (x0.Expected == x1.Expected) = true
        · skip
          rw [if_pos hg38] at hm
          refine RW.know 31 rfl (congrArg Value.bool hg38) ?_
          refine RW.run ttok 1 rfl ?_
          refine RW.load1 ttok rfl rfl rfl rfl rfl ((hS34.bring 1 rfl).box) 1 rfl rfl rfl rfl ?_
          refine RW.run ttok 1 rfl ?_
          refine RW.load1 ttok rfl rfl rfl rfl rfl ((hS34.bring 0 rfl).box) 1 rfl rfl rfl rfl ?_
          obtain ⟨r39, hx40, hm⟩ := bind_some hm
          refine RW.call rfl rfl rfl enters39 (spec_l28SameTexts_ok (ty22.ext hS34.ext h3) (ty22.ext hS34.ext h16) hx40) (fun v41 w42 hR43 => ?_)
          obtain ⟨rfl, hR44⟩ := hR43
          have hS45 := hS34.join hR44
          refine RW.run ttok 2 rfl ?_
          by_cases hg46 : r39 = true
          · skip
            rw [if_pos hg46] at hm
            refine RW.know 38 rfl (congrArg Value.bool hg46) ?_
            refine RW.run ttok 1 rfl ?_
            refine RW.load1 ttok rfl rfl rfl rfl rfl ((hS45.bring 1 rfl).box) 6 rfl rfl rfl rfl ?_
            refine RW.run ttok 1 rfl ?_
            refine RW.load1 ttok rfl rfl rfl rfl rfl ((hS45.bring 0 rfl).box) 6 rfl rfl rfl rfl ?_
            obtain ⟨r47, hx48, hm⟩ := bind_some hm
            refine RW.call rfl rfl rfl enters39 (spec_l28SameTexts_ok (ty22.ext hS45.ext h9) (ty22.ext hS45.ext h22) hx48) (fun v49 w50 hR51 => ?_)
            obtain ⟨rfl, hR52⟩ := hR51
            have hS53 := hS45.join hR52
            refine RW.run ttok 2 rfl ?_
            by_cases hg54 : r47 = true
            · skip
              rw [if_pos hg54] at hm
              refine RW.know 45 rfl (congrArg Value.bool hg54) ?_
              refine RW.run ttok 1 rfl ?_
              refine RW.load1 ttok rfl rfl rfl rfl rfl ((hS53.bring 1 rfl).box) 5 rfl rfl rfl rfl ?_
              refine RW.run ttok 1 rfl ?_
              refine RW.load1 ttok rfl rfl rfl rfl rfl ((hS53.bring 0 rfl).box) 5 rfl rfl rfl rfl ?_
              obtain ⟨r55, hx56, hm⟩ := bind_some hm
              refine RW.call rfl rfl rfl enters40 (spec_l28SamePackets_ok (ty28.ext hS53.ext h6) (ty28.ext hS53.ext h19) hx56) (fun v57 w58 hR59 => ?_)
              obtain ⟨rfl, hR60⟩ := hR59
              have hS61 := hS53.join hR60
              refine RW.run ttok 2 rfl ?_
              by_cases hg62 : r55 = true
              · skip
                rw [if_pos hg62] at hm
                refine RW.know 52 rfl (congrArg Value.bool hg62) ?_
                refine RW.run ttok 1 rfl ?_
                refine RW.load1 ttok rfl rfl rfl rfl rfl ((hS61.bring 1 rfl).box) 7 rfl rfl rfl rfl ?_
                refine RW.run ttok 1 rfl ?_
                refine RW.load1 ttok rfl rfl rfl rfl rfl ((hS61.bring 0 rfl).box) 7 rfl rfl rfl rfl ?_
                obtain ⟨r63, hx64, hm⟩ := bind_some hm
                refine RW.call rfl rfl rfl enters40 (spec_l28SamePackets_ok (ty28.ext hS61.ext h12) (ty28.ext hS61.ext h25) hx64) (fun v65 w66 hR67 => ?_)
                obtain ⟨rfl, hR68⟩ := hR67
                have hS69 := hS61.join hR68
                refine RW.run ttok 2 rfl ?_
                refine RW.nil ?_
                refine WP.ret ?_
                cases hm
                exact ⟨_, .cons (.tmp rfl) .nil, rfl, (hS69.taken 0)⟩
              · skip
                rw [if_neg hg62] at hm
                refine RW.know 52 rfl (congrArg Value.bool (Bool.eq_false_iff.2 hg62)) ?_
                refine RW.run ttok 7 rfl ?_
                refine RW.nil ?_
                refine WP.ret ?_
                cases hm
                exact ⟨_, .cons (.tmp rfl) .nil, rfl, (hS61.taken 0)⟩
            · skip
              rw [if_neg hg54] at hm
              refine RW.know 45 rfl (congrArg Value.bool (Bool.eq_false_iff.2 hg54)) ?_
              refine RW.run ttok 14 rfl ?_
              refine RW.nil ?_
              refine WP.ret ?_
              cases hm
              exact ⟨_, .cons (.tmp rfl) .nil, rfl, (hS53.taken 0)⟩
          · skip
            rw [if_neg hg46] at hm
            refine RW.know 38 rfl (congrArg Value.bool (Bool.eq_false_iff.2 hg46)) ?_
            refine RW.run ttok 21 rfl ?_
            refine RW.nil ?_
            refine WP.ret ?_
            cases hm
            exact ⟨_, .cons (.tmp rfl) .nil, rfl, (hS45.taken 0)⟩
        · skip
          rw [if_neg hg38] at hm
          refine RW.know 31 rfl (congrArg Value.bool (Bool.eq_false_iff.2 hg38)) ?_
          refine RW.run ttok 28 rfl ?_
          refine RW.nil ?_
          refine WP.ret ?_
          cases hm
          exact ⟨_, .cons (.tmp rfl) .nil, rfl, (hS34.taken 0)⟩
      · skip
        rw [if_neg hg37] at hm
        refine RW.know 24 rfl (congrArg Value.bool (Bool.eq_false_iff.2 hg37)) ?_
        refine RW.run ttok 35 rfl ?_
        refine RW.nil ?_
        refine WP.ret ?_
        cases hm
        exact ⟨_, .cons (.tmp rfl) .nil, rfl, (hS34.taken 0)⟩
    · skip
      rw [if_neg hg36] at hm
      refine RW.know 17 rfl (congrArg Value.bool (Bool.eq_false_iff.2 hg36)) ?_
      refine RW.run ttok 42 rfl ?_
      refine RW.nil ?_
      refine WP.ret ?_
      cases hm
      exact ⟨_, .cons (.tmp rfl) .nil, rfl, (hS34.taken 0)⟩
  · skip
    rw [if_neg hg35] at hm
    refine RW.know 10 rfl (congrArg Value.bool (Bool.eq_false_iff.2 hg35)) ?_
    refine RW.run ttok 49 rfl ?_
    refine RW.nil ?_
    refine WP.ret ?_
    cases hm
    exact ⟨_, .cons (.tmp rfl) .nil, rfl, (hS34.taken 0)⟩

theorem enters42 : Enters Try.prog 42 := ⟨_, _, Try.func42, rfl, by kernel_rfl⟩
def m_slices_Equal_string_string_j1 (fuel : Nat) (t2 : Unit) : Option Bool := some true
def m_slices_Equal_string_string_b1 (fuel : Nat) (x0 : (List ByteArray)) (x1 : (List ByteArray)) (s1 : Int) : Option (Rd (Int) (Unit) (Bool)) := (if (decide (s1 < (x0.length : Int))) = true then ((idx x0 s1).bind fun x14 => ((idx x1 s1).bind fun x20 => (if (!(seqb x14 x20)) = true then some (.ret false) else some (.next (w64 (s1 + 1)))))) else some (.brk ()))
def m_slices_Equal_string_string (fuel : Nat) (x0 : (List ByteArray)) (x1 : (List ByteArray)) : Option (Bool) := (if ((x0.length : Int) != (x1.length : Int)) = true then some false else ((iter (m_slices_Equal_string_string_b1 fuel x0 x1) fuel 0).bind fun o => aft o (m_slices_Equal_string_string_j1 fuel)))

set_option maxRecDepth 100000 in
theorem slices_Equal_string_string_ok {w : World} {A0_ : Option Addr} {k0_ : Nat} {x0 : (List ByteArray)} {A1_ : Option Addr} {k1_ : Nat} {x1 : (List ByteArray)} (h0_ : ty22.ro w [.slice A0_ x0.length k0_] x0) (h1_ : ty22.ro w [.slice A1_ x1.length k1_] x1) {fuel : Nat} {r : Bool} (hm : m_slices_Equal_string_string fuel x0 x1 = some r) :
    Calls Try.prog 42 ⟨[.slice A0_ x0.length k0_, .slice A1_ x1.length k1_]⟩ w (Ret fun v w8 => v = .bool r ∧ St w w8 []) := by
  refine Calls.into Try.func42 rfl 26 rfl rfl _ rfl ?_
  unfold m_slices_Equal_string_string at hm
  have hS := St.start w
  refine WP.seq ?_
  refine WP.region ?_
  refine RW.run ttok 1 rfl ?_
  refine RW.nil ?_
  refine WP.seq ?_
  refine WP.seq ?_
  refine WP.region ?_
  refine RW.run ttok 5 rfl ?_
  refine RW.nil ?_
  refine WP.cond ((x0.length : Int) != (x1.length : Int)) rfl (fun hc => ?_) (fun hc => ?_)
  · skip
    rw [if_pos hc] at hm
    refine WP.seq ?_
    refine WP.region ?_
    refine RW.run ttok 1 rfl ?_
    refine RW.nil ?_
    refine WP.ret ?_
    cases hm
    exact ⟨_, .cons (.tmp rfl) .nil, rfl, (hS.taken 0)⟩
  · skip
    rw [if_neg (not_t hc)] at hm
    refine WP.skip ?_
    refine WP.seq ?_
    refine WP.seq ?_
    refine WP.region ?_
    refine RW.run ttok 3 rfl ?_
    refine RW.nil ?_
    obtain ⟨o3, hl4, hm⟩ := bind_some hm
    refine WP.cut (fun (t2 : Unit) F w9 => o3 = .inl t2 ∧ St w w9 [] ∧ F = []) ?_ ?_
    · skip
      rintro t2 F w7 ⟨ho6, hS5, rfl⟩
      subst ho6
      have hm : m_slices_Equal_string_string_j1 fuel t2 = some r := hm
      unfold m_slices_Equal_string_string_j1 at hm
      refine WP.seq ?_
      refine WP.region ?_
      refine RW.run ttok 1 rfl ?_
      refine RW.nil ?_
      refine WP.ret ?_
      cases hm
      exact ⟨_, .cons (.tmp rfl) .nil, rfl, (hS5.taken 0)⟩
    · skip
      refine WP.block ?_
      refine WP.weak [(0, .slice A0_ x0.length k0_), (1, .slice A1_ x1.length k1_), (12, .int .i64 (x0.length : Int)), (13, .int .i64 0)] ⟨rfl, rfl, rfl, rfl, trivial⟩ ?_
      refine WP.iter (fun (s1 : Int) F w9 => St w w9 [] ∧ F = [(0, .slice A0_ x0.length k0_), (1, .slice A1_ x1.length k1_), (12, .int .i64 (x0.length : Int)), (13, .int .i64 s1)]) _ hl4 ⟨(hS.taken 0), rfl⟩ ?_
      rintro s1 F w12 _ o10 ⟨hS11, rfl⟩ hb8 ho9
      unfold m_slices_Equal_string_string_b1 at hb8
      refine WP.seq ?_
      refine WP.region ?_
      refine RW.run ttok 1 rfl ?_
      refine RW.nil ?_
      refine WP.seq ?_
      refine WP.cond (decide (s1 < (x0.length : Int))) rfl (fun hc => ?_) (fun hc => ?_)
      · skip
        rw [if_pos hc] at hb8
        refine WP.skip ?_
        refine WP.seq ?_
        refine WP.block ?_
        refine WP.seq ?_
        refine WP.region ?_
        refine RW.run ttok 2 rfl ?_
        refine RW.nil ?_
        refine WP.seq ?_
        refine WP.drawn mixed 9 rfl (by kernel_rfl) ?_
        have hS13 := hS11.step (Ext.draw _)
        refine DW.run (fuel := 5) ttok [0, 1, 4, 5] (by kernel_rfl) rfl ?_
        obtain ⟨x14, hx15, hb8⟩ := bind_some hb8
        refine DW.idx ttok 2 rfl (by kernel_rfl) rfl rfl rfl rfl rfl rfl (by decide) rfl rfl (ty22.ext hS11.ext h0_) (idx_some hx15).1 (idx_some hx15).2 rfl rfl (fun p16 es17 ha18 hr19 => ?_)
        cases hr19
        refine DW.load1 ttok 3 rfl (by kernel_rfl) rfl rfl rfl rfl rfl ha18 0 rfl rfl rfl rfl ?_
        obtain ⟨x20, hx21, hb8⟩ := bind_some hb8
        refine DW.idx ttok 6 rfl (by kernel_rfl) rfl rfl rfl rfl rfl rfl (by decide) rfl rfl (ty22.ext hS11.ext h1_) (idx_some hx21).1 (idx_some hx21).2 rfl rfl (fun p22 es23 ha24 hr25 => ?_)
        cases hr25
        refine DW.load1 ttok 7 rfl (by kernel_rfl) rfl rfl rfl rfl rfl ha24 0 rfl rfl rfl rfl ?_
        refine DW.run (fuel := 0) ttok [8] (by kernel_rfl) rfl ?_
        refine DW.done (by kernel_rfl) (fun _ => ?_)
        refine WP.cond (!(seqb x14 x20)) rfl (fun hc => ?_) (fun hc => ?_)
        · skip
          rw [if_pos hc] at hb8
          refine WP.seq ?_
          refine WP.region ?_
          refine RW.run ttok 1 rfl ?_
          refine RW.nil ?_
          refine WP.ret ?_
          cases hb8
          cases ho9
          have hm : some _ = some _ := hm
          cases hm
          exact ⟨_, .cons (.tmp rfl) .nil, rfl, (hS13.taken 0)⟩
        · skip
          rw [if_neg (not_t hc)] at hb8
          refine WP.skip ?_
          refine WP.region ?_
          refine RW.run ttok 2 rfl ?_
          refine RW.nil ?_
          cases hb8
          exact ⟨_, [(0, .slice A0_ x0.length k0_), (1, .slice A1_ x1.length k1_), (12, .int .i64 (x0.length : Int)), (13, .int .i64 (w64 (s1 + 1)))], ⟨rfl, rfl, rfl, rfl, trivial⟩, rfl, (hS13.taken 0), rfl⟩
      · skip
        rw [if_neg (not_t hc)] at hb8
        refine WP.exit ?_
        cases hb8
        exact ⟨_, [], trivial, ho9, (hS11.taken 0), rfl⟩

theorem enters43 : Enters Try.prog 43 := ⟨_, _, Try.func43, rfl, by kernel_rfl⟩
def m_slices_Equal_impl_Packet_impl_Packet_j1 (fuel : Nat) (t2 : Unit) : Option Bool := some true
def m_slices_Equal_impl_Packet_impl_Packet_b1 (fuel : Nat) (x0 : (List D.Packet)) (x1 : (List D.Packet)) (s1 : Int) : Option (Rd (Int) (Unit) (Bool)) := (if (decide (s1 < (x0.length : Int))) = true then ((idx x0 s1).bind fun x14 => ((idx x1 s1).bind fun x21 => (if (!((x14.Ack == x21.Ack) && (((x14.Number : Int) == x21.Number) && (seqb x14.Text x21.Text && true)))) = true then some (.ret false) else some (.next (w64 (s1 + 1)))))) else some (.brk ()))
def m_slices_Equal_impl_Packet_impl_Packet (fuel : Nat) (x0 : (List D.Packet)) (x1 : (List D.Packet)) : Option (Bool) := (if ((x0.length : Int) != (x1.length : Int)) = true then some false else ((iter (m_slices_Equal_impl_Packet_impl_Packet_b1 fuel x0 x1) fuel 0).bind fun o => aft o (m_slices_Equal_impl_Packet_impl_Packet_j1 fuel)))

set_option maxRecDepth 100000 in
theorem slices_Equal_impl_Packet_impl_Packet_ok {w : World} {A0_ : Option Addr} {k0_ : Nat} {x0 : (List D.Packet)} {A1_ : Option Addr} {k1_ : Nat} {x1 : (List D.Packet)} (h0_ : ty28.ro w [.slice A0_ x0.length k0_] x0) (h1_ : ty28.ro w [.slice A1_ x1.length k1_] x1) {fuel : Nat} {r : Bool} (hm : m_slices_Equal_impl_Packet_impl_Packet fuel x0 x1 = some r) :
    Calls Try.prog 43 ⟨[.slice A0_ x0.length k0_, .slice A1_ x1.length k1_]⟩ w (Ret fun v w8 => v = .bool r ∧ St w w8 []) := by
  refine Calls.into Try.func43 rfl 26 rfl rfl _ rfl ?_
  unfold m_slices_Equal_impl_Packet_impl_Packet at hm
  have hS := St.start w
  refine WP.seq ?_
  refine WP.region ?_
  refine RW.run ttok 1 rfl ?_
  refine RW.nil ?_
  refine WP.seq ?_
  refine WP.seq ?_
  refine WP.region ?_
  refine RW.run ttok 5 rfl ?_
  refine RW.nil ?_
  refine WP.cond ((x0.length : Int) != (x1.length : Int)) rfl (fun hc => ?_) (fun hc => ?_)
  · skip
    rw [if_pos hc] at hm
    refine WP.seq ?_
    refine WP.region ?_
    refine RW.run ttok 1 rfl ?_
    refine RW.nil ?_
    refine WP.ret ?_
    cases hm
    exact ⟨_, .cons (.tmp rfl) .nil, rfl, (hS.taken 0)⟩
  · skip
    rw [if_neg (not_t hc)] at hm
    refine WP.skip ?_
    refine WP.seq ?_
    refine WP.seq ?_
    refine WP.region ?_
    refine RW.run ttok 3 rfl ?_
    refine RW.nil ?_
    obtain ⟨o3, hl4, hm⟩ := bind_some hm
    refine WP.cut (fun (t2 : Unit) F w9 => o3 = .inl t2 ∧ St w w9 [] ∧ F = []) ?_ ?_
    · skip
      rintro t2 F w7 ⟨ho6, hS5, rfl⟩
      subst ho6
      have hm : m_slices_Equal_impl_Packet_impl_Packet_j1 fuel t2 = some r := hm
      unfold m_slices_Equal_impl_Packet_impl_Packet_j1 at hm
      refine WP.seq ?_
      refine WP.region ?_
      refine RW.run ttok 1 rfl ?_
      refine RW.nil ?_
      refine WP.ret ?_
      cases hm
      exact ⟨_, .cons (.tmp rfl) .nil, rfl, (hS5.taken 0)⟩
    · skip
      refine WP.block ?_
      refine WP.weak [(0, .slice A0_ x0.length k0_), (1, .slice A1_ x1.length k1_), (12, .int .i64 (x0.length : Int)), (13, .int .i64 0)] ⟨rfl, rfl, rfl, rfl, trivial⟩ ?_
      refine WP.iter (fun (s1 : Int) F w9 => St w w9 [] ∧ F = [(0, .slice A0_ x0.length k0_), (1, .slice A1_ x1.length k1_), (12, .int .i64 (x0.length : Int)), (13, .int .i64 s1)]) _ hl4 ⟨(hS.taken 0), rfl⟩ ?_
      rintro s1 F w12 _ o10 ⟨hS11, rfl⟩ hb8 ho9
      unfold m_slices_Equal_impl_Packet_impl_Packet_b1 at hb8
      refine WP.seq ?_
      refine WP.region ?_
      refine RW.run ttok 1 rfl ?_
      refine RW.nil ?_
      refine WP.seq ?_
      refine WP.cond (decide (s1 < (x0.length : Int))) rfl (fun hc => ?_) (fun hc => ?_)
      · skip
        rw [if_pos hc] at hb8
        refine WP.skip ?_
        refine WP.seq ?_
        refine WP.block ?_
        refine WP.seq ?_
        refine WP.region ?_
        refine RW.run ttok 2 rfl ?_
        refine RW.nil ?_
        refine WP.seq ?_
        refine WP.drawn mixed 9 rfl (by kernel_rfl) ?_
        have hS13 := hS11.step (Ext.draw _)
        refine DW.run (fuel := 5) ttok [0, 1, 4, 5] (by kernel_rfl) rfl ?_
        obtain ⟨x14, hx15, hb8⟩ := bind_some hb8
        refine DW.idx ttok 2 rfl (by kernel_rfl) rfl rfl rfl rfl rfl rfl (by decide) rfl rfl (ty28.ext hS11.ext h0_) (idx_some hx15).1 (idx_some hx15).2 rfl rfl (fun p16 es17 ha18 hr19 => ?_)
        have e20 := ty66_open hr19; subst e20
        refine DW.loadN ttok 3 rfl (by kernel_rfl) rfl rfl rfl rfl rfl ha18 rfl rfl rfl ?_
        obtain ⟨x21, hx22, hb8⟩ := bind_some hb8
        refine DW.idx ttok 6 rfl (by kernel_rfl) rfl rfl rfl rfl rfl rfl (by decide) rfl rfl (ty28.ext hS11.ext h1_) (idx_some hx22).1 (idx_some hx22).2 rfl rfl (fun p23 es24 ha25 hr26 => ?_)
        have e27 := ty66_open hr26; subst e27
        refine DW.loadN ttok 7 rfl (by kernel_rfl) rfl rfl rfl rfl rfl ha25 rfl rfl rfl ?_
        refine DW.run (fuel := 0) ttok [8] (by kernel_rfl) rfl ?_
        refine DW.done (by kernel_rfl) (fun _ => ?_)
        refine WP.cond (!((x14.Ack == x21.Ack) && (((x14.Number : Int) == x21.Number) && (seqb x14.Text x21.Text && true)))) rfl (fun hc => ?_) (fun hc => ?_)
        · skip
          rw [if_pos hc] at hb8
          refine WP.seq ?_
          refine WP.region ?_
          refine RW.run ttok 1 rfl ?_
          refine RW.nil ?_
          refine WP.ret ?_
          cases hb8
          cases ho9
          have hm : some _ = some _ := hm
          cases hm
          exact ⟨_, .cons (.tmp rfl) .nil, rfl, (hS13.taken 0)⟩
        · skip
          rw [if_neg (not_t hc)] at hb8
          refine WP.skip ?_
          refine WP.region ?_
          refine RW.run ttok 2 rfl ?_
          refine RW.nil ?_
          cases hb8
          exact ⟨_, [(0, .slice A0_ x0.length k0_), (1, .slice A1_ x1.length k1_), (12, .int .i64 (x0.length : Int)), (13, .int .i64 (w64 (s1 + 1)))], ⟨rfl, rfl, rfl, rfl, trivial⟩, rfl, (hS13.taken 0), rfl⟩
      · skip
        rw [if_neg (not_t hc)] at hb8
        refine WP.exit ?_
        cases hb8
        exact ⟨_, [], trivial, ho9, (hS11.taken 0), rfl⟩

theorem enters12 : Enters Try.prog 12 := ⟨_, _, Try.func12, rfl, by kernel_rfl⟩
def m_impl_SameChannel (fuel : Nat) (x0 : D.Channel) (x1 : D.Channel) : Option (Bool) := (if (x0.Window == x1.Window) = true then (if (x0.Base == x1.Base) = true then (if (x0.Next == x1.Next) = true then (if (x0.Expected == x1.Expected) = true then ((m_slices_Equal_string_string fuel x0.Messages x1.Messages).bind fun r39 => (if r39 = true then ((m_slices_Equal_impl_Packet_impl_Packet fuel x0.Early x1.Early).bind fun r47 => (if r47 = true then ((m_slices_Equal_string_string fuel x0.Delivered x1.Delivered).bind fun r55 => (if r55 = true then ((m_slices_Equal_impl_Packet_impl_Packet fuel x0.Flight x1.Flight).bind fun r63 => some r63) else some false)) else some false)) else some false)) else some false) else some false) else some false) else some false)

set_option maxRecDepth 100000 in
theorem impl_SameChannel_ok {w : World} {c0_ : List Value} {x0 : D.Channel} {c1_ : List Value} {x1 : D.Channel} (h0_ : ty30.ro w c0_ x0) (h1_ : ty30.ro w c1_ x1) {fuel : Nat} {r : Bool} (hm : m_impl_SameChannel fuel x0 x1 = some r) :
    Calls Try.prog 12 ⟨[.agg ⟨c0_⟩, .agg ⟨c1_⟩]⟩ w (Ret fun v w8 => v = .bool r ∧ St w w8 []) := by
  obtain ⟨A1, k2, A4, k5, A7, k8, A10, k11, e13, h3, h6, h9, h12⟩ := ty30_open h0_; subst e13
  obtain ⟨A14, k15, A17, k18, A20, k21, A23, k24, e26, h16, h19, h22, h25⟩ := ty30_open h1_; subst e26
  refine Calls.into Try.func12 rfl 59 rfl rfl _ rfl ?_
  unfold m_impl_SameChannel at hm
  have hS := St.start w
  refine WP.seq ?_
  refine WP.region ?_
  refine RW.new ttok hS rfl rfl rfl rfl (fun g27 w28 e29 hS30 => ?_)
  refine RW.new ttok hS30 rfl rfl rfl rfl (fun g31 w32 e33 hS34 => ?_)
  refine RW.run ttok 1 rfl ?_
  refine RW.nil ?_
  refine WP.seq ?_
  refine WP.region ?_
  refine RW.run ttok 1 rfl ?_
  refine RW.load1 ttok rfl rfl rfl rfl rfl ((hS34.bring 1 rfl).box) 0 rfl rfl rfl rfl ?_
  refine RW.run ttok 1 rfl ?_
  refine RW.load1 ttok rfl rfl rfl rfl rfl ((hS34.bring 0 rfl).box) 0 rfl rfl rfl rfl ?_
  refine RW.run ttok 2 rfl ?_
  by_cases hg35 : (x0.Window == x1.Window) = true
  · skip
    rw [if_pos hg35] at hm
    refine RW.know 10 rfl (congrArg Value.bool hg35) ?_
    refine RW.run ttok 1 rfl ?_
    refine RW.load1 ttok rfl rfl rfl rfl rfl ((hS34.bring 1 rfl).box) 2 rfl rfl rfl rfl ?_
    refine RW.run ttok 1 rfl ?_
    refine RW.load1 ttok rfl rfl rfl rfl rfl ((hS34.bring 0 rfl).box) 2 rfl rfl rfl rfl ?_
    refine RW.run ttok 3 rfl ?_
    by_cases hg36 : (x0.Base == x1.Base) = true
    · skip
      rw [if_pos hg36] at hm
      refine RW.know 17 rfl (congrArg Value.bool hg36) ?_
      refine RW.run ttok 1 rfl ?_
      refine RW.load1 ttok rfl rfl rfl rfl rfl ((hS34.bring 1 rfl).box) 3 rfl rfl rfl rfl ?_
      refine RW.run ttok 1 rfl ?_
      refine RW.load1 ttok rfl rfl rfl rfl rfl ((hS34.bring 0 rfl).box) 3 rfl rfl rfl rfl ?_
      refine RW.run ttok 3 rfl ?_
      by_cases hg37 : (x0.Next == x1.Next) = true
      · skip
        rw [if_pos hg37] at hm
        refine RW.know 24 rfl (congrArg Value.bool hg37) ?_
        refine RW.run ttok 1 rfl ?_
        refine RW.load1 ttok rfl rfl rfl rfl rfl ((hS34.bring 1 rfl).box) 4 rfl rfl rfl rfl ?_
        refine RW.run ttok 1 rfl ?_
        refine RW.load1 ttok rfl rfl rfl rfl rfl ((hS34.bring 0 rfl).box) 4 rfl rfl rfl rfl ?_
        refine RW.run ttok 3 rfl ?_
        by_cases hg38 : (x0.Expected == x1.Expected) = true
        · skip
          rw [if_pos hg38] at hm
          refine RW.know 31 rfl (congrArg Value.bool hg38) ?_
          refine RW.run ttok 1 rfl ?_
          refine RW.load1 ttok rfl rfl rfl rfl rfl ((hS34.bring 1 rfl).box) 1 rfl rfl rfl rfl ?_
          refine RW.run ttok 1 rfl ?_
          refine RW.load1 ttok rfl rfl rfl rfl rfl ((hS34.bring 0 rfl).box) 1 rfl rfl rfl rfl ?_
          obtain ⟨r39, hx40, hm⟩ := bind_some hm
          refine RW.call rfl rfl rfl enters42 (slices_Equal_string_string_ok (ty22.ext hS34.ext h3) (ty22.ext hS34.ext h16) hx40) (fun v41 w42 hR43 => ?_)
          obtain ⟨rfl, hR44⟩ := hR43
          have hS45 := hS34.join hR44
          refine RW.run ttok 2 rfl ?_
          by_cases hg46 : r39 = true
          · skip
            rw [if_pos hg46] at hm
            refine RW.know 38 rfl (congrArg Value.bool hg46) ?_
            refine RW.run ttok 1 rfl ?_
            refine RW.load1 ttok rfl rfl rfl rfl rfl ((hS45.bring 1 rfl).box) 5 rfl rfl rfl rfl ?_
            refine RW.run ttok 1 rfl ?_
            refine RW.load1 ttok rfl rfl rfl rfl rfl ((hS45.bring 0 rfl).box) 5 rfl rfl rfl rfl ?_
            obtain ⟨r47, hx48, hm⟩ := bind_some hm
            refine RW.call rfl rfl rfl enters43 (slices_Equal_impl_Packet_impl_Packet_ok (ty28.ext hS45.ext h6) (ty28.ext hS45.ext h19) hx48) (fun v49 w50 hR51 => ?_)
            obtain ⟨rfl, hR52⟩ := hR51
            have hS53 := hS45.join hR52
            refine RW.run ttok 2 rfl ?_
            by_cases hg54 : r47 = true
            · skip
              rw [if_pos hg54] at hm
              refine RW.know 45 rfl (congrArg Value.bool hg54) ?_
              refine RW.run ttok 1 rfl ?_
              refine RW.load1 ttok rfl rfl rfl rfl rfl ((hS53.bring 1 rfl).box) 6 rfl rfl rfl rfl ?_
              refine RW.run ttok 1 rfl ?_
              refine RW.load1 ttok rfl rfl rfl rfl rfl ((hS53.bring 0 rfl).box) 6 rfl rfl rfl rfl ?_
              obtain ⟨r55, hx56, hm⟩ := bind_some hm
              refine RW.call rfl rfl rfl enters42 (slices_Equal_string_string_ok (ty22.ext hS53.ext h9) (ty22.ext hS53.ext h22) hx56) (fun v57 w58 hR59 => ?_)
              obtain ⟨rfl, hR60⟩ := hR59
              have hS61 := hS53.join hR60
              refine RW.run ttok 2 rfl ?_
              by_cases hg62 : r55 = true
              · skip
                rw [if_pos hg62] at hm
                refine RW.know 52 rfl (congrArg Value.bool hg62) ?_
                refine RW.run ttok 1 rfl ?_
                refine RW.load1 ttok rfl rfl rfl rfl rfl ((hS61.bring 1 rfl).box) 7 rfl rfl rfl rfl ?_
                refine RW.run ttok 1 rfl ?_
                refine RW.load1 ttok rfl rfl rfl rfl rfl ((hS61.bring 0 rfl).box) 7 rfl rfl rfl rfl ?_
                obtain ⟨r63, hx64, hm⟩ := bind_some hm
                refine RW.call rfl rfl rfl enters43 (slices_Equal_impl_Packet_impl_Packet_ok (ty28.ext hS61.ext h12) (ty28.ext hS61.ext h25) hx64) (fun v65 w66 hR67 => ?_)
                obtain ⟨rfl, hR68⟩ := hR67
                have hS69 := hS61.join hR68
                refine RW.run ttok 2 rfl ?_
                refine RW.nil ?_
                refine WP.ret ?_
                cases hm
                exact ⟨_, .cons (.tmp rfl) .nil, rfl, (hS69.taken 0)⟩
              · skip
                rw [if_neg hg62] at hm
                refine RW.know 52 rfl (congrArg Value.bool (Bool.eq_false_iff.2 hg62)) ?_
                refine RW.run ttok 7 rfl ?_
                refine RW.nil ?_
                refine WP.ret ?_
                cases hm
                exact ⟨_, .cons (.tmp rfl) .nil, rfl, (hS61.taken 0)⟩
            · skip
              rw [if_neg hg54] at hm
              refine RW.know 45 rfl (congrArg Value.bool (Bool.eq_false_iff.2 hg54)) ?_
              refine RW.run ttok 14 rfl ?_
              refine RW.nil ?_
              refine WP.ret ?_
              cases hm
              exact ⟨_, .cons (.tmp rfl) .nil, rfl, (hS53.taken 0)⟩
          · skip
            rw [if_neg hg46] at hm
            refine RW.know 38 rfl (congrArg Value.bool (Bool.eq_false_iff.2 hg46)) ?_
            refine RW.run ttok 21 rfl ?_
            refine RW.nil ?_
            refine WP.ret ?_
            cases hm
            exact ⟨_, .cons (.tmp rfl) .nil, rfl, (hS45.taken 0)⟩
        · skip
          rw [if_neg hg38] at hm
          refine RW.know 31 rfl (congrArg Value.bool (Bool.eq_false_iff.2 hg38)) ?_
          refine RW.run ttok 28 rfl ?_
          refine RW.nil ?_
          refine WP.ret ?_
          cases hm
          exact ⟨_, .cons (.tmp rfl) .nil, rfl, (hS34.taken 0)⟩
      · skip
        rw [if_neg hg37] at hm
        refine RW.know 24 rfl (congrArg Value.bool (Bool.eq_false_iff.2 hg37)) ?_
        refine RW.run ttok 35 rfl ?_
        refine RW.nil ?_
        refine WP.ret ?_
        cases hm
        exact ⟨_, .cons (.tmp rfl) .nil, rfl, (hS34.taken 0)⟩
    · skip
      rw [if_neg hg36] at hm
      refine RW.know 17 rfl (congrArg Value.bool (Bool.eq_false_iff.2 hg36)) ?_
      refine RW.run ttok 42 rfl ?_
      refine RW.nil ?_
      refine WP.ret ?_
      cases hm
      exact ⟨_, .cons (.tmp rfl) .nil, rfl, (hS34.taken 0)⟩
  · skip
    rw [if_neg hg35] at hm
    refine RW.know 10 rfl (congrArg Value.bool (Bool.eq_false_iff.2 hg35)) ?_
    refine RW.run ttok 49 rfl ?_
    refine RW.nil ?_
    refine WP.ret ?_
    cases hm
    exact ⟨_, .cons (.tmp rfl) .nil, rfl, (hS34.taken 0)⟩

theorem enters34 : Enters Try.prog 34 := ⟨_, _, Try.func34, rfl, by kernel_rfl⟩
def m_laws_eqStringS_j1 (fuel : Nat) (t2 : Unit) : Option Bool := some true
def m_laws_eqStringS_b1 (fuel : Nat) (x0 : (List ByteArray)) (x1 : (List ByteArray)) (s1 : Int) : Option (Rd (Int) (Unit) (Bool)) := (if (decide (s1 < (x0.length : Int))) = true then ((idx x0 s1).bind fun x14 => ((idx x1 s1).bind fun x20 => (if (!(seqb x14 x20)) = true then some (.ret false) else some (.next (w64 (s1 + 1)))))) else some (.brk ()))
def m_laws_eqStringS (fuel : Nat) (x0 : (List ByteArray)) (x1 : (List ByteArray)) : Option (Bool) := (if ((x0.length : Int) != (x1.length : Int)) = true then some false else ((iter (m_laws_eqStringS_b1 fuel x0 x1) fuel 0).bind fun o => aft o (m_laws_eqStringS_j1 fuel)))

set_option maxRecDepth 100000 in
theorem laws_eqStringS_ok {w : World} {A0_ : Option Addr} {k0_ : Nat} {x0 : (List ByteArray)} {A1_ : Option Addr} {k1_ : Nat} {x1 : (List ByteArray)} (h0_ : ty22.ro w [.slice A0_ x0.length k0_] x0) (h1_ : ty22.ro w [.slice A1_ x1.length k1_] x1) {fuel : Nat} {r : Bool} (hm : m_laws_eqStringS fuel x0 x1 = some r) :
    Calls Try.prog 34 ⟨[.slice A0_ x0.length k0_, .slice A1_ x1.length k1_]⟩ w (Ret fun v w8 => v = .bool r ∧ St w w8 []) := by
  refine Calls.into Try.func34 rfl 26 rfl rfl _ rfl ?_
  unfold m_laws_eqStringS at hm
  have hS := St.start w
  refine WP.seq ?_
  refine WP.region ?_
  refine RW.run ttok 1 rfl ?_
  refine RW.nil ?_
  refine WP.seq ?_
  refine WP.seq ?_
  refine WP.region ?_
  refine RW.run ttok 5 rfl ?_
  refine RW.nil ?_
  refine WP.cond ((x0.length : Int) != (x1.length : Int)) rfl (fun hc => ?_) (fun hc => ?_)
  · skip
    rw [if_pos hc] at hm
    refine WP.seq ?_
    refine WP.region ?_
    refine RW.run ttok 1 rfl ?_
    refine RW.nil ?_
    refine WP.ret ?_
    cases hm
    exact ⟨_, .cons (.tmp rfl) .nil, rfl, (hS.taken 0)⟩
  · skip
    rw [if_neg (not_t hc)] at hm
    refine WP.skip ?_
    refine WP.seq ?_
    refine WP.seq ?_
    refine WP.region ?_
    refine RW.run ttok 1 rfl ?_
    refine RW.nil ?_
    obtain ⟨o3, hl4, hm⟩ := bind_some hm
    refine WP.cut (fun (t2 : Unit) F w9 => o3 = .inl t2 ∧ St w w9 [] ∧ F = []) ?_ ?_
    · skip
      rintro t2 F w7 ⟨ho6, hS5, rfl⟩
      subst ho6
      have hm : m_laws_eqStringS_j1 fuel t2 = some r := hm
      unfold m_laws_eqStringS_j1 at hm
      refine WP.seq ?_
      refine WP.region ?_
      refine RW.run ttok 1 rfl ?_
      refine RW.nil ?_
      refine WP.ret ?_
      cases hm
      exact ⟨_, .cons (.tmp rfl) .nil, rfl, (hS5.taken 0)⟩
    · skip
      refine WP.block ?_
      refine WP.weak [(0, .slice A0_ x0.length k0_), (1, .slice A1_ x1.length k1_), (5, .int .i64 0)] ⟨rfl, rfl, rfl, trivial⟩ ?_
      refine WP.iter (fun (s1 : Int) F w9 => St w w9 [] ∧ F = [(0, .slice A0_ x0.length k0_), (1, .slice A1_ x1.length k1_), (5, .int .i64 s1)]) _ hl4 ⟨(hS.taken 0), rfl⟩ ?_
      rintro s1 F w12 _ o10 ⟨hS11, rfl⟩ hb8 ho9
      unfold m_laws_eqStringS_b1 at hb8
      refine WP.seq ?_
      refine WP.seq ?_
      refine WP.region ?_
      refine RW.run ttok 4 rfl ?_
      refine RW.nil ?_
      refine WP.cond (decide (s1 < (x0.length : Int))) rfl (fun hc => ?_) (fun hc => ?_)
      · skip
        rw [if_pos hc] at hb8
        refine WP.skip ?_
        refine WP.seq ?_
        refine WP.block ?_
        refine WP.seq ?_
        refine WP.drawn mixed 9 rfl (by kernel_rfl) ?_
        have hS13 := hS11.step (Ext.draw _)
        refine DW.run (fuel := 5) ttok [0, 1, 4, 5] (by kernel_rfl) rfl ?_
        obtain ⟨x14, hx15, hb8⟩ := bind_some hb8
        refine DW.idx ttok 2 rfl (by kernel_rfl) rfl rfl rfl rfl rfl rfl (by decide) rfl rfl (ty22.ext hS11.ext h0_) (idx_some hx15).1 (idx_some hx15).2 rfl rfl (fun p16 es17 ha18 hr19 => ?_)
        cases hr19
        refine DW.load1 ttok 3 rfl (by kernel_rfl) rfl rfl rfl rfl rfl ha18 0 rfl rfl rfl rfl ?_
        obtain ⟨x20, hx21, hb8⟩ := bind_some hb8
        refine DW.idx ttok 6 rfl (by kernel_rfl) rfl rfl rfl rfl rfl rfl (by decide) rfl rfl (ty22.ext hS11.ext h1_) (idx_some hx21).1 (idx_some hx21).2 rfl rfl (fun p22 es23 ha24 hr25 => ?_)
        cases hr25
        refine DW.load1 ttok 7 rfl (by kernel_rfl) rfl rfl rfl rfl rfl ha24 0 rfl rfl rfl rfl ?_
        refine DW.run (fuel := 0) ttok [8] (by kernel_rfl) rfl ?_
        refine DW.done (by kernel_rfl) (fun _ => ?_)
        refine WP.cond (!(seqb x14 x20)) rfl (fun hc => ?_) (fun hc => ?_)
        · skip
          rw [if_pos hc] at hb8
          refine WP.seq ?_
          refine WP.region ?_
          refine RW.run ttok 1 rfl ?_
          refine RW.nil ?_
          refine WP.ret ?_
          cases hb8
          cases ho9
          have hm : some _ = some _ := hm
          cases hm
          exact ⟨_, .cons (.tmp rfl) .nil, rfl, (hS13.taken 0)⟩
        · skip
          rw [if_neg (not_t hc)] at hb8
          refine WP.skip ?_
          refine WP.region ?_
          refine RW.run ttok 3 rfl ?_
          refine RW.nil ?_
          cases hb8
          exact ⟨_, [(0, .slice A0_ x0.length k0_), (1, .slice A1_ x1.length k1_), (5, .int .i64 (w64 (s1 + 1)))], ⟨rfl, rfl, rfl, trivial⟩, rfl, (hS13.taken 0), rfl⟩
      · skip
        rw [if_neg (not_t hc)] at hb8
        refine WP.exit ?_
        cases hb8
        exact ⟨_, [], trivial, ho9, (hS11.taken 0), rfl⟩

theorem enters87 : Enters Try.prog 87 := ⟨_, _, Try.func87, rfl, by kernel_rfl⟩
def m_laws_eqPacket (fuel : Nat) (x0 : D.Packet) (x1 : D.Packet) : Option (Bool) := (if (!(x0.Ack == x1.Ack)) = true then some false else (if (x0.Number != x1.Number) = true then some false else (if (!(seqb x0.Text x1.Text)) = true then some false else some true)))

set_option maxRecDepth 100000 in
theorem laws_eqPacket_ok {w : World} {c0_ : List Value} {x0 : D.Packet} {c1_ : List Value} {x1 : D.Packet} (h0_ : ty66.ro w c0_ x0) (h1_ : ty66.ro w c1_ x1) {fuel : Nat} {r : Bool} (hm : m_laws_eqPacket fuel x0 x1 = some r) :
    Calls Try.prog 87 ⟨[.agg ⟨c0_⟩, .agg ⟨c1_⟩]⟩ w (Ret fun v w8 => v = .bool r ∧ St w w8 []) := by
  have e1 := ty66_open h0_; subst e1
  have e2 := ty66_open h1_; subst e2
  refine Calls.into Try.func87 rfl 20 rfl rfl _ rfl ?_
  unfold m_laws_eqPacket at hm
  have hS := St.start w
  refine WP.seq ?_
  refine WP.region ?_
  refine RW.new ttok hS rfl rfl rfl rfl (fun g3 w4 e5 hS6 => ?_)
  refine RW.new ttok hS6 rfl rfl rfl rfl (fun g7 w8 e9 hS10 => ?_)
  refine RW.run ttok 1 rfl ?_
  refine RW.nil ?_
  refine WP.seq ?_
  refine WP.seq ?_
  refine WP.region ?_
  refine RW.run ttok 1 rfl ?_
  refine RW.load1 ttok rfl rfl rfl rfl rfl ((hS10.bring 1 rfl).box) 0 rfl rfl rfl rfl ?_
  refine RW.run ttok 1 rfl ?_
  refine RW.load1 ttok rfl rfl rfl rfl rfl ((hS10.bring 0 rfl).box) 0 rfl rfl rfl rfl ?_
  refine RW.run ttok 1 rfl ?_
  refine RW.nil ?_
  refine WP.cond (!(x0.Ack == x1.Ack)) rfl (fun hc => ?_) (fun hc => ?_)
  · skip
    rw [if_pos hc] at hm
    refine WP.seq ?_
    refine WP.region ?_
    refine RW.run ttok 1 rfl ?_
    refine RW.nil ?_
    refine WP.ret ?_
    cases hm
    exact ⟨_, .cons (.tmp rfl) .nil, rfl, (hS10.taken 0)⟩
  · skip
    rw [if_neg (not_t hc)] at hm
    refine WP.skip ?_
    refine WP.seq ?_
    refine WP.seq ?_
    refine WP.region ?_
    refine RW.run ttok 1 rfl ?_
    refine RW.load1 ttok rfl rfl rfl rfl rfl ((hS10.bring 1 rfl).box) 1 rfl rfl rfl rfl ?_
    refine RW.run ttok 1 rfl ?_
    refine RW.load1 ttok rfl rfl rfl rfl rfl ((hS10.bring 0 rfl).box) 1 rfl rfl rfl rfl ?_
    refine RW.run ttok 1 rfl ?_
    refine RW.nil ?_
    refine WP.cond (x0.Number != x1.Number) rfl (fun hc => ?_) (fun hc => ?_)
    · skip
      rw [if_pos hc] at hm
      refine WP.seq ?_
      refine WP.region ?_
      refine RW.run ttok 1 rfl ?_
      refine RW.nil ?_
      refine WP.ret ?_
      cases hm
      exact ⟨_, .cons (.tmp rfl) .nil, rfl, (hS10.taken 0)⟩
    · skip
      rw [if_neg (not_t hc)] at hm
      refine WP.skip ?_
      refine WP.seq ?_
      refine WP.seq ?_
      refine WP.region ?_
      refine RW.run ttok 1 rfl ?_
      refine RW.load1 ttok rfl rfl rfl rfl rfl ((hS10.bring 1 rfl).box) 2 rfl rfl rfl rfl ?_
      refine RW.run ttok 1 rfl ?_
      refine RW.load1 ttok rfl rfl rfl rfl rfl ((hS10.bring 0 rfl).box) 2 rfl rfl rfl rfl ?_
      refine RW.run ttok 1 rfl ?_
      refine RW.nil ?_
      refine WP.cond (!(seqb x0.Text x1.Text)) rfl (fun hc => ?_) (fun hc => ?_)
      · skip
        rw [if_pos hc] at hm
        refine WP.seq ?_
        refine WP.region ?_
        refine RW.run ttok 1 rfl ?_
        refine RW.nil ?_
        refine WP.ret ?_
        cases hm
        exact ⟨_, .cons (.tmp rfl) .nil, rfl, (hS10.taken 0)⟩
      · skip
        rw [if_neg (not_t hc)] at hm
        refine WP.skip ?_
        refine WP.seq ?_
        refine WP.region ?_
        refine RW.run ttok 1 rfl ?_
        refine RW.nil ?_
        refine WP.ret ?_
        cases hm
        exact ⟨_, .cons (.tmp rfl) .nil, rfl, (hS10.taken 0)⟩

theorem enters44 : Enters Try.prog 44 := ⟨_, _, Try.func44, rfl, by kernel_rfl⟩
def m_laws_eqPacketS_j1 (fuel : Nat) (t2 : Unit) : Option Bool := some true
def m_laws_eqPacketS_b1 (fuel : Nat) (x0 : (List D.Packet)) (x1 : (List D.Packet)) (s1 : Int) : Option (Rd (Int) (Unit) (Bool)) := (if (decide (s1 < (x0.length : Int))) = true then ((idx x0 s1).bind fun x14 => ((idx x1 s1).bind fun x21 => ((m_laws_eqPacket fuel x14 x21).bind fun r28 => (if (!r28) = true then some (.ret false) else some (.next (w64 (s1 + 1))))))) else some (.brk ()))
def m_laws_eqPacketS (fuel : Nat) (x0 : (List D.Packet)) (x1 : (List D.Packet)) : Option (Bool) := (if ((x0.length : Int) != (x1.length : Int)) = true then some false else ((iter (m_laws_eqPacketS_b1 fuel x0 x1) fuel 0).bind fun o => aft o (m_laws_eqPacketS_j1 fuel)))

set_option maxRecDepth 100000 in
theorem laws_eqPacketS_ok {w : World} {A0_ : Option Addr} {k0_ : Nat} {x0 : (List D.Packet)} {A1_ : Option Addr} {k1_ : Nat} {x1 : (List D.Packet)} (h0_ : ty28.ro w [.slice A0_ x0.length k0_] x0) (h1_ : ty28.ro w [.slice A1_ x1.length k1_] x1) {fuel : Nat} {r : Bool} (hm : m_laws_eqPacketS fuel x0 x1 = some r) :
    Calls Try.prog 44 ⟨[.slice A0_ x0.length k0_, .slice A1_ x1.length k1_]⟩ w (Ret fun v w8 => v = .bool r ∧ St w w8 []) := by
  refine Calls.into Try.func44 rfl 27 rfl rfl _ rfl ?_
  unfold m_laws_eqPacketS at hm
  have hS := St.start w
  refine WP.seq ?_
  refine WP.region ?_
  refine RW.run ttok 1 rfl ?_
  refine RW.nil ?_
  refine WP.seq ?_
  refine WP.seq ?_
  refine WP.region ?_
  refine RW.run ttok 5 rfl ?_
  refine RW.nil ?_
  refine WP.cond ((x0.length : Int) != (x1.length : Int)) rfl (fun hc => ?_) (fun hc => ?_)
  · skip
    rw [if_pos hc] at hm
    refine WP.seq ?_
    refine WP.region ?_
    refine RW.run ttok 1 rfl ?_
    refine RW.nil ?_
    refine WP.ret ?_
    cases hm
    exact ⟨_, .cons (.tmp rfl) .nil, rfl, (hS.taken 0)⟩
  · skip
    rw [if_neg (not_t hc)] at hm
    refine WP.skip ?_
    refine WP.seq ?_
    refine WP.seq ?_
    refine WP.region ?_
    refine RW.run ttok 1 rfl ?_
    refine RW.nil ?_
    obtain ⟨o3, hl4, hm⟩ := bind_some hm
    refine WP.cut (fun (t2 : Unit) F w9 => o3 = .inl t2 ∧ St w w9 [] ∧ F = []) ?_ ?_
    · skip
      rintro t2 F w7 ⟨ho6, hS5, rfl⟩
      subst ho6
      have hm : m_laws_eqPacketS_j1 fuel t2 = some r := hm
      unfold m_laws_eqPacketS_j1 at hm
      refine WP.seq ?_
      refine WP.region ?_
      refine RW.run ttok 1 rfl ?_
      refine RW.nil ?_
      refine WP.ret ?_
      cases hm
      exact ⟨_, .cons (.tmp rfl) .nil, rfl, (hS5.taken 0)⟩
    · skip
      refine WP.block ?_
      refine WP.weak [(0, .slice A0_ x0.length k0_), (1, .slice A1_ x1.length k1_), (5, .int .i64 0)] ⟨rfl, rfl, rfl, trivial⟩ ?_
      refine WP.iter (fun (s1 : Int) F w9 => St w w9 [] ∧ F = [(0, .slice A0_ x0.length k0_), (1, .slice A1_ x1.length k1_), (5, .int .i64 s1)]) _ hl4 ⟨(hS.taken 0), rfl⟩ ?_
      rintro s1 F w12 _ o10 ⟨hS11, rfl⟩ hb8 ho9
      unfold m_laws_eqPacketS_b1 at hb8
      refine WP.seq ?_
      refine WP.seq ?_
      refine WP.region ?_
      refine RW.run ttok 4 rfl ?_
      refine RW.nil ?_
      refine WP.cond (decide (s1 < (x0.length : Int))) rfl (fun hc => ?_) (fun hc => ?_)
      · skip
        rw [if_pos hc] at hb8
        refine WP.skip ?_
        refine WP.seq ?_
        refine WP.block ?_
        refine WP.seq ?_
        refine WP.drawn mixed 10 rfl (by kernel_rfl) ?_
        have hS13 := hS11.step (Ext.draw _)
        refine DW.run (fuel := 6) ttok [0, 1, 4, 5] (by kernel_rfl) rfl ?_
        obtain ⟨x14, hx15, hb8⟩ := bind_some hb8
        refine DW.idx ttok 2 rfl (by kernel_rfl) rfl rfl rfl rfl rfl rfl (by decide) rfl rfl (ty28.ext hS11.ext h0_) (idx_some hx15).1 (idx_some hx15).2 rfl rfl (fun p16 es17 ha18 hr19 => ?_)
        have e20 := ty66_open hr19; subst e20
        refine DW.loadN ttok 3 rfl (by kernel_rfl) rfl rfl rfl rfl rfl ha18 rfl rfl rfl ?_
        obtain ⟨x21, hx22, hb8⟩ := bind_some hb8
        refine DW.idx ttok 6 rfl (by kernel_rfl) rfl rfl rfl rfl rfl rfl (by decide) rfl rfl (ty28.ext hS11.ext h1_) (idx_some hx22).1 (idx_some hx22).2 rfl rfl (fun p23 es24 ha25 hr26 => ?_)
        have e27 := ty66_open hr26; subst e27
        refine DW.loadN ttok 7 rfl (by kernel_rfl) rfl rfl rfl rfl rfl ha25 rfl rfl rfl ?_
        obtain ⟨r28, hx29, hb8⟩ := bind_some hb8
        refine DW.one 8 (by kernel_rfl) (LW.call rfl rfl rfl rfl enters87 (laws_eqPacket_ok (ty66.ext (Ext.draw _) hr19) (ty66.ext (Ext.draw _) hr26) hx29) (fun v30 w31 hR32 => ?_))
        obtain ⟨rfl, hR33⟩ := hR32
        refine ⟨hR33.ext, ?_⟩
        have hS34 := hS13.join hR33
        refine DW.run (fuel := 0) ttok [9] (by kernel_rfl) rfl ?_
        refine DW.done (by kernel_rfl) (fun _ => ?_)
        refine WP.cond (!r28) rfl (fun hc => ?_) (fun hc => ?_)
        · skip
          rw [if_pos hc] at hb8
          refine WP.seq ?_
          refine WP.region ?_
          refine RW.run ttok 1 rfl ?_
          refine RW.nil ?_
          refine WP.ret ?_
          cases hb8
          cases ho9
          have hm : some _ = some _ := hm
          cases hm
          exact ⟨_, .cons (.tmp rfl) .nil, rfl, (hS34.taken 0)⟩
        · skip
          rw [if_neg (not_t hc)] at hb8
          refine WP.skip ?_
          refine WP.region ?_
          refine RW.run ttok 3 rfl ?_
          refine RW.nil ?_
          cases hb8
          exact ⟨_, [(0, .slice A0_ x0.length k0_), (1, .slice A1_ x1.length k1_), (5, .int .i64 (w64 (s1 + 1)))], ⟨rfl, rfl, rfl, trivial⟩, rfl, (hS34.taken 0), rfl⟩
      · skip
        rw [if_neg (not_t hc)] at hb8
        refine WP.exit ?_
        cases hb8
        exact ⟨_, [], trivial, ho9, (hS11.taken 0), rfl⟩

theorem enters13 : Enters Try.prog 13 := ⟨_, _, Try.func13, rfl, by kernel_rfl⟩
def m_laws_eqChannel (fuel : Nat) (x0 : D.Channel) (x1 : D.Channel) : Option (Bool) := (if (x0.Window != x1.Window) = true then some false else ((m_laws_eqStringS fuel x0.Messages x1.Messages).bind fun r35 => (if (!r35) = true then some false else (if (x0.Base != x1.Base) = true then some false else (if (x0.Next != x1.Next) = true then some false else (if (x0.Expected != x1.Expected) = true then some false else ((m_laws_eqPacketS fuel x0.Early x1.Early).bind fun r42 => (if (!r42) = true then some false else ((m_laws_eqStringS fuel x0.Delivered x1.Delivered).bind fun r49 => (if (!r49) = true then some false else ((m_laws_eqPacketS fuel x0.Flight x1.Flight).bind fun r56 => (if (!r56) = true then some false else some true))))))))))))

set_option maxRecDepth 100000 in
theorem laws_eqChannel_ok {w : World} {c0_ : List Value} {x0 : D.Channel} {c1_ : List Value} {x1 : D.Channel} (h0_ : ty30.ro w c0_ x0) (h1_ : ty30.ro w c1_ x1) {fuel : Nat} {r : Bool} (hm : m_laws_eqChannel fuel x0 x1 = some r) :
    Calls Try.prog 13 ⟨[.agg ⟨c0_⟩, .agg ⟨c1_⟩]⟩ w (Ret fun v w8 => v = .bool r ∧ St w w8 []) := by
  obtain ⟨A1, k2, A4, k5, A7, k8, A10, k11, e13, h3, h6, h9, h12⟩ := ty30_open h0_; subst e13
  obtain ⟨A14, k15, A17, k18, A20, k21, A23, k24, e26, h16, h19, h22, h25⟩ := ty30_open h1_; subst e26
  refine Calls.into Try.func13 rfl 49 rfl rfl _ rfl ?_
  unfold m_laws_eqChannel at hm
  have hS := St.start w
  refine WP.seq ?_
  refine WP.region ?_
  refine RW.new ttok hS rfl rfl rfl rfl (fun g27 w28 e29 hS30 => ?_)
  refine RW.new ttok hS30 rfl rfl rfl rfl (fun g31 w32 e33 hS34 => ?_)
  refine RW.run ttok 1 rfl ?_
  refine RW.nil ?_
  refine WP.seq ?_
  refine WP.seq ?_
  refine WP.region ?_
  refine RW.run ttok 1 rfl ?_
  refine RW.load1 ttok rfl rfl rfl rfl rfl ((hS34.bring 1 rfl).box) 0 rfl rfl rfl rfl ?_
  refine RW.run ttok 1 rfl ?_
  refine RW.load1 ttok rfl rfl rfl rfl rfl ((hS34.bring 0 rfl).box) 0 rfl rfl rfl rfl ?_
  refine RW.run ttok 1 rfl ?_
  refine RW.nil ?_
  refine WP.cond (x0.Window != x1.Window) rfl (fun hc => ?_) (fun hc => ?_)
  · skip
    rw [if_pos hc] at hm
    refine WP.seq ?_
    refine WP.region ?_
    refine RW.run ttok 1 rfl ?_
    refine RW.nil ?_
    refine WP.ret ?_
    cases hm
    exact ⟨_, .cons (.tmp rfl) .nil, rfl, (hS34.taken 0)⟩
  · skip
    rw [if_neg (not_t hc)] at hm
    refine WP.skip ?_
    refine WP.seq ?_
    refine WP.seq ?_
    refine WP.region ?_
    refine RW.run ttok 1 rfl ?_
    refine RW.load1 ttok rfl rfl rfl rfl rfl ((hS34.bring 1 rfl).box) 1 rfl rfl rfl rfl ?_
    refine RW.run ttok 1 rfl ?_
    refine RW.load1 ttok rfl rfl rfl rfl rfl ((hS34.bring 0 rfl).box) 1 rfl rfl rfl rfl ?_
    obtain ⟨r35, hx36, hm⟩ := bind_some hm
    refine RW.call rfl rfl rfl enters34 (laws_eqStringS_ok (ty22.ext hS34.ext h3) (ty22.ext hS34.ext h16) hx36) (fun v37 w38 hR39 => ?_)
    obtain ⟨rfl, hR40⟩ := hR39
    have hS41 := hS34.join hR40
    refine RW.run ttok 1 rfl ?_
    refine RW.nil ?_
    refine WP.cond (!r35) rfl (fun hc => ?_) (fun hc => ?_)
    · skip
      rw [if_pos hc] at hm
      refine WP.seq ?_
      refine WP.region ?_
      refine RW.run ttok 1 rfl ?_
      refine RW.nil ?_
      refine WP.ret ?_
      cases hm
      exact ⟨_, .cons (.tmp rfl) .nil, rfl, (hS41.taken 0)⟩
    · skip
      rw [if_neg (not_t hc)] at hm
      refine WP.skip ?_
      refine WP.seq ?_
      refine WP.seq ?_
      refine WP.region ?_
      refine RW.run ttok 1 rfl ?_
      refine RW.load1 ttok rfl rfl rfl rfl rfl ((hS41.bring 1 rfl).box) 2 rfl rfl rfl rfl ?_
      refine RW.run ttok 1 rfl ?_
      refine RW.load1 ttok rfl rfl rfl rfl rfl ((hS41.bring 0 rfl).box) 2 rfl rfl rfl rfl ?_
      refine RW.run ttok 1 rfl ?_
      refine RW.nil ?_
      refine WP.cond (x0.Base != x1.Base) rfl (fun hc => ?_) (fun hc => ?_)
      · skip
        rw [if_pos hc] at hm
        refine WP.seq ?_
        refine WP.region ?_
        refine RW.run ttok 1 rfl ?_
        refine RW.nil ?_
        refine WP.ret ?_
        cases hm
        exact ⟨_, .cons (.tmp rfl) .nil, rfl, (hS41.taken 0)⟩
      · skip
        rw [if_neg (not_t hc)] at hm
        refine WP.skip ?_
        refine WP.seq ?_
        refine WP.seq ?_
        refine WP.region ?_
        refine RW.run ttok 1 rfl ?_
        refine RW.load1 ttok rfl rfl rfl rfl rfl ((hS41.bring 1 rfl).box) 3 rfl rfl rfl rfl ?_
        refine RW.run ttok 1 rfl ?_
        refine RW.load1 ttok rfl rfl rfl rfl rfl ((hS41.bring 0 rfl).box) 3 rfl rfl rfl rfl ?_
        refine RW.run ttok 1 rfl ?_
        refine RW.nil ?_
        refine WP.cond (x0.Next != x1.Next) rfl (fun hc => ?_) (fun hc => ?_)
        · skip
          rw [if_pos hc] at hm
          refine WP.seq ?_
          refine WP.region ?_
          refine RW.run ttok 1 rfl ?_
          refine RW.nil ?_
          refine WP.ret ?_
          cases hm
          exact ⟨_, .cons (.tmp rfl) .nil, rfl, (hS41.taken 0)⟩
        · skip
          rw [if_neg (not_t hc)] at hm
          refine WP.skip ?_
          refine WP.seq ?_
          refine WP.seq ?_
          refine WP.region ?_
          refine RW.run ttok 1 rfl ?_
          refine RW.load1 ttok rfl rfl rfl rfl rfl ((hS41.bring 1 rfl).box) 4 rfl rfl rfl rfl ?_
          refine RW.run ttok 1 rfl ?_
          refine RW.load1 ttok rfl rfl rfl rfl rfl ((hS41.bring 0 rfl).box) 4 rfl rfl rfl rfl ?_
          refine RW.run ttok 1 rfl ?_
          refine RW.nil ?_
          refine WP.cond (x0.Expected != x1.Expected) rfl (fun hc => ?_) (fun hc => ?_)
          · skip
            rw [if_pos hc] at hm
            refine WP.seq ?_
            refine WP.region ?_
            refine RW.run ttok 1 rfl ?_
            refine RW.nil ?_
            refine WP.ret ?_
            cases hm
            exact ⟨_, .cons (.tmp rfl) .nil, rfl, (hS41.taken 0)⟩
          · skip
            rw [if_neg (not_t hc)] at hm
            refine WP.skip ?_
            refine WP.seq ?_
            refine WP.seq ?_
            refine WP.region ?_
            refine RW.run ttok 1 rfl ?_
            refine RW.load1 ttok rfl rfl rfl rfl rfl ((hS41.bring 1 rfl).box) 5 rfl rfl rfl rfl ?_
            refine RW.run ttok 1 rfl ?_
            refine RW.load1 ttok rfl rfl rfl rfl rfl ((hS41.bring 0 rfl).box) 5 rfl rfl rfl rfl ?_
            obtain ⟨r42, hx43, hm⟩ := bind_some hm
            refine RW.call rfl rfl rfl enters44 (laws_eqPacketS_ok (ty28.ext hS41.ext h6) (ty28.ext hS41.ext h19) hx43) (fun v44 w45 hR46 => ?_)
            obtain ⟨rfl, hR47⟩ := hR46
            have hS48 := hS41.join hR47
            refine RW.run ttok 1 rfl ?_
            refine RW.nil ?_
            refine WP.cond (!r42) rfl (fun hc => ?_) (fun hc => ?_)
            · skip
              rw [if_pos hc] at hm
              refine WP.seq ?_
              refine WP.region ?_
              refine RW.run ttok 1 rfl ?_
              refine RW.nil ?_
              refine WP.ret ?_
              cases hm
              exact ⟨_, .cons (.tmp rfl) .nil, rfl, (hS48.taken 0)⟩
            · skip
              rw [if_neg (not_t hc)] at hm
              refine WP.skip ?_
              refine WP.seq ?_
              refine WP.seq ?_
              refine WP.region ?_
              refine RW.run ttok 1 rfl ?_
              refine RW.load1 ttok rfl rfl rfl rfl rfl ((hS48.bring 1 rfl).box) 6 rfl rfl rfl rfl ?_
              refine RW.run ttok 1 rfl ?_
              refine RW.load1 ttok rfl rfl rfl rfl rfl ((hS48.bring 0 rfl).box) 6 rfl rfl rfl rfl ?_
              obtain ⟨r49, hx50, hm⟩ := bind_some hm
              refine RW.call rfl rfl rfl enters34 (laws_eqStringS_ok (ty22.ext hS48.ext h9) (ty22.ext hS48.ext h22) hx50) (fun v51 w52 hR53 => ?_)
              obtain ⟨rfl, hR54⟩ := hR53
              have hS55 := hS48.join hR54
              refine RW.run ttok 1 rfl ?_
              refine RW.nil ?_
              refine WP.cond (!r49) rfl (fun hc => ?_) (fun hc => ?_)
              · skip
                rw [if_pos hc] at hm
                refine WP.seq ?_
                refine WP.region ?_
                refine RW.run ttok 1 rfl ?_
                refine RW.nil ?_
                refine WP.ret ?_
                cases hm
                exact ⟨_, .cons (.tmp rfl) .nil, rfl, (hS55.taken 0)⟩
              · skip
                rw [if_neg (not_t hc)] at hm
                refine WP.skip ?_
                refine WP.seq ?_
                refine WP.seq ?_
                refine WP.region ?_
                refine RW.run ttok 1 rfl ?_
                refine RW.load1 ttok rfl rfl rfl rfl rfl ((hS55.bring 1 rfl).box) 7 rfl rfl rfl rfl ?_
                refine RW.run ttok 1 rfl ?_
                refine RW.load1 ttok rfl rfl rfl rfl rfl ((hS55.bring 0 rfl).box) 7 rfl rfl rfl rfl ?_
                obtain ⟨r56, hx57, hm⟩ := bind_some hm
                refine RW.call rfl rfl rfl enters44 (laws_eqPacketS_ok (ty28.ext hS55.ext h12) (ty28.ext hS55.ext h25) hx57) (fun v58 w59 hR60 => ?_)
                obtain ⟨rfl, hR61⟩ := hR60
                have hS62 := hS55.join hR61
                refine RW.run ttok 1 rfl ?_
                refine RW.nil ?_
                refine WP.cond (!r56) rfl (fun hc => ?_) (fun hc => ?_)
                · skip
                  rw [if_pos hc] at hm
                  refine WP.seq ?_
                  refine WP.region ?_
                  refine RW.run ttok 1 rfl ?_
                  refine RW.nil ?_
                  refine WP.ret ?_
                  cases hm
                  exact ⟨_, .cons (.tmp rfl) .nil, rfl, (hS62.taken 0)⟩
                · skip
                  rw [if_neg (not_t hc)] at hm
                  refine WP.skip ?_
                  refine WP.seq ?_
                  refine WP.region ?_
                  refine RW.run ttok 1 rfl ?_
                  refine RW.nil ?_
                  refine WP.ret ?_
                  cases hm
                  exact ⟨_, .cons (.tmp rfl) .nil, rfl, (hS62.taken 0)⟩

theorem enters3 : Enters Try.prog 3 := ⟨_, _, Try.func3, rfl, by kernel_rfl⟩
def m_laws_FnExactSameChannel (fuel : Nat) (x0 : D.Channel) (x1 : D.Channel) : Option (Bool) := ((m_laws_szChannel fuel x0 1048576).bind fun r35 => (if (decide (r35 < 0)) = true then some true else ((m_laws_szChannel fuel x1 r35).bind fun r42 => (if (decide (r42 < 0)) = true then some true else ((m_laws_toChannel fuel x0).bind fun r50 => ((m_laws_toChannel fuel x1).bind fun r65 => ((m_spec_SameChannel fuel r50 r65).bind fun r80 => ((m_laws_toChannel fuel x0).bind fun r87 => ((m_laws_toChannel fuel x1).bind fun r109 => ((m_impl_SameChannel fuel r87 r109).bind fun r131 => (if (!(r131 == r80)) = true then some false else ((m_laws_toChannel fuel x0).bind fun r139 => ((m_laws_eqChannel fuel r87 r139).bind fun r154 => (if (!r154) = true then some false else ((m_laws_toChannel fuel x1).bind fun r162 => ((m_laws_eqChannel fuel r109 r162).bind fun r177 => (if (!r177) = true then some false else some true)))))))))))))))))

set_option maxRecDepth 100000 in
theorem laws_FnExactSameChannel_ok {w : World} {c0_ : List Value} {x0 : D.Channel} {c1_ : List Value} {x1 : D.Channel} (h0_ : ty25.ro w c0_ x0) (h1_ : ty25.ro w c1_ x1) {fuel : Nat} {r : Bool} (hm : m_laws_FnExactSameChannel fuel x0 x1 = some r) :
    Calls Try.prog 3 ⟨[.agg ⟨c0_⟩, .agg ⟨c1_⟩]⟩ w (Ret fun v w8 => v = .bool r ∧ St w w8 []) := by
  obtain ⟨A1, k2, A4, k5, A7, k8, A10, k11, e13, h3, h6, h9, h12⟩ := ty25_open h0_; subst e13
  obtain ⟨A14, k15, A17, k18, A20, k21, A23, k24, e26, h16, h19, h22, h25⟩ := ty25_open h1_; subst e26
  refine Calls.into Try.func3 rfl 45 rfl rfl _ rfl ?_
  unfold m_laws_FnExactSameChannel at hm
  have hS := St.start w
  refine WP.seq ?_
  refine WP.region ?_
  refine RW.new ttok hS rfl rfl rfl rfl (fun g27 w28 e29 hS30 => ?_)
  refine RW.new ttok hS30 rfl rfl rfl rfl (fun g31 w32 e33 hS34 => ?_)
  refine RW.run ttok 1 rfl ?_
  refine RW.nil ?_
  refine WP.seq ?_
  refine WP.region ?_
  refine RW.run ttok 1 rfl ?_
  refine RW.nil ?_
  refine WP.seq ?_
  refine WP.region ?_
  refine RW.loadN ttok rfl rfl rfl rfl rfl ((hS34.bring 1 rfl).box) rfl rfl rfl ?_
  refine RW.run ttok 1 rfl ?_
  obtain ⟨r35, hx36, hm⟩ := bind_some hm
  refine RW.call rfl rfl rfl enters9 (laws_szChannel_ok (ty25.ext hS34.ext h0_) hx36) (fun v37 w38 hR39 => ?_)
  obtain ⟨rfl, hR40⟩ := hR39
  have hS41 := hS34.join hR40
  refine RW.run ttok 1 rfl ?_
  refine RW.nil ?_
  refine WP.seq ?_
  refine WP.seq ?_
  refine WP.region ?_
  refine RW.run ttok 2 rfl ?_
  refine RW.nil ?_
  refine WP.cond (decide (r35 < 0)) rfl (fun hc => ?_) (fun hc => ?_)
  · skip
    rw [if_pos hc] at hm
    refine WP.seq ?_
    refine WP.region ?_
    refine RW.run ttok 1 rfl ?_
    refine RW.nil ?_
    refine WP.ret ?_
    cases hm
    exact ⟨_, .cons (.tmp rfl) .nil, rfl, (hS41.taken 0)⟩
  · skip
    rw [if_neg (not_t hc)] at hm
    refine WP.skip ?_
    refine WP.seq ?_
    refine WP.region ?_
    refine RW.loadN ttok rfl rfl rfl rfl rfl ((hS41.bring 0 rfl).box) rfl rfl rfl ?_
    refine RW.run ttok 1 rfl ?_
    obtain ⟨r42, hx43, hm⟩ := bind_some hm
    refine RW.call rfl rfl rfl enters9 (laws_szChannel_ok (ty25.ext hS41.ext h1_) hx43) (fun v44 w45 hR46 => ?_)
    obtain ⟨rfl, hR47⟩ := hR46
    have hS48 := hS41.join hR47
    refine RW.run ttok 1 rfl ?_
    refine RW.nil ?_
    refine WP.seq ?_
    refine WP.seq ?_
    refine WP.region ?_
    refine RW.run ttok 2 rfl ?_
    refine RW.nil ?_
    refine WP.cond (decide (r42 < 0)) rfl (fun hc => ?_) (fun hc => ?_)
    · skip
      rw [if_pos hc] at hm
      refine WP.seq ?_
      refine WP.region ?_
      refine RW.run ttok 1 rfl ?_
      refine RW.nil ?_
      refine WP.ret ?_
      cases hm
      exact ⟨_, .cons (.tmp rfl) .nil, rfl, (hS48.taken 0)⟩
    · skip
      rw [if_neg (not_t hc)] at hm
      refine WP.skip ?_
      refine WP.seq ?_
      refine WP.drawn mixed 6 rfl (by kernel_rfl) ?_
      have hS49 := hS48.step (Ext.draw _)
      refine DW.loadN ttok 0 rfl (by kernel_rfl) rfl rfl rfl rfl rfl ((hS48.bring 1 rfl).box) rfl rfl rfl ?_
      refine DW.loadN ttok 2 rfl (by kernel_rfl) rfl rfl rfl rfl rfl ((hS48.bring 0 rfl).box) rfl rfl rfl ?_
      obtain ⟨r50, hx51, hm⟩ := bind_some hm
      refine DW.one 1 (by kernel_rfl) (LW.call rfl rfl rfl rfl enters11 (laws_toChannel_ok (ty25.ext hS49.ext h0_) hx51) (fun v52 w53 hR54 => ?_))
      obtain ⟨A55, k56, A57, k58, A59, k60, A61, k62, rfl, hR63⟩ := hR54
      refine ⟨hR63.ext, ?_⟩
      have hS64 := hS49.join hR63
      obtain ⟨r65, hx66, hm⟩ := bind_some hm
      refine DW.one 3 (by kernel_rfl) (LW.call rfl rfl rfl rfl enters11 (laws_toChannel_ok (ty25.ext hS64.ext h1_) hx66) (fun v67 w68 hR69 => ?_))
      obtain ⟨A70, k71, A72, k73, A74, k75, A76, k77, rfl, hR78⟩ := hR69
      refine ⟨hR78.ext, ?_⟩
      have hS79 := hS64.join hR78
      obtain ⟨r80, hx81, hm⟩ := bind_some hm
      refine DW.one 4 (by kernel_rfl) (LW.call rfl rfl rfl rfl enters10 (spec_SameChannel_ok (ty30_shut r50 ((hS79.bring 4 rfl).own) ((hS79.bring 5 rfl).own) ((hS79.bring 6 rfl).own) ((hS79.bring 7 rfl).own)) (ty30_shut r65 ((hS79.bring 0 rfl).own) ((hS79.bring 1 rfl).own) ((hS79.bring 2 rfl).own) ((hS79.bring 3 rfl).own)) hx81) (fun v82 w83 hR84 => ?_))
      obtain ⟨rfl, hR85⟩ := hR84
      refine ⟨hR85.ext, ?_⟩
      have hS86 := hS79.join hR85
      refine DW.run (fuel := 0) ttok [5] (by kernel_rfl) rfl ?_
      refine DW.done (by kernel_rfl) (fun _ => ?_)
      refine WP.seq ?_
      refine WP.region ?_
      refine RW.loadN ttok rfl rfl rfl rfl rfl ((hS86.bring 9 rfl).box) rfl rfl rfl ?_
      obtain ⟨r87, hx88, hm⟩ := bind_some hm
      refine RW.call rfl rfl rfl enters11 (laws_toChannel_ok (ty25.ext hS86.ext h0_) hx88) (fun v89 w90 hR91 => ?_)
      obtain ⟨A92, k93, A94, k95, A96, k97, A98, k99, rfl, hR100⟩ := hR91
      have hS101 := hS86.join hR100
      refine RW.new ttok hS101 rfl rfl rfl rfl (fun g102 w103 e104 hS105 => ?_)
      have hS106 := hS105.bring 0 rfl
      refine RW.store ttok (A := []) hS106 rfl rfl rfl rfl rfl 0 rfl rfl rfl rfl rfl (fun w107 hS108 => ?_)
      refine RW.nil ?_
      refine WP.seq ?_
      refine WP.region ?_
      refine RW.loadN ttok rfl rfl rfl rfl rfl ((hS108.bring 13 rfl).box) rfl rfl rfl ?_
      obtain ⟨r109, hx110, hm⟩ := bind_some hm
      refine RW.call rfl rfl rfl enters11 (laws_toChannel_ok (ty25.ext hS108.ext h1_) hx110) (fun v111 w112 hR113 => ?_)
      obtain ⟨A114, k115, A116, k117, A118, k119, A120, k121, rfl, hR122⟩ := hR113
      have hS123 := hS108.join hR122
      refine RW.new ttok hS123 rfl rfl rfl rfl (fun g124 w125 e126 hS127 => ?_)
      have hS128 := hS127.bring 0 rfl
      refine RW.store ttok (A := []) hS128 rfl rfl rfl rfl rfl 0 rfl rfl rfl rfl rfl (fun w129 hS130 => ?_)
      refine RW.nil ?_
      refine WP.seq ?_
      refine WP.region ?_
      refine RW.loadN ttok rfl rfl rfl rfl rfl ((hS130.bring 5 rfl).box) rfl rfl rfl ?_
      refine RW.loadN ttok rfl rfl rfl rfl rfl ((hS130.bring 0 rfl).box) rfl rfl rfl ?_
      obtain ⟨r131, hx132, hm⟩ := bind_some hm
      refine RW.call rfl rfl rfl enters12 (impl_SameChannel_ok (ty30_shut r87 ((hS130.bring 6 rfl).own) ((hS130.bring 7 rfl).own) ((hS130.bring 8 rfl).own) ((hS130.bring 9 rfl).own)) (ty30_shut r109 ((hS130.bring 1 rfl).own) ((hS130.bring 2 rfl).own) ((hS130.bring 3 rfl).own) ((hS130.bring 4 rfl).own)) hx132) (fun v133 w134 hR135 => ?_)
      obtain ⟨rfl, hR136⟩ := hR135
      have hS137 := hS130.join hR136
      refine RW.run ttok 1 rfl ?_
      refine RW.nil ?_
      refine WP.seq ?_
      refine WP.seq ?_
      refine WP.region ?_
      refine RW.run ttok 3 rfl ?_
      refine RW.nil ?_
      refine WP.cond (!(r131 == r80)) rfl (fun hc => ?_) (fun hc => ?_)
      · skip
        rw [if_pos hc] at hm
        refine WP.seq ?_
        refine WP.region ?_
        refine RW.run ttok 1 rfl ?_
        refine RW.nil ?_
        refine WP.ret ?_
        cases hm
        exact ⟨_, .cons (.tmp rfl) .nil, rfl, (hS137.taken 0)⟩
      · skip
        rw [if_neg (not_t hc)] at hm
        refine WP.skip ?_
        refine WP.seq ?_
        refine WP.seq ?_
        refine WP.drawn mixed 5 rfl (by kernel_rfl) ?_
        have hS138 := hS137.step (Ext.draw _)
        refine DW.loadN ttok 0 rfl (by kernel_rfl) rfl rfl rfl rfl rfl ((hS137.bring 5 rfl).box) rfl rfl rfl ?_
        refine DW.loadN ttok 1 rfl (by kernel_rfl) rfl rfl rfl rfl rfl ((hS137.bring 19 rfl).box) rfl rfl rfl ?_
        obtain ⟨r139, hx140, hm⟩ := bind_some hm
        refine DW.one 2 (by kernel_rfl) (LW.call rfl rfl rfl rfl enters11 (laws_toChannel_ok (ty25.ext hS138.ext h0_) hx140) (fun v141 w142 hR143 => ?_))
        obtain ⟨A144, k145, A146, k147, A148, k149, A150, k151, rfl, hR152⟩ := hR143
        refine ⟨hR152.ext, ?_⟩
        have hS153 := hS138.join hR152
        obtain ⟨r154, hx155, hm⟩ := bind_some hm
        refine DW.one 3 (by kernel_rfl) (LW.call rfl rfl rfl rfl enters13 (laws_eqChannel_ok (ty30_shut r87 ((hS153.bring 10 rfl).own) ((hS153.bring 11 rfl).own) ((hS153.bring 12 rfl).own) ((hS153.bring 13 rfl).own)) (ty30_shut r139 ((hS153.bring 0 rfl).own) ((hS153.bring 1 rfl).own) ((hS153.bring 2 rfl).own) ((hS153.bring 3 rfl).own)) hx155) (fun v156 w157 hR158 => ?_))
        obtain ⟨rfl, hR159⟩ := hR158
        refine ⟨hR159.ext, ?_⟩
        have hS160 := hS153.join hR159
        refine DW.run (fuel := 0) ttok [4] (by kernel_rfl) rfl ?_
        refine DW.done (by kernel_rfl) (fun _ => ?_)
        refine WP.cond (!r154) rfl (fun hc => ?_) (fun hc => ?_)
        · skip
          rw [if_pos hc] at hm
          refine WP.seq ?_
          refine WP.region ?_
          refine RW.run ttok 1 rfl ?_
          refine RW.nil ?_
          refine WP.ret ?_
          cases hm
          exact ⟨_, .cons (.tmp rfl) .nil, rfl, (hS160.taken 0)⟩
        · skip
          rw [if_neg (not_t hc)] at hm
          refine WP.skip ?_
          refine WP.seq ?_
          refine WP.seq ?_
          refine WP.drawn mixed 5 rfl (by kernel_rfl) ?_
          have hS161 := hS160.step (Ext.draw _)
          refine DW.loadN ttok 0 rfl (by kernel_rfl) rfl rfl rfl rfl rfl ((hS160.bring 4 rfl).box) rfl rfl rfl ?_
          refine DW.loadN ttok 1 rfl (by kernel_rfl) rfl rfl rfl rfl rfl ((hS160.bring 22 rfl).box) rfl rfl rfl ?_
          obtain ⟨r162, hx163, hm⟩ := bind_some hm
          refine DW.one 2 (by kernel_rfl) (LW.call rfl rfl rfl rfl enters11 (laws_toChannel_ok (ty25.ext hS161.ext h1_) hx163) (fun v164 w165 hR166 => ?_))
          obtain ⟨A167, k168, A169, k170, A171, k172, A173, k174, rfl, hR175⟩ := hR166
          refine ⟨hR175.ext, ?_⟩
          have hS176 := hS161.join hR175
          obtain ⟨r177, hx178, hm⟩ := bind_some hm
          refine DW.one 3 (by kernel_rfl) (LW.call rfl rfl rfl rfl enters13 (laws_eqChannel_ok (ty30_shut r109 ((hS176.bring 9 rfl).own) ((hS176.bring 10 rfl).own) ((hS176.bring 11 rfl).own) ((hS176.bring 12 rfl).own)) (ty30_shut r162 ((hS176.bring 0 rfl).own) ((hS176.bring 1 rfl).own) ((hS176.bring 2 rfl).own) ((hS176.bring 3 rfl).own)) hx178) (fun v179 w180 hR181 => ?_))
          obtain ⟨rfl, hR182⟩ := hR181
          refine ⟨hR182.ext, ?_⟩
          have hS183 := hS176.join hR182
          refine DW.run (fuel := 0) ttok [4] (by kernel_rfl) rfl ?_
          refine DW.done (by kernel_rfl) (fun _ => ?_)
          refine WP.cond (!r177) rfl (fun hc => ?_) (fun hc => ?_)
          · skip
            rw [if_pos hc] at hm
            refine WP.seq ?_
            refine WP.region ?_
            refine RW.run ttok 1 rfl ?_
            refine RW.nil ?_
            refine WP.ret ?_
            cases hm
            exact ⟨_, .cons (.tmp rfl) .nil, rfl, (hS183.taken 0)⟩
          · skip
            rw [if_neg (not_t hc)] at hm
            refine WP.skip ?_
            refine WP.seq ?_
            refine WP.region ?_
            refine RW.run ttok 1 rfl ?_
            refine RW.nil ?_
            refine WP.ret ?_
            cases hm
            exact ⟨_, .cons (.tmp rfl) .nil, rfl, (hS183.taken 0)⟩

end Go.E
