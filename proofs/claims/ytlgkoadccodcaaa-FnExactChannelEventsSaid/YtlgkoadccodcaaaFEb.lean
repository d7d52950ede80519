/- Models of functions and proofs that the code runs as they say (written by program). Conditions: the model gives a value. -/
import Derived.Test.YtlgkoadccodcaaaFE
namespace Go.E
open Go.RowKit Go.Proofs
set_option linter.unusedVariables false
set_option linter.unusedSimpArgs false
set_option maxHeartbeats 2000000

theorem enters85 : Enters Try.prog 85 := ⟨_, _, Try.func85, rfl, by kernel_rfl⟩
def m_laws_eqPacketS_j1 (fuel : Nat) (t2 : Unit) : Option Bool := some true
def m_laws_eqPacketS_b1 (fuel : Nat) (x0 : (List D.Packet)) (x1 : (List D.Packet)) (s1 : Int) : Option (Rd (Int) (Unit) (Bool)) := (if (decide (s1 < (x0.length : Int))) = true then ((idx x0 s1).bind fun x19 => ((idx x1 s1).bind fun x26 => ((m_laws_eqPacket fuel x19 x26).bind fun r33 => (if (!r33) = true then some (.ret false) else some (.next (w64 (s1 + 1))))))) else some (.brk ()))
def m_laws_eqPacketS (fuel : Nat) (x0 : (List D.Packet)) (x1 : (List D.Packet)) : Option (Bool) := (if ((x0.length : Int) != (x1.length : Int)) = true then some false else ((iter (m_laws_eqPacketS_b1 fuel x0 x1) fuel 0).bind fun o => aft o (m_laws_eqPacketS_j1 fuel)))

set_option maxRecDepth 100000 in
theorem laws_eqPacketS_ok {w : World} {A0_ : Option Addr} {k0_ : Nat} {x0 : (List D.Packet)} {A1_ : Option Addr} {k1_ : Nat} {x1 : (List D.Packet)} (h0_ : ty37.ro w [.slice A0_ x0.length k0_] x0) (h1_ : ty37.ro w [.slice A1_ x1.length k1_] x1) {fuel : Nat} {r : Bool} (hm : m_laws_eqPacketS fuel x0 x1 = some r) :
    Calls Try.prog 85 ⟨[.slice A0_ x0.length k0_, .slice A1_ x1.length k1_]⟩ w (Ret fun v w8 => v = .bool r ∧ St w w8 []) := by
  refine Calls.into Try.func85 rfl 27 rfl rfl _ rfl ?_
  unfold m_laws_eqPacketS at hm
  have hS := St.start w
  refine WP.seq ?_
  refine WP.region ?_
  refine RW.run ttok 1 rfl ?_
  refine RW.nil ?_
  refine WP.seq ?_
  refine WP.seq ?_
  refine WP.region ?_
  refine RW.run ttok 5 rfl ?_
  refine RW.nil ?_
  refine WP.cond ((x0.length : Int) != (x1.length : Int)) rfl (fun hc => ?_) (fun hc => ?_)
  · skip
    rw [if_pos hc] at hm
    refine WP.seq ?_
    refine WP.region ?_
    refine RW.run ttok 1 rfl ?_
    refine RW.nil ?_
    refine WP.ret ?_
    cases hm
    exact ⟨_, .cons (.tmp rfl) .nil, rfl, hS⟩
  · skip
    rw [if_neg (not_t hc)] at hm
    refine WP.skip ?_
    refine WP.seq ?_
    refine WP.seq ?_
    refine WP.region ?_
    refine RW.run ttok 1 rfl ?_
    refine RW.nil ?_
    obtain ⟨o8, hl9, hm⟩ := bind_some hm
    refine WP.cut (fun (t2 : Unit) F w9 => o8 = .inl t2 ∧ Ext w w9 ∧ St w w9 [] ∧ F = []) ?_ ?_
    · skip
      rintro t2 F w7 ⟨ho11, hE6, hS10, rfl⟩
      subst ho11
      rw [aft_inl] at hm
      unfold m_laws_eqPacketS_j1 at hm
      refine WP.seq ?_
      refine WP.region ?_
      refine RW.run ttok 1 rfl ?_
      refine RW.nil ?_
      refine WP.ret ?_
      cases hm
      exact ⟨_, .cons (.tmp rfl) .nil, rfl, hS10⟩
    · skip
      refine WP.block ?_
      refine WP.weak [(0, .slice A0_ x0.length k0_), (1, .slice A1_ x1.length k1_), (5, .int .i64 0)] ⟨rfl, rfl, rfl, trivial⟩ ?_
      refine WP.iter (fun (s1 : Int) F w9 => Ext w w9 ∧ St w w9 [] ∧ F = [(0, .slice A0_ x0.length k0_), (1, .slice A1_ x1.length k1_), (5, .int .i64 s1)]) _ hl9 ⟨(Ext.refl _), hS, rfl⟩ ?_
      rintro s1 F w16 _ o14 ⟨hE5, hS15, rfl⟩ hb12 ho13
      unfold m_laws_eqPacketS_b1 at hb12
      refine WP.seq ?_
      refine WP.seq ?_
      refine WP.region ?_
      refine RW.run ttok 4 rfl ?_
      refine RW.nil ?_
      refine WP.cond (decide (s1 < (x0.length : Int))) rfl (fun hc => ?_) (fun hc => ?_)
      · skip
        rw [if_pos hc] at hb12
        refine WP.skip ?_
        refine WP.seq ?_
        refine WP.block ?_
        refine WP.seq ?_
        refine WP.drawnM 0 mixed 10 (by kernel_rfl) (by kernel_rfl) [([], 1023), ([], 1023), ([0, 1], 1020), ([2], 1019), ([], 1023), ([], 1023), ([4, 5], 975), ([6], 959), ([3, 7], 887), ([8], 767)] (by kernel_rfl) (fun hsk17 => ?_)
        have hS18 := hS15.step (Ext.draw _)
        refine DM.run (fuel := 6) ttok hsk17 [0, 1, 4, 5] 51 (by kernel_rfl) (by kernel_rfl) rfl ?_
        obtain ⟨x19, hx20, hb12⟩ := bind_some hb12
        refine DM.idx ttok hS15.ext hsk17 2 55 (by kernel_rfl) (by kernel_rfl) (by kernel_rfl) (by kernel_rfl) rfl (by kernel_rfl) rfl rfl rfl rfl rfl rfl (by decide) rfl rfl h0_ (idx_some hx20).1 (idx_some hx20).2 rfl rfl (fun p21 es22 ha23 hr24 => ?_)
        have e25 := ty126_open hr24; subst e25
        refine DM.loadN ttok hsk17 3 63 (by kernel_rfl) (by kernel_rfl) (by kernel_rfl) (by kernel_rfl) rfl (by kernel_rfl) rfl rfl rfl rfl rfl (At.ext hS15.ext ha23) rfl rfl rfl ?_
        obtain ⟨x26, hx27, hb12⟩ := bind_some hb12
        refine DM.idx ttok hS15.ext hsk17 6 127 (by kernel_rfl) (by kernel_rfl) (by kernel_rfl) (by kernel_rfl) rfl (by kernel_rfl) rfl rfl rfl rfl rfl rfl (by decide) rfl rfl h1_ (idx_some hx27).1 (idx_some hx27).2 rfl rfl (fun p28 es29 ha30 hr31 => ?_)
        have e32 := ty126_open hr31; subst e32
        refine DM.loadN ttok hsk17 7 255 (by kernel_rfl) (by kernel_rfl) (by kernel_rfl) (by kernel_rfl) rfl (by kernel_rfl) rfl rfl rfl rfl rfl (At.ext hS15.ext ha30) rfl rfl rfl ?_
        obtain ⟨r33, hx34, hb12⟩ := bind_some hb12
        refine DM.one hsk17 8 (by kernel_rfl) (LM.call hsk17 511 (by kernel_rfl) (by kernel_rfl) rfl rfl rfl rfl enters144 (laws_eqPacket_ok (ty126.ext hS18.ext hr24) (ty126.ext hS18.ext hr31) hx34) (fun v35 w36 hR37 => ?_))
        obtain ⟨rfl, hR38⟩ := hR37
        refine ⟨hR38.ext, ?_⟩
        have hS39 := hS18.join hR38
        refine DM.run (fuel := 0) ttok hsk17 [9] 1023 (by kernel_rfl) (by kernel_rfl) rfl ?_
        refine DM.weak [(0, .slice A0_ x0.length k0_), (1, .slice A1_ x1.length k1_), (5, .int .i64 s1), (26, .bool (!r33))] ⟨rfl, rfl, rfl, rfl, trivial⟩ ?_
        refine DM.done hsk17 (by kernel_rfl) ?_
        refine WP.cond (!r33) rfl (fun hc => ?_) (fun hc => ?_)
        · skip
          rw [if_pos hc] at hb12
          refine WP.seq ?_
          refine WP.region ?_
          refine RW.run ttok 1 rfl ?_
          refine RW.nil ?_
          refine WP.ret ?_
          cases hb12
          cases ho13
          have hm : some _ = some _ := hm
          cases hm
          exact ⟨_, .cons (.tmp rfl) .nil, rfl, hS39⟩
        · skip
          rw [if_neg (not_t hc)] at hb12
          refine WP.skip ?_
          refine WP.region ?_
          refine RW.run ttok 3 rfl ?_
          refine RW.nil ?_
          cases hb12
          exact ⟨_, [(0, .slice A0_ x0.length k0_), (1, .slice A1_ x1.length k1_), (5, .int .i64 (w64 (s1 + 1)))], ⟨rfl, rfl, rfl, trivial⟩, rfl, ((hE5.trans (Ext.draw _)).trans hR38.ext), hS39, rfl⟩
      · skip
        rw [if_neg (not_t hc)] at hb12
        refine WP.exit ?_
        cases hb12
        exact ⟨_, [], trivial, ho13, hE5, hS15, rfl⟩

theorem enters27 : Enters Try.prog 27 := ⟨_, _, Try.func27, rfl, by kernel_rfl⟩
def m_laws_eqChannel (fuel : Nat) (x0 : D.Channel) (x1 : D.Channel) : Option (Bool) := (if (x0.Window != x1.Window) = true then some false else ((m_laws_eqStringS fuel x0.Messages x1.Messages).bind fun r35 => (if (!r35) = true then some false else (if (x0.Base != x1.Base) = true then some false else (if (x0.Next != x1.Next) = true then some false else (if (x0.Expected != x1.Expected) = true then some false else ((m_laws_eqPacketS fuel x0.Early x1.Early).bind fun r42 => (if (!r42) = true then some false else ((m_laws_eqStringS fuel x0.Delivered x1.Delivered).bind fun r49 => (if (!r49) = true then some false else ((m_laws_eqPacketS fuel x0.Flight x1.Flight).bind fun r56 => (if (!r56) = true then some false else some true))))))))))))

set_option maxRecDepth 100000 in
theorem laws_eqChannel_ok {w : World} {c0_ : List Value} {x0 : D.Channel} {c1_ : List Value} {x1 : D.Channel} (h0_ : ty39.ro w c0_ x0) (h1_ : ty39.ro w c1_ x1) {fuel : Nat} {r : Bool} (hm : m_laws_eqChannel fuel x0 x1 = some r) :
    Calls Try.prog 27 ⟨[.agg ⟨c0_⟩, .agg ⟨c1_⟩]⟩ w (Ret fun v w8 => v = .bool r ∧ St w w8 []) := by
  obtain ⟨A1, k2, A4, k5, A7, k8, A10, k11, e13, h3, h6, h9, h12⟩ := ty39_open h0_; subst e13
  obtain ⟨A14, k15, A17, k18, A20, k21, A23, k24, e26, h16, h19, h22, h25⟩ := ty39_open h1_; subst e26
  refine Calls.into Try.func27 rfl 49 rfl rfl _ rfl ?_
  unfold m_laws_eqChannel at hm
  have hS := St.start w
  refine WP.seq ?_
  refine WP.region ?_
  refine RW.new ttok hS rfl rfl rfl rfl (fun g27 w28 e29 hS30 => ?_)
  refine RW.new ttok hS30 rfl rfl rfl rfl (fun g31 w32 e33 hS34 => ?_)
  refine RW.run ttok 1 rfl ?_
  refine RW.nil ?_
  refine WP.seq ?_
  refine WP.seq ?_
  refine WP.region ?_
  refine RW.run ttok 1 rfl ?_
  refine RW.load1 ttok rfl rfl rfl rfl rfl ((hS34.bring 1 rfl).box) 0 rfl rfl rfl rfl ?_
  refine RW.run ttok 1 rfl ?_
  refine RW.load1 ttok rfl rfl rfl rfl rfl ((hS34.bring 0 rfl).box) 0 rfl rfl rfl rfl ?_
  refine RW.run ttok 1 rfl ?_
  refine RW.nil ?_
  refine WP.cond (x0.Window != x1.Window) rfl (fun hc => ?_) (fun hc => ?_)
  · skip
    rw [if_pos hc] at hm
    refine WP.seq ?_
    refine WP.region ?_
    refine RW.run ttok 1 rfl ?_
    refine RW.nil ?_
    refine WP.ret ?_
    cases hm
    exact ⟨_, .cons (.tmp rfl) .nil, rfl, (hS34.taken 0)⟩
  · skip
    rw [if_neg (not_t hc)] at hm
    refine WP.skip ?_
    refine WP.seq ?_
    refine WP.seq ?_
    refine WP.region ?_
    refine RW.run ttok 1 rfl ?_
    refine RW.load1 ttok rfl rfl rfl rfl rfl ((hS34.bring 1 rfl).box) 1 rfl rfl rfl rfl ?_
    refine RW.run ttok 1 rfl ?_
    refine RW.load1 ttok rfl rfl rfl rfl rfl ((hS34.bring 0 rfl).box) 1 rfl rfl rfl rfl ?_
    obtain ⟨r35, hx36, hm⟩ := bind_some hm
    refine RW.call rfl rfl rfl enters28 (laws_eqStringS_ok (ty35.ext hS34.ext h3) (ty35.ext hS34.ext h16) hx36) (fun v37 w38 hR39 => ?_)
    obtain ⟨rfl, hR40⟩ := hR39
    have hS41 := hS34.join hR40
    refine RW.run ttok 1 rfl ?_
    refine RW.nil ?_
    refine WP.cond (!r35) rfl (fun hc => ?_) (fun hc => ?_)
    · skip
      rw [if_pos hc] at hm
      refine WP.seq ?_
      refine WP.region ?_
      refine RW.run ttok 1 rfl ?_
      refine RW.nil ?_
      refine WP.ret ?_
      cases hm
      exact ⟨_, .cons (.tmp rfl) .nil, rfl, (hS41.taken 0)⟩
    · skip
      rw [if_neg (not_t hc)] at hm
      refine WP.skip ?_
      refine WP.seq ?_
      refine WP.seq ?_
      refine WP.region ?_
      refine RW.run ttok 1 rfl ?_
      refine RW.load1 ttok rfl rfl rfl rfl rfl ((hS41.bring 1 rfl).box) 2 rfl rfl rfl rfl ?_
      refine RW.run ttok 1 rfl ?_
      refine RW.load1 ttok rfl rfl rfl rfl rfl ((hS41.bring 0 rfl).box) 2 rfl rfl rfl rfl ?_
      refine RW.run ttok 1 rfl ?_
      refine RW.nil ?_
      refine WP.cond (x0.Base != x1.Base) rfl (fun hc => ?_) (fun hc => ?_)
      · skip
        rw [if_pos hc] at hm
        refine WP.seq ?_
        refine WP.region ?_
        refine RW.run ttok 1 rfl ?_
        refine RW.nil ?_
        refine WP.ret ?_
        cases hm
        exact ⟨_, .cons (.tmp rfl) .nil, rfl, (hS41.taken 0)⟩
      · skip
        rw [if_neg (not_t hc)] at hm
        refine WP.skip ?_
        refine WP.seq ?_
        refine WP.seq ?_
        refine WP.region ?_
        refine RW.run ttok 1 rfl ?_
        refine RW.load1 ttok rfl rfl rfl rfl rfl ((hS41.bring 1 rfl).box) 3 rfl rfl rfl rfl ?_
        refine RW.run ttok 1 rfl ?_
        refine RW.load1 ttok rfl rfl rfl rfl rfl ((hS41.bring 0 rfl).box) 3 rfl rfl rfl rfl ?_
        refine RW.run ttok 1 rfl ?_
        refine RW.nil ?_
        refine WP.cond (x0.Next != x1.Next) rfl (fun hc => ?_) (fun hc => ?_)
        · skip
          rw [if_pos hc] at hm
          refine WP.seq ?_
          refine WP.region ?_
          refine RW.run ttok 1 rfl ?_
          refine RW.nil ?_
          refine WP.ret ?_
          cases hm
          exact ⟨_, .cons (.tmp rfl) .nil, rfl, (hS41.taken 0)⟩
        · skip
          rw [if_neg (not_t hc)] at hm
          refine WP.skip ?_
          refine WP.seq ?_
          refine WP.seq ?_
          refine WP.region ?_
          refine RW.run ttok 1 rfl ?_
          refine RW.load1 ttok rfl rfl rfl rfl rfl ((hS41.bring 1 rfl).box) 4 rfl rfl rfl rfl ?_
          refine RW.run ttok 1 rfl ?_
          refine RW.load1 ttok rfl rfl rfl rfl rfl ((hS41.bring 0 rfl).box) 4 rfl rfl rfl rfl ?_
          refine RW.run ttok 1 rfl ?_
          refine RW.nil ?_
          refine WP.cond (x0.Expected != x1.Expected) rfl (fun hc => ?_) (fun hc => ?_)
          · skip
            rw [if_pos hc] at hm
            refine WP.seq ?_
            refine WP.region ?_
            refine RW.run ttok 1 rfl ?_
            refine RW.nil ?_
            refine WP.ret ?_
            cases hm
            exact ⟨_, .cons (.tmp rfl) .nil, rfl, (hS41.taken 0)⟩
          · skip
            rw [if_neg (not_t hc)] at hm
            refine WP.skip ?_
            refine WP.seq ?_
            refine WP.seq ?_
            refine WP.region ?_
            refine RW.run ttok 1 rfl ?_
            refine RW.load1 ttok rfl rfl rfl rfl rfl ((hS41.bring 1 rfl).box) 5 rfl rfl rfl rfl ?_
            refine RW.run ttok 1 rfl ?_
            refine RW.load1 ttok rfl rfl rfl rfl rfl ((hS41.bring 0 rfl).box) 5 rfl rfl rfl rfl ?_
            obtain ⟨r42, hx43, hm⟩ := bind_some hm
            refine RW.call rfl rfl rfl enters85 (laws_eqPacketS_ok (ty37.ext hS41.ext h6) (ty37.ext hS41.ext h19) hx43) (fun v44 w45 hR46 => ?_)
            obtain ⟨rfl, hR47⟩ := hR46
            have hS48 := hS41.join hR47
            refine RW.run ttok 1 rfl ?_
            refine RW.nil ?_
            refine WP.cond (!r42) rfl (fun hc => ?_) (fun hc => ?_)
            · skip
              rw [if_pos hc] at hm
              refine WP.seq ?_
              refine WP.region ?_
              refine RW.run ttok 1 rfl ?_
              refine RW.nil ?_
              refine WP.ret ?_
              cases hm
              exact ⟨_, .cons (.tmp rfl) .nil, rfl, (hS48.taken 0)⟩
            · skip
              rw [if_neg (not_t hc)] at hm
              refine WP.skip ?_
              refine WP.seq ?_
              refine WP.seq ?_
              refine WP.region ?_
              refine RW.run ttok 1 rfl ?_
              refine RW.load1 ttok rfl rfl rfl rfl rfl ((hS48.bring 1 rfl).box) 6 rfl rfl rfl rfl ?_
              refine RW.run ttok 1 rfl ?_
              refine RW.load1 ttok rfl rfl rfl rfl rfl ((hS48.bring 0 rfl).box) 6 rfl rfl rfl rfl ?_
              obtain ⟨r49, hx50, hm⟩ := bind_some hm
              refine RW.call rfl rfl rfl enters28 (laws_eqStringS_ok (ty35.ext hS48.ext h9) (ty35.ext hS48.ext h22) hx50) (fun v51 w52 hR53 => ?_)
              obtain ⟨rfl, hR54⟩ := hR53
              have hS55 := hS48.join hR54
              refine RW.run ttok 1 rfl ?_
              refine RW.nil ?_
              refine WP.cond (!r49) rfl (fun hc => ?_) (fun hc => ?_)
              · skip
                rw [if_pos hc] at hm
                refine WP.seq ?_
                refine WP.region ?_
                refine RW.run ttok 1 rfl ?_
                refine RW.nil ?_
                refine WP.ret ?_
                cases hm
                exact ⟨_, .cons (.tmp rfl) .nil, rfl, (hS55.taken 0)⟩
              · skip
                rw [if_neg (not_t hc)] at hm
                refine WP.skip ?_
                refine WP.seq ?_
                refine WP.seq ?_
                refine WP.region ?_
                refine RW.run ttok 1 rfl ?_
                refine RW.load1 ttok rfl rfl rfl rfl rfl ((hS55.bring 1 rfl).box) 7 rfl rfl rfl rfl ?_
                refine RW.run ttok 1 rfl ?_
                refine RW.load1 ttok rfl rfl rfl rfl rfl ((hS55.bring 0 rfl).box) 7 rfl rfl rfl rfl ?_
                obtain ⟨r56, hx57, hm⟩ := bind_some hm
                refine RW.call rfl rfl rfl enters85 (laws_eqPacketS_ok (ty37.ext hS55.ext h12) (ty37.ext hS55.ext h25) hx57) (fun v58 w59 hR60 => ?_)
                obtain ⟨rfl, hR61⟩ := hR60
                have hS62 := hS55.join hR61
                refine RW.run ttok 1 rfl ?_
                refine RW.nil ?_
                refine WP.cond (!r56) rfl (fun hc => ?_) (fun hc => ?_)
                · skip
                  rw [if_pos hc] at hm
                  refine WP.seq ?_
                  refine WP.region ?_
                  refine RW.run ttok 1 rfl ?_
                  refine RW.nil ?_
                  refine WP.ret ?_
                  cases hm
                  exact ⟨_, .cons (.tmp rfl) .nil, rfl, (hS62.taken 0)⟩
                · skip
                  rw [if_neg (not_t hc)] at hm
                  refine WP.skip ?_
                  refine WP.seq ?_
                  refine WP.region ?_
                  refine RW.run ttok 1 rfl ?_
                  refine RW.nil ?_
                  refine WP.ret ?_
                  cases hm
                  exact ⟨_, .cons (.tmp rfl) .nil, rfl, (hS62.taken 0)⟩

theorem enters86 : Enters Try.prog 86 := ⟨_, _, Try.func86, rfl, by kernel_rfl⟩
def m_laws_markText_j1 (fuel : Nat) (t2 : ByteArray) : Option ByteArray := (if decide ((⟨#[109]⟩ : ByteArray).size + t2.size ≤ 4294967296) = true then some ((⟨#[109]⟩ : ByteArray) ++ t2) else none)
def m_laws_markText_b1 (fuel : Nat) (s1 : Int × ByteArray) : Option (Rd (Int × ByteArray) (ByteArray) (ByteArray)) := (if (decide (s1.1 > 0)) = true then (if decide ((strOfNums ([IntKind.u8.wrap (w64 (48 + (s1.1.tmod 10)))] : (List Int))).size + s1.2.size ≤ 4294967296) = true then some (.next (w64 (s1.1.tdiv 10), ((strOfNums ([IntKind.u8.wrap (w64 (48 + (s1.1.tmod 10)))] : (List Int))) ++ s1.2))) else none) else some (.brk s1.2))
def m_laws_markText (fuel : Nat) (x0 : Int) : Option (ByteArray) := (if (decide (x0 ≤ 0)) = true then some (⟨#[109, 48]⟩ : ByteArray) else ((iter (m_laws_markText_b1 fuel) fuel (x0, (⟨#[]⟩ : ByteArray))).bind fun o => aft o (m_laws_markText_j1 fuel)))

set_option maxRecDepth 100000 in
theorem laws_markText_ok {w : World} {x0 : Int}  {fuel : Nat} {r : ByteArray} (hm : m_laws_markText fuel x0 = some r) :
    Calls Try.prog 86 ⟨[.int .i64 x0]⟩ w (Ret fun v w8 => v = .string r ∧ St w w8 []) := by
  refine Calls.into Try.func86 rfl 20 rfl rfl _ rfl ?_
  unfold m_laws_markText at hm
  have hS := St.start w
  refine WP.seq ?_
  refine WP.region ?_
  refine RW.run ttok 1 rfl ?_
  refine RW.nil ?_
  refine WP.seq ?_
  refine WP.seq ?_
  refine WP.region ?_
  refine RW.run ttok 2 rfl ?_
  refine RW.nil ?_
  refine WP.cond (decide (x0 ≤ 0)) rfl (fun hc => ?_) (fun hc => ?_)
  · skip
    rw [if_pos hc] at hm
    refine WP.seq ?_
    refine WP.region ?_
    refine RW.run ttok 1 rfl ?_
    refine RW.nil ?_
    refine WP.ret ?_
    cases hm
    exact ⟨_, .cons (.tmp rfl) .nil, rfl, hS⟩
  · skip
    rw [if_neg (not_t hc)] at hm
    refine WP.skip ?_
    refine WP.seq ?_
    refine WP.region ?_
    refine RW.run ttok 1 rfl ?_
    refine RW.nil ?_
    refine WP.seq ?_
    obtain ⟨o8, hl9, hm⟩ := bind_some hm
    refine WP.cut (fun (t2 : ByteArray) F w9 => o8 = .inl t2 ∧ Ext w w9 ∧ St w w9 [] ∧ F = [(3, .string t2)]) ?_ ?_
    · skip
      rintro t2 F w7 ⟨ho11, hE6, hS10, rfl⟩
      subst ho11
      rw [aft_inl] at hm
      unfold m_laws_markText_j1 at hm
      refine WP.seq ?_
      refine WP.region ?_
      refine RW.run ttok 1 rfl ?_
      by_cases hk12 : decide ((⟨#[109]⟩ : ByteArray).size + t2.size ≤ 4294967296) = true
      case neg => rw [if_neg hk12] at hm; cases hm
      rw [if_pos hk12] at hm
      refine RW.quiet rfl (Quiet.cat rfl rfl rfl (Nat.le_trans (of_decide_eq_true hk12) (by decide))) rfl rfl ?_
      refine RW.run ttok 1 rfl ?_
      refine RW.nil ?_
      refine WP.ret ?_
      cases hm
      exact ⟨_, .cons (.tmp rfl) .nil, rfl, hS10⟩
    · skip
      refine WP.block ?_
      refine WP.weak [(0, .int .i64 x0), (3, .string (⟨#[]⟩ : ByteArray))] ⟨rfl, rfl, trivial⟩ ?_
      refine WP.iter (fun (s1 : Int × ByteArray) F w9 => Ext w w9 ∧ St w w9 [] ∧ F = [(0, .int .i64 s1.1), (3, .string s1.2)]) _ hl9 ⟨(Ext.refl _), hS, rfl⟩ ?_
      rintro s1 F w17 _ o15 ⟨hE5, hS16, rfl⟩ hb13 ho14
      unfold m_laws_markText_b1 at hb13
      refine WP.seq ?_
      refine WP.seq ?_
      refine WP.region ?_
      refine RW.run ttok 2 rfl ?_
      refine RW.nil ?_
      refine WP.cond (decide (s1.1 > 0)) rfl (fun hc => ?_) (fun hc => ?_)
      · skip
        rw [if_pos hc] at hb13
        refine WP.skip ?_
        refine WP.block ?_
        refine WP.seq ?_
        refine WP.region ?_
        refine RW.run ttok 4 rfl ?_
        refine RW.newSlice (U := (tIntK .u8)) (els := [.int .u8 (IntKind.u8.wrap (w64 (48 + (s1.1.tmod 10))))]) (ys := [IntKind.u8.wrap (w64 (48 + (s1.1.tmod 10)))]) ttok (hS16.flatEls (U := (tIntK .u8)) (els := [.int .u8 (IntKind.u8.wrap (w64 (48 + (s1.1.tmod 10))))]) (ys := [IntKind.u8.wrap (w64 (48 + (s1.1.tmod 10)))]) ⟨[.int .u8 (IntKind.u8.wrap (w64 (48 + (s1.1.tmod 10))))], _, [], [], rfl, rfl, ⟨rfl, rfl⟩, ⟨rfl, rfl⟩⟩) rfl rfl rfl rfl rfl rfl rfl rfl rfl rfl rfl rfl (fun A18 k19 w20 e21 hS22 => ?_)
        refine RW.quiet rfl ((Quiet.bytesStr ttok rfl rfl rfl rfl rfl rfl rfl rfl ((hS22.bring 0 rfl).own)).later (Ext.refl _)) rfl rfl ?_
        refine RW.run ttok 1 rfl ?_
        by_cases hk23 : decide ((strOfNums ([IntKind.u8.wrap (w64 (48 + (s1.1.tmod 10)))] : (List Int))).size + s1.2.size ≤ 4294967296) = true
        case neg => rw [if_neg hk23] at hb13; cases hb13
        rw [if_pos hk23] at hb13
        refine RW.quiet rfl (Quiet.cat rfl rfl rfl (Nat.le_trans (of_decide_eq_true hk23) (by decide))) rfl rfl ?_
        refine RW.run ttok 1 rfl ?_
        refine RW.nil ?_
        refine WP.region ?_
        refine RW.run ttok 3 rfl ?_
        refine RW.nil ?_
        cases hb13
        exact ⟨_, [(0, .int .i64 (w64 (s1.1.tdiv 10))), (3, .string ((strOfNums ([IntKind.u8.wrap (w64 (48 + (s1.1.tmod 10)))] : (List Int))) ++ s1.2))], ⟨rfl, rfl, trivial⟩, rfl, (hE5.trans e21), (hS22.taken 0), rfl⟩
      · skip
        rw [if_neg (not_t hc)] at hb13
        refine WP.exit ?_
        cases hb13
        exact ⟨_, [(3, .string s1.2)], ⟨rfl, trivial⟩, ho14, hE5, hS16, rfl⟩

theorem enters29 : Enters Try.prog 29 := ⟨_, _, Try.func29, rfl, by kernel_rfl⟩
def m_laws_markStringS_j1 (fuel : Nat) (t2 : Int × (List ByteArray)) : Option (Int × (List ByteArray)) := some (t2.1, t2.2)
def m_laws_markStringS_b1 (fuel : Nat) (x0 : (List ByteArray)) (s1 : Int × Int × (List ByteArray)) : Option (Rd (Int × Int × (List ByteArray)) (Int × (List ByteArray)) (Int × (List ByteArray))) := (if (decide (s1.2.1 < (x0.length : Int))) = true then ((m_laws_markText fuel s1.1).bind fun r14 => (if decide (0 ≤ s1.2.1 ∧ s1.2.1.toNat < s1.2.2.length) = true then some (.next (w64 (s1.1 + 1), w64 (s1.2.1 + 1), (s1.2.2.set s1.2.1.toNat r14))) else none)) else some (.brk (s1.1, s1.2.2)))
def m_laws_markStringS (fuel : Nat) (x0 : (List ByteArray)) (x1 : Int) : Option (Int × (List ByteArray)) := ((iter (m_laws_markStringS_b1 fuel x0) fuel (x1, 0, x0)).bind fun o => aft o (m_laws_markStringS_j1 fuel))

set_option maxRecDepth 100000 in
theorem laws_markStringS_ok {W w : World} {RR : List Res} {A0_ : Option Addr} {k0_ : Nat} {x0 : (List ByteArray)} {x1 : Int} (hS : St W w (Own ty35 [.slice A0_ x0.length k0_] x0 :: RR)) {fuel : Nat} {r : Int × (List ByteArray)} (hm : m_laws_markStringS fuel x0 x1 = some r) :
    Calls Try.prog 29 ⟨[.slice A0_ x0.length k0_, .int .i64 x1]⟩ w (Ret fun v w8 => v = .int .i64 r.1 ∧ St W w8 (Own ty35 [.slice A0_ x0.length k0_] r.2 :: RR)) := by
  refine Calls.into Try.func29 rfl 20 rfl rfl _ rfl ?_
  unfold m_laws_markStringS at hm
  refine WP.seq ?_
  refine WP.region ?_
  refine RW.run ttok 1 rfl ?_
  refine RW.nil ?_
  refine WP.seq ?_
  refine WP.seq ?_
  refine WP.region ?_
  refine RW.run ttok 1 rfl ?_
  refine RW.nil ?_
  obtain ⟨o5, hl6, hm⟩ := bind_some hm
  refine WP.cut (fun (t2 : Int × (List ByteArray)) F w9 => o5 = .inl t2 ∧ St W w9 (Own ty35 [.slice A0_ x0.length k0_] t2.2 :: RR) ∧ F = [(1, .int .i64 t2.1)]) ?_ ?_
  · skip
    rintro t2 F w4 ⟨ho8, hS7, rfl⟩
    subst ho8
    rw [aft_inl] at hm
    unfold m_laws_markStringS_j1 at hm
    refine WP.seq ?_
    refine WP.region ?_
    refine RW.run ttok 2 rfl ?_
    refine RW.nil ?_
    refine WP.ret ?_
    cases hm
    exact ⟨_, .cons (.tmp rfl) .nil, rfl, hS7⟩
  · skip
    refine WP.block ?_
    refine WP.weak [(0, .slice A0_ x0.length k0_), (1, .int .i64 x1), (5, .int .i64 0)] ⟨rfl, rfl, rfl, trivial⟩ ?_
    refine WP.iter (fun (s1 : Int × Int × (List ByteArray)) F w9 => St W w9 (Own ty35 [.slice A0_ x0.length k0_] s1.2.2 :: RR) ∧ F = [(0, .slice A0_ x0.length k0_), (1, .int .i64 s1.1), (5, .int .i64 s1.2.1)]) _ hl6 ⟨hS, rfl⟩ ?_
    rintro s1 F w13 _ o11 ⟨hS12, rfl⟩ hb9 ho10
    unfold m_laws_markStringS_b1 at hb9
    refine WP.seq ?_
    refine WP.seq ?_
    refine WP.region ?_
    refine RW.run ttok 4 rfl ?_
    refine RW.nil ?_
    refine WP.cond (decide (s1.2.1 < (x0.length : Int))) rfl (fun hc => ?_) (fun hc => ?_)
    · skip
      rw [if_pos hc] at hb9
      refine WP.skip ?_
      refine WP.seq ?_
      refine WP.block ?_
      refine WP.seq ?_
      refine WP.region ?_
      refine RW.run ttok 3 rfl ?_
      obtain ⟨r14, hx15, hb9⟩ := bind_some hb9
      refine RW.call rfl rfl rfl enters86 (laws_markText_ok  hx15) (fun v16 w17 hR18 => ?_)
      obtain ⟨rfl, hR19⟩ := hR18
      have hS20 := hS12.join hR19
      have hS21 := hS20.bring 0 rfl
      by_cases hk22 : decide (0 ≤ s1.2.1 ∧ s1.2.1.toNat < s1.2.2.length) = true
      case neg => rw [if_neg hk22] at hb9; cases hb9
      rw [if_pos hk22] at hb9
      have hb23 := of_decide_eq_true hk22
      refine RW.idxOwnN ttok hS21 rfl rfl rfl rfl rfl rfl rfl rfl hb23.1 hb23.2 rfl rfl (fun q24 hq25 => ?_)
      have hS26 := hS21.flat (T := tStr) (cs := [.string r14]) (x := r14) ⟨rfl, rfl⟩
      have hS27 := hS26.bring 1 rfl
      refine RW.storeElN ttok hS27 rfl rfl rfl rfl rfl rfl hb23.2 hq25 rfl rfl (fun w28 hS29 => ?_)
      refine RW.nil ?_
      refine WP.region ?_
      refine RW.run ttok 3 rfl ?_
      refine RW.nil ?_
      refine WP.region ?_
      refine RW.run ttok 3 rfl ?_
      refine RW.nil ?_
      cases hb9
      exact ⟨_, [(0, .slice A0_ x0.length k0_), (1, .int .i64 (w64 (s1.1 + 1))), (5, .int .i64 (w64 (s1.2.1 + 1)))], ⟨rfl, rfl, rfl, trivial⟩, rfl, hS29, rfl⟩
    · skip
      rw [if_neg (not_t hc)] at hb9
      refine WP.exit ?_
      cases hb9
      exact ⟨_, [(1, .int .i64 s1.1)], ⟨rfl, trivial⟩, ho10, hS12, rfl⟩

theorem enters87 : Enters Try.prog 87 := ⟨_, _, Try.func87, rfl, by kernel_rfl⟩
def m_laws_markPacketS_j1 (fuel : Nat) (t2 : Int × (List D.Packet)) : Option (Int × (List D.Packet)) := some (t2.1, t2.2)
def m_laws_markPacketS_b1 (fuel : Nat) (x0 : (List D.Packet)) (s1 : Int × Int × (List D.Packet)) : Option (Rd (Int × Int × (List D.Packet)) (Int × (List D.Packet)) (Int × (List D.Packet))) := (if (decide (s1.2.1 < (x0.length : Int))) = true then ((idx s1.2.2 s1.2.1).bind fun x15 => ((m_laws_markText fuel (w64 ((w64 (s1.1 + 1)) + 1))).bind fun r31 => some (.next (w64 ((w64 ((w64 (s1.1 + 1)) + 1)) + 1), w64 (s1.2.1 + 1), (s1.2.2.set s1.2.1.toNat (⟨((s1.1.tmod 3) == 0), w64 (s1.1 + 1), r31⟩ : D.Packet)))))) else some (.brk (s1.1, s1.2.2)))
def m_laws_markPacketS (fuel : Nat) (x0 : (List D.Packet)) (x1 : Int) : Option (Int × (List D.Packet)) := ((iter (m_laws_markPacketS_b1 fuel x0) fuel (x1, 0, x0)).bind fun o => aft o (m_laws_markPacketS_j1 fuel))

set_option maxRecDepth 100000 in
theorem laws_markPacketS_ok {W w : World} {RR : List Res} {A0_ : Option Addr} {k0_ : Nat} {x0 : (List D.Packet)} {x1 : Int} (hS : St W w (Own ty37 [.slice A0_ x0.length k0_] x0 :: RR)) {fuel : Nat} {r : Int × (List D.Packet)} (hm : m_laws_markPacketS fuel x0 x1 = some r) :
    Calls Try.prog 87 ⟨[.slice A0_ x0.length k0_, .int .i64 x1]⟩ w (Ret fun v w8 => v = .int .i64 r.1 ∧ St W w8 (Own ty37 [.slice A0_ x0.length k0_] r.2 :: RR)) := by
  refine Calls.into Try.func87 rfl 37 rfl rfl _ rfl ?_
  unfold m_laws_markPacketS at hm
  refine WP.seq ?_
  refine WP.region ?_
  refine RW.run ttok 1 rfl ?_
  refine RW.nil ?_
  refine WP.seq ?_
  refine WP.seq ?_
  refine WP.region ?_
  refine RW.run ttok 1 rfl ?_
  refine RW.nil ?_
  obtain ⟨o5, hl6, hm⟩ := bind_some hm
  refine WP.cut (fun (t2 : Int × (List D.Packet)) F w9 => o5 = .inl t2 ∧ St W w9 (Own ty37 [.slice A0_ x0.length k0_] t2.2 :: RR) ∧ F = [(1, .int .i64 t2.1)]) ?_ ?_
  · skip
    rintro t2 F w4 ⟨ho8, hS7, rfl⟩
    subst ho8
    rw [aft_inl] at hm
    unfold m_laws_markPacketS_j1 at hm
    refine WP.seq ?_
    refine WP.region ?_
    refine RW.run ttok 2 rfl ?_
    refine RW.nil ?_
    refine WP.ret ?_
    cases hm
    exact ⟨_, .cons (.tmp rfl) .nil, rfl, hS7⟩
  · skip
    refine WP.block ?_
    refine WP.weak [(0, .slice A0_ x0.length k0_), (1, .int .i64 x1), (5, .int .i64 0)] ⟨rfl, rfl, rfl, trivial⟩ ?_
    refine WP.iter (fun (s1 : Int × Int × (List D.Packet)) F w9 => St W w9 (Own ty37 [.slice A0_ x0.length k0_] s1.2.2 :: RR) ∧ F = [(0, .slice A0_ x0.length k0_), (1, .int .i64 s1.1), (5, .int .i64 s1.2.1)]) _ hl6 ⟨hS, rfl⟩ ?_
    rintro s1 F w13 _ o11 ⟨hS12, rfl⟩ hb9 ho10
    unfold m_laws_markPacketS_b1 at hb9
    refine WP.seq ?_
    refine WP.seq ?_
    refine WP.region ?_
    refine RW.run ttok 4 rfl ?_
    refine RW.nil ?_
    refine WP.cond (decide (s1.2.1 < (x0.length : Int))) rfl (fun hc => ?_) (fun hc => ?_)
    · skip
      rw [if_pos hc] at hb9
      refine WP.skip ?_
      refine WP.seq ?_
      refine WP.block ?_
      refine WP.seq ?_
      refine WP.region ?_
      refine RW.run ttok 5 rfl ?_
      have hS14 := hS12.bring 0 rfl
      obtain ⟨x15, hx16, hb9⟩ := bind_some hb9
      refine RW.focus ttok hS14 rfl rfl rfl rfl rfl rfl rfl rfl (idx_some hx16).1 (idx_some hx16).2 rfl rfl (fun q17 es18 hq19 hS20 => ?_)
      obtain ⟨e22, hS21⟩ := ty126_openS (hS20.bring 1 rfl); subst e22
      refine RW.run ttok 1 rfl ?_
      have hS23 := hS21.bring 0 rfl
      refine RW.storeHoleN ttok hS23 hq19 rfl rfl rfl rfl rfl 0 rfl rfl rfl rfl rfl (fun w24 hS25 => ?_)
      refine RW.nil ?_
      refine WP.seq ?_
      refine WP.region ?_
      refine RW.run ttok 3 rfl ?_
      refine RW.nil ?_
      refine WP.seq ?_
      refine WP.region ?_
      refine RW.run ttok 3 rfl ?_
      refine RW.idxAgain ttok (hS25.bring 0 rfl) rfl rfl rfl rfl rfl rfl rfl rfl (idx_some hx16).1 rfl rfl (fun q26 hq27 => ?_)
      refine RW.run ttok 1 rfl ?_
      have hS28 := hS25.bring 0 rfl
      refine RW.storeHoleN ttok hS28 hq27 rfl rfl rfl rfl rfl 1 rfl rfl rfl rfl rfl (fun w29 hS30 => ?_)
      refine RW.nil ?_
      refine WP.seq ?_
      refine WP.region ?_
      refine RW.run ttok 3 rfl ?_
      refine RW.nil ?_
      refine WP.seq ?_
      refine WP.region ?_
      refine RW.run ttok 3 rfl ?_
      obtain ⟨r31, hx32, hb9⟩ := bind_some hb9
      refine RW.call rfl rfl rfl enters86 (laws_markText_ok  hx32) (fun v33 w34 hR35 => ?_)
      obtain ⟨rfl, hR36⟩ := hR35
      have hS37 := hS30.join hR36
      refine RW.idxAgain ttok (hS37.bring 0 rfl) rfl rfl rfl rfl rfl rfl rfl rfl (idx_some hx16).1 rfl rfl (fun q38 hq39 => ?_)
      refine RW.run ttok 1 rfl ?_
      have hS40 := hS37.bring 0 rfl
      refine RW.storeHoleN ttok hS40 hq39 rfl rfl rfl rfl rfl 2 rfl rfl rfl rfl rfl (fun w41 hS42 => ?_)
      refine RW.nil ?_
      refine WP.region ?_
      refine RW.run ttok 3 rfl ?_
      refine RW.nil ?_
      refine WP.region ?_
      refine RW.run ttok 3 rfl ?_
      refine RW.nil ?_
      have hS43 := ty126_shutS (c := (⟨((s1.1.tmod 3) == 0), w64 (s1.1 + 1), r31⟩ : D.Packet)) (B := _) hS42
      have hS44 := hS43.bring 1 rfl
      have hS45 := St.unfocusN hS44
      cases hb9
      exact ⟨_, [(0, .slice A0_ x0.length k0_), (1, .int .i64 (w64 ((w64 ((w64 (s1.1 + 1)) + 1)) + 1))), (5, .int .i64 (w64 (s1.2.1 + 1)))], ⟨rfl, rfl, rfl, trivial⟩, rfl, hS45, rfl⟩
    · skip
      rw [if_neg (not_t hc)] at hb9
      refine WP.exit ?_
      cases hb9
      exact ⟨_, [(1, .int .i64 s1.1)], ⟨rfl, trivial⟩, ho10, hS12, rfl⟩

theorem enters30 : Enters Try.prog 30 := ⟨_, _, Try.func30, rfl, by kernel_rfl⟩
def m_laws_markChannel (fuel : Nat) (x0 : D.Channel) (x1 : Int) : Option (Int × (List ByteArray) × (List D.Packet) × (List ByteArray) × (List D.Packet)) := ((m_laws_markStringS fuel x0.Messages x1).bind fun r5 => ((m_laws_markPacketS fuel x0.Early r5.1).bind fun r11 => ((m_laws_markStringS fuel x0.Delivered r11.1).bind fun r17 => ((m_laws_markPacketS fuel x0.Flight r17.1).bind fun r23 => some (r23.1, r5.2, r11.2, r17.2, r23.2)))))

set_option maxRecDepth 100000 in
theorem laws_markChannel_ok {W w : World} {RR : List Res} {x0 : D.Channel} {A0_1 : Option Addr} {k0_1 : Nat} {A0_5 : Option Addr} {k0_5 : Nat} {A0_6 : Option Addr} {k0_6 : Nat} {A0_7 : Option Addr} {k0_7 : Nat} {x1 : Int} (hS : St W w (Own ty35 [.slice A0_1 x0.Messages.length k0_1] x0.Messages :: Own ty37 [.slice A0_5 x0.Early.length k0_5] x0.Early :: Own ty35 [.slice A0_6 x0.Delivered.length k0_6] x0.Delivered :: Own ty37 [.slice A0_7 x0.Flight.length k0_7] x0.Flight :: RR)) {fuel : Nat} {r : Int × (List ByteArray) × (List D.Packet) × (List ByteArray) × (List D.Packet)} (hm : m_laws_markChannel fuel x0 x1 = some r) :
    Calls Try.prog 30 ⟨[.agg ⟨[.int .i64 x0.Window, .slice A0_1 x0.Messages.length k0_1, .int .i64 x0.Base, .int .i64 x0.Next, .int .i64 x0.Expected, .slice A0_5 x0.Early.length k0_5, .slice A0_6 x0.Delivered.length k0_6, .slice A0_7 x0.Flight.length k0_7]⟩, .int .i64 x1]⟩ w (Ret fun v w8 => v = .int .i64 r.1 ∧ St W w8 (Own ty35 [.slice A0_1 x0.Messages.length k0_1] r.2.1 :: Own ty37 [.slice A0_5 x0.Early.length k0_5] r.2.2.1 :: Own ty35 [.slice A0_6 x0.Delivered.length k0_6] r.2.2.2.1 :: Own ty37 [.slice A0_7 x0.Flight.length k0_7] r.2.2.2.2 :: RR)) := by
  refine Calls.into Try.func30 rfl 22 rfl rfl _ rfl ?_
  unfold m_laws_markChannel at hm
  refine WP.seq ?_
  refine WP.region ?_
  refine RW.new ttok hS rfl rfl rfl rfl (fun g1 w2 e3 hS4 => ?_)
  refine RW.run ttok 1 rfl ?_
  refine RW.nil ?_
  refine WP.seq ?_
  refine WP.region ?_
  refine RW.run ttok 1 rfl ?_
  refine RW.load1 ttok rfl rfl rfl rfl rfl ((hS4.bring 0 rfl).box) 1 rfl rfl rfl rfl ?_
  refine RW.run ttok 1 rfl ?_
  obtain ⟨r5, hx6, hm⟩ := bind_some hm
  refine RW.call rfl rfl rfl enters29 (laws_markStringS_ok (W := W) (RR := _) (hS4.bring 1 rfl)  hx6) (fun v7 w8 hR9 => ?_)
  obtain ⟨rfl, hS10⟩ := hR9
  refine RW.run ttok 1 rfl ?_
  refine RW.nil ?_
  refine WP.seq ?_
  refine WP.region ?_
  refine RW.run ttok 1 rfl ?_
  refine RW.load1 ttok rfl rfl rfl rfl rfl ((hS10.bring 1 rfl).box) 5 rfl rfl rfl rfl ?_
  refine RW.run ttok 1 rfl ?_
  obtain ⟨r11, hx12, hm⟩ := bind_some hm
  refine RW.call rfl rfl rfl enters87 (laws_markPacketS_ok (W := W) (RR := _) (hS10.bring 2 rfl)  hx12) (fun v13 w14 hR15 => ?_)
  obtain ⟨rfl, hS16⟩ := hR15
  refine RW.run ttok 1 rfl ?_
  refine RW.nil ?_
  refine WP.seq ?_
  refine WP.region ?_
  refine RW.run ttok 1 rfl ?_
  refine RW.load1 ttok rfl rfl rfl rfl rfl ((hS16.bring 2 rfl).box) 6 rfl rfl rfl rfl ?_
  refine RW.run ttok 1 rfl ?_
  obtain ⟨r17, hx18, hm⟩ := bind_some hm
  refine RW.call rfl rfl rfl enters29 (laws_markStringS_ok (W := W) (RR := _) (hS16.bring 3 rfl)  hx18) (fun v19 w20 hR21 => ?_)
  obtain ⟨rfl, hS22⟩ := hR21
  refine RW.run ttok 1 rfl ?_
  refine RW.nil ?_
  refine WP.seq ?_
  refine WP.region ?_
  refine RW.run ttok 1 rfl ?_
  refine RW.load1 ttok rfl rfl rfl rfl rfl ((hS22.bring 3 rfl).box) 7 rfl rfl rfl rfl ?_
  refine RW.run ttok 1 rfl ?_
  obtain ⟨r23, hx24, hm⟩ := bind_some hm
  refine RW.call rfl rfl rfl enters87 (laws_markPacketS_ok (W := W) (RR := _) (hS22.bring 4 rfl)  hx24) (fun v25 w26 hR27 => ?_)
  obtain ⟨rfl, hS28⟩ := hR27
  refine RW.run ttok 1 rfl ?_
  refine RW.nil ?_
  refine WP.seq ?_
  refine WP.region ?_
  refine RW.run ttok 2 rfl ?_
  refine RW.nil ?_
  refine WP.ret ?_
  cases hm
  exact ⟨_, .cons (.tmp rfl) .nil, rfl, (((((hS28.bring 4 rfl).drop.bring 0 rfl).bring 1 rfl).bring 2 rfl).bring 3 rfl)⟩

theorem enters40 : Enters Try.prog 40 := ⟨_, _, Try.func40, rfl, by kernel_rfl⟩
def m_laws_markChannelEventS_j1 (fuel : Nat) (t2 : Int × (List D.ChannelEvent)) : Option (Int × (List D.ChannelEvent)) := some (t2.1, t2.2)
def m_laws_markChannelEventS_b1 (fuel : Nat) (x0 : (List D.ChannelEvent)) (s1 : Int × Int × (List D.ChannelEvent)) : Option (Rd (Int × Int × (List D.ChannelEvent)) (Int × (List D.ChannelEvent)) (Int × (List D.ChannelEvent))) := (if (decide (s1.2.1 < (x0.length : Int))) = true then ((idx s1.2.2 s1.2.1).bind fun x15 => some (.next (w64 ((w64 (s1.1 + 1)) + 1), w64 (s1.2.1 + 1), (s1.2.2.set s1.2.1.toNat (⟨s1.1, w64 (s1.1 + 1)⟩ : D.ChannelEvent))))) else some (.brk (s1.1, s1.2.2)))
def m_laws_markChannelEventS (fuel : Nat) (x0 : (List D.ChannelEvent)) (x1 : Int) : Option (Int × (List D.ChannelEvent)) := ((iter (m_laws_markChannelEventS_b1 fuel x0) fuel (x1, 0, x0)).bind fun o => aft o (m_laws_markChannelEventS_j1 fuel))

set_option maxRecDepth 100000 in
theorem laws_markChannelEventS_ok {W w : World} {RR : List Res} {A0_ : Option Addr} {k0_ : Nat} {x0 : (List D.ChannelEvent)} {x1 : Int} (hS : St W w (Own ty55 [.slice A0_ x0.length k0_] x0 :: RR)) {fuel : Nat} {r : Int × (List D.ChannelEvent)} (hm : m_laws_markChannelEventS fuel x0 x1 = some r) :
    Calls Try.prog 40 ⟨[.slice A0_ x0.length k0_, .int .i64 x1]⟩ w (Ret fun v w8 => v = .int .i64 r.1 ∧ St W w8 (Own ty55 [.slice A0_ x0.length k0_] r.2 :: RR)) := by
  refine Calls.into Try.func40 rfl 27 rfl rfl _ rfl ?_
  unfold m_laws_markChannelEventS at hm
  refine WP.seq ?_
  refine WP.region ?_
  refine RW.run ttok 1 rfl ?_
  refine RW.nil ?_
  refine WP.seq ?_
  refine WP.seq ?_
  refine WP.region ?_
  refine RW.run ttok 1 rfl ?_
  refine RW.nil ?_
  obtain ⟨o5, hl6, hm⟩ := bind_some hm
  refine WP.cut (fun (t2 : Int × (List D.ChannelEvent)) F w9 => o5 = .inl t2 ∧ St W w9 (Own ty55 [.slice A0_ x0.length k0_] t2.2 :: RR) ∧ F = [(1, .int .i64 t2.1)]) ?_ ?_
  · skip
    rintro t2 F w4 ⟨ho8, hS7, rfl⟩
    subst ho8
    rw [aft_inl] at hm
    unfold m_laws_markChannelEventS_j1 at hm
    refine WP.seq ?_
    refine WP.region ?_
    refine RW.run ttok 2 rfl ?_
    refine RW.nil ?_
    refine WP.ret ?_
    cases hm
    exact ⟨_, .cons (.tmp rfl) .nil, rfl, hS7⟩
  · skip
    refine WP.block ?_
    refine WP.weak [(0, .slice A0_ x0.length k0_), (1, .int .i64 x1), (5, .int .i64 0)] ⟨rfl, rfl, rfl, trivial⟩ ?_
    refine WP.iter (fun (s1 : Int × Int × (List D.ChannelEvent)) F w9 => St W w9 (Own ty55 [.slice A0_ x0.length k0_] s1.2.2 :: RR) ∧ F = [(0, .slice A0_ x0.length k0_), (1, .int .i64 s1.1), (5, .int .i64 s1.2.1)]) _ hl6 ⟨hS, rfl⟩ ?_
    rintro s1 F w13 _ o11 ⟨hS12, rfl⟩ hb9 ho10
    unfold m_laws_markChannelEventS_b1 at hb9
    refine WP.seq ?_
    refine WP.seq ?_
    refine WP.region ?_
    refine RW.run ttok 4 rfl ?_
    refine RW.nil ?_
    refine WP.cond (decide (s1.2.1 < (x0.length : Int))) rfl (fun hc => ?_) (fun hc => ?_)
    · skip
      rw [if_pos hc] at hb9
      refine WP.skip ?_
      refine WP.seq ?_
      refine WP.block ?_
      refine WP.seq ?_
      refine WP.region ?_
      refine RW.run ttok 3 rfl ?_
      have hS14 := hS12.bring 0 rfl
      obtain ⟨x15, hx16, hb9⟩ := bind_some hb9
      refine RW.focus ttok hS14 rfl rfl rfl rfl rfl rfl rfl rfl (idx_some hx16).1 (idx_some hx16).2 rfl rfl (fun q17 es18 hq19 hS20 => ?_)
      obtain ⟨e22, hS21⟩ := ty66_openS (hS20.bring 1 rfl); subst e22
      refine RW.run ttok 1 rfl ?_
      have hS23 := hS21.bring 0 rfl
      refine RW.storeHoleN ttok hS23 hq19 rfl rfl rfl rfl rfl 0 rfl rfl rfl rfl rfl (fun w24 hS25 => ?_)
      refine RW.nil ?_
      refine WP.seq ?_
      refine WP.region ?_
      refine RW.run ttok 3 rfl ?_
      refine RW.nil ?_
      refine WP.seq ?_
      refine WP.region ?_
      refine RW.run ttok 3 rfl ?_
      refine RW.idxAgain ttok (hS25.bring 0 rfl) rfl rfl rfl rfl rfl rfl rfl rfl (idx_some hx16).1 rfl rfl (fun q26 hq27 => ?_)
      refine RW.run ttok 1 rfl ?_
      have hS28 := hS25.bring 0 rfl
      refine RW.storeHoleN ttok hS28 hq27 rfl rfl rfl rfl rfl 1 rfl rfl rfl rfl rfl (fun w29 hS30 => ?_)
      refine RW.nil ?_
      refine WP.region ?_
      refine RW.run ttok 3 rfl ?_
      refine RW.nil ?_
      refine WP.region ?_
      refine RW.run ttok 3 rfl ?_
      refine RW.nil ?_
      have hS31 := ty66_shutS (c := (⟨s1.1, w64 (s1.1 + 1)⟩ : D.ChannelEvent)) (B := _) hS30
      have hS32 := hS31.bring 1 rfl
      have hS33 := St.unfocusN hS32
      cases hb9
      exact ⟨_, [(0, .slice A0_ x0.length k0_), (1, .int .i64 (w64 ((w64 (s1.1 + 1)) + 1))), (5, .int .i64 (w64 (s1.2.1 + 1)))], ⟨rfl, rfl, rfl, trivial⟩, rfl, hS33, rfl⟩
    · skip
      rw [if_neg (not_t hc)] at hb9
      refine WP.exit ?_
      cases hb9
      exact ⟨_, [(1, .int .i64 s1.1)], ⟨rfl, trivial⟩, ho10, hS12, rfl⟩

theorem enters41 : Enters Try.prog 41 := ⟨_, _, Try.func41, rfl, by kernel_rfl⟩
def m_laws_heldChannelEventS_j1 (fuel : Nat) (t2 : Int) : Option Int := some t2
def m_laws_heldChannelEventS_b1 (fuel : Nat) (x0 : (List D.ChannelEvent)) (s1 : Int × Int) : Option (Rd (Int × Int) (Int) (Int)) := (if (decide (s1.2 < (x0.length : Int))) = true then ((idx x0 s1.2).bind fun x17 => (if (x17.Kind != s1.1) = true then some (.ret (-1)) else ((idx x0 s1.2).bind fun x24 => (if (x24.Index != (w64 (s1.1 + 1))) = true then some (.ret (-1)) else some (.next (w64 ((w64 (s1.1 + 1)) + 1), w64 (s1.2 + 1))))))) else some (.brk s1.1))
def m_laws_heldChannelEventS (fuel : Nat) (x0 : (List D.ChannelEvent)) (x1 : Int) : Option (Int) := ((iter (m_laws_heldChannelEventS_b1 fuel x0) fuel (x1, 0)).bind fun o => aft o (m_laws_heldChannelEventS_j1 fuel))

set_option maxRecDepth 100000 in
theorem laws_heldChannelEventS_ok {w : World} {A0_ : Option Addr} {k0_ : Nat} {x0 : (List D.ChannelEvent)} {x1 : Int} (h0_ : ty55.ro w [.slice A0_ x0.length k0_] x0) {fuel : Nat} {r : Int} (hm : m_laws_heldChannelEventS fuel x0 x1 = some r) :
    Calls Try.prog 41 ⟨[.slice A0_ x0.length k0_, .int .i64 x1]⟩ w (Ret fun v w8 => v = .int .i64 r ∧ St w w8 []) := by
  refine Calls.into Try.func41 rfl 31 rfl rfl _ rfl ?_
  unfold m_laws_heldChannelEventS at hm
  have hS := St.start w
  refine WP.seq ?_
  refine WP.region ?_
  refine RW.run ttok 1 rfl ?_
  refine RW.nil ?_
  refine WP.seq ?_
  refine WP.seq ?_
  refine WP.region ?_
  refine RW.run ttok 1 rfl ?_
  refine RW.nil ?_
  obtain ⟨o8, hl9, hm⟩ := bind_some hm
  refine WP.cut (fun (t2 : Int) F w9 => o8 = .inl t2 ∧ Ext w w9 ∧ St w w9 [] ∧ F = [(1, .int .i64 t2)]) ?_ ?_
  · skip
    rintro t2 F w7 ⟨ho11, hE6, hS10, rfl⟩
    subst ho11
    rw [aft_inl] at hm
    unfold m_laws_heldChannelEventS_j1 at hm
    refine WP.seq ?_
    refine WP.region ?_
    refine RW.run ttok 2 rfl ?_
    refine RW.nil ?_
    refine WP.ret ?_
    cases hm
    exact ⟨_, .cons (.tmp rfl) .nil, rfl, hS10⟩
  · skip
    refine WP.block ?_
    refine WP.weak [(0, .slice A0_ x0.length k0_), (1, .int .i64 x1), (5, .int .i64 0)] ⟨rfl, rfl, rfl, trivial⟩ ?_
    refine WP.iter (fun (s1 : Int × Int) F w9 => Ext w w9 ∧ St w w9 [] ∧ F = [(0, .slice A0_ x0.length k0_), (1, .int .i64 s1.1), (5, .int .i64 s1.2)]) _ hl9 ⟨(Ext.refl _), hS, rfl⟩ ?_
    rintro s1 F w16 _ o14 ⟨hE5, hS15, rfl⟩ hb12 ho13
    unfold m_laws_heldChannelEventS_b1 at hb12
    refine WP.seq ?_
    refine WP.seq ?_
    refine WP.region ?_
    refine RW.run ttok 4 rfl ?_
    refine RW.nil ?_
    refine WP.cond (decide (s1.2 < (x0.length : Int))) rfl (fun hc => ?_) (fun hc => ?_)
    · skip
      rw [if_pos hc] at hb12
      refine WP.skip ?_
      refine WP.seq ?_
      refine WP.block ?_
      refine WP.seq ?_
      refine WP.seq ?_
      refine WP.region ?_
      refine RW.run ttok 2 rfl ?_
      obtain ⟨x17, hx18, hb12⟩ := bind_some hb12
      refine RW.idx ttok hS15.ext rfl rfl rfl rfl rfl rfl (by decide) rfl rfl h0_ (idx_some hx18).1 (idx_some hx18).2 rfl rfl (fun p19 es20 ha21 hr22 => ?_)
      have e23 := ty66_open hr22; subst e23
      refine RW.run ttok 1 rfl ?_
      refine RW.load1 ttok rfl rfl rfl rfl rfl (At.ext hS15.ext ha21) 0 rfl rfl rfl rfl ?_
      refine RW.run ttok 2 rfl ?_
      refine RW.nil ?_
      refine WP.cond (x17.Kind != s1.1) rfl (fun hc => ?_) (fun hc => ?_)
      · skip
        rw [if_pos hc] at hb12
        refine WP.seq ?_
        refine WP.region ?_
        refine RW.run ttok 1 rfl ?_
        refine RW.nil ?_
        refine WP.ret ?_
        cases hb12
        cases ho13
        have hm : some _ = some _ := hm
        cases hm
        exact ⟨_, .cons (.tmp rfl) .nil, rfl, hS15⟩
      · skip
        rw [if_neg (not_t hc)] at hb12
        refine WP.skip ?_
        refine WP.seq ?_
        refine WP.region ?_
        refine RW.run ttok 3 rfl ?_
        refine RW.nil ?_
        refine WP.seq ?_
        refine WP.seq ?_
        refine WP.region ?_
        refine RW.run ttok 2 rfl ?_
        obtain ⟨x24, hx25, hb12⟩ := bind_some hb12
        refine RW.idx ttok hS15.ext rfl rfl rfl rfl rfl rfl (by decide) rfl rfl h0_ (idx_some hx25).1 (idx_some hx25).2 rfl rfl (fun p26 es27 ha28 hr29 => ?_)
        have e30 := ty66_open hr29; subst e30
        refine RW.run ttok 1 rfl ?_
        refine RW.load1 ttok rfl rfl rfl rfl rfl (At.ext hS15.ext ha28) 1 rfl rfl rfl rfl ?_
        refine RW.run ttok 2 rfl ?_
        refine RW.nil ?_
        refine WP.cond (x24.Index != (w64 (s1.1 + 1))) rfl (fun hc => ?_) (fun hc => ?_)
        · skip
          rw [if_pos hc] at hb12
          refine WP.seq ?_
          refine WP.region ?_
          refine RW.run ttok 1 rfl ?_
          refine RW.nil ?_
          refine WP.ret ?_
          cases hb12
          cases ho13
          have hm : some _ = some _ := hm
          cases hm
          exact ⟨_, .cons (.tmp rfl) .nil, rfl, hS15⟩
        · skip
          rw [if_neg (not_t hc)] at hb12
          refine WP.skip ?_
          refine WP.region ?_
          refine RW.run ttok 3 rfl ?_
          refine RW.nil ?_
          refine WP.region ?_
          refine RW.run ttok 3 rfl ?_
          refine RW.nil ?_
          cases hb12
          exact ⟨_, [(0, .slice A0_ x0.length k0_), (1, .int .i64 (w64 ((w64 (s1.1 + 1)) + 1))), (5, .int .i64 (w64 (s1.2 + 1)))], ⟨rfl, rfl, rfl, trivial⟩, rfl, hE5, hS15, rfl⟩
    · skip
      rw [if_neg (not_t hc)] at hb12
      refine WP.exit ?_
      cases hb12
      exact ⟨_, [(1, .int .i64 s1.1)], ⟨rfl, trivial⟩, ho13, hE5, hS15, rfl⟩

theorem enters6 : Enters Try.prog 6 := ⟨_, _, Try.func6, rfl, by kernel_rfl⟩
def m_laws_FnExactChannelEvents_j3 (fuel : Nat) (r120 : Int × (List D.ChannelEvent)) (t159 : Bool) : Option Bool := (if t159 = true then some false else ((m_laws_heldChannelEventS fuel r120.2 1).bind fun r164 => (if (decide (r164 < 0)) = true then some false else (if (r164 != r120.1) = true then some false else some true))))
def m_laws_FnExactChannelEvents_j2 (fuel : Nat) (x0 : D.Channel) (r40 : (List D.ChannelEvent) × Int) (r71 : (List D.ChannelEvent) × Int) (t115 : Bool) : Option Bool := (if t115 = true then some false else ((m_laws_markChannelEventS fuel r71.1 1).bind fun r120 => ((m_laws_heldChannelEventS fuel r120.2 1).bind fun r128 => (if (decide (r128 < 0)) = true then some false else (if (r128 != r120.1) = true then some false else ((m_laws_toChannel fuel x0).bind fun r135 => ((m_impl_ChannelEvents fuel r135).bind fun r150 => ((m_laws_eqChannelEventS fuel r150.1 r40.1).bind fun r171 => (if (!r171) = true then m_laws_FnExactChannelEvents_j3 fuel r120 true else m_laws_FnExactChannelEvents_j3 fuel r120 (r150.2 != r40.2))))))))))
def m_laws_FnExactChannelEvents_j1 (fuel : Nat) (x0 : D.Channel) (r40 : (List D.ChannelEvent) × Int) (r49 : D.Channel) (r71 : (List D.ChannelEvent) × Int) (t80 : Bool) : Option Bool := (if t80 = true then some false else ((m_laws_toChannel fuel x0).bind fun r87 => ((m_laws_eqChannel fuel r49 r87).bind fun r102 => (if (!r102) = true then some false else ((m_laws_markChannel fuel r49 1).bind fun r109 => (if (decide (r109.1 < 0)) = true then m_laws_FnExactChannelEvents_j2 fuel x0 r40 r71 true else ((m_laws_eqChannelEventS fuel r71.1 r40.1).bind fun r180 => (if (!r180) = true then m_laws_FnExactChannelEvents_j2 fuel x0 r40 r71 true else m_laws_FnExactChannelEvents_j2 fuel x0 r40 r71 (r71.2 != r40.2)))))))))
def m_laws_FnExactChannelEvents (fuel : Nat) (x0 : D.Channel) : Option (Bool) := ((m_laws_szChannel fuel x0 1048576).bind fun r18 => (if (decide (r18 < 0)) = true then some true else ((m_laws_toChannel fuel x0).bind fun r25 => ((m_spec_ChannelEvents fuel r25).bind fun r40 => ((m_laws_toChannel fuel x0).bind fun r49 => ((m_impl_ChannelEvents fuel r49).bind fun r71 => ((m_laws_eqChannelEventS fuel r71.1 r40.1).bind fun r188 => (if (!r188) = true then m_laws_FnExactChannelEvents_j1 fuel x0 r40 r49 r71 true else m_laws_FnExactChannelEvents_j1 fuel x0 r40 r49 r71 (r71.2 != r40.2)))))))))

set_option maxRecDepth 100000 in
theorem laws_FnExactChannelEvents_ok {w : World} {c0_ : List Value} {x0 : D.Channel} (h0_ : ty49.ro w c0_ x0) {fuel : Nat} {r : Bool} (hm : m_laws_FnExactChannelEvents fuel x0 = some r) :
    Calls Try.prog 6 ⟨[.agg ⟨c0_⟩]⟩ w (Ret fun v w8 => v = .bool r ∧ St w w8 []) := by
  obtain ⟨A1, k2, A4, k5, A7, k8, A10, k11, e13, h3, h6, h9, h12⟩ := ty49_open h0_; subst e13
  refine Calls.into Try.func6 rfl 96 rfl rfl _ rfl ?_
  unfold m_laws_FnExactChannelEvents at hm
  have hS := St.start w
  refine WP.seq ?_
  refine WP.region ?_
  refine RW.new ttok hS rfl rfl rfl rfl (fun g14 w15 e16 hS17 => ?_)
  refine RW.run ttok 1 rfl ?_
  refine RW.nil ?_
  refine WP.seq ?_
  refine WP.region ?_
  refine RW.run ttok 1 rfl ?_
  refine RW.nil ?_
  refine WP.seq ?_
  refine WP.region ?_
  refine RW.loadN ttok rfl rfl rfl rfl rfl ((hS17.bring 0 rfl).box) rfl rfl rfl ?_
  refine RW.run ttok 1 rfl ?_
  obtain ⟨r18, hx19, hm⟩ := bind_some hm
  refine RW.call rfl rfl rfl enters32 (laws_szChannel_ok (ty49.ext hS17.ext h0_) hx19) (fun v20 w21 hR22 => ?_)
  obtain ⟨rfl, hR23⟩ := hR22
  have hS24 := hS17.join hR23
  refine RW.run ttok 1 rfl ?_
  refine RW.nil ?_
  refine WP.seq ?_
  refine WP.seq ?_
  refine WP.region ?_
  refine RW.run ttok 2 rfl ?_
  refine RW.nil ?_
  refine WP.cond (decide (r18 < 0)) rfl (fun hc => ?_) (fun hc => ?_)
  · skip
    rw [if_pos hc] at hm
    refine WP.seq ?_
    refine WP.region ?_
    refine RW.run ttok 1 rfl ?_
    refine RW.nil ?_
    refine WP.ret ?_
    cases hm
    exact ⟨_, .cons (.tmp rfl) .nil, rfl, (hS24.taken 0)⟩
  · skip
    rw [if_neg (not_t hc)] at hm
    refine WP.skip ?_
    refine WP.seq ?_
    refine WP.region ?_
    refine RW.loadN ttok rfl rfl rfl rfl rfl ((hS24.bring 0 rfl).box) rfl rfl rfl ?_
    obtain ⟨r25, hx26, hm⟩ := bind_some hm
    refine RW.call rfl rfl rfl enters34 (laws_toChannel_ok (ty49.ext hS24.ext h0_) hx26) (fun v27 w28 hR29 => ?_)
    obtain ⟨A30, k31, A32, k33, A34, k35, A36, k37, rfl, hR38⟩ := hR29
    have hS39 := hS24.join hR38
    obtain ⟨r40, hx41, hm⟩ := bind_some hm
    refine RW.call rfl rfl rfl enters37 (spec_ChannelEvents_ok (ty39_shut r25 ((hS39.bring 0 rfl).own) ((hS39.bring 1 rfl).own) ((hS39.bring 2 rfl).own) ((hS39.bring 3 rfl).own)) hx41) (fun v42 w43 hR44 => ?_)
    obtain ⟨A45, k46, rfl, hR47⟩ := hR44
    have hS48 := hS39.join hR47
    refine RW.run ttok 5 rfl ?_
    refine RW.nil ?_
    refine WP.seq ?_
    refine WP.region ?_
    refine RW.loadN ttok rfl rfl rfl rfl rfl ((hS48.bring 5 rfl).box) rfl rfl rfl ?_
    obtain ⟨r49, hx50, hm⟩ := bind_some hm
    refine RW.call rfl rfl rfl enters34 (laws_toChannel_ok (ty49.ext hS48.ext h0_) hx50) (fun v51 w52 hR53 => ?_)
    obtain ⟨A54, k55, A56, k57, A58, k59, A60, k61, rfl, hR62⟩ := hR53
    have hS63 := hS48.join hR62
    refine RW.new ttok hS63 rfl rfl rfl rfl (fun g64 w65 e66 hS67 => ?_)
    have hS68 := hS67.bring 0 rfl
    refine RW.store ttok (A := []) hS68 rfl rfl rfl rfl rfl 0 rfl rfl rfl rfl rfl (fun w69 hS70 => ?_)
    refine RW.nil ?_
    refine WP.seq ?_
    refine WP.region ?_
    refine RW.loadN ttok rfl rfl rfl rfl rfl ((hS70.bring 0 rfl).box) rfl rfl rfl ?_
    obtain ⟨r71, hx72, hm⟩ := bind_some hm
    refine RW.call rfl rfl rfl enters38 (impl_ChannelEvents_ok (ty39_shut r49 ((hS70.bring 1 rfl).own) ((hS70.bring 2 rfl).own) ((hS70.bring 3 rfl).own) ((hS70.bring 4 rfl).own)) hx72) (fun v73 w74 hR75 => ?_)
    obtain ⟨A76, k77, rfl, hR78⟩ := hR75
    have hS79 := hS70.join hR78
    refine RW.run ttok 5 rfl ?_
    refine RW.nil ?_
    refine WP.seq ?_
    refine WP.seq ?_
    refine WP.cut (fun (t80 : Bool) F w9 => m_laws_FnExactChannelEvents_j1 fuel x0 r40 r49 r71 t80 = some r ∧ Ext w74 w9 ∧ St w w9 [Own ty55 [.slice A76 r71.1.length k77] r71.1, Box g64 [.int .i64 r49.Window, .slice A54 r49.Messages.length k55, .int .i64 r49.Base, .int .i64 r49.Next, .int .i64 r49.Expected, .slice A56 r49.Early.length k57, .slice A58 r49.Delivered.length k59, .slice A60 r49.Flight.length k61] 39, Own ty35 [.slice A54 r49.Messages.length k55] r49.Messages, Own ty37 [.slice A56 r49.Early.length k57] r49.Early, Own ty35 [.slice A58 r49.Delivered.length k59] r49.Delivered, Own ty37 [.slice A60 r49.Flight.length k61] r49.Flight, Own ty55 [.slice A45 r40.1.length k46] r40.1, Own ty35 [.slice A30 r25.Messages.length k31] r25.Messages, Own ty37 [.slice A32 r25.Early.length k33] r25.Early, Own ty35 [.slice A34 r25.Delivered.length k35] r25.Delivered, Own ty37 [.slice A36 r25.Flight.length k37] r25.Flight, Box g14 [.int .i64 x0.Window, .slice A1 x0.Messages.length k2, .int .i64 x0.Base, .int .i64 x0.Next, .int .i64 x0.Expected, .slice A4 x0.Early.length k5, .slice A7 x0.Delivered.length k8, .slice A10 x0.Flight.length k11] 49] ∧ F = [(1, .pointer (some ⟨g14, 0, none⟩)), (4, .slice A45 r40.1.length k46), (5, .int .i64 r40.2), (6, .pointer (some ⟨g64, 0, none⟩)), (7, .slice A76 r71.1.length k77), (8, .int .i64 r71.2), (40, .bool t80)]) ?_ ?_
    · skip
      rintro t80 F w83 ⟨hm, hE81, hS82, rfl⟩
      unfold m_laws_FnExactChannelEvents_j1 at hm
      refine WP.cond t80 rfl (fun hc => ?_) (fun hc => ?_)
      · skip
        rw [if_pos hc] at hm
        refine WP.seq ?_
        refine WP.region ?_
        refine RW.run ttok 1 rfl ?_
        refine RW.nil ?_
        refine WP.ret ?_
        cases hm
        exact ⟨_, .cons (.tmp rfl) .nil, rfl, (hS82.taken 0)⟩
      · skip
        rw [if_neg (not_t hc)] at hm
        refine WP.skip ?_
        refine WP.seq ?_
        refine WP.seq ?_
        refine WP.drawnM 0 mixed 5 (by kernel_rfl) (by kernel_rfl) [([], 31), ([], 31), ([1], 29), ([0, 2, 2], 26), ([3], 23)] (by kernel_rfl) (fun hsk85 => ?_)
        have hS86 := hS82.step (Ext.draw _)
        refine DM.loadN ttok hsk85 0 1 (by kernel_rfl) (by kernel_rfl) (by kernel_rfl) (by kernel_rfl) rfl (by kernel_rfl) rfl rfl rfl rfl rfl ((hS82.bring 1 rfl).box) rfl rfl rfl ?_
        refine DM.loadN ttok hsk85 1 3 (by kernel_rfl) (by kernel_rfl) (by kernel_rfl) (by kernel_rfl) rfl (by kernel_rfl) rfl rfl rfl rfl rfl ((hS82.bring 11 rfl).box) rfl rfl rfl ?_
        obtain ⟨r87, hx88, hm⟩ := bind_some hm
        refine DM.one hsk85 2 (by kernel_rfl) (LM.call hsk85 7 (by kernel_rfl) (by kernel_rfl) rfl rfl rfl rfl enters34 (laws_toChannel_ok (ty49.ext hS86.ext h0_) hx88) (fun v89 w90 hR91 => ?_))
        obtain ⟨A92, k93, A94, k95, A96, k97, A98, k99, rfl, hR100⟩ := hR91
        refine ⟨hR100.ext, ?_⟩
        have hS101 := hS86.join hR100
        obtain ⟨r102, hx103, hm⟩ := bind_some hm
        refine DM.one hsk85 3 (by kernel_rfl) (LM.call hsk85 15 (by kernel_rfl) (by kernel_rfl) rfl rfl rfl rfl enters27 (laws_eqChannel_ok (ty39_shut r49 ((hS101.bring 6 rfl).own) ((hS101.bring 7 rfl).own) ((hS101.bring 8 rfl).own) ((hS101.bring 9 rfl).own)) (ty39_shut r87 ((hS101.bring 0 rfl).own) ((hS101.bring 1 rfl).own) ((hS101.bring 2 rfl).own) ((hS101.bring 3 rfl).own)) hx103) (fun v104 w105 hR106 => ?_))
        obtain ⟨rfl, hR107⟩ := hR106
        refine ⟨hR107.ext, ?_⟩
        have hS108 := hS101.join hR107
        refine DM.run (fuel := 0) ttok hsk85 [4] 31 (by kernel_rfl) (by kernel_rfl) rfl ?_
        refine DM.done hsk85 (by kernel_rfl) ?_
        refine WP.cond (!r102) rfl (fun hc => ?_) (fun hc => ?_)
        · skip
          rw [if_pos hc] at hm
          refine WP.seq ?_
          refine WP.region ?_
          refine RW.run ttok 1 rfl ?_
          refine RW.nil ?_
          refine WP.ret ?_
          cases hm
          exact ⟨_, .cons (.tmp rfl) .nil, rfl, (hS108.taken 0)⟩
        · skip
          rw [if_neg (not_t hc)] at hm
          refine WP.skip ?_
          refine WP.seq ?_
          refine WP.region ?_
          refine RW.run ttok 1 rfl ?_
          refine RW.nil ?_
          refine WP.seq ?_
          refine WP.region ?_
          refine RW.loadN ttok rfl rfl rfl rfl rfl ((hS108.bring 5 rfl).box) rfl rfl rfl ?_
          refine RW.run ttok 1 rfl ?_
          obtain ⟨r109, hx110, hm⟩ := bind_some hm
          refine RW.call rfl rfl rfl enters30 (laws_markChannel_ok (W := w) (RR := _) ((((hS108.bring 9 rfl).bring 9 rfl).bring 9 rfl).bring 9 rfl)  hx110) (fun v111 w112 hR113 => ?_)
          obtain ⟨rfl, hS114⟩ := hR113
          refine RW.run ttok 1 rfl ?_
          refine RW.nil ?_
          refine WP.seq ?_
          refine WP.seq ?_
          refine WP.cut (fun (t115 : Bool) F w9 => m_laws_FnExactChannelEvents_j2 fuel x0 r40 r71 t115 = some r ∧ Ext w112 w9 ∧ St w w9 [Own ty35 [.slice A54 r49.Messages.length k55] r109.2.1, Own ty37 [.slice A56 r49.Early.length k57] r109.2.2.1, Own ty35 [.slice A58 r49.Delivered.length k59] r109.2.2.2.1, Own ty37 [.slice A60 r49.Flight.length k61] r109.2.2.2.2, Own ty35 [.slice A92 r87.Messages.length k93] r87.Messages, Own ty37 [.slice A94 r87.Early.length k95] r87.Early, Own ty35 [.slice A96 r87.Delivered.length k97] r87.Delivered, Own ty37 [.slice A98 r87.Flight.length k99] r87.Flight, Own ty55 [.slice A76 r71.1.length k77] r71.1, Box g64 [.int .i64 r49.Window, .slice A54 r49.Messages.length k55, .int .i64 r49.Base, .int .i64 r49.Next, .int .i64 r49.Expected, .slice A56 r49.Early.length k57, .slice A58 r49.Delivered.length k59, .slice A60 r49.Flight.length k61] 39, Own ty55 [.slice A45 r40.1.length k46] r40.1, Own ty35 [.slice A30 r25.Messages.length k31] r25.Messages, Own ty37 [.slice A32 r25.Early.length k33] r25.Early, Own ty35 [.slice A34 r25.Delivered.length k35] r25.Delivered, Own ty37 [.slice A36 r25.Flight.length k37] r25.Flight, Box g14 [.int .i64 x0.Window, .slice A1 x0.Messages.length k2, .int .i64 x0.Base, .int .i64 x0.Next, .int .i64 x0.Expected, .slice A4 x0.Early.length k5, .slice A7 x0.Delivered.length k8, .slice A10 x0.Flight.length k11] 49] ∧ F = [(1, .pointer (some ⟨g14, 0, none⟩)), (4, .slice A45 r40.1.length k46), (5, .int .i64 r40.2), (7, .slice A76 r71.1.length k77), (61, .bool t115)]) ?_ ?_
          · skip
            rintro t115 F w118 ⟨hm, hE116, hS117, rfl⟩
            unfold m_laws_FnExactChannelEvents_j2 at hm
            refine WP.cond t115 rfl (fun hc => ?_) (fun hc => ?_)
            · skip
              rw [if_pos hc] at hm
              refine WP.seq ?_
              refine WP.region ?_
              refine RW.run ttok 1 rfl ?_
              refine RW.nil ?_
              refine WP.ret ?_
              cases hm
              exact ⟨_, .cons (.tmp rfl) .nil, rfl, (hS117.taken 0)⟩
            · skip
              rw [if_neg (not_t hc)] at hm
              refine WP.skip ?_
              refine WP.seq ?_
              refine WP.region ?_
              refine RW.run ttok 1 rfl ?_
              refine RW.nil ?_
              refine WP.seq ?_
              refine WP.region ?_
              refine RW.run ttok 2 rfl ?_
              obtain ⟨r120, hx121, hm⟩ := bind_some hm
              refine RW.call rfl rfl rfl enters40 (laws_markChannelEventS_ok (W := w) (RR := _) (hS117.bring 8 rfl)  hx121) (fun v122 w123 hR124 => ?_)
              obtain ⟨rfl, hS125⟩ := hR124
              refine RW.run ttok 1 rfl ?_
              refine RW.nil ?_
              refine WP.seq ?_
              refine WP.region ?_
              refine RW.run ttok 1 rfl ?_
              refine RW.nil ?_
              refine WP.seq ?_
              refine WP.region ?_
              refine RW.run ttok 2 rfl ?_
              have hn126 := (hS125.bring 0 rfl).lenEq
              have hS127 := (hS125.bring 0 rfl).reLen hn126
              refine RW.know (u := .slice A76 r120.2.length k77) 65 rfl (by simp only [hn126]) ?_
              obtain ⟨r128, hx129, hm⟩ := bind_some hm
              refine RW.call rfl rfl rfl enters41 (laws_heldChannelEventS_ok ((hS127.bring 0 rfl).own) hx129) (fun v130 w131 hR132 => ?_)
              obtain ⟨rfl, hR133⟩ := hR132
              have hS134 := hS127.join hR133
              refine RW.run ttok 1 rfl ?_
              refine RW.nil ?_
              refine WP.seq ?_
              refine WP.seq ?_
              refine WP.region ?_
              refine RW.run ttok 2 rfl ?_
              refine RW.nil ?_
              refine WP.cond (decide (r128 < 0)) rfl (fun hc => ?_) (fun hc => ?_)
              · skip
                rw [if_pos hc] at hm
                refine WP.seq ?_
                refine WP.region ?_
                refine RW.run ttok 1 rfl ?_
                refine RW.nil ?_
                refine WP.ret ?_
                cases hm
                exact ⟨_, .cons (.tmp rfl) .nil, rfl, (hS134.taken 0)⟩
              · skip
                rw [if_neg (not_t hc)] at hm
                refine WP.skip ?_
                refine WP.seq ?_
                refine WP.seq ?_
                refine WP.region ?_
                refine RW.run ttok 3 rfl ?_
                refine RW.nil ?_
                refine WP.cond (r128 != r120.1) rfl (fun hc => ?_) (fun hc => ?_)
                · skip
                  rw [if_pos hc] at hm
                  refine WP.seq ?_
                  refine WP.region ?_
                  refine RW.run ttok 1 rfl ?_
                  refine RW.nil ?_
                  refine WP.ret ?_
                  cases hm
                  exact ⟨_, .cons (.tmp rfl) .nil, rfl, (hS134.taken 0)⟩
                · skip
                  rw [if_neg (not_t hc)] at hm
                  refine WP.skip ?_
                  refine WP.seq ?_
                  refine WP.region ?_
                  refine RW.loadN ttok rfl rfl rfl rfl rfl ((hS134.bring 15 rfl).box) rfl rfl rfl ?_
                  obtain ⟨r135, hx136, hm⟩ := bind_some hm
                  refine RW.call rfl rfl rfl enters34 (laws_toChannel_ok (ty49.ext hS134.ext h0_) hx136) (fun v137 w138 hR139 => ?_)
                  obtain ⟨A140, k141, A142, k143, A144, k145, A146, k147, rfl, hR148⟩ := hR139
                  have hS149 := hS134.join hR148
                  obtain ⟨r150, hx151, hm⟩ := bind_some hm
                  refine RW.call rfl rfl rfl enters38 (impl_ChannelEvents_ok (ty39_shut r135 ((hS149.bring 0 rfl).own) ((hS149.bring 1 rfl).own) ((hS149.bring 2 rfl).own) ((hS149.bring 3 rfl).own)) hx151) (fun v152 w153 hR154 => ?_)
                  obtain ⟨A155, k156, rfl, hR157⟩ := hR154
                  have hS158 := hS149.join hR157
                  refine RW.run ttok 5 rfl ?_
                  refine RW.nil ?_
                  refine WP.seq ?_
                  refine WP.seq ?_
                  refine WP.cut (fun (t159 : Bool) F w9 => m_laws_FnExactChannelEvents_j3 fuel r120 t159 = some r ∧ Ext w153 w9 ∧ St w w9 [Own ty55 [.slice A155 r150.1.length k156] r150.1, Own ty35 [.slice A140 r135.Messages.length k141] r135.Messages, Own ty37 [.slice A142 r135.Early.length k143] r135.Early, Own ty35 [.slice A144 r135.Delivered.length k145] r135.Delivered, Own ty37 [.slice A146 r135.Flight.length k147] r135.Flight, Own ty55 [.slice A76 r120.2.length k77] r120.2, Own ty35 [.slice A54 r49.Messages.length k55] r109.2.1, Own ty37 [.slice A56 r49.Early.length k57] r109.2.2.1, Own ty35 [.slice A58 r49.Delivered.length k59] r109.2.2.2.1, Own ty37 [.slice A60 r49.Flight.length k61] r109.2.2.2.2, Own ty35 [.slice A92 r87.Messages.length k93] r87.Messages, Own ty37 [.slice A94 r87.Early.length k95] r87.Early, Own ty35 [.slice A96 r87.Delivered.length k97] r87.Delivered, Own ty37 [.slice A98 r87.Flight.length k99] r87.Flight, Box g64 [.int .i64 r49.Window, .slice A54 r49.Messages.length k55, .int .i64 r49.Base, .int .i64 r49.Next, .int .i64 r49.Expected, .slice A56 r49.Early.length k57, .slice A58 r49.Delivered.length k59, .slice A60 r49.Flight.length k61] 39, Own ty55 [.slice A45 r40.1.length k46] r40.1, Own ty35 [.slice A30 r25.Messages.length k31] r25.Messages, Own ty37 [.slice A32 r25.Early.length k33] r25.Early, Own ty35 [.slice A34 r25.Delivered.length k35] r25.Delivered, Own ty37 [.slice A36 r25.Flight.length k37] r25.Flight, Box g14 [.int .i64 x0.Window, .slice A1 x0.Messages.length k2, .int .i64 x0.Base, .int .i64 x0.Next, .int .i64 x0.Expected, .slice A4 x0.Early.length k5, .slice A7 x0.Delivered.length k8, .slice A10 x0.Flight.length k11] 49] ∧ F = [(7, .slice A76 r71.1.length k77), (10, .int .i64 r120.1), (87, .bool t159)]) ?_ ?_
                  · skip
                    rintro t159 F w162 ⟨hm, hE160, hS161, rfl⟩
                    unfold m_laws_FnExactChannelEvents_j3 at hm
                    refine WP.cond t159 rfl (fun hc => ?_) (fun hc => ?_)
                    · skip
                      rw [if_pos hc] at hm
                      refine WP.seq ?_
                      refine WP.region ?_
                      refine RW.run ttok 1 rfl ?_
                      refine RW.nil ?_
                      refine WP.ret ?_
                      cases hm
                      exact ⟨_, .cons (.tmp rfl) .nil, rfl, (hS161.taken 0)⟩
                    · skip
                      rw [if_neg (not_t hc)] at hm
                      refine WP.skip ?_
                      refine WP.seq ?_
                      refine WP.region ?_
                      refine RW.run ttok 1 rfl ?_
                      refine RW.nil ?_
                      refine WP.seq ?_
                      refine WP.region ?_
                      refine RW.run ttok 2 rfl ?_
                      refine RW.know (u := .slice A76 r120.2.length k77) 88 rfl (by simp only [hn126]) ?_
                      obtain ⟨r164, hx165, hm⟩ := bind_some hm
                      refine RW.call rfl rfl rfl enters41 (laws_heldChannelEventS_ok ((hS161.bring 5 rfl).own) hx165) (fun v166 w167 hR168 => ?_)
                      obtain ⟨rfl, hR169⟩ := hR168
                      have hS170 := hS161.join hR169
                      refine RW.run ttok 1 rfl ?_
                      refine RW.nil ?_
                      refine WP.seq ?_
                      refine WP.seq ?_
                      refine WP.region ?_
                      refine RW.run ttok 2 rfl ?_
                      refine RW.nil ?_
                      refine WP.cond (decide (r164 < 0)) rfl (fun hc => ?_) (fun hc => ?_)
                      · skip
                        rw [if_pos hc] at hm
                        refine WP.seq ?_
                        refine WP.region ?_
                        refine RW.run ttok 1 rfl ?_
                        refine RW.nil ?_
                        refine WP.ret ?_
                        cases hm
                        exact ⟨_, .cons (.tmp rfl) .nil, rfl, (hS170.taken 0)⟩
                      · skip
                        rw [if_neg (not_t hc)] at hm
                        refine WP.skip ?_
                        refine WP.seq ?_
                        refine WP.seq ?_
                        refine WP.region ?_
                        refine RW.run ttok 3 rfl ?_
                        refine RW.nil ?_
                        refine WP.cond (r164 != r120.1) rfl (fun hc => ?_) (fun hc => ?_)
                        · skip
                          rw [if_pos hc] at hm
                          refine WP.seq ?_
                          refine WP.region ?_
                          refine RW.run ttok 1 rfl ?_
                          refine RW.nil ?_
                          refine WP.ret ?_
                          cases hm
                          exact ⟨_, .cons (.tmp rfl) .nil, rfl, (hS170.taken 0)⟩
                        · skip
                          rw [if_neg (not_t hc)] at hm
                          refine WP.skip ?_
                          refine WP.seq ?_
                          refine WP.region ?_
                          refine RW.run ttok 1 rfl ?_
                          refine RW.nil ?_
                          refine WP.ret ?_
                          cases hm
                          exact ⟨_, .cons (.tmp rfl) .nil, rfl, (hS170.taken 0)⟩
                  · skip
                    refine WP.region ?_
                    refine RW.run ttok 2 rfl ?_
                    obtain ⟨r171, hx172, hm⟩ := bind_some hm
                    refine RW.call rfl rfl rfl enters39 (laws_eqChannelEventS_ok ((hS158.bring 0 rfl).own) ((hS158.bring 15 rfl).own) hx172) (fun v173 w174 hR175 => ?_)
                    obtain ⟨rfl, hR176⟩ := hR175
                    have hS177 := hS158.join hR176
                    refine RW.run ttok 2 rfl ?_
                    by_cases hg178 : (!r171) = true
                    · skip
                      rw [if_pos hg178] at hm
                      refine RW.know 83 rfl (congrArg Value.bool hg178) ?_
                      refine RW.run ttok 4 rfl ?_
                      refine RW.nil ?_
                      exact ⟨true, [(7, .slice A76 r71.1.length k77), (10, .int .i64 r120.1), (87, .bool true)], ⟨rfl, rfl, rfl, trivial⟩, hm, hR176.ext, hS177, rfl⟩
                    · skip
                      rw [if_neg hg178] at hm
                      refine RW.know 83 rfl (congrArg Value.bool (Bool.eq_false_iff.2 hg178)) ?_
                      refine RW.run ttok 4 rfl ?_
                      refine RW.nil ?_
                      exact ⟨(r150.2 != r40.2), [(7, .slice A76 r71.1.length k77), (10, .int .i64 r120.1), (87, .bool (r150.2 != r40.2))], ⟨rfl, rfl, rfl, trivial⟩, hm, hR176.ext, hS177, rfl⟩
          · skip
            refine WP.region ?_
            refine RW.run ttok 3 rfl ?_
            by_cases hg179 : (decide (r109.1 < 0)) = true
            · skip
              rw [if_pos hg179] at hm
              refine RW.know 51 rfl (congrArg Value.bool hg179) ?_
              refine RW.run ttok 10 rfl ?_
              refine RW.nil ?_
              exact ⟨true, [(1, .pointer (some ⟨g14, 0, none⟩)), (4, .slice A45 r40.1.length k46), (5, .int .i64 r40.2), (7, .slice A76 r71.1.length k77), (61, .bool true)], ⟨rfl, rfl, rfl, rfl, rfl, trivial⟩, hm, (Ext.refl _), hS114, rfl⟩
            · skip
              rw [if_neg hg179] at hm
              refine RW.know 51 rfl (congrArg Value.bool (Bool.eq_false_iff.2 hg179)) ?_
              refine RW.run ttok 2 rfl ?_
              obtain ⟨r180, hx181, hm⟩ := bind_some hm
              refine RW.call rfl rfl rfl enters39 (laws_eqChannelEventS_ok ((hS114.bring 8 rfl).own) ((hS114.bring 10 rfl).own) hx181) (fun v182 w183 hR184 => ?_)
              obtain ⟨rfl, hR185⟩ := hR184
              have hS186 := hS114.join hR185
              refine RW.run ttok 3 rfl ?_
              by_cases hg187 : (!r180) = true
              · skip
                rw [if_pos hg187] at hm
                refine RW.know 57 rfl (congrArg Value.bool hg187) ?_
                refine RW.run ttok 4 rfl ?_
                refine RW.nil ?_
                exact ⟨true, [(1, .pointer (some ⟨g14, 0, none⟩)), (4, .slice A45 r40.1.length k46), (5, .int .i64 r40.2), (7, .slice A76 r71.1.length k77), (61, .bool true)], ⟨rfl, rfl, rfl, rfl, rfl, trivial⟩, hm, hR185.ext, hS186, rfl⟩
              · skip
                rw [if_neg hg187] at hm
                refine RW.know 57 rfl (congrArg Value.bool (Bool.eq_false_iff.2 hg187)) ?_
                refine RW.run ttok 4 rfl ?_
                refine RW.nil ?_
                exact ⟨(r71.2 != r40.2), [(1, .pointer (some ⟨g14, 0, none⟩)), (4, .slice A45 r40.1.length k46), (5, .int .i64 r40.2), (7, .slice A76 r71.1.length k77), (61, .bool (r71.2 != r40.2))], ⟨rfl, rfl, rfl, rfl, rfl, trivial⟩, hm, hR185.ext, hS186, rfl⟩
    · skip
      refine WP.region ?_
      refine RW.run ttok 2 rfl ?_
      obtain ⟨r188, hx189, hm⟩ := bind_some hm
      refine RW.call rfl rfl rfl enters39 (laws_eqChannelEventS_ok ((hS79.bring 0 rfl).own) ((hS79.bring 6 rfl).own) hx189) (fun v190 w191 hR192 => ?_)
      obtain ⟨rfl, hR193⟩ := hR192
      have hS194 := hS79.join hR193
      refine RW.run ttok 2 rfl ?_
      by_cases hg195 : (!r188) = true
      · skip
        rw [if_pos hg195] at hm
        refine RW.know 36 rfl (congrArg Value.bool hg195) ?_
        refine RW.run ttok 4 rfl ?_
        refine RW.nil ?_
        exact ⟨true, [(1, .pointer (some ⟨g14, 0, none⟩)), (4, .slice A45 r40.1.length k46), (5, .int .i64 r40.2), (6, .pointer (some ⟨g64, 0, none⟩)), (7, .slice A76 r71.1.length k77), (8, .int .i64 r71.2), (40, .bool true)], ⟨rfl, rfl, rfl, rfl, rfl, rfl, rfl, trivial⟩, hm, hR193.ext, hS194, rfl⟩
      · skip
        rw [if_neg hg195] at hm
        refine RW.know 36 rfl (congrArg Value.bool (Bool.eq_false_iff.2 hg195)) ?_
        refine RW.run ttok 4 rfl ?_
        refine RW.nil ?_
        exact ⟨(r71.2 != r40.2), [(1, .pointer (some ⟨g14, 0, none⟩)), (4, .slice A45 r40.1.length k46), (5, .int .i64 r40.2), (6, .pointer (some ⟨g64, 0, none⟩)), (7, .slice A76 r71.1.length k77), (8, .int .i64 r71.2), (40, .bool (r71.2 != r40.2))], ⟨rfl, rfl, rfl, rfl, rfl, rfl, rfl, trivial⟩, hm, hR193.ext, hS194, rfl⟩

end Go.E
