/- Models of functions and proofs that the code runs as they say (written by program). Conditions: the model gives a value. -/
import Derived.Test.YtomgmnacnchbeaaFX
namespace Go.E
open Go.RowKit Go.Proofs
set_option linter.unusedVariables false
set_option linter.unusedSimpArgs false
set_option maxHeartbeats 2000000

theorem enters26 : Enters Try.prog 26 := ⟨_, _, Try.func26, rfl, by kernel_rfl⟩
def m_laws_eqAgentS_j1 (fuel : Nat) (t2 : Unit) : Option Bool := some true
def m_laws_eqAgentS_b1 (fuel : Nat) (x0 : (List D.Agent)) (x1 : (List D.Agent)) (s1 : Int) : Option (Rd (Int) (Unit) (Bool)) := (if (decide (s1 < (x0.length : Int))) = true then ((idx x0 s1).bind fun x21 => ((idx x1 s1).bind fun x34 => ((m_laws_eqAgent fuel x21 x34).bind fun r47 => (if (!r47) = true then some (.ret false) else some (.next (w64 (s1 + 1))))))) else some (.brk ()))
def m_laws_eqAgentS (fuel : Nat) (x0 : (List D.Agent)) (x1 : (List D.Agent)) : Option (Bool) := (if ((x0.length : Int) != (x1.length : Int)) = true then some false else ((iter (m_laws_eqAgentS_b1 fuel x0 x1) fuel 0).bind fun o => aft o (m_laws_eqAgentS_j1 fuel)))

set_option maxRecDepth 100000 in
theorem laws_eqAgentS_ok {W w : World} (hE : Ext W w) {A0_ : Option Addr} {k0_ : Nat} {x0 : (List D.Agent)} {A1_ : Option Addr} {k1_ : Nat} {x1 : (List D.Agent)} (h0_ : ty28.ro W [.slice A0_ x0.length k0_] x0) (h1_ : ty28.ro W [.slice A1_ x1.length k1_] x1) {fuel : Nat} {r : Bool} (hm : m_laws_eqAgentS fuel x0 x1 = some r) :
    Calls Try.prog 26 ⟨[.slice A0_ x0.length k0_, .slice A1_ x1.length k1_]⟩ w (Ret fun v w8 => v = .bool r ∧ St w w8 []) := by
  refine Calls.into Try.func26 rfl 27 rfl rfl _ rfl ?_
  unfold m_laws_eqAgentS at hm
  have hS := St.start w
  refine WP.seq ?_
  refine WP.region ?_
  refine RW.run ttok 1 rfl ?_
  refine RW.nil ?_
  refine WP.seq ?_
  refine WP.seq ?_
  refine WP.region ?_
  refine RW.run ttok 5 rfl ?_
  refine RW.nil ?_
  refine WP.cond ((x0.length : Int) != (x1.length : Int)) rfl (fun hc => ?_) (fun hc => ?_)
  · skip
    rw [if_pos hc] at hm
    refine WP.seq ?_
    refine WP.region ?_
    refine RW.run ttok 1 rfl ?_
    refine RW.nil ?_
    refine WP.ret ?_
    cases hm
    exact ⟨_, .cons (.tmp rfl) .nil, rfl, hS⟩
  · skip
    rw [if_neg (not_t hc)] at hm
    refine WP.skip ?_
    refine WP.seq ?_
    refine WP.seq ?_
    refine WP.region ?_
    refine RW.run ttok 1 rfl ?_
    refine RW.nil ?_
    obtain ⟨o10, hl11, hm⟩ := bind_some hm
    refine WP.cut (fun (t2 : Unit) F w9 => o10 = .inl t2 ∧ Ext w w9 ∧ St w w9 [] ∧ F = []) ?_ ?_
    · skip
      rintro t2 F w7 ⟨ho13, hE6, hS12, rfl⟩
      subst ho13
      rw [aft_inl] at hm
      unfold m_laws_eqAgentS_j1 at hm
      refine WP.seq ?_
      refine WP.region ?_
      refine RW.run ttok 1 rfl ?_
      refine RW.nil ?_
      refine WP.ret ?_
      cases hm
      exact ⟨_, .cons (.tmp rfl) .nil, rfl, hS12⟩
    · skip
      refine WP.block ?_
      refine WP.weak [(0, .slice A0_ x0.length k0_), (1, .slice A1_ x1.length k1_), (5, .int .i64 0)] ⟨rfl, rfl, rfl, trivial⟩ ?_
      refine WP.iter (fun (s1 : Int) F w9 => Ext w w9 ∧ St w w9 [] ∧ F = [(0, .slice A0_ x0.length k0_), (1, .slice A1_ x1.length k1_), (5, .int .i64 s1)]) _ hl11 ⟨(Ext.refl _), hS, rfl⟩ ?_
      rintro s1 F w18 _ o16 ⟨hE5, hS17, rfl⟩ hb14 ho15
      unfold m_laws_eqAgentS_b1 at hb14
      refine WP.seq ?_
      refine WP.seq ?_
      refine WP.region ?_
      refine RW.run ttok 4 rfl ?_
      refine RW.nil ?_
      refine WP.cond (decide (s1 < (x0.length : Int))) rfl (fun hc => ?_) (fun hc => ?_)
      · skip
        rw [if_pos hc] at hb14
        refine WP.skip ?_
        refine WP.seq ?_
        refine WP.block ?_
        refine WP.seq ?_
        refine WP.drawnM 0 mixed 10 (by kernel_rfl) (by kernel_rfl) [([], 1023), ([], 1023), ([0, 1], 1020), ([2], 1019), ([], 1023), ([], 1023), ([4, 5], 975), ([6], 959), ([3, 7], 887), ([8], 767)] (by kernel_rfl) hS17.ext (fun hsk19 => ?_)
        have hS20 := hS17.step (Ext.draw _)
        refine DM.run (fuel := 6) ttok hsk19 [0, 1, 4, 5] 51 (by kernel_rfl) (by kernel_rfl) rfl ?_
        obtain ⟨x21, hx22, hb14⟩ := bind_some hb14
        refine DM.idx ttok (hE.trans hS17.ext) hsk19 2 55 (by kernel_rfl) (by kernel_rfl) (by kernel_rfl) (by kernel_rfl) rfl (by kernel_rfl) rfl rfl rfl rfl rfl rfl (by decide) rfl rfl h0_ (idx_some hx22).1 (idx_some hx22).2 rfl rfl (fun p23 es24 ha25 hr26 => ?_)
        obtain ⟨A27, k28, A30, k31, e33, h29, h32⟩ := ty112_open hr26; subst e33
        refine DM.loadN ttok hsk19 3 63 (by kernel_rfl) (by kernel_rfl) (by kernel_rfl) (by kernel_rfl) rfl (by kernel_rfl) rfl rfl rfl rfl rfl (At.ext (hE.trans hS17.ext) ha25) rfl rfl rfl ?_
        obtain ⟨x34, hx35, hb14⟩ := bind_some hb14
        refine DM.idx ttok (hE.trans hS17.ext) hsk19 6 127 (by kernel_rfl) (by kernel_rfl) (by kernel_rfl) (by kernel_rfl) rfl (by kernel_rfl) rfl rfl rfl rfl rfl rfl (by decide) rfl rfl h1_ (idx_some hx35).1 (idx_some hx35).2 rfl rfl (fun p36 es37 ha38 hr39 => ?_)
        obtain ⟨A40, k41, A43, k44, e46, h42, h45⟩ := ty112_open hr39; subst e46
        refine DM.loadN ttok hsk19 7 255 (by kernel_rfl) (by kernel_rfl) (by kernel_rfl) (by kernel_rfl) rfl (by kernel_rfl) rfl rfl rfl rfl rfl (At.ext (hE.trans hS17.ext) ha38) rfl rfl rfl ?_
        obtain ⟨r47, hx48, hb14⟩ := bind_some hb14
        refine DM.one hsk19 8 (by kernel_rfl) (LM.call hsk19 511 (by kernel_rfl) (by kernel_rfl) rfl rfl rfl rfl enters67 (laws_eqAgent_ok (hE.trans hS20.ext) hr26 hr39 hx48) (fun v49 w50 hR51 => ?_))
        obtain ⟨rfl, hR52⟩ := hR51
        refine ⟨hR52.ext, ?_⟩
        have hS53 := hS20.join hR52
        refine DM.run (fuel := 0) ttok hsk19 [9] 1023 (by kernel_rfl) (by kernel_rfl) rfl ?_
        refine DM.weak [(0, .slice A0_ x0.length k0_), (1, .slice A1_ x1.length k1_), (5, .int .i64 s1), (26, .bool (!r47))] ⟨rfl, rfl, rfl, rfl, trivial⟩ ?_
        refine DM.done hsk19 (by kernel_rfl) ?_
        refine WP.cond (!r47) rfl (fun hc => ?_) (fun hc => ?_)
        · skip
          rw [if_pos hc] at hb14
          refine WP.seq ?_
          refine WP.region ?_
          refine RW.run ttok 1 rfl ?_
          refine RW.nil ?_
          refine WP.ret ?_
          cases hb14
          cases ho15
          have hm : some _ = some _ := hm
          cases hm
          exact ⟨_, .cons (.tmp rfl) .nil, rfl, hS53⟩
        · skip
          rw [if_neg (not_t hc)] at hb14
          refine WP.skip ?_
          refine WP.region ?_
          refine RW.run ttok 3 rfl ?_
          refine RW.nil ?_
          cases hb14
          exact ⟨_, [(0, .slice A0_ x0.length k0_), (1, .slice A1_ x1.length k1_), (5, .int .i64 (w64 (s1 + 1)))], ⟨rfl, rfl, rfl, trivial⟩, rfl, ((hE5.trans (Ext.draw _)).trans hR52.ext), hS53, rfl⟩
      · skip
        rw [if_neg (not_t hc)] at hb14
        refine WP.exit ?_
        cases hb14
        exact ⟨_, [], trivial, ho15, hE5, hS17, rfl⟩

theorem enters14 : Enters Try.prog 14 := ⟨_, _, Try.func14, rfl, by kernel_rfl⟩
def m_laws_eqNet (fuel : Nat) (x0 : D.Net) (x1 : D.Net) : Option (Bool) := ((m_laws_eqAgentS fuel x0.Agents x1.Agents).bind fun r19 => (if (!r19) = true then some false else some true))

set_option maxRecDepth 100000 in
theorem laws_eqNet_ok {W w : World} (hE : Ext W w) {c0_ : List Value} {x0 : D.Net} {c1_ : List Value} {x1 : D.Net} (h0_ : ty30.ro W c0_ x0) (h1_ : ty30.ro W c1_ x1) {fuel : Nat} {r : Bool} (hm : m_laws_eqNet fuel x0 x1 = some r) :
    Calls Try.prog 14 ⟨[.agg ⟨c0_⟩, .agg ⟨c1_⟩]⟩ w (Ret fun v w8 => v = .bool r ∧ St w w8 []) := by
  obtain ⟨A1, k2, e4, h3⟩ := ty30_open h0_; subst e4
  obtain ⟨A5, k6, e10, h7⟩ := ty30_open h1_; subst e10
  refine Calls.into Try.func14 rfl 11 rfl rfl _ rfl ?_
  unfold m_laws_eqNet at hm
  have hS := St.start w
  refine WP.seq ?_
  refine WP.region ?_
  refine RW.new ttok hS rfl rfl rfl rfl (fun g11 w12 e13 hS14 => ?_)
  refine RW.new ttok hS14 rfl rfl rfl rfl (fun g15 w16 e17 hS18 => ?_)
  refine RW.run ttok 1 rfl ?_
  refine RW.nil ?_
  refine WP.seq ?_
  refine WP.seq ?_
  refine WP.region ?_
  refine RW.run ttok 1 rfl ?_
  refine RW.load1 ttok rfl rfl rfl rfl rfl ((hS18.bring 1 rfl).box) 0 rfl rfl rfl rfl ?_
  refine RW.run ttok 1 rfl ?_
  refine RW.load1 ttok rfl rfl rfl rfl rfl ((hS18.bring 0 rfl).box) 0 rfl rfl rfl rfl ?_
  obtain ⟨r19, hx20, hm⟩ := bind_some hm
  refine RW.call rfl rfl rfl enters26 (laws_eqAgentS_ok (hE.trans hS18.ext) h3 h7 hx20) (fun v21 w22 hR23 => ?_)
  obtain ⟨rfl, hR24⟩ := hR23
  have hS25 := hS18.join hR24
  refine RW.run ttok 1 rfl ?_
  refine RW.nil ?_
  refine WP.cond (!r19) rfl (fun hc => ?_) (fun hc => ?_)
  · skip
    rw [if_pos hc] at hm
    refine WP.seq ?_
    refine WP.region ?_
    refine RW.run ttok 1 rfl ?_
    refine RW.nil ?_
    refine WP.ret ?_
    cases hm
    exact ⟨_, .cons (.tmp rfl) .nil, rfl, (hS25.taken 0)⟩
  · skip
    rw [if_neg (not_t hc)] at hm
    refine WP.skip ?_
    refine WP.seq ?_
    refine WP.region ?_
    refine RW.run ttok 1 rfl ?_
    refine RW.nil ?_
    refine WP.ret ?_
    cases hm
    exact ⟨_, .cons (.tmp rfl) .nil, rfl, (hS25.taken 0)⟩

theorem enters69 : Enters Try.prog 69 := ⟨_, _, Try.func69, rfl, by kernel_rfl⟩
def m_laws_markInt64S_j1 (fuel : Nat) (t2 : Int × (List Int)) : Option (Int × (List Int)) := some (t2.1, t2.2)
def m_laws_markInt64S_b1 (fuel : Nat) (x0 : (List Int)) (s1 : Int × Int × (List Int)) : Option (Rd (Int × Int × (List Int)) (Int × (List Int)) (Int × (List Int))) := (if (decide (s1.2.1 < (x0.length : Int))) = true then (if decide (0 ≤ s1.2.1 ∧ s1.2.1.toNat < s1.2.2.length) = true then some (.next (w64 (s1.1 + 1), w64 (s1.2.1 + 1), (s1.2.2.set s1.2.1.toNat s1.1))) else none) else some (.brk (s1.1, s1.2.2)))
def m_laws_markInt64S (fuel : Nat) (x0 : (List Int)) (x1 : Int) : Option (Int × (List Int)) := ((iter (m_laws_markInt64S_b1 fuel x0) fuel (x1, 0, x0)).bind fun o => aft o (m_laws_markInt64S_j1 fuel))

set_option maxRecDepth 100000 in
theorem laws_markInt64S_ok {W w : World} {RR : List Res} {A0_ : Option Addr} {k0_ : Nat} {x0 : (List Int)} {x1 : Int} (hS : St W w (Own ty103 [.slice A0_ x0.length k0_] x0 :: RR)) {fuel : Nat} {r : Int × (List Int)} (hm : m_laws_markInt64S fuel x0 x1 = some r) :
    Calls Try.prog 69 ⟨[.slice A0_ x0.length k0_, .int .i64 x1]⟩ w (Ret fun v w8 => v = .int .i64 r.1 ∧ St W w8 (Own ty103 [.slice A0_ x0.length k0_] r.2 :: RR)) := by
  refine Calls.into Try.func69 rfl 19 rfl rfl _ rfl ?_
  unfold m_laws_markInt64S at hm
  refine WP.seq ?_
  refine WP.region ?_
  refine RW.run ttok 1 rfl ?_
  refine RW.nil ?_
  refine WP.seq ?_
  refine WP.seq ?_
  refine WP.region ?_
  refine RW.run ttok 1 rfl ?_
  refine RW.nil ?_
  obtain ⟨o5, hl6, hm⟩ := bind_some hm
  refine WP.cut (fun (t2 : Int × (List Int)) F w9 => o5 = .inl t2 ∧ St W w9 (Own ty103 [.slice A0_ x0.length k0_] t2.2 :: RR) ∧ F = [(1, .int .i64 t2.1)]) ?_ ?_
  · skip
    rintro t2 F w4 ⟨ho10, hS7, rfl⟩
    subst ho10
    rw [aft_inl] at hm
    unfold m_laws_markInt64S_j1 at hm
    refine WP.seq ?_
    refine WP.region ?_
    refine RW.run ttok 2 rfl ?_
    refine RW.nil ?_
    refine WP.ret ?_
    cases hm
    exact ⟨_, .cons (.tmp rfl) .nil, rfl, hS7⟩
  · skip
    refine WP.block ?_
    refine WP.weak [(0, .slice A0_ x0.length k0_), (1, .int .i64 x1), (5, .int .i64 0)] ⟨rfl, rfl, rfl, trivial⟩ ?_
    refine WP.iter (fun (s1 : Int × Int × (List Int)) F w9 => St W w9 (Own ty103 [.slice A0_ x0.length k0_] s1.2.2 :: RR) ∧ F = [(0, .slice A0_ x0.length k0_), (1, .int .i64 s1.1), (5, .int .i64 s1.2.1)]) _ hl6 ⟨hS, rfl⟩ ?_
    rintro s1 F w15 _ o13 ⟨hS14, rfl⟩ hb11 ho12
    unfold m_laws_markInt64S_b1 at hb11
    refine WP.seq ?_
    refine WP.seq ?_
    refine WP.region ?_
    refine RW.run ttok 4 rfl ?_
    refine RW.nil ?_
    refine WP.cond (decide (s1.2.1 < (x0.length : Int))) rfl (fun hc => ?_) (fun hc => ?_)
    · skip
      rw [if_pos hc] at hb11
      refine WP.skip ?_
      refine WP.seq ?_
      refine WP.block ?_
      refine WP.seq ?_
      refine WP.region ?_
      refine RW.run ttok 3 rfl ?_
      have hS16 := hS14.bring 0 rfl
      by_cases hk17 : decide (0 ≤ s1.2.1 ∧ s1.2.1.toNat < s1.2.2.length) = true
      case neg => rw [if_neg hk17] at hb11; cases hb11
      rw [if_pos hk17] at hb11
      have hb18 := of_decide_eq_true hk17
      refine RW.idxOwnN ttok hS16 rfl rfl rfl rfl rfl rfl rfl rfl hb18.1 hb18.2 rfl rfl (fun q19 hq20 => ?_)
      have hS21 := hS16.flat (T := tInt) (cs := [.int .i64 s1.1]) (x := s1.1) ⟨rfl, rfl⟩
      have hS22 := hS21.bring 1 rfl
      refine RW.storeElN ttok hS22 rfl rfl rfl rfl rfl rfl hb18.2 hq20 rfl rfl (fun w23 hS24 => ?_)
      refine RW.nil ?_
      refine WP.region ?_
      refine RW.run ttok 3 rfl ?_
      refine RW.nil ?_
      refine WP.region ?_
      refine RW.run ttok 3 rfl ?_
      refine RW.nil ?_
      cases hb11
      exact ⟨_, [(0, .slice A0_ x0.length k0_), (1, .int .i64 (w64 (s1.1 + 1))), (5, .int .i64 (w64 (s1.2.1 + 1)))], ⟨rfl, rfl, rfl, trivial⟩, rfl, hS24, rfl⟩
    · skip
      rw [if_neg (not_t hc)] at hb11
      refine WP.exit ?_
      cases hb11
      exact ⟨_, [(1, .int .i64 s1.1)], ⟨rfl, trivial⟩, ho12, hS14, rfl⟩

theorem enters70 : Enters Try.prog 70 := ⟨_, _, Try.func70, rfl, by kernel_rfl⟩
def m_laws_markPortS_j1 (fuel : Nat) (t2 : Int × (List D.Port)) : Option (Int × (List D.Port)) := some (t2.1, t2.2)
def m_laws_markPortS_b1 (fuel : Nat) (x0 : (List D.Port)) (s1 : Int × Int × (List D.Port)) : Option (Rd (Int × Int × (List D.Port)) (Int × (List D.Port)) (Int × (List D.Port))) := (if (decide (s1.2.1 < (x0.length : Int))) = true then ((idx s1.2.2 s1.2.1).bind fun x17 => some (.next (w64 ((w64 (s1.1 + 1)) + 1), w64 (s1.2.1 + 1), (s1.2.2.set s1.2.1.toNat (⟨s1.1, w64 (s1.1 + 1)⟩ : D.Port))))) else some (.brk (s1.1, s1.2.2)))
def m_laws_markPortS (fuel : Nat) (x0 : (List D.Port)) (x1 : Int) : Option (Int × (List D.Port)) := ((iter (m_laws_markPortS_b1 fuel x0) fuel (x1, 0, x0)).bind fun o => aft o (m_laws_markPortS_j1 fuel))

set_option maxRecDepth 100000 in
theorem laws_markPortS_ok {W w : World} {RR : List Res} {A0_ : Option Addr} {k0_ : Nat} {x0 : (List D.Port)} {x1 : Int} (hS : St W w (Own ty110 [.slice A0_ x0.length k0_] x0 :: RR)) {fuel : Nat} {r : Int × (List D.Port)} (hm : m_laws_markPortS fuel x0 x1 = some r) :
    Calls Try.prog 70 ⟨[.slice A0_ x0.length k0_, .int .i64 x1]⟩ w (Ret fun v w8 => v = .int .i64 r.1 ∧ St W w8 (Own ty110 [.slice A0_ x0.length k0_] r.2 :: RR)) := by
  refine Calls.into Try.func70 rfl 27 rfl rfl _ rfl ?_
  unfold m_laws_markPortS at hm
  refine WP.seq ?_
  refine WP.region ?_
  refine RW.run ttok 1 rfl ?_
  refine RW.nil ?_
  refine WP.seq ?_
  refine WP.seq ?_
  refine WP.region ?_
  refine RW.run ttok 1 rfl ?_
  refine RW.nil ?_
  obtain ⟨o5, hl6, hm⟩ := bind_some hm
  refine WP.cut (fun (t2 : Int × (List D.Port)) F w9 => o5 = .inl t2 ∧ St W w9 (Own ty110 [.slice A0_ x0.length k0_] t2.2 :: RR) ∧ F = [(1, .int .i64 t2.1)]) ?_ ?_
  · skip
    rintro t2 F w4 ⟨ho10, hS7, rfl⟩
    subst ho10
    rw [aft_inl] at hm
    unfold m_laws_markPortS_j1 at hm
    refine WP.seq ?_
    refine WP.region ?_
    refine RW.run ttok 2 rfl ?_
    refine RW.nil ?_
    refine WP.ret ?_
    cases hm
    exact ⟨_, .cons (.tmp rfl) .nil, rfl, hS7⟩
  · skip
    refine WP.block ?_
    refine WP.weak [(0, .slice A0_ x0.length k0_), (1, .int .i64 x1), (5, .int .i64 0)] ⟨rfl, rfl, rfl, trivial⟩ ?_
    refine WP.iter (fun (s1 : Int × Int × (List D.Port)) F w9 => St W w9 (Own ty110 [.slice A0_ x0.length k0_] s1.2.2 :: RR) ∧ F = [(0, .slice A0_ x0.length k0_), (1, .int .i64 s1.1), (5, .int .i64 s1.2.1)]) _ hl6 ⟨hS, rfl⟩ ?_
    rintro s1 F w15 _ o13 ⟨hS14, rfl⟩ hb11 ho12
    unfold m_laws_markPortS_b1 at hb11
    refine WP.seq ?_
    refine WP.seq ?_
    refine WP.region ?_
    refine RW.run ttok 4 rfl ?_
    refine RW.nil ?_
    refine WP.cond (decide (s1.2.1 < (x0.length : Int))) rfl (fun hc => ?_) (fun hc => ?_)
    · skip
      rw [if_pos hc] at hb11
      refine WP.skip ?_
      refine WP.seq ?_
      refine WP.block ?_
      refine WP.seq ?_
      refine WP.region ?_
      refine RW.run ttok 3 rfl ?_
      have hS16 := hS14.bring 0 rfl
      obtain ⟨x17, hx18, hb11⟩ := bind_some hb11
      refine RW.focus ttok hS16 rfl rfl rfl rfl rfl rfl rfl rfl (idx_some hx18).1 (idx_some hx18).2 rfl rfl (fun q19 es20 hq21 hS22 => ?_)
      obtain ⟨e24, hS23⟩ := ty38_openS (hS22.bring 1 rfl); subst e24
      refine RW.run ttok 1 rfl ?_
      have hS25 := hS23.bring 0 rfl
      refine RW.storeHoleN ttok hS25 hq21 rfl rfl rfl rfl rfl 0 rfl rfl rfl rfl rfl (fun w26 hS27 => ?_)
      refine RW.nil ?_
      refine WP.seq ?_
      refine WP.region ?_
      refine RW.run ttok 3 rfl ?_
      refine RW.nil ?_
      refine WP.seq ?_
      refine WP.region ?_
      refine RW.run ttok 3 rfl ?_
      refine RW.idxAgain ttok (hS27.bring 0 rfl) rfl rfl rfl rfl rfl rfl rfl rfl (idx_some hx18).1 rfl rfl (fun q28 hq29 => ?_)
      refine RW.run ttok 1 rfl ?_
      have hS30 := hS27.bring 0 rfl
      refine RW.storeHoleN ttok hS30 hq29 rfl rfl rfl rfl rfl 1 rfl rfl rfl rfl rfl (fun w31 hS32 => ?_)
      refine RW.nil ?_
      refine WP.region ?_
      refine RW.run ttok 3 rfl ?_
      refine RW.nil ?_
      refine WP.region ?_
      refine RW.run ttok 3 rfl ?_
      refine RW.nil ?_
      have hS33 := ty38_shutS (c := (⟨s1.1, w64 (s1.1 + 1)⟩ : D.Port)) (B := _) hS32
      have hS34 := hS33.bring 1 rfl
      have hS35 := St.unfocusN hS34
      cases hb11
      exact ⟨_, [(0, .slice A0_ x0.length k0_), (1, .int .i64 (w64 ((w64 (s1.1 + 1)) + 1))), (5, .int .i64 (w64 (s1.2.1 + 1)))], ⟨rfl, rfl, rfl, trivial⟩, rfl, hS35, rfl⟩
    · skip
      rw [if_neg (not_t hc)] at hb11
      refine WP.exit ?_
      cases hb11
      exact ⟨_, [(1, .int .i64 s1.1)], ⟨rfl, trivial⟩, ho12, hS14, rfl⟩

theorem enters28 : Enters Try.prog 28 := ⟨_, _, Try.func28, rfl, by kernel_rfl⟩
def m_laws_markAgentS_j1 (fuel : Nat) (t2 : Int × (List D.Agent)) : Option (Int × (List D.Agent)) := some (t2.1, t2.2)
def m_laws_markAgentS_b1 (fuel : Nat) (x0 : (List D.Agent)) (s1 : Int × Int × (List D.Agent)) : Option (Rd (Int × Int × (List D.Agent)) (Int × (List D.Agent)) (Int × (List D.Agent))) := (if (decide (s1.2.1 < (x0.length : Int))) = true then ((idx s1.2.2 s1.2.1).bind fun x17 => ((m_laws_markInt64S fuel x17.Data (w64 ((w64 ((w64 (s1.1 + 1)) + 1)) + 1))).bind fun r44 => ((m_laws_markPortS fuel x17.Ports r44.1).bind fun r52 => some (.next (r52.1, w64 (s1.2.1 + 1), (s1.2.2.set s1.2.1.toNat (⟨s1.1, w64 (s1.1 + 1), w64 ((w64 (s1.1 + 1)) + 1), r44.2, r52.2⟩ : D.Agent))))))) else some (.brk (s1.1, s1.2.2)))
def m_laws_markAgentS (fuel : Nat) (x0 : (List D.Agent)) (x1 : Int) : Option (Int × (List D.Agent)) := ((iter (m_laws_markAgentS_b1 fuel x0) fuel (x1, 0, x0)).bind fun o => aft o (m_laws_markAgentS_j1 fuel))

set_option maxRecDepth 100000 in
theorem laws_markAgentS_ok {W w : World} {RR : List Res} {A0_ : Option Addr} {k0_ : Nat} {x0 : (List D.Agent)} {x1 : Int} (hS : St W w (Own ty28 [.slice A0_ x0.length k0_] x0 :: RR)) {fuel : Nat} {r : Int × (List D.Agent)} (hm : m_laws_markAgentS fuel x0 x1 = some r) :
    Calls Try.prog 28 ⟨[.slice A0_ x0.length k0_, .int .i64 x1]⟩ w (Ret fun v w8 => v = .int .i64 r.1 ∧ St W w8 (Own ty28 [.slice A0_ x0.length k0_] r.2 :: RR)) := by
  refine Calls.into Try.func28 rfl 48 rfl rfl _ rfl ?_
  unfold m_laws_markAgentS at hm
  refine WP.seq ?_
  refine WP.region ?_
  refine RW.run ttok 1 rfl ?_
  refine RW.nil ?_
  refine WP.seq ?_
  refine WP.seq ?_
  refine WP.region ?_
  refine RW.run ttok 1 rfl ?_
  refine RW.nil ?_
  obtain ⟨o5, hl6, hm⟩ := bind_some hm
  refine WP.cut (fun (t2 : Int × (List D.Agent)) F w9 => o5 = .inl t2 ∧ St W w9 (Own ty28 [.slice A0_ x0.length k0_] t2.2 :: RR) ∧ F = [(1, .int .i64 t2.1)]) ?_ ?_
  · skip
    rintro t2 F w4 ⟨ho10, hS7, rfl⟩
    subst ho10
    rw [aft_inl] at hm
    unfold m_laws_markAgentS_j1 at hm
    refine WP.seq ?_
    refine WP.region ?_
    refine RW.run ttok 2 rfl ?_
    refine RW.nil ?_
    refine WP.ret ?_
    cases hm
    exact ⟨_, .cons (.tmp rfl) .nil, rfl, hS7⟩
  · skip
    refine WP.block ?_
    refine WP.weak [(0, .slice A0_ x0.length k0_), (1, .int .i64 x1), (5, .int .i64 0)] ⟨rfl, rfl, rfl, trivial⟩ ?_
    refine WP.iter (fun (s1 : Int × Int × (List D.Agent)) F w9 => St W w9 (Own ty28 [.slice A0_ x0.length k0_] s1.2.2 :: RR) ∧ F = [(0, .slice A0_ x0.length k0_), (1, .int .i64 s1.1), (5, .int .i64 s1.2.1)]) _ hl6 ⟨hS, rfl⟩ ?_
    rintro s1 F w15 _ o13 ⟨hS14, rfl⟩ hb11 ho12
    unfold m_laws_markAgentS_b1 at hb11
    refine WP.seq ?_
    refine WP.seq ?_
    refine WP.region ?_
    refine RW.run ttok 4 rfl ?_
    refine RW.nil ?_
    refine WP.cond (decide (s1.2.1 < (x0.length : Int))) rfl (fun hc => ?_) (fun hc => ?_)
    · skip
      rw [if_pos hc] at hb11
      refine WP.skip ?_
      refine WP.seq ?_
      refine WP.block ?_
      refine WP.seq ?_
      refine WP.region ?_
      refine RW.run ttok 3 rfl ?_
      have hS16 := hS14.bring 0 rfl
      obtain ⟨x17, hx18, hb11⟩ := bind_some hb11
      refine RW.focus ttok hS16 rfl rfl rfl rfl rfl rfl rfl rfl (idx_some hx18).1 (idx_some hx18).2 rfl rfl (fun q19 es20 hq21 hS22 => ?_)
      obtain ⟨A25, k26, A27, k28, e24, hS23⟩ := ty112_openS (hS22.bring 1 rfl); subst e24
      refine RW.run ttok 1 rfl ?_
      have hS29 := hS23.bring 2 rfl
      refine RW.storeHoleN ttok hS29 hq21 rfl rfl rfl rfl rfl 0 rfl rfl rfl rfl rfl (fun w30 hS31 => ?_)
      refine RW.nil ?_
      refine WP.seq ?_
      refine WP.region ?_
      refine RW.run ttok 3 rfl ?_
      refine RW.nil ?_
      refine WP.seq ?_
      refine WP.region ?_
      refine RW.run ttok 3 rfl ?_
      refine RW.idxAgain ttok (hS31.bring 0 rfl) rfl rfl rfl rfl rfl rfl rfl rfl (idx_some hx18).1 rfl rfl (fun q32 hq33 => ?_)
      refine RW.run ttok 1 rfl ?_
      have hS34 := hS31.bring 0 rfl
      refine RW.storeHoleN ttok hS34 hq33 rfl rfl rfl rfl rfl 1 rfl rfl rfl rfl rfl (fun w35 hS36 => ?_)
      refine RW.nil ?_
      refine WP.seq ?_
      refine WP.region ?_
      refine RW.run ttok 3 rfl ?_
      refine RW.nil ?_
      refine WP.seq ?_
      refine WP.region ?_
      refine RW.run ttok 3 rfl ?_
      refine RW.idxAgain ttok (hS36.bring 0 rfl) rfl rfl rfl rfl rfl rfl rfl rfl (idx_some hx18).1 rfl rfl (fun q37 hq38 => ?_)
      refine RW.run ttok 1 rfl ?_
      have hS39 := hS36.bring 0 rfl
      refine RW.storeHoleN ttok hS39 hq38 rfl rfl rfl rfl rfl 2 rfl rfl rfl rfl rfl (fun w40 hS41 => ?_)
      refine RW.nil ?_
      refine WP.seq ?_
      refine WP.region ?_
      refine RW.run ttok 3 rfl ?_
      refine RW.nil ?_
      refine WP.seq ?_
      refine WP.region ?_
      refine RW.run ttok 2 rfl ?_
      refine RW.idxAgain ttok (hS41.bring 0 rfl) rfl rfl rfl rfl rfl rfl rfl rfl (idx_some hx18).1 rfl rfl (fun q42 hq43 => ?_)
      refine RW.run ttok 1 rfl ?_
      refine RW.load1 ttok rfl rfl rfl rfl rfl ((hS41.bring 0 rfl).hole_atN hq43) 3 rfl rfl rfl rfl ?_
      refine RW.run ttok 1 rfl ?_
      obtain ⟨r44, hx45, hb11⟩ := bind_some hb11
      refine RW.call rfl rfl rfl enters69 (laws_markInt64S_ok (W := W) (RR := _) (x0 := x17.Data) (x1 := w64 ((w64 ((w64 (s1.1 + 1)) + 1)) + 1)) (hS41.bring 1 rfl)  hx45) (fun v46 w47 hR48 => ?_)
      obtain ⟨rfl, hS49⟩ := hR48
      refine RW.run ttok 1 rfl ?_
      refine RW.nil ?_
      refine WP.region ?_
      refine RW.run ttok 2 rfl ?_
      refine RW.idxAgain ttok (hS49.bring 1 rfl) rfl rfl rfl rfl rfl rfl rfl rfl (idx_some hx18).1 rfl rfl (fun q50 hq51 => ?_)
      refine RW.run ttok 1 rfl ?_
      refine RW.load1 ttok rfl rfl rfl rfl rfl ((hS49.bring 1 rfl).hole_atN hq51) 4 rfl rfl rfl rfl ?_
      refine RW.run ttok 1 rfl ?_
      obtain ⟨r52, hx53, hb11⟩ := bind_some hb11
      refine RW.call rfl rfl rfl enters70 (laws_markPortS_ok (W := W) (RR := _) (x0 := x17.Ports) (x1 := r44.1) (hS49.bring 2 rfl)  hx53) (fun v54 w55 hR56 => ?_)
      obtain ⟨rfl, hS57⟩ := hR56
      refine RW.run ttok 1 rfl ?_
      refine RW.nil ?_
      refine WP.region ?_
      refine RW.run ttok 3 rfl ?_
      refine RW.nil ?_
      have hn58 := (hS57.bring 1 rfl).lenEq
      have hS59 := (hS57.bring 1 rfl).reLen hn58
      have hS60 := (hS59.bring 2 rfl).reHole (es' := [.int .i64 s1.1, .int .i64 (w64 (s1.1 + 1)), .int .i64 (w64 ((w64 (s1.1 + 1)) + 1)), .slice A25 r44.2.length k26, .slice A27 x17.Ports.length k28]) (by show ([.int .i64 s1.1, .int .i64 (w64 (s1.1 + 1)), .int .i64 (w64 ((w64 (s1.1 + 1)) + 1)), .slice A25 x17.Data.length k26, .slice A27 x17.Ports.length k28] : List Value) = [.int .i64 s1.1, .int .i64 (w64 (s1.1 + 1)), .int .i64 (w64 ((w64 (s1.1 + 1)) + 1)), .slice A25 r44.2.length k26, .slice A27 x17.Ports.length k28]; simp only [hn58])
      have hn61 := (hS60.bring 2 rfl).lenEq
      have hS62 := (hS60.bring 2 rfl).reLen hn61
      have hS63 := (hS62.bring 1 rfl).reHole (es' := [.int .i64 s1.1, .int .i64 (w64 (s1.1 + 1)), .int .i64 (w64 ((w64 (s1.1 + 1)) + 1)), .slice A25 r44.2.length k26, .slice A27 r52.2.length k28]) (by show ([.int .i64 s1.1, .int .i64 (w64 (s1.1 + 1)), .int .i64 (w64 ((w64 (s1.1 + 1)) + 1)), .slice A25 r44.2.length k26, .slice A27 x17.Ports.length k28] : List Value) = [.int .i64 s1.1, .int .i64 (w64 (s1.1 + 1)), .int .i64 (w64 ((w64 (s1.1 + 1)) + 1)), .slice A25 r44.2.length k26, .slice A27 r52.2.length k28]; simp only [hn61])
      have h65 := (show ty103.ro _ [.slice A25 x17.Data.length k26] r44.2 from (Eq.symm hn58) ▸ ((hS63.bring 2 rfl).own))
      have h66 := (show ty110.ro _ [.slice A27 x17.Ports.length k28] r52.2 from (Eq.symm hn61) ▸ ((hS63.bring 1 rfl).own))
      have hS67 := hS63.bring 1 rfl
      have hS68 := hS67.bring 2 rfl
      have hS69 := ty112_shutS (c := (⟨s1.1, w64 (s1.1 + 1), w64 ((w64 (s1.1 + 1)) + 1), r44.2, r52.2⟩ : D.Agent)) (B := _) hS68
      have hS70 := hS69.bring 1 rfl
      have hS71 := St.unfocusN hS70
      cases hb11
      exact ⟨_, [(0, .slice A0_ x0.length k0_), (1, .int .i64 r52.1), (5, .int .i64 (w64 (s1.2.1 + 1)))], ⟨rfl, rfl, rfl, trivial⟩, rfl, hS71, rfl⟩
    · skip
      rw [if_neg (not_t hc)] at hb11
      refine WP.exit ?_
      cases hb11
      exact ⟨_, [(1, .int .i64 s1.1)], ⟨rfl, trivial⟩, ho12, hS14, rfl⟩

theorem enters18 : Enters Try.prog 18 := ⟨_, _, Try.func18, rfl, by kernel_rfl⟩
def m_laws_markNet (fuel : Nat) (x0 : D.Net) (x1 : Int) : Option (Int × (List D.Agent)) := ((m_laws_markAgentS fuel x0.Agents x1).bind fun r5 => some (r5.1, r5.2))

set_option maxRecDepth 100000 in
theorem laws_markNet_ok {W w : World} {RR : List Res} {x0 : D.Net} {A0_0 : Option Addr} {k0_0 : Nat} {x1 : Int} (hS : St W w (Own ty28 [.slice A0_0 x0.Agents.length k0_0] x0.Agents :: RR)) {fuel : Nat} {r : Int × (List D.Agent)} (hm : m_laws_markNet fuel x0 x1 = some r) :
    Calls Try.prog 18 ⟨[.agg ⟨[.slice A0_0 x0.Agents.length k0_0]⟩, .int .i64 x1]⟩ w (Ret fun v w8 => v = .int .i64 r.1 ∧ St W w8 (Own ty28 [.slice A0_0 x0.Agents.length k0_0] r.2 :: RR)) := by
  refine Calls.into Try.func18 rfl 10 rfl rfl _ rfl ?_
  unfold m_laws_markNet at hm
  refine WP.seq ?_
  refine WP.region ?_
  refine RW.new ttok hS rfl rfl rfl rfl (fun g1 w2 e3 hS4 => ?_)
  refine RW.run ttok 1 rfl ?_
  refine RW.nil ?_
  refine WP.seq ?_
  refine WP.region ?_
  refine RW.run ttok 1 rfl ?_
  refine RW.load1 ttok rfl rfl rfl rfl rfl ((hS4.bring 0 rfl).box) 0 rfl rfl rfl rfl ?_
  refine RW.run ttok 1 rfl ?_
  obtain ⟨r5, hx6, hm⟩ := bind_some hm
  refine RW.call rfl rfl rfl enters28 (laws_markAgentS_ok (W := W) (RR := _) (x0 := x0.Agents) (x1 := x1) (hS4.bring 1 rfl)  hx6) (fun v7 w10 hR11 => ?_)
  obtain ⟨rfl, hS12⟩ := hR11
  refine RW.run ttok 1 rfl ?_
  refine RW.nil ?_
  refine WP.seq ?_
  refine WP.region ?_
  refine RW.run ttok 2 rfl ?_
  refine RW.nil ?_
  refine WP.ret ?_
  cases hm
  exact ⟨_, .cons (.tmp rfl) .nil, rfl, (hS12.bring 1 rfl).drop⟩

theorem enters118 : Enters Try.prog 118 := ⟨_, _, Try.func118, rfl, by kernel_rfl⟩
def m_laws_heldInt64S_j1 (fuel : Nat) (t2 : Int) : Option Int := some t2
def m_laws_heldInt64S_b1 (fuel : Nat) (x0 : (List Int)) (s1 : Int × Int) : Option (Rd (Int × Int) (Int) (Int)) := (if (decide (s1.2 < (x0.length : Int))) = true then ((idx x0 s1.2).bind fun x19 => (if (x19 != s1.1) = true then some (.ret (-1)) else some (.next (w64 (s1.1 + 1), w64 (s1.2 + 1))))) else some (.brk s1.1))
def m_laws_heldInt64S (fuel : Nat) (x0 : (List Int)) (x1 : Int) : Option (Int) := ((iter (m_laws_heldInt64S_b1 fuel x0) fuel (x1, 0)).bind fun o => aft o (m_laws_heldInt64S_j1 fuel))

set_option maxRecDepth 100000 in
theorem laws_heldInt64S_ok {W w : World} (hE : Ext W w) {A0_ : Option Addr} {k0_ : Nat} {x0 : (List Int)} {x1 : Int} (h0_ : ty103.ro W [.slice A0_ x0.length k0_] x0) {fuel : Nat} {r : Int} (hm : m_laws_heldInt64S fuel x0 x1 = some r) :
    Calls Try.prog 118 ⟨[.slice A0_ x0.length k0_, .int .i64 x1]⟩ w (Ret fun v w8 => v = .int .i64 r ∧ St w w8 []) := by
  refine Calls.into Try.func118 rfl 21 rfl rfl _ rfl ?_
  unfold m_laws_heldInt64S at hm
  have hS := St.start w
  refine WP.seq ?_
  refine WP.region ?_
  refine RW.run ttok 1 rfl ?_
  refine RW.nil ?_
  refine WP.seq ?_
  refine WP.seq ?_
  refine WP.region ?_
  refine RW.run ttok 1 rfl ?_
  refine RW.nil ?_
  obtain ⟨o10, hl11, hm⟩ := bind_some hm
  refine WP.cut (fun (t2 : Int) F w9 => o10 = .inl t2 ∧ Ext w w9 ∧ St w w9 [] ∧ F = [(1, .int .i64 t2)]) ?_ ?_
  · skip
    rintro t2 F w7 ⟨ho13, hE6, hS12, rfl⟩
    subst ho13
    rw [aft_inl] at hm
    unfold m_laws_heldInt64S_j1 at hm
    refine WP.seq ?_
    refine WP.region ?_
    refine RW.run ttok 2 rfl ?_
    refine RW.nil ?_
    refine WP.ret ?_
    cases hm
    exact ⟨_, .cons (.tmp rfl) .nil, rfl, hS12⟩
  · skip
    refine WP.block ?_
    refine WP.weak [(0, .slice A0_ x0.length k0_), (1, .int .i64 x1), (5, .int .i64 0)] ⟨rfl, rfl, rfl, trivial⟩ ?_
    refine WP.iter (fun (s1 : Int × Int) F w9 => Ext w w9 ∧ St w w9 [] ∧ F = [(0, .slice A0_ x0.length k0_), (1, .int .i64 s1.1), (5, .int .i64 s1.2)]) _ hl11 ⟨(Ext.refl _), hS, rfl⟩ ?_
    rintro s1 F w18 _ o16 ⟨hE5, hS17, rfl⟩ hb14 ho15
    unfold m_laws_heldInt64S_b1 at hb14
    refine WP.seq ?_
    refine WP.seq ?_
    refine WP.region ?_
    refine RW.run ttok 4 rfl ?_
    refine RW.nil ?_
    refine WP.cond (decide (s1.2 < (x0.length : Int))) rfl (fun hc => ?_) (fun hc => ?_)
    · skip
      rw [if_pos hc] at hb14
      refine WP.skip ?_
      refine WP.seq ?_
      refine WP.block ?_
      refine WP.seq ?_
      refine WP.seq ?_
      refine WP.region ?_
      refine RW.run ttok 2 rfl ?_
      obtain ⟨x19, hx20, hb14⟩ := bind_some hb14
      refine RW.idx ttok (hE.trans hS17.ext) rfl rfl rfl rfl rfl rfl (by decide) rfl rfl h0_ (idx_some hx20).1 (idx_some hx20).2 rfl rfl (fun p21 es22 ha23 hr24 => ?_)
      cases hr24
      refine RW.load1 ttok rfl rfl rfl rfl rfl (At.ext (hE.trans hS17.ext) ha23) 0 rfl rfl rfl rfl ?_
      refine RW.run ttok 2 rfl ?_
      refine RW.nil ?_
      refine WP.cond (x19 != s1.1) rfl (fun hc => ?_) (fun hc => ?_)
      · skip
        rw [if_pos hc] at hb14
        refine WP.seq ?_
        refine WP.region ?_
        refine RW.run ttok 1 rfl ?_
        refine RW.nil ?_
        refine WP.ret ?_
        cases hb14
        cases ho15
        have hm : some _ = some _ := hm
        cases hm
        exact ⟨_, .cons (.tmp rfl) .nil, rfl, hS17⟩
      · skip
        rw [if_neg (not_t hc)] at hb14
        refine WP.skip ?_
        refine WP.region ?_
        refine RW.run ttok 3 rfl ?_
        refine RW.nil ?_
        refine WP.region ?_
        refine RW.run ttok 3 rfl ?_
        refine RW.nil ?_
        cases hb14
        exact ⟨_, [(0, .slice A0_ x0.length k0_), (1, .int .i64 (w64 (s1.1 + 1))), (5, .int .i64 (w64 (s1.2 + 1)))], ⟨rfl, rfl, rfl, trivial⟩, rfl, hE5, hS17, rfl⟩
    · skip
      rw [if_neg (not_t hc)] at hb14
      refine WP.exit ?_
      cases hb14
      exact ⟨_, [(1, .int .i64 s1.1)], ⟨rfl, trivial⟩, ho15, hE5, hS17, rfl⟩

theorem enters119 : Enters Try.prog 119 := ⟨_, _, Try.func119, rfl, by kernel_rfl⟩
def m_laws_heldPortS_j1 (fuel : Nat) (t2 : Int) : Option Int := some t2
def m_laws_heldPortS_b1 (fuel : Nat) (x0 : (List D.Port)) (s1 : Int × Int) : Option (Rd (Int × Int) (Int) (Int)) := (if (decide (s1.2 < (x0.length : Int))) = true then ((idx x0 s1.2).bind fun x19 => (if (x19.Agent != s1.1) = true then some (.ret (-1)) else ((idx x0 s1.2).bind fun x26 => (if (x26.Slot != (w64 (s1.1 + 1))) = true then some (.ret (-1)) else some (.next (w64 ((w64 (s1.1 + 1)) + 1), w64 (s1.2 + 1))))))) else some (.brk s1.1))
def m_laws_heldPortS (fuel : Nat) (x0 : (List D.Port)) (x1 : Int) : Option (Int) := ((iter (m_laws_heldPortS_b1 fuel x0) fuel (x1, 0)).bind fun o => aft o (m_laws_heldPortS_j1 fuel))

set_option maxRecDepth 100000 in
theorem laws_heldPortS_ok {W w : World} (hE : Ext W w) {A0_ : Option Addr} {k0_ : Nat} {x0 : (List D.Port)} {x1 : Int} (h0_ : ty110.ro W [.slice A0_ x0.length k0_] x0) {fuel : Nat} {r : Int} (hm : m_laws_heldPortS fuel x0 x1 = some r) :
    Calls Try.prog 119 ⟨[.slice A0_ x0.length k0_, .int .i64 x1]⟩ w (Ret fun v w8 => v = .int .i64 r ∧ St w w8 []) := by
  refine Calls.into Try.func119 rfl 31 rfl rfl _ rfl ?_
  unfold m_laws_heldPortS at hm
  have hS := St.start w
  refine WP.seq ?_
  refine WP.region ?_
  refine RW.run ttok 1 rfl ?_
  refine RW.nil ?_
  refine WP.seq ?_
  refine WP.seq ?_
  refine WP.region ?_
  refine RW.run ttok 1 rfl ?_
  refine RW.nil ?_
  obtain ⟨o10, hl11, hm⟩ := bind_some hm
  refine WP.cut (fun (t2 : Int) F w9 => o10 = .inl t2 ∧ Ext w w9 ∧ St w w9 [] ∧ F = [(1, .int .i64 t2)]) ?_ ?_
  · skip
    rintro t2 F w7 ⟨ho13, hE6, hS12, rfl⟩
    subst ho13
    rw [aft_inl] at hm
    unfold m_laws_heldPortS_j1 at hm
    refine WP.seq ?_
    refine WP.region ?_
    refine RW.run ttok 2 rfl ?_
    refine RW.nil ?_
    refine WP.ret ?_
    cases hm
    exact ⟨_, .cons (.tmp rfl) .nil, rfl, hS12⟩
  · skip
    refine WP.block ?_
    refine WP.weak [(0, .slice A0_ x0.length k0_), (1, .int .i64 x1), (5, .int .i64 0)] ⟨rfl, rfl, rfl, trivial⟩ ?_
    refine WP.iter (fun (s1 : Int × Int) F w9 => Ext w w9 ∧ St w w9 [] ∧ F = [(0, .slice A0_ x0.length k0_), (1, .int .i64 s1.1), (5, .int .i64 s1.2)]) _ hl11 ⟨(Ext.refl _), hS, rfl⟩ ?_
    rintro s1 F w18 _ o16 ⟨hE5, hS17, rfl⟩ hb14 ho15
    unfold m_laws_heldPortS_b1 at hb14
    refine WP.seq ?_
    refine WP.seq ?_
    refine WP.region ?_
    refine RW.run ttok 4 rfl ?_
    refine RW.nil ?_
    refine WP.cond (decide (s1.2 < (x0.length : Int))) rfl (fun hc => ?_) (fun hc => ?_)
    · skip
      rw [if_pos hc] at hb14
      refine WP.skip ?_
      refine WP.seq ?_
      refine WP.block ?_
      refine WP.seq ?_
      refine WP.seq ?_
      refine WP.region ?_
      refine RW.run ttok 2 rfl ?_
      obtain ⟨x19, hx20, hb14⟩ := bind_some hb14
      refine RW.idx ttok (hE.trans hS17.ext) rfl rfl rfl rfl rfl rfl (by decide) rfl rfl h0_ (idx_some hx20).1 (idx_some hx20).2 rfl rfl (fun p21 es22 ha23 hr24 => ?_)
      have e25 := ty38_open hr24; subst e25
      refine RW.run ttok 1 rfl ?_
      refine RW.load1 ttok rfl rfl rfl rfl rfl (At.ext (hE.trans hS17.ext) ha23) 0 rfl rfl rfl rfl ?_
      refine RW.run ttok 2 rfl ?_
      refine RW.nil ?_
      refine WP.cond (x19.Agent != s1.1) rfl (fun hc => ?_) (fun hc => ?_)
      · skip
        rw [if_pos hc] at hb14
        refine WP.seq ?_
        refine WP.region ?_
        refine RW.run ttok 1 rfl ?_
        refine RW.nil ?_
        refine WP.ret ?_
        cases hb14
        cases ho15
        have hm : some _ = some _ := hm
        cases hm
        exact ⟨_, .cons (.tmp rfl) .nil, rfl, hS17⟩
      · skip
        rw [if_neg (not_t hc)] at hb14
        refine WP.skip ?_
        refine WP.seq ?_
        refine WP.region ?_
        refine RW.run ttok 3 rfl ?_
        refine RW.nil ?_
        refine WP.seq ?_
        refine WP.seq ?_
        refine WP.region ?_
        refine RW.run ttok 2 rfl ?_
        obtain ⟨x26, hx27, hb14⟩ := bind_some hb14
        refine RW.idx ttok (hE.trans hS17.ext) rfl rfl rfl rfl rfl rfl (by decide) rfl rfl h0_ (idx_some hx27).1 (idx_some hx27).2 rfl rfl (fun p28 es29 ha30 hr31 => ?_)
        have e32 := ty38_open hr31; subst e32
        refine RW.run ttok 1 rfl ?_
        refine RW.load1 ttok rfl rfl rfl rfl rfl (At.ext (hE.trans hS17.ext) ha30) 1 rfl rfl rfl rfl ?_
        refine RW.run ttok 2 rfl ?_
        refine RW.nil ?_
        refine WP.cond (x26.Slot != (w64 (s1.1 + 1))) rfl (fun hc => ?_) (fun hc => ?_)
        · skip
          rw [if_pos hc] at hb14
          refine WP.seq ?_
          refine WP.region ?_
          refine RW.run ttok 1 rfl ?_
          refine RW.nil ?_
          refine WP.ret ?_
          cases hb14
          cases ho15
          have hm : some _ = some _ := hm
          cases hm
          exact ⟨_, .cons (.tmp rfl) .nil, rfl, hS17⟩
        · skip
          rw [if_neg (not_t hc)] at hb14
          refine WP.skip ?_
          refine WP.region ?_
          refine RW.run ttok 3 rfl ?_
          refine RW.nil ?_
          refine WP.region ?_
          refine RW.run ttok 3 rfl ?_
          refine RW.nil ?_
          cases hb14
          exact ⟨_, [(0, .slice A0_ x0.length k0_), (1, .int .i64 (w64 ((w64 (s1.1 + 1)) + 1))), (5, .int .i64 (w64 (s1.2 + 1)))], ⟨rfl, rfl, rfl, trivial⟩, rfl, hE5, hS17, rfl⟩
    · skip
      rw [if_neg (not_t hc)] at hb14
      refine WP.exit ?_
      cases hb14
      exact ⟨_, [(1, .int .i64 s1.1)], ⟨rfl, trivial⟩, ho15, hE5, hS17, rfl⟩

theorem enters58 : Enters Try.prog 58 := ⟨_, _, Try.func58, rfl, by kernel_rfl⟩
def m_laws_heldAgentS_j1 (fuel : Nat) (t2 : Int) : Option Int := some t2
def m_laws_heldAgentS_b1 (fuel : Nat) (x0 : (List D.Agent)) (s1 : Int × Int) : Option (Rd (Int × Int) (Int) (Int)) := (if (decide (s1.2 < (x0.length : Int))) = true then ((idx x0 s1.2).bind fun x19 => (if (x19.Kind != s1.1) = true then some (.ret (-1)) else ((idx x0 s1.2).bind fun x32 => (if (x32.Level != (w64 (s1.1 + 1))) = true then some (.ret (-1)) else ((idx x0 s1.2).bind fun x45 => (if (x45.Value != (w64 ((w64 (s1.1 + 1)) + 1))) = true then some (.ret (-1)) else ((idx x0 s1.2).bind fun x58 => ((m_laws_heldInt64S fuel x58.Data (w64 ((w64 ((w64 (s1.1 + 1)) + 1)) + 1))).bind fun r72 => (if (decide (r72 < 0)) = true then some (.ret (-1)) else ((idx x0 s1.2).bind fun x79 => ((m_laws_heldPortS fuel x79.Ports r72).bind fun r92 => (if (decide (r92 < 0)) = true then some (.ret (-1)) else some (.next (r92, w64 (s1.2 + 1))))))))))))))) else some (.brk s1.1))
def m_laws_heldAgentS (fuel : Nat) (x0 : (List D.Agent)) (x1 : Int) : Option (Int) := ((iter (m_laws_heldAgentS_b1 fuel x0) fuel (x1, 0)).bind fun o => aft o (m_laws_heldAgentS_j1 fuel))

set_option maxRecDepth 100000 in
theorem laws_heldAgentS_ok {W w : World} (hE : Ext W w) {A0_ : Option Addr} {k0_ : Nat} {x0 : (List D.Agent)} {x1 : Int} (h0_ : ty28.ro W [.slice A0_ x0.length k0_] x0) {fuel : Nat} {r : Int} (hm : m_laws_heldAgentS fuel x0 x1 = some r) :
    Calls Try.prog 58 ⟨[.slice A0_ x0.length k0_, .int .i64 x1]⟩ w (Ret fun v w8 => v = .int .i64 r ∧ St w w8 []) := by
  refine Calls.into Try.func58 rfl 58 rfl rfl _ rfl ?_
  unfold m_laws_heldAgentS at hm
  have hS := St.start w
  refine WP.seq ?_
  refine WP.region ?_
  refine RW.run ttok 1 rfl ?_
  refine RW.nil ?_
  refine WP.seq ?_
  refine WP.seq ?_
  refine WP.region ?_
  refine RW.run ttok 1 rfl ?_
  refine RW.nil ?_
  obtain ⟨o10, hl11, hm⟩ := bind_some hm
  refine WP.cut (fun (t2 : Int) F w9 => o10 = .inl t2 ∧ Ext w w9 ∧ St w w9 [] ∧ F = [(1, .int .i64 t2)]) ?_ ?_
  · skip
    rintro t2 F w7 ⟨ho13, hE6, hS12, rfl⟩
    subst ho13
    rw [aft_inl] at hm
    unfold m_laws_heldAgentS_j1 at hm
    refine WP.seq ?_
    refine WP.region ?_
    refine RW.run ttok 2 rfl ?_
    refine RW.nil ?_
    refine WP.ret ?_
    cases hm
    exact ⟨_, .cons (.tmp rfl) .nil, rfl, hS12⟩
  · skip
    refine WP.block ?_
    refine WP.weak [(0, .slice A0_ x0.length k0_), (1, .int .i64 x1), (5, .int .i64 0)] ⟨rfl, rfl, rfl, trivial⟩ ?_
    refine WP.iter (fun (s1 : Int × Int) F w9 => Ext w w9 ∧ St w w9 [] ∧ F = [(0, .slice A0_ x0.length k0_), (1, .int .i64 s1.1), (5, .int .i64 s1.2)]) _ hl11 ⟨(Ext.refl _), hS, rfl⟩ ?_
    rintro s1 F w18 _ o16 ⟨hE5, hS17, rfl⟩ hb14 ho15
    unfold m_laws_heldAgentS_b1 at hb14
    refine WP.seq ?_
    refine WP.seq ?_
    refine WP.region ?_
    refine RW.run ttok 4 rfl ?_
    refine RW.nil ?_
    refine WP.cond (decide (s1.2 < (x0.length : Int))) rfl (fun hc => ?_) (fun hc => ?_)
    · skip
      rw [if_pos hc] at hb14
      refine WP.skip ?_
      refine WP.seq ?_
      refine WP.block ?_
      refine WP.seq ?_
      refine WP.seq ?_
      refine WP.region ?_
      refine RW.run ttok 2 rfl ?_
      obtain ⟨x19, hx20, hb14⟩ := bind_some hb14
      refine RW.idx ttok (hE.trans hS17.ext) rfl rfl rfl rfl rfl rfl (by decide) rfl rfl h0_ (idx_some hx20).1 (idx_some hx20).2 rfl rfl (fun p21 es22 ha23 hr24 => ?_)
      obtain ⟨A25, k26, A28, k29, e31, h27, h30⟩ := ty112_open hr24; subst e31
      refine RW.run ttok 1 rfl ?_
      refine RW.load1 ttok rfl rfl rfl rfl rfl (At.ext (hE.trans hS17.ext) ha23) 0 rfl rfl rfl rfl ?_
      refine RW.run ttok 2 rfl ?_
      refine RW.nil ?_
      refine WP.cond (x19.Kind != s1.1) rfl (fun hc => ?_) (fun hc => ?_)
      · skip
        rw [if_pos hc] at hb14
        refine WP.seq ?_
        refine WP.region ?_
        refine RW.run ttok 1 rfl ?_
        refine RW.nil ?_
        refine WP.ret ?_
        cases hb14
        cases ho15
        have hm : some _ = some _ := hm
        cases hm
        exact ⟨_, .cons (.tmp rfl) .nil, rfl, hS17⟩
      · skip
        rw [if_neg (not_t hc)] at hb14
        refine WP.skip ?_
        refine WP.seq ?_
        refine WP.region ?_
        refine RW.run ttok 3 rfl ?_
        refine RW.nil ?_
        refine WP.seq ?_
        refine WP.seq ?_
        refine WP.region ?_
        refine RW.run ttok 2 rfl ?_
        obtain ⟨x32, hx33, hb14⟩ := bind_some hb14
        refine RW.idx ttok (hE.trans hS17.ext) rfl rfl rfl rfl rfl rfl (by decide) rfl rfl h0_ (idx_some hx33).1 (idx_some hx33).2 rfl rfl (fun p34 es35 ha36 hr37 => ?_)
        obtain ⟨A38, k39, A41, k42, e44, h40, h43⟩ := ty112_open hr37; subst e44
        refine RW.run ttok 1 rfl ?_
        refine RW.load1 ttok rfl rfl rfl rfl rfl (At.ext (hE.trans hS17.ext) ha36) 1 rfl rfl rfl rfl ?_
        refine RW.run ttok 2 rfl ?_
        refine RW.nil ?_
        refine WP.cond (x32.Level != (w64 (s1.1 + 1))) rfl (fun hc => ?_) (fun hc => ?_)
        · skip
          rw [if_pos hc] at hb14
          refine WP.seq ?_
          refine WP.region ?_
          refine RW.run ttok 1 rfl ?_
          refine RW.nil ?_
          refine WP.ret ?_
          cases hb14
          cases ho15
          have hm : some _ = some _ := hm
          cases hm
          exact ⟨_, .cons (.tmp rfl) .nil, rfl, hS17⟩
        · skip
          rw [if_neg (not_t hc)] at hb14
          refine WP.skip ?_
          refine WP.seq ?_
          refine WP.region ?_
          refine RW.run ttok 3 rfl ?_
          refine RW.nil ?_
          refine WP.seq ?_
          refine WP.seq ?_
          refine WP.region ?_
          refine RW.run ttok 2 rfl ?_
          obtain ⟨x45, hx46, hb14⟩ := bind_some hb14
          refine RW.idx ttok (hE.trans hS17.ext) rfl rfl rfl rfl rfl rfl (by decide) rfl rfl h0_ (idx_some hx46).1 (idx_some hx46).2 rfl rfl (fun p47 es48 ha49 hr50 => ?_)
          obtain ⟨A51, k52, A54, k55, e57, h53, h56⟩ := ty112_open hr50; subst e57
          refine RW.run ttok 1 rfl ?_
          refine RW.load1 ttok rfl rfl rfl rfl rfl (At.ext (hE.trans hS17.ext) ha49) 2 rfl rfl rfl rfl ?_
          refine RW.run ttok 2 rfl ?_
          refine RW.nil ?_
          refine WP.cond (x45.Value != (w64 ((w64 (s1.1 + 1)) + 1))) rfl (fun hc => ?_) (fun hc => ?_)
          · skip
            rw [if_pos hc] at hb14
            refine WP.seq ?_
            refine WP.region ?_
            refine RW.run ttok 1 rfl ?_
            refine RW.nil ?_
            refine WP.ret ?_
            cases hb14
            cases ho15
            have hm : some _ = some _ := hm
            cases hm
            exact ⟨_, .cons (.tmp rfl) .nil, rfl, hS17⟩
          · skip
            rw [if_neg (not_t hc)] at hb14
            refine WP.skip ?_
            refine WP.seq ?_
            refine WP.region ?_
            refine RW.run ttok 3 rfl ?_
            refine RW.nil ?_
            refine WP.seq ?_
            refine WP.region ?_
            refine RW.run ttok 2 rfl ?_
            obtain ⟨x58, hx59, hb14⟩ := bind_some hb14
            refine RW.idx ttok (hE.trans hS17.ext) rfl rfl rfl rfl rfl rfl (by decide) rfl rfl h0_ (idx_some hx59).1 (idx_some hx59).2 rfl rfl (fun p60 es61 ha62 hr63 => ?_)
            obtain ⟨A65, k66, A68, k69, e71, h67, h70⟩ := ty112_open hr63; subst e71
            refine RW.run ttok 1 rfl ?_
            refine RW.load1 ttok rfl rfl rfl rfl rfl (At.ext (hE.trans hS17.ext) ha62) 3 rfl rfl rfl rfl ?_
            refine RW.run ttok 1 rfl ?_
            obtain ⟨r72, hx73, hb14⟩ := bind_some hb14
            refine RW.call rfl rfl rfl enters118 (laws_heldInt64S_ok (hE.trans hS17.ext) h67 hx73) (fun v74 w75 hR76 => ?_)
            obtain ⟨rfl, hR77⟩ := hR76
            have hS78 := hS17.join hR77
            refine RW.run ttok 1 rfl ?_
            refine RW.nil ?_
            refine WP.seq ?_
            refine WP.seq ?_
            refine WP.region ?_
            refine RW.run ttok 2 rfl ?_
            refine RW.nil ?_
            refine WP.cond (decide (r72 < 0)) rfl (fun hc => ?_) (fun hc => ?_)
            · skip
              rw [if_pos hc] at hb14
              refine WP.seq ?_
              refine WP.region ?_
              refine RW.run ttok 1 rfl ?_
              refine RW.nil ?_
              refine WP.ret ?_
              cases hb14
              cases ho15
              have hm : some _ = some _ := hm
              cases hm
              exact ⟨_, .cons (.tmp rfl) .nil, rfl, hS78⟩
            · skip
              rw [if_neg (not_t hc)] at hb14
              refine WP.skip ?_
              refine WP.seq ?_
              refine WP.region ?_
              refine RW.run ttok 2 rfl ?_
              obtain ⟨x79, hx80, hb14⟩ := bind_some hb14
              refine RW.idx ttok (hE.trans hS78.ext) rfl rfl rfl rfl rfl rfl (by decide) rfl rfl h0_ (idx_some hx80).1 (idx_some hx80).2 rfl rfl (fun p81 es82 ha83 hr84 => ?_)
              obtain ⟨A85, k86, A88, k89, e91, h87, h90⟩ := ty112_open hr84; subst e91
              refine RW.run ttok 1 rfl ?_
              refine RW.load1 ttok rfl rfl rfl rfl rfl (At.ext (hE.trans hS78.ext) ha83) 4 rfl rfl rfl rfl ?_
              refine RW.run ttok 1 rfl ?_
              obtain ⟨r92, hx93, hb14⟩ := bind_some hb14
              refine RW.call rfl rfl rfl enters119 (laws_heldPortS_ok (hE.trans hS78.ext) h90 hx93) (fun v94 w95 hR96 => ?_)
              obtain ⟨rfl, hR97⟩ := hR96
              have hS98 := hS78.join hR97
              refine RW.run ttok 1 rfl ?_
              refine RW.nil ?_
              refine WP.seq ?_
              refine WP.region ?_
              refine RW.run ttok 2 rfl ?_
              refine RW.nil ?_
              refine WP.cond (decide (r92 < 0)) rfl (fun hc => ?_) (fun hc => ?_)
              · skip
                rw [if_pos hc] at hb14
                refine WP.seq ?_
                refine WP.region ?_
                refine RW.run ttok 1 rfl ?_
                refine RW.nil ?_
                refine WP.ret ?_
                cases hb14
                cases ho15
                have hm : some _ = some _ := hm
                cases hm
                exact ⟨_, .cons (.tmp rfl) .nil, rfl, hS98⟩
              · skip
                rw [if_neg (not_t hc)] at hb14
                refine WP.skip ?_
                refine WP.region ?_
                refine RW.run ttok 3 rfl ?_
                refine RW.nil ?_
                cases hb14
                exact ⟨_, [(0, .slice A0_ x0.length k0_), (1, .int .i64 r92), (5, .int .i64 (w64 (s1.2 + 1)))], ⟨rfl, rfl, rfl, trivial⟩, rfl, ((hE5.trans hR77.ext).trans hR97.ext), hS98, rfl⟩
    · skip
      rw [if_neg (not_t hc)] at hb14
      refine WP.exit ?_
      cases hb14
      exact ⟨_, [(1, .int .i64 s1.1)], ⟨rfl, trivial⟩, ho15, hE5, hS17, rfl⟩

theorem enters19 : Enters Try.prog 19 := ⟨_, _, Try.func19, rfl, by kernel_rfl⟩
def m_laws_heldNet (fuel : Nat) (x0 : D.Net) (x1 : Int) : Option (Int) := ((m_laws_heldAgentS fuel x0.Agents x1).bind fun r11 => (if (decide (r11 < 0)) = true then some (-1) else some r11))

set_option maxRecDepth 100000 in
theorem laws_heldNet_ok {W w : World} (hE : Ext W w) {c0_ : List Value} {x0 : D.Net} {x1 : Int} (h0_ : ty30.ro W c0_ x0) {fuel : Nat} {r : Int} (hm : m_laws_heldNet fuel x0 x1 = some r) :
    Calls Try.prog 19 ⟨[.agg ⟨c0_⟩, .int .i64 x1]⟩ w (Ret fun v w8 => v = .int .i64 r ∧ St w w8 []) := by
  obtain ⟨A1, k2, e4, h3⟩ := ty30_open h0_; subst e4
  refine Calls.into Try.func19 rfl 12 rfl rfl _ rfl ?_
  unfold m_laws_heldNet at hm
  have hS := St.start w
  refine WP.seq ?_
  refine WP.region ?_
  refine RW.new ttok hS rfl rfl rfl rfl (fun g5 w6 e7 hS10 => ?_)
  refine RW.run ttok 1 rfl ?_
  refine RW.nil ?_
  refine WP.seq ?_
  refine WP.region ?_
  refine RW.run ttok 1 rfl ?_
  refine RW.load1 ttok rfl rfl rfl rfl rfl ((hS10.bring 0 rfl).box) 0 rfl rfl rfl rfl ?_
  refine RW.run ttok 1 rfl ?_
  obtain ⟨r11, hx12, hm⟩ := bind_some hm
  refine RW.call rfl rfl rfl enters58 (laws_heldAgentS_ok (hE.trans hS10.ext) h3 hx12) (fun v13 w14 hR15 => ?_)
  obtain ⟨rfl, hR16⟩ := hR15
  have hS17 := hS10.join hR16
  refine RW.run ttok 1 rfl ?_
  refine RW.nil ?_
  refine WP.seq ?_
  refine WP.seq ?_
  refine WP.region ?_
  refine RW.run ttok 2 rfl ?_
  refine RW.nil ?_
  refine WP.cond (decide (r11 < 0)) rfl (fun hc => ?_) (fun hc => ?_)
  · skip
    rw [if_pos hc] at hm
    refine WP.seq ?_
    refine WP.region ?_
    refine RW.run ttok 1 rfl ?_
    refine RW.nil ?_
    refine WP.ret ?_
    cases hm
    exact ⟨_, .cons (.tmp rfl) .nil, rfl, (hS17.taken 0)⟩
  · skip
    rw [if_neg (not_t hc)] at hm
    refine WP.skip ?_
    refine WP.seq ?_
    refine WP.region ?_
    refine RW.run ttok 2 rfl ?_
    refine RW.nil ?_
    refine WP.ret ?_
    cases hm
    exact ⟨_, .cons (.tmp rfl) .nil, rfl, (hS17.taken 0)⟩

theorem enters4 : Enters Try.prog 4 := ⟨_, _, Try.func4, rfl, by kernel_rfl⟩
def m_laws_FnExactExchangePorts_j6 (fuel : Nat) (r93 : Int × (List D.Agent)) (t116 : Bool) : Option Bool := (if t116 = true then some false else ((m_laws_heldNet fuel (⟨r93.2⟩ : D.Net) 1).bind fun r121 => (if (decide (r121 < 0)) = true then some false else (if (r121 != r93.1) = true then some false else some true))))
def m_laws_FnExactExchangePorts_j5 (fuel : Nat) (t28 : (List D.Agent) × Int) (r93 : Int × (List D.Agent)) (t109 : (List D.Agent) × Int) : Option Bool := ((m_laws_eqNet fuel (⟨t109.1⟩ : D.Net) (⟨t28.1⟩ : D.Net)).bind fun r128 => (if (!r128) = true then m_laws_FnExactExchangePorts_j6 fuel r93 true else m_laws_FnExactExchangePorts_j6 fuel r93 (t109.2 != t28.2)))
def m_laws_FnExactExchangePorts_j4 (fuel : Nat) (x0 : D.Net) (x1 : D.Port) (x2 : D.Port) (t28 : (List D.Agent) × Int) (t51 : (List D.Agent) × Int) (t88 : Bool) : Option Bool := (if t88 = true then some false else ((m_laws_markNet fuel (⟨t51.1⟩ : D.Net) 1).bind fun r93 => ((m_laws_heldNet fuel (⟨r93.2⟩ : D.Net) 1).bind fun r102 => (if (decide (r102 < 0)) = true then some false else (if (r102 != r93.1) = true then some false else ((m_laws_toNet fuel x0).bind fun r138 => ((m_laws_toPort fuel x1).bind fun r147 => ((m_laws_toPort fuel x2).bind fun r154 => ((m_impl_ExchangePorts fuel r138 r147 r154).bind fun r161 => m_laws_FnExactExchangePorts_j5 fuel t28 r93 (r161.1.Agents, r161.2))))))))))
def m_laws_FnExactExchangePorts_j3 (fuel : Nat) (x0 : D.Net) (x1 : D.Port) (x2 : D.Port) (t28 : (List D.Agent) × Int) (r35 : D.Net) (t51 : (List D.Agent) × Int) (t58 : Bool) : Option Bool := (if t58 = true then some false else ((m_laws_toNet fuel x0).bind fun r66 => ((m_laws_eqNet fuel r35 r66).bind fun r75 => (if (!r75) = true then some false else ((m_laws_markNet fuel r35 1).bind fun r82 => (if (decide (r82.1 < 0)) = true then m_laws_FnExactExchangePorts_j4 fuel x0 x1 x2 t28 t51 true else ((m_laws_eqNet fuel (⟨t51.1⟩ : D.Net) (⟨t28.1⟩ : D.Net)).bind fun r305 => (if (!r305) = true then m_laws_FnExactExchangePorts_j4 fuel x0 x1 x2 t28 t51 true else m_laws_FnExactExchangePorts_j4 fuel x0 x1 x2 t28 t51 (t51.2 != t28.2)))))))))
def m_laws_FnExactExchangePorts_j2 (fuel : Nat) (x0 : D.Net) (x1 : D.Port) (x2 : D.Port) (t28 : (List D.Agent) × Int) (r35 : D.Net) (t51 : (List D.Agent) × Int) : Option Bool := ((m_laws_eqNet fuel (⟨t51.1⟩ : D.Net) (⟨t28.1⟩ : D.Net)).bind fun r313 => (if (!r313) = true then m_laws_FnExactExchangePorts_j3 fuel x0 x1 x2 t28 r35 t51 true else m_laws_FnExactExchangePorts_j3 fuel x0 x1 x2 t28 r35 t51 (t51.2 != t28.2)))
def m_laws_FnExactExchangePorts_j1 (fuel : Nat) (x0 : D.Net) (x1 : D.Port) (x2 : D.Port) (t28 : (List D.Agent) × Int) : Option Bool := ((m_laws_toNet fuel x0).bind fun r35 => ((m_laws_toPort fuel x1).bind fun r323 => ((m_laws_toPort fuel x2).bind fun r330 => ((m_impl_ExchangePorts fuel r35 r323 r330).bind fun r337 => m_laws_FnExactExchangePorts_j2 fuel x0 x1 x2 t28 r35 (r337.1.Agents, r337.2)))))
def m_laws_FnExactExchangePorts (fuel : Nat) (x0 : D.Net) (x1 : D.Port) (x2 : D.Port) : Option (Bool) := ((m_laws_szNet fuel x0 1048576).bind fun r21 => (if (decide (r21 < 0)) = true then some true else ((m_laws_toNet fuel x0).bind fun r442 => ((m_laws_toPort fuel x1).bind fun r451 => ((m_laws_toPort fuel x2).bind fun r458 => ((m_spec_ExchangePorts fuel r442 r451 r458).bind fun r465 => m_laws_FnExactExchangePorts_j1 fuel x0 x1 x2 (r465.1.Agents, r465.2)))))))

set_option maxRecDepth 100000 in
theorem laws_FnExactExchangePorts_ok {W w : World} (hE : Ext W w) {c0_ : List Value} {x0 : D.Net} {c1_ : List Value} {x1 : D.Port} {c2_ : List Value} {x2 : D.Port} (h0_ : ty24.ro W c0_ x0) (h1_ : ty35.ro W c1_ x1) (h2_ : ty35.ro W c2_ x2) {fuel : Nat} {r : Bool} (hm : m_laws_FnExactExchangePorts fuel x0 x1 x2 = some r) :
    Calls Try.prog 4 ⟨[.agg ⟨c0_⟩, .agg ⟨c1_⟩, .agg ⟨c2_⟩]⟩ w (Ret fun v w8 => v = .bool r ∧ St w w8 []) := by
  obtain ⟨A1, k2, e4, h3⟩ := ty24_open h0_; subst e4
  have e5 := ty35_open h1_; subst e5
  have e6 := ty35_open h2_; subst e6
  refine Calls.into Try.func4 rfl 112 rfl rfl _ rfl ?_
  unfold m_laws_FnExactExchangePorts at hm
  have hS := St.start w
  refine WP.seq ?_
  refine WP.region ?_
  refine RW.new ttok hS rfl rfl rfl rfl (fun g7 w10 e11 hS12 => ?_)
  refine RW.new ttok hS12 rfl rfl rfl rfl (fun g13 w14 e15 hS16 => ?_)
  refine RW.new ttok hS16 rfl rfl rfl rfl (fun g17 w18 e19 hS20 => ?_)
  refine RW.run ttok 1 rfl ?_
  refine RW.nil ?_
  refine WP.seq ?_
  refine WP.region ?_
  refine RW.run ttok 1 rfl ?_
  refine RW.nil ?_
  refine WP.seq ?_
  refine WP.region ?_
  refine RW.loadN ttok rfl rfl rfl rfl rfl ((hS20.bring 2 rfl).box) rfl rfl rfl ?_
  refine RW.run ttok 1 rfl ?_
  obtain ⟨r21, hx22, hm⟩ := bind_some hm
  refine RW.call rfl rfl rfl enters10 (laws_szNet_ok (hE.trans hS20.ext) h0_ hx22) (fun v23 w24 hR25 => ?_)
  obtain ⟨rfl, hR26⟩ := hR25
  have hS27 := hS20.join hR26
  refine RW.run ttok 1 rfl ?_
  refine RW.nil ?_
  refine WP.seq ?_
  refine WP.seq ?_
  refine WP.region ?_
  refine RW.run ttok 2 rfl ?_
  refine RW.nil ?_
  refine WP.cond (decide (r21 < 0)) rfl (fun hc => ?_) (fun hc => ?_)
  · skip
    rw [if_pos hc] at hm
    refine WP.seq ?_
    refine WP.region ?_
    refine RW.run ttok 1 rfl ?_
    refine RW.nil ?_
    refine WP.ret ?_
    cases hm
    exact ⟨_, .cons (.tmp rfl) .nil, rfl, (hS27.taken 0)⟩
  · skip
    rw [if_neg (not_t hc)] at hm
    refine WP.skip ?_
    refine WP.seq ?_
    refine WP.cut (fun (t28 : (List D.Agent) × Int) F w9 => ∃ g29 A30 k31, m_laws_FnExactExchangePorts_j1 fuel x0 x1 x2 t28 = some r ∧ St w w9 [Box g29 [.slice A30 t28.1.length k31] 30, Own ty28 [.slice A30 t28.1.length k31] t28.1, Box g17 [.int .i64 x2.Agent, .int .i64 x2.Slot] 35, Box g13 [.int .i64 x1.Agent, .int .i64 x1.Slot] 35, Box g7 [.slice A1 x0.Agents.length k2] 24] ∧ F = [(3, .pointer (some ⟨g7, 0, none⟩)), (4, .pointer (some ⟨g13, 0, none⟩)), (5, .pointer (some ⟨g17, 0, none⟩)), (8, .pointer (some ⟨g29, 0, none⟩)), (9, .int .i64 t28.2)]) ?_ ?_
    · skip
      rintro t28 F w33 ⟨g29, A30, k31, hm, hS32, rfl⟩
      unfold m_laws_FnExactExchangePorts_j1 at hm
      refine WP.seq ?_
      refine WP.region ?_
      refine RW.loadN ttok rfl rfl rfl rfl rfl ((hS32.bring 4 rfl).box) rfl rfl rfl ?_
      obtain ⟨r35, hx36, hm⟩ := bind_some hm
      refine RW.call rfl rfl rfl enters12 (laws_toNet_ok (hE.trans hS32.ext) h0_ hx36) (fun v37 w38 hR39 => ?_)
      obtain ⟨A40, k41, rfl, hR42⟩ := hR39
      have hS43 := hS32.join hR42
      refine RW.new ttok hS43 rfl rfl rfl rfl (fun g44 w45 e46 hS47 => ?_)
      have hS48 := hS47.bring 0 rfl
      refine RW.store ttok (A := []) hS48 rfl rfl rfl rfl rfl 0 rfl rfl rfl rfl rfl (fun w49 hS50 => ?_)
      refine RW.nil ?_
      refine WP.seq ?_
      refine WP.cut (fun (t51 : (List D.Agent) × Int) F w9 => ∃ g52 A53 k54, m_laws_FnExactExchangePorts_j2 fuel x0 x1 x2 t28 r35 t51 = some r ∧ St w w9 [Box g52 [.slice A53 t51.1.length k54] 30, Own ty28 [.slice A53 t51.1.length k54] t51.1, Box g44 [.slice A40 r35.Agents.length k41] 30, Own ty28 [.slice A40 r35.Agents.length k41] r35.Agents, Box g29 [.slice A30 t28.1.length k31] 30, Own ty28 [.slice A30 t28.1.length k31] t28.1, Box g17 [.int .i64 x2.Agent, .int .i64 x2.Slot] 35, Box g13 [.int .i64 x1.Agent, .int .i64 x1.Slot] 35, Box g7 [.slice A1 x0.Agents.length k2] 24] ∧ F = [(3, .pointer (some ⟨g7, 0, none⟩)), (4, .pointer (some ⟨g13, 0, none⟩)), (5, .pointer (some ⟨g17, 0, none⟩)), (8, .pointer (some ⟨g29, 0, none⟩)), (9, .int .i64 t28.2), (10, .pointer (some ⟨g44, 0, none⟩)), (11, .pointer (some ⟨g52, 0, none⟩)), (12, .int .i64 t51.2)]) ?_ ?_
      · skip
        rintro t51 F w56 ⟨g52, A53, k54, hm, hS55, rfl⟩
        unfold m_laws_FnExactExchangePorts_j2 at hm
        refine WP.seq ?_
        refine WP.seq ?_
        refine WP.cut (fun (t58 : Bool) F w9 => m_laws_FnExactExchangePorts_j3 fuel x0 x1 x2 t28 r35 t51 t58 = some r ∧ Ext w56 w9 ∧ St w w9 [Box g52 [.slice A53 t51.1.length k54] 30, Own ty28 [.slice A53 t51.1.length k54] t51.1, Box g44 [.slice A40 r35.Agents.length k41] 30, Own ty28 [.slice A40 r35.Agents.length k41] r35.Agents, Box g29 [.slice A30 t28.1.length k31] 30, Own ty28 [.slice A30 t28.1.length k31] t28.1, Box g17 [.int .i64 x2.Agent, .int .i64 x2.Slot] 35, Box g13 [.int .i64 x1.Agent, .int .i64 x1.Slot] 35, Box g7 [.slice A1 x0.Agents.length k2] 24] ∧ F = [(3, .pointer (some ⟨g7, 0, none⟩)), (4, .pointer (some ⟨g13, 0, none⟩)), (5, .pointer (some ⟨g17, 0, none⟩)), (8, .pointer (some ⟨g29, 0, none⟩)), (9, .int .i64 t28.2), (10, .pointer (some ⟨g44, 0, none⟩)), (11, .pointer (some ⟨g52, 0, none⟩)), (12, .int .i64 t51.2), (52, .bool t58)]) ?_ ?_
        · skip
          rintro t58 F w61 ⟨hm, hE59, hS60, rfl⟩
          unfold m_laws_FnExactExchangePorts_j3 at hm
          refine WP.cond t58 rfl (fun hc => ?_) (fun hc => ?_)
          · skip
            rw [if_pos hc] at hm
            refine WP.seq ?_
            refine WP.region ?_
            refine RW.run ttok 1 rfl ?_
            refine RW.nil ?_
            refine WP.ret ?_
            cases hm
            exact ⟨_, .cons (.tmp rfl) .nil, rfl, (hS60.taken 0)⟩
          · skip
            rw [if_neg (not_t hc)] at hm
            refine WP.skip ?_
            refine WP.seq ?_
            refine WP.seq ?_
            refine WP.drawnM 0 mixed 5 (by kernel_rfl) (by kernel_rfl) [([], 31), ([], 31), ([1], 29), ([0, 2, 2], 26), ([3], 23)] (by kernel_rfl) hS60.ext (fun hsk63 => ?_)
            have hS65 := hS60.step (Ext.draw _)
            refine DM.loadN ttok hsk63 0 1 (by kernel_rfl) (by kernel_rfl) (by kernel_rfl) (by kernel_rfl) rfl (by kernel_rfl) rfl rfl rfl rfl rfl ((hS60.bring 2 rfl).box) rfl rfl rfl ?_
            refine DM.loadN ttok hsk63 1 3 (by kernel_rfl) (by kernel_rfl) (by kernel_rfl) (by kernel_rfl) rfl (by kernel_rfl) rfl rfl rfl rfl rfl ((hS60.bring 8 rfl).box) rfl rfl rfl ?_
            obtain ⟨r66, hx67, hm⟩ := bind_some hm
            refine DM.one hsk63 2 (by kernel_rfl) (LM.call hsk63 7 (by kernel_rfl) (by kernel_rfl) rfl rfl rfl rfl enters12 (laws_toNet_ok (hE.trans hS65.ext) h0_ hx67) (fun v68 w69 hR70 => ?_))
            obtain ⟨A71, k72, rfl, hR73⟩ := hR70
            refine ⟨hR73.ext, ?_⟩
            have hS74 := hS65.join hR73
            obtain ⟨r75, hx76, hm⟩ := bind_some hm
            refine DM.one hsk63 3 (by kernel_rfl) (LM.call hsk63 15 (by kernel_rfl) (by kernel_rfl) rfl rfl rfl rfl enters14 (laws_eqNet_ok (Ext.refl _) (ty30_shut r35 ((hS74.bring 4 rfl).own)) (ty30_shut r66 ((hS74.bring 0 rfl).own)) hx76) (fun v77 w78 hR79 => ?_))
            obtain ⟨rfl, hR80⟩ := hR79
            refine ⟨hR80.ext, ?_⟩
            have hS81 := hS74.join hR80
            refine DM.run (fuel := 0) ttok hsk63 [4] 31 (by kernel_rfl) (by kernel_rfl) rfl ?_
            refine DM.done hsk63 (by kernel_rfl) ?_
            refine WP.cond (!r75) rfl (fun hc => ?_) (fun hc => ?_)
            · skip
              rw [if_pos hc] at hm
              refine WP.seq ?_
              refine WP.region ?_
              refine RW.run ttok 1 rfl ?_
              refine RW.nil ?_
              refine WP.ret ?_
              cases hm
              exact ⟨_, .cons (.tmp rfl) .nil, rfl, (hS81.taken 0)⟩
            · skip
              rw [if_neg (not_t hc)] at hm
              refine WP.skip ?_
              refine WP.seq ?_
              refine WP.region ?_
              refine RW.run ttok 1 rfl ?_
              refine RW.nil ?_
              refine WP.seq ?_
              refine WP.region ?_
              refine RW.loadN ttok rfl rfl rfl rfl rfl ((hS81.bring 3 rfl).box) rfl rfl rfl ?_
              refine RW.run ttok 1 rfl ?_
              obtain ⟨r82, hx83, hm⟩ := bind_some hm
              refine RW.call rfl rfl rfl enters18 (laws_markNet_ok (W := w) (RR := _) (x0 := r35) (x1 := 1) (hS81.bring 4 rfl)  hx83) (fun v84 w85 hR86 => ?_)
              obtain ⟨rfl, hS87⟩ := hR86
              refine RW.run ttok 1 rfl ?_
              refine RW.nil ?_
              refine WP.seq ?_
              refine WP.seq ?_
              refine WP.cut (fun (t88 : Bool) F w9 => m_laws_FnExactExchangePorts_j4 fuel x0 x1 x2 t28 t51 t88 = some r ∧ Ext w85 w9 ∧ St w w9 [Own ty28 [.slice A40 r35.Agents.length k41] r82.2, Own ty28 [.slice A71 r66.Agents.length k72] r66.Agents, Box g52 [.slice A53 t51.1.length k54] 30, Own ty28 [.slice A53 t51.1.length k54] t51.1, Box g44 [.slice A40 r35.Agents.length k41] 30, Box g29 [.slice A30 t28.1.length k31] 30, Own ty28 [.slice A30 t28.1.length k31] t28.1, Box g17 [.int .i64 x2.Agent, .int .i64 x2.Slot] 35, Box g13 [.int .i64 x1.Agent, .int .i64 x1.Slot] 35, Box g7 [.slice A1 x0.Agents.length k2] 24] ∧ F = [(3, .pointer (some ⟨g7, 0, none⟩)), (4, .pointer (some ⟨g13, 0, none⟩)), (5, .pointer (some ⟨g17, 0, none⟩)), (8, .pointer (some ⟨g29, 0, none⟩)), (9, .int .i64 t28.2), (11, .pointer (some ⟨g52, 0, none⟩)), (73, .bool t88)]) ?_ ?_
              · skip
                rintro t88 F w91 ⟨hm, hE89, hS90, rfl⟩
                unfold m_laws_FnExactExchangePorts_j4 at hm
                refine WP.cond t88 rfl (fun hc => ?_) (fun hc => ?_)
                · skip
                  rw [if_pos hc] at hm
                  refine WP.seq ?_
                  refine WP.region ?_
                  refine RW.run ttok 1 rfl ?_
                  refine RW.nil ?_
                  refine WP.ret ?_
                  cases hm
                  exact ⟨_, .cons (.tmp rfl) .nil, rfl, (hS90.taken 0)⟩
                · skip
                  rw [if_neg (not_t hc)] at hm
                  refine WP.skip ?_
                  refine WP.seq ?_
                  refine WP.region ?_
                  refine RW.run ttok 1 rfl ?_
                  refine RW.nil ?_
                  refine WP.seq ?_
                  refine WP.region ?_
                  refine RW.loadN ttok rfl rfl rfl rfl rfl ((hS90.bring 2 rfl).box) rfl rfl rfl ?_
                  refine RW.run ttok 1 rfl ?_
                  obtain ⟨r93, hx94, hm⟩ := bind_some hm
                  refine RW.call rfl rfl rfl enters18 (laws_markNet_ok (W := w) (RR := _) (x0 := (⟨t51.1⟩ : D.Net)) (x1 := 1) (hS90.bring 3 rfl)  hx94) (fun v95 w96 hR97 => ?_)
                  obtain ⟨rfl, hS98⟩ := hR97
                  refine RW.run ttok 1 rfl ?_
                  refine RW.nil ?_
                  refine WP.seq ?_
                  refine WP.region ?_
                  refine RW.run ttok 1 rfl ?_
                  refine RW.nil ?_
                  refine WP.seq ?_
                  refine WP.region ?_
                  refine RW.loadN ttok rfl rfl rfl rfl rfl ((hS98.bring 3 rfl).box) rfl rfl rfl ?_
                  refine RW.run ttok 1 rfl ?_
                  have hn99 := (hS98.bring 0 rfl).lenEq
                  have hS100 := (hS98.bring 0 rfl).reLen hn99
                  have hS101 := (hS100.bring 3 rfl).reBox (cs' := [.slice A53 r93.2.length k54]) (by show ([.slice A53 t51.1.length k54] : List Value) = [.slice A53 r93.2.length k54]; simp only [hn99])
                  refine RW.know (u := .agg ⟨[.slice A53 r93.2.length k54]⟩) 77 rfl (by simp only [hn99]) ?_
                  obtain ⟨r102, hx103, hm⟩ := bind_some hm
                  refine RW.call rfl rfl rfl enters19 (laws_heldNet_ok (Ext.refl _) (ty30_shut (⟨r93.2⟩ : D.Net) ((hS101.bring 1 rfl).own)) hx103) (fun v104 w105 hR106 => ?_)
                  obtain ⟨rfl, hR107⟩ := hR106
                  have hS108 := hS101.join hR107
                  refine RW.run ttok 1 rfl ?_
                  refine RW.nil ?_
                  refine WP.seq ?_
                  refine WP.seq ?_
                  refine WP.region ?_
                  refine RW.run ttok 2 rfl ?_
                  refine RW.nil ?_
                  refine WP.cond (decide (r102 < 0)) rfl (fun hc => ?_) (fun hc => ?_)
                  · skip
                    rw [if_pos hc] at hm
                    refine WP.seq ?_
                    refine WP.region ?_
                    refine RW.run ttok 1 rfl ?_
                    refine RW.nil ?_
                    refine WP.ret ?_
                    cases hm
                    exact ⟨_, .cons (.tmp rfl) .nil, rfl, (hS108.taken 0)⟩
                  · skip
                    rw [if_neg (not_t hc)] at hm
                    refine WP.skip ?_
                    refine WP.seq ?_
                    refine WP.seq ?_
                    refine WP.region ?_
                    refine RW.run ttok 3 rfl ?_
                    refine RW.nil ?_
                    refine WP.cond (r102 != r93.1) rfl (fun hc => ?_) (fun hc => ?_)
                    · skip
                      rw [if_pos hc] at hm
                      refine WP.seq ?_
                      refine WP.region ?_
                      refine RW.run ttok 1 rfl ?_
                      refine RW.nil ?_
                      refine WP.ret ?_
                      cases hm
                      exact ⟨_, .cons (.tmp rfl) .nil, rfl, (hS108.taken 0)⟩
                    · skip
                      rw [if_neg (not_t hc)] at hm
                      refine WP.skip ?_
                      refine WP.seq ?_
                      refine WP.cut (fun (t109 : (List D.Agent) × Int) F w9 => ∃ g110 A111 k112, m_laws_FnExactExchangePorts_j5 fuel t28 r93 t109 = some r ∧ St w w9 [Box g110 [.slice A111 t109.1.length k112] 30, Own ty28 [.slice A111 t109.1.length k112] t109.1, Box g52 [.slice A53 r93.2.length k54] 30, Own ty28 [.slice A53 r93.2.length k54] r93.2, Own ty28 [.slice A40 r35.Agents.length k41] r82.2, Own ty28 [.slice A71 r66.Agents.length k72] r66.Agents, Box g44 [.slice A40 r35.Agents.length k41] 30, Box g29 [.slice A30 t28.1.length k31] 30, Own ty28 [.slice A30 t28.1.length k31] t28.1, Box g17 [.int .i64 x2.Agent, .int .i64 x2.Slot] 35, Box g13 [.int .i64 x1.Agent, .int .i64 x1.Slot] 35, Box g7 [.slice A1 x0.Agents.length k2] 24] ∧ F = [(8, .pointer (some ⟨g29, 0, none⟩)), (9, .int .i64 t28.2), (11, .pointer (some ⟨g52, 0, none⟩)), (14, .int .i64 r93.1), (16, .pointer (some ⟨g110, 0, none⟩)), (17, .int .i64 t109.2)]) ?_ ?_
                      · skip
                        rintro t109 F w114 ⟨g110, A111, k112, hm, hS113, rfl⟩
                        unfold m_laws_FnExactExchangePorts_j5 at hm
                        refine WP.seq ?_
                        refine WP.seq ?_
                        refine WP.cut (fun (t116 : Bool) F w9 => m_laws_FnExactExchangePorts_j6 fuel r93 t116 = some r ∧ Ext w114 w9 ∧ St w w9 [Box g110 [.slice A111 t109.1.length k112] 30, Own ty28 [.slice A111 t109.1.length k112] t109.1, Box g52 [.slice A53 r93.2.length k54] 30, Own ty28 [.slice A53 r93.2.length k54] r93.2, Own ty28 [.slice A40 r35.Agents.length k41] r82.2, Own ty28 [.slice A71 r66.Agents.length k72] r66.Agents, Box g44 [.slice A40 r35.Agents.length k41] 30, Box g29 [.slice A30 t28.1.length k31] 30, Own ty28 [.slice A30 t28.1.length k31] t28.1, Box g17 [.int .i64 x2.Agent, .int .i64 x2.Slot] 35, Box g13 [.int .i64 x1.Agent, .int .i64 x1.Slot] 35, Box g7 [.slice A1 x0.Agents.length k2] 24] ∧ F = [(11, .pointer (some ⟨g52, 0, none⟩)), (14, .int .i64 r93.1), (103, .bool t116)]) ?_ ?_
                        · skip
                          rintro t116 F w119 ⟨hm, hE117, hS118, rfl⟩
                          unfold m_laws_FnExactExchangePorts_j6 at hm
                          refine WP.cond t116 rfl (fun hc => ?_) (fun hc => ?_)
                          · skip
                            rw [if_pos hc] at hm
                            refine WP.seq ?_
                            refine WP.region ?_
                            refine RW.run ttok 1 rfl ?_
                            refine RW.nil ?_
                            refine WP.ret ?_
                            cases hm
                            exact ⟨_, .cons (.tmp rfl) .nil, rfl, (hS118.taken 0)⟩
                          · skip
                            rw [if_neg (not_t hc)] at hm
                            refine WP.skip ?_
                            refine WP.seq ?_
                            refine WP.region ?_
                            refine RW.run ttok 1 rfl ?_
                            refine RW.nil ?_
                            refine WP.seq ?_
                            refine WP.region ?_
                            refine RW.loadN ttok rfl rfl rfl rfl rfl ((hS118.bring 2 rfl).box) rfl rfl rfl ?_
                            refine RW.run ttok 1 rfl ?_
                            obtain ⟨r121, hx122, hm⟩ := bind_some hm
                            refine RW.call rfl rfl rfl enters19 (laws_heldNet_ok (Ext.refl _) (ty30_shut (⟨r93.2⟩ : D.Net) ((hS118.bring 3 rfl).own)) hx122) (fun v123 w124 hR125 => ?_)
                            obtain ⟨rfl, hR126⟩ := hR125
                            have hS127 := hS118.join hR126
                            refine RW.run ttok 1 rfl ?_
                            refine RW.nil ?_
                            refine WP.seq ?_
                            refine WP.seq ?_
                            refine WP.region ?_
                            refine RW.run ttok 2 rfl ?_
                            refine RW.nil ?_
                            refine WP.cond (decide (r121 < 0)) rfl (fun hc => ?_) (fun hc => ?_)
                            · skip
                              rw [if_pos hc] at hm
                              refine WP.seq ?_
                              refine WP.region ?_
                              refine RW.run ttok 1 rfl ?_
                              refine RW.nil ?_
                              refine WP.ret ?_
                              cases hm
                              exact ⟨_, .cons (.tmp rfl) .nil, rfl, (hS127.taken 0)⟩
                            · skip
                              rw [if_neg (not_t hc)] at hm
                              refine WP.skip ?_
                              refine WP.seq ?_
                              refine WP.seq ?_
                              refine WP.region ?_
                              refine RW.run ttok 3 rfl ?_
                              refine RW.nil ?_
                              refine WP.cond (r121 != r93.1) rfl (fun hc => ?_) (fun hc => ?_)
                              · skip
                                rw [if_pos hc] at hm
                                refine WP.seq ?_
                                refine WP.region ?_
                                refine RW.run ttok 1 rfl ?_
                                refine RW.nil ?_
                                refine WP.ret ?_
                                cases hm
                                exact ⟨_, .cons (.tmp rfl) .nil, rfl, (hS127.taken 0)⟩
                              · skip
                                rw [if_neg (not_t hc)] at hm
                                refine WP.skip ?_
                                refine WP.seq ?_
                                refine WP.region ?_
                                refine RW.run ttok 1 rfl ?_
                                refine RW.nil ?_
                                refine WP.ret ?_
                                cases hm
                                exact ⟨_, .cons (.tmp rfl) .nil, rfl, (hS127.taken 0)⟩
                        · skip
                          refine WP.region ?_
                          refine RW.loadN ttok rfl rfl rfl rfl rfl ((hS113.bring 0 rfl).box) rfl rfl rfl ?_
                          refine RW.loadN ttok rfl rfl rfl rfl rfl ((hS113.bring 7 rfl).box) rfl rfl rfl ?_
                          obtain ⟨r128, hx129, hm⟩ := bind_some hm
                          refine RW.call rfl rfl rfl enters14 (laws_eqNet_ok (Ext.refl _) (ty30_shut (⟨t109.1⟩ : D.Net) ((hS113.bring 1 rfl).own)) (ty30_shut (⟨t28.1⟩ : D.Net) ((hS113.bring 8 rfl).own)) hx129) (fun v130 w131 hR132 => ?_)
                          obtain ⟨rfl, hR133⟩ := hR132
                          have hS134 := hS113.join hR133
                          refine RW.run ttok 2 rfl ?_
                          by_cases hg135 : (!r128) = true
                          · skip
                            rw [if_pos hg135] at hm
                            refine RW.know 99 rfl (congrArg Value.bool hg135) ?_
                            refine RW.run ttok 4 rfl ?_
                            refine RW.nil ?_
                            exact ⟨true, [(11, .pointer (some ⟨g52, 0, none⟩)), (14, .int .i64 r93.1), (103, .bool true)], ⟨rfl, rfl, rfl, trivial⟩, hm, hR133.ext, hS134, rfl⟩
                          · skip
                            rw [if_neg hg135] at hm
                            refine RW.know 99 rfl (congrArg Value.bool (Bool.eq_false_iff.2 hg135)) ?_
                            refine RW.run ttok 4 rfl ?_
                            refine RW.nil ?_
                            exact ⟨(t109.2 != t28.2), [(11, .pointer (some ⟨g52, 0, none⟩)), (14, .int .i64 r93.1), (103, .bool (t109.2 != t28.2))], ⟨rfl, rfl, rfl, trivial⟩, hm, hR133.ext, hS134, rfl⟩
                      · skip
                        refine WP.drawnM 2048 mixed 13 (by kernel_rfl) (by kernel_rfl) [([], 8191), ([0], 8190), ([], 8191), ([2, 1], 8187), ([], 8191), ([4, 3], 8175), ([1, 3, 5, 5], 8149), ([6], 8127), ([7], 8063), ([7], 8063), ([], 8191), ([10, 8, 6, 0, 1, 2, 3, 4, 5, 6, 7, 8, 10], 6911), ([9, 11, 0, 1, 2, 3, 4, 5, 6, 7, 8, 9, 10, 11], 7679)] (by kernel_rfl) hS108.ext (fun hsk136 => ?_)
                        have hS137 := hS108.step (Ext.draw _)
                        refine DM.loadN ttok hsk136 0 1 (by kernel_rfl) (by kernel_rfl) (by kernel_rfl) (by kernel_rfl) rfl (by kernel_rfl) rfl rfl rfl rfl rfl ((hS108.bring 9 rfl).box) rfl rfl rfl ?_
                        refine DM.loadN ttok hsk136 2 5 (by kernel_rfl) (by kernel_rfl) (by kernel_rfl) (by kernel_rfl) rfl (by kernel_rfl) rfl rfl rfl rfl rfl ((hS108.bring 8 rfl).box) rfl rfl rfl ?_
                        refine DM.loadN ttok hsk136 4 21 (by kernel_rfl) (by kernel_rfl) (by kernel_rfl) (by kernel_rfl) rfl (by kernel_rfl) rfl rfl rfl rfl rfl ((hS108.bring 7 rfl).box) rfl rfl rfl ?_
                        obtain ⟨r138, hx139, hm⟩ := bind_some hm
                        obtain ⟨r147, hx148, hm⟩ := bind_some hm
                        obtain ⟨r154, hx155, hm⟩ := bind_some hm
                        obtain ⟨r161, hx162, hm⟩ := bind_some hm
                        refine DM.all hsk136 [1, 10] (by kernel_rfl) (by simp) ?_
                        intro i177 hi178
                        simp only [List.mem_cons, List.not_mem_nil, or_false] at hi178
                        rcases hi178 with rfl | rfl
                        · skip
                          refine LM.call hsk136 23 (by kernel_rfl) (by kernel_rfl) rfl rfl rfl rfl enters12 (laws_toNet_ok (hE.trans hS137.ext) h0_ hx139) (fun v179 w180 hR181 => ?_)
                          obtain ⟨A182, k183, rfl, hR184⟩ := hR181
                          refine ⟨hR184.ext, ?_⟩
                          have hS185 := hS137.join hR184
                          refine DM.all hsk136 [3, 10] (by kernel_rfl) (by simp) ?_
                          intro i186 hi187
                          simp only [List.mem_cons, List.not_mem_nil, or_false] at hi187
                          rcases hi187 with rfl | rfl
                          · skip
                            refine LM.call hsk136 31 (by kernel_rfl) (by kernel_rfl) rfl rfl rfl rfl enters16 (laws_toPort_ok (hE.trans hS185.ext) h1_ hx148) (fun v188 w189 hR190 => ?_)
                            obtain ⟨rfl, hR191⟩ := hR190
                            refine ⟨hR191.ext, ?_⟩
                            have hS192 := hS185.join hR191
                            refine DM.all hsk136 [5, 10] (by kernel_rfl) (by simp) ?_
                            intro i193 hi194
                            simp only [List.mem_cons, List.not_mem_nil, or_false] at hi194
                            rcases hi194 with rfl | rfl
                            · skip
                              refine LM.call hsk136 63 (by kernel_rfl) (by kernel_rfl) rfl rfl rfl rfl enters16 (laws_toPort_ok (hE.trans hS192.ext) h2_ hx155) (fun v195 w196 hR197 => ?_)
                              obtain ⟨rfl, hR198⟩ := hR197
                              refine ⟨hR198.ext, ?_⟩
                              have hS199 := hS192.join hR198
                              refine DM.all hsk136 [6, 10] (by kernel_rfl) (by simp) ?_
                              intro i200 hi201
                              simp only [List.mem_cons, List.not_mem_nil, or_false] at hi201
                              rcases hi201 with rfl | rfl
                              · skip
                                refine LM.call hsk136 127 (by kernel_rfl) (by kernel_rfl) rfl rfl rfl rfl enters17 (impl_ExchangePorts_ok (Ext.refl _) (ty30_shut r138 ((hS199.bring 0 rfl).own)) (ty38_shut r147) (ty38_shut r154) hx162) (fun v202 w203 hR204 => ?_)
                                obtain ⟨A205, k206, rfl, hR207⟩ := hR204
                                refine ⟨hR207.ext, ?_⟩
                                have hS208 := hS199.join hR207
                                refine DM.run (fuel := 3) ttok hsk136 [7, 8, 9] 1023 (by kernel_rfl) (by kernel_rfl) rfl ?_
                                refine DM.weak [(8, .pointer (some ⟨g29, 0, none⟩)), (9, .int .i64 t28.2), (11, .pointer (some ⟨g52, 0, none⟩)), (14, .int .i64 r93.1), (93, .agg ⟨[.slice A205 r161.1.Agents.length k206]⟩), (94, .int .i64 r161.2)] ⟨rfl, rfl, rfl, rfl, rfl, rfl, trivial⟩ ?_
                                refine DM.one hsk136 10 (by kernel_rfl) (LM.new ttok hsk136 hS208 2047 (by kernel_rfl) (by kernel_rfl) rfl rfl rfl rfl rfl (fun g209 w210 e211 hS212 => ?_))
                                have hS213 := hS212.bring 0 rfl
                                refine DM.one hsk136 11 (by kernel_rfl) (LM.store ttok (A := []) hS213 hsk136 4095 (by kernel_rfl) (by kernel_rfl) rfl rfl rfl rfl rfl rfl 0 rfl rfl rfl rfl rfl (fun w214 hS215 => ?_))
                                refine DM.run (fuel := 0) ttok hsk136 [12] 8191 (by kernel_rfl) (by kernel_rfl) rfl ?_
                                refine DM.done hsk136 (by kernel_rfl) ?_
                                exact ⟨(r161.1.Agents, r161.2), [(8, .pointer (some ⟨g29, 0, none⟩)), (9, .int .i64 t28.2), (11, .pointer (some ⟨g52, 0, none⟩)), (14, .int .i64 r93.1), (16, .pointer (some ⟨g209, 0, none⟩)), (17, .int .i64 r161.2)], ⟨rfl, rfl, rfl, rfl, rfl, rfl, trivial⟩, g209, A205, k206, hm, (hS215.bring 2 rfl).drop, rfl⟩
                              · skip
                                refine LM.new ttok hsk136 hS199 1087 (by kernel_rfl) (by kernel_rfl) rfl rfl rfl rfl rfl (fun g216 w217 e218 hS219 => ?_)
                                refine DM.one hsk136 6 (by kernel_rfl) (LM.call hsk136 1151 (by kernel_rfl) (by kernel_rfl) rfl rfl rfl rfl enters17 (impl_ExchangePorts_ok (Ext.refl _) (ty30_shut r138 ((hS219.bring 1 rfl).own)) (ty38_shut r147) (ty38_shut r154) hx162) (fun v220 w221 hR222 => ?_))
                                obtain ⟨A223, k224, rfl, hR225⟩ := hR222
                                refine ⟨hR225.ext, ?_⟩
                                have hS226 := hS219.join hR225
                                refine DM.run (fuel := 2) ttok hsk136 [7, 8, 9] 2047 (by kernel_rfl) (by kernel_rfl) rfl ?_
                                refine DM.weak [(8, .pointer (some ⟨g29, 0, none⟩)), (9, .int .i64 t28.2), (11, .pointer (some ⟨g52, 0, none⟩)), (14, .int .i64 r93.1), (16, .pointer (some ⟨g216, 0, none⟩)), (93, .agg ⟨[.slice A223 r161.1.Agents.length k224]⟩), (94, .int .i64 r161.2)] ⟨rfl, rfl, rfl, rfl, rfl, rfl, rfl, trivial⟩ ?_
                                have hS227 := hS226.bring 1 rfl
                                refine DM.one hsk136 11 (by kernel_rfl) (LM.store ttok (A := []) hS227 hsk136 4095 (by kernel_rfl) (by kernel_rfl) rfl rfl rfl rfl rfl rfl 0 rfl rfl rfl rfl rfl (fun w228 hS229 => ?_))
                                refine DM.run (fuel := 0) ttok hsk136 [12] 8191 (by kernel_rfl) (by kernel_rfl) rfl ?_
                                refine DM.done hsk136 (by kernel_rfl) ?_
                                exact ⟨(r161.1.Agents, r161.2), [(8, .pointer (some ⟨g29, 0, none⟩)), (9, .int .i64 t28.2), (11, .pointer (some ⟨g52, 0, none⟩)), (14, .int .i64 r93.1), (16, .pointer (some ⟨g216, 0, none⟩)), (17, .int .i64 r161.2)], ⟨rfl, rfl, rfl, rfl, rfl, rfl, trivial⟩, g216, A223, k224, hm, (hS229.bring 2 rfl).drop, rfl⟩
                            · skip
                              refine LM.new ttok hsk136 hS192 1055 (by kernel_rfl) (by kernel_rfl) rfl rfl rfl rfl rfl (fun g230 w231 e232 hS233 => ?_)
                              refine DM.one hsk136 5 (by kernel_rfl) (LM.call hsk136 1087 (by kernel_rfl) (by kernel_rfl) rfl rfl rfl rfl enters16 (laws_toPort_ok (hE.trans hS233.ext) h2_ hx155) (fun v234 w235 hR236 => ?_))
                              obtain ⟨rfl, hR237⟩ := hR236
                              refine ⟨hR237.ext, ?_⟩
                              have hS238 := hS233.join hR237
                              refine DM.one hsk136 6 (by kernel_rfl) (LM.call hsk136 1151 (by kernel_rfl) (by kernel_rfl) rfl rfl rfl rfl enters17 (impl_ExchangePorts_ok (Ext.refl _) (ty30_shut r138 ((hS238.bring 1 rfl).own)) (ty38_shut r147) (ty38_shut r154) hx162) (fun v239 w240 hR241 => ?_))
                              obtain ⟨A242, k243, rfl, hR244⟩ := hR241
                              refine ⟨hR244.ext, ?_⟩
                              have hS245 := hS238.join hR244
                              refine DM.run (fuel := 2) ttok hsk136 [7, 8, 9] 2047 (by kernel_rfl) (by kernel_rfl) rfl ?_
                              refine DM.weak [(8, .pointer (some ⟨g29, 0, none⟩)), (9, .int .i64 t28.2), (11, .pointer (some ⟨g52, 0, none⟩)), (14, .int .i64 r93.1), (16, .pointer (some ⟨g230, 0, none⟩)), (93, .agg ⟨[.slice A242 r161.1.Agents.length k243]⟩), (94, .int .i64 r161.2)] ⟨rfl, rfl, rfl, rfl, rfl, rfl, rfl, trivial⟩ ?_
                              have hS246 := hS245.bring 1 rfl
                              refine DM.one hsk136 11 (by kernel_rfl) (LM.store ttok (A := []) hS246 hsk136 4095 (by kernel_rfl) (by kernel_rfl) rfl rfl rfl rfl rfl rfl 0 rfl rfl rfl rfl rfl (fun w247 hS248 => ?_))
                              refine DM.run (fuel := 0) ttok hsk136 [12] 8191 (by kernel_rfl) (by kernel_rfl) rfl ?_
                              refine DM.done hsk136 (by kernel_rfl) ?_
                              exact ⟨(r161.1.Agents, r161.2), [(8, .pointer (some ⟨g29, 0, none⟩)), (9, .int .i64 t28.2), (11, .pointer (some ⟨g52, 0, none⟩)), (14, .int .i64 r93.1), (16, .pointer (some ⟨g230, 0, none⟩)), (17, .int .i64 r161.2)], ⟨rfl, rfl, rfl, rfl, rfl, rfl, trivial⟩, g230, A242, k243, hm, (hS248.bring 2 rfl).drop, rfl⟩
                          · skip
                            refine LM.new ttok hsk136 hS185 1047 (by kernel_rfl) (by kernel_rfl) rfl rfl rfl rfl rfl (fun g249 w250 e251 hS252 => ?_)
                            refine DM.one hsk136 3 (by kernel_rfl) (LM.call hsk136 1055 (by kernel_rfl) (by kernel_rfl) rfl rfl rfl rfl enters16 (laws_toPort_ok (hE.trans hS252.ext) h1_ hx148) (fun v253 w254 hR255 => ?_))
                            obtain ⟨rfl, hR256⟩ := hR255
                            refine ⟨hR256.ext, ?_⟩
                            have hS257 := hS252.join hR256
                            refine DM.one hsk136 5 (by kernel_rfl) (LM.call hsk136 1087 (by kernel_rfl) (by kernel_rfl) rfl rfl rfl rfl enters16 (laws_toPort_ok (hE.trans hS257.ext) h2_ hx155) (fun v258 w259 hR260 => ?_))
                            obtain ⟨rfl, hR261⟩ := hR260
                            refine ⟨hR261.ext, ?_⟩
                            have hS262 := hS257.join hR261
                            refine DM.one hsk136 6 (by kernel_rfl) (LM.call hsk136 1151 (by kernel_rfl) (by kernel_rfl) rfl rfl rfl rfl enters17 (impl_ExchangePorts_ok (Ext.refl _) (ty30_shut r138 ((hS262.bring 1 rfl).own)) (ty38_shut r147) (ty38_shut r154) hx162) (fun v263 w264 hR265 => ?_))
                            obtain ⟨A266, k267, rfl, hR268⟩ := hR265
                            refine ⟨hR268.ext, ?_⟩
                            have hS269 := hS262.join hR268
                            refine DM.run (fuel := 2) ttok hsk136 [7, 8, 9] 2047 (by kernel_rfl) (by kernel_rfl) rfl ?_
                            refine DM.weak [(8, .pointer (some ⟨g29, 0, none⟩)), (9, .int .i64 t28.2), (11, .pointer (some ⟨g52, 0, none⟩)), (14, .int .i64 r93.1), (16, .pointer (some ⟨g249, 0, none⟩)), (93, .agg ⟨[.slice A266 r161.1.Agents.length k267]⟩), (94, .int .i64 r161.2)] ⟨rfl, rfl, rfl, rfl, rfl, rfl, rfl, trivial⟩ ?_
                            have hS270 := hS269.bring 1 rfl
                            refine DM.one hsk136 11 (by kernel_rfl) (LM.store ttok (A := []) hS270 hsk136 4095 (by kernel_rfl) (by kernel_rfl) rfl rfl rfl rfl rfl rfl 0 rfl rfl rfl rfl rfl (fun w271 hS272 => ?_))
                            refine DM.run (fuel := 0) ttok hsk136 [12] 8191 (by kernel_rfl) (by kernel_rfl) rfl ?_
                            refine DM.done hsk136 (by kernel_rfl) ?_
                            exact ⟨(r161.1.Agents, r161.2), [(8, .pointer (some ⟨g29, 0, none⟩)), (9, .int .i64 t28.2), (11, .pointer (some ⟨g52, 0, none⟩)), (14, .int .i64 r93.1), (16, .pointer (some ⟨g249, 0, none⟩)), (17, .int .i64 r161.2)], ⟨rfl, rfl, rfl, rfl, rfl, rfl, trivial⟩, g249, A266, k267, hm, (hS272.bring 2 rfl).drop, rfl⟩
                        · skip
                          refine LM.new ttok hsk136 hS137 1045 (by kernel_rfl) (by kernel_rfl) rfl rfl rfl rfl rfl (fun g273 w274 e275 hS276 => ?_)
                          refine DM.one hsk136 1 (by kernel_rfl) (LM.call hsk136 1047 (by kernel_rfl) (by kernel_rfl) rfl rfl rfl rfl enters12 (laws_toNet_ok (hE.trans hS276.ext) h0_ hx139) (fun v277 w278 hR279 => ?_))
                          obtain ⟨A280, k281, rfl, hR282⟩ := hR279
                          refine ⟨hR282.ext, ?_⟩
                          have hS283 := hS276.join hR282
                          refine DM.one hsk136 3 (by kernel_rfl) (LM.call hsk136 1055 (by kernel_rfl) (by kernel_rfl) rfl rfl rfl rfl enters16 (laws_toPort_ok (hE.trans hS283.ext) h1_ hx148) (fun v284 w285 hR286 => ?_))
                          obtain ⟨rfl, hR287⟩ := hR286
                          refine ⟨hR287.ext, ?_⟩
                          have hS288 := hS283.join hR287
                          refine DM.one hsk136 5 (by kernel_rfl) (LM.call hsk136 1087 (by kernel_rfl) (by kernel_rfl) rfl rfl rfl rfl enters16 (laws_toPort_ok (hE.trans hS288.ext) h2_ hx155) (fun v289 w290 hR291 => ?_))
                          obtain ⟨rfl, hR292⟩ := hR291
                          refine ⟨hR292.ext, ?_⟩
                          have hS293 := hS288.join hR292
                          refine DM.one hsk136 6 (by kernel_rfl) (LM.call hsk136 1151 (by kernel_rfl) (by kernel_rfl) rfl rfl rfl rfl enters17 (impl_ExchangePorts_ok (Ext.refl _) (ty30_shut r138 ((hS293.bring 0 rfl).own)) (ty38_shut r147) (ty38_shut r154) hx162) (fun v294 w295 hR296 => ?_))
                          obtain ⟨A297, k298, rfl, hR299⟩ := hR296
                          refine ⟨hR299.ext, ?_⟩
                          have hS300 := hS293.join hR299
                          refine DM.run (fuel := 2) ttok hsk136 [7, 8, 9] 2047 (by kernel_rfl) (by kernel_rfl) rfl ?_
                          refine DM.weak [(8, .pointer (some ⟨g29, 0, none⟩)), (9, .int .i64 t28.2), (11, .pointer (some ⟨g52, 0, none⟩)), (14, .int .i64 r93.1), (16, .pointer (some ⟨g273, 0, none⟩)), (93, .agg ⟨[.slice A297 r161.1.Agents.length k298]⟩), (94, .int .i64 r161.2)] ⟨rfl, rfl, rfl, rfl, rfl, rfl, rfl, trivial⟩ ?_
                          have hS301 := hS300.bring 2 rfl
                          refine DM.one hsk136 11 (by kernel_rfl) (LM.store ttok (A := []) hS301 hsk136 4095 (by kernel_rfl) (by kernel_rfl) rfl rfl rfl rfl rfl rfl 0 rfl rfl rfl rfl rfl (fun w302 hS303 => ?_))
                          refine DM.run (fuel := 0) ttok hsk136 [12] 8191 (by kernel_rfl) (by kernel_rfl) rfl ?_
                          refine DM.done hsk136 (by kernel_rfl) ?_
                          exact ⟨(r161.1.Agents, r161.2), [(8, .pointer (some ⟨g29, 0, none⟩)), (9, .int .i64 t28.2), (11, .pointer (some ⟨g52, 0, none⟩)), (14, .int .i64 r93.1), (16, .pointer (some ⟨g273, 0, none⟩)), (17, .int .i64 r161.2)], ⟨rfl, rfl, rfl, rfl, rfl, rfl, trivial⟩, g273, A297, k298, hm, (hS303.bring 2 rfl).drop, rfl⟩
              · skip
                refine WP.region ?_
                refine RW.run ttok 3 rfl ?_
                by_cases hg304 : (decide (r82.1 < 0)) = true
                · skip
                  rw [if_pos hg304] at hm
                  refine RW.know 63 rfl (congrArg Value.bool hg304) ?_
                  refine RW.run ttok 10 rfl ?_
                  refine RW.nil ?_
                  exact ⟨true, [(3, .pointer (some ⟨g7, 0, none⟩)), (4, .pointer (some ⟨g13, 0, none⟩)), (5, .pointer (some ⟨g17, 0, none⟩)), (8, .pointer (some ⟨g29, 0, none⟩)), (9, .int .i64 t28.2), (11, .pointer (some ⟨g52, 0, none⟩)), (73, .bool true)], ⟨rfl, rfl, rfl, rfl, rfl, rfl, rfl, trivial⟩, hm, (Ext.refl _), hS87, rfl⟩
                · skip
                  rw [if_neg hg304] at hm
                  refine RW.know 63 rfl (congrArg Value.bool (Bool.eq_false_iff.2 hg304)) ?_
                  refine RW.loadN ttok rfl rfl rfl rfl rfl ((hS87.bring 2 rfl).box) rfl rfl rfl ?_
                  refine RW.loadN ttok rfl rfl rfl rfl rfl ((hS87.bring 5 rfl).box) rfl rfl rfl ?_
                  obtain ⟨r305, hx306, hm⟩ := bind_some hm
                  refine RW.call rfl rfl rfl enters14 (laws_eqNet_ok (Ext.refl _) (ty30_shut (⟨t51.1⟩ : D.Net) ((hS87.bring 3 rfl).own)) (ty30_shut (⟨t28.1⟩ : D.Net) ((hS87.bring 6 rfl).own)) hx306) (fun v307 w308 hR309 => ?_)
                  obtain ⟨rfl, hR310⟩ := hR309
                  have hS311 := hS87.join hR310
                  refine RW.run ttok 3 rfl ?_
                  by_cases hg312 : (!r305) = true
                  · skip
                    rw [if_pos hg312] at hm
                    refine RW.know 69 rfl (congrArg Value.bool hg312) ?_
                    refine RW.run ttok 4 rfl ?_
                    refine RW.nil ?_
                    exact ⟨true, [(3, .pointer (some ⟨g7, 0, none⟩)), (4, .pointer (some ⟨g13, 0, none⟩)), (5, .pointer (some ⟨g17, 0, none⟩)), (8, .pointer (some ⟨g29, 0, none⟩)), (9, .int .i64 t28.2), (11, .pointer (some ⟨g52, 0, none⟩)), (73, .bool true)], ⟨rfl, rfl, rfl, rfl, rfl, rfl, rfl, trivial⟩, hm, hR310.ext, hS311, rfl⟩
                  · skip
                    rw [if_neg hg312] at hm
                    refine RW.know 69 rfl (congrArg Value.bool (Bool.eq_false_iff.2 hg312)) ?_
                    refine RW.run ttok 4 rfl ?_
                    refine RW.nil ?_
                    exact ⟨(t51.2 != t28.2), [(3, .pointer (some ⟨g7, 0, none⟩)), (4, .pointer (some ⟨g13, 0, none⟩)), (5, .pointer (some ⟨g17, 0, none⟩)), (8, .pointer (some ⟨g29, 0, none⟩)), (9, .int .i64 t28.2), (11, .pointer (some ⟨g52, 0, none⟩)), (73, .bool (t51.2 != t28.2))], ⟨rfl, rfl, rfl, rfl, rfl, rfl, rfl, trivial⟩, hm, hR310.ext, hS311, rfl⟩
        · skip
          refine WP.region ?_
          refine RW.loadN ttok rfl rfl rfl rfl rfl ((hS55.bring 0 rfl).box) rfl rfl rfl ?_
          refine RW.loadN ttok rfl rfl rfl rfl rfl ((hS55.bring 4 rfl).box) rfl rfl rfl ?_
          obtain ⟨r313, hx314, hm⟩ := bind_some hm
          refine RW.call rfl rfl rfl enters14 (laws_eqNet_ok (Ext.refl _) (ty30_shut (⟨t51.1⟩ : D.Net) ((hS55.bring 1 rfl).own)) (ty30_shut (⟨t28.1⟩ : D.Net) ((hS55.bring 5 rfl).own)) hx314) (fun v315 w316 hR317 => ?_)
          obtain ⟨rfl, hR318⟩ := hR317
          have hS319 := hS55.join hR318
          refine RW.run ttok 2 rfl ?_
          by_cases hg320 : (!r313) = true
          · skip
            rw [if_pos hg320] at hm
            refine RW.know 48 rfl (congrArg Value.bool hg320) ?_
            refine RW.run ttok 4 rfl ?_
            refine RW.nil ?_
            exact ⟨true, [(3, .pointer (some ⟨g7, 0, none⟩)), (4, .pointer (some ⟨g13, 0, none⟩)), (5, .pointer (some ⟨g17, 0, none⟩)), (8, .pointer (some ⟨g29, 0, none⟩)), (9, .int .i64 t28.2), (10, .pointer (some ⟨g44, 0, none⟩)), (11, .pointer (some ⟨g52, 0, none⟩)), (12, .int .i64 t51.2), (52, .bool true)], ⟨rfl, rfl, rfl, rfl, rfl, rfl, rfl, rfl, rfl, trivial⟩, hm, hR318.ext, hS319, rfl⟩
          · skip
            rw [if_neg hg320] at hm
            refine RW.know 48 rfl (congrArg Value.bool (Bool.eq_false_iff.2 hg320)) ?_
            refine RW.run ttok 4 rfl ?_
            refine RW.nil ?_
            exact ⟨(t51.2 != t28.2), [(3, .pointer (some ⟨g7, 0, none⟩)), (4, .pointer (some ⟨g13, 0, none⟩)), (5, .pointer (some ⟨g17, 0, none⟩)), (8, .pointer (some ⟨g29, 0, none⟩)), (9, .int .i64 t28.2), (10, .pointer (some ⟨g44, 0, none⟩)), (11, .pointer (some ⟨g52, 0, none⟩)), (12, .int .i64 t51.2), (52, .bool (t51.2 != t28.2))], ⟨rfl, rfl, rfl, rfl, rfl, rfl, rfl, rfl, rfl, trivial⟩, hm, hR318.ext, hS319, rfl⟩
      · skip
        refine WP.drawnM 1024 mixed 12 (by kernel_rfl) (by kernel_rfl) [([], 4095), ([], 4095), ([1], 4093), ([], 4095), ([3, 2], 4087), ([0, 2, 4, 4], 4074), ([5], 4063), ([6], 4031), ([6], 4031), ([], 4095), ([9, 7, 5, 0, 1, 2, 3, 4, 5, 6, 7, 9], 3455), ([8, 10, 0, 1, 2, 3, 4, 5, 6, 7, 8, 9, 10], 3839)] (by kernel_rfl) hS50.ext (fun hsk321 => ?_)
        have hS322 := hS50.step (Ext.draw _)
        refine DM.loadN ttok hsk321 0 1 (by kernel_rfl) (by kernel_rfl) (by kernel_rfl) (by kernel_rfl) rfl (by kernel_rfl) rfl rfl rfl rfl rfl ((hS50.bring 0 rfl).box) rfl rfl rfl ?_
        refine DM.loadN ttok hsk321 1 3 (by kernel_rfl) (by kernel_rfl) (by kernel_rfl) (by kernel_rfl) rfl (by kernel_rfl) rfl rfl rfl rfl rfl ((hS50.bring 5 rfl).box) rfl rfl rfl ?_
        refine DM.loadN ttok hsk321 3 11 (by kernel_rfl) (by kernel_rfl) (by kernel_rfl) (by kernel_rfl) rfl (by kernel_rfl) rfl rfl rfl rfl rfl ((hS50.bring 4 rfl).box) rfl rfl rfl ?_
        obtain ⟨r323, hx324, hm⟩ := bind_some hm
        obtain ⟨r330, hx331, hm⟩ := bind_some hm
        obtain ⟨r337, hx338, hm⟩ := bind_some hm
        refine DM.all hsk321 [2, 9] (by kernel_rfl) (by simp) ?_
        intro i353 hi354
        simp only [List.mem_cons, List.not_mem_nil, or_false] at hi354
        rcases hi354 with rfl | rfl
        · skip
          refine LM.call hsk321 15 (by kernel_rfl) (by kernel_rfl) rfl rfl rfl rfl enters16 (laws_toPort_ok (hE.trans hS322.ext) h1_ hx324) (fun v355 w356 hR357 => ?_)
          obtain ⟨rfl, hR358⟩ := hR357
          refine ⟨hR358.ext, ?_⟩
          have hS359 := hS322.join hR358
          refine DM.all hsk321 [4, 9] (by kernel_rfl) (by simp) ?_
          intro i360 hi361
          simp only [List.mem_cons, List.not_mem_nil, or_false] at hi361
          rcases hi361 with rfl | rfl
          · skip
            refine LM.call hsk321 31 (by kernel_rfl) (by kernel_rfl) rfl rfl rfl rfl enters16 (laws_toPort_ok (hE.trans hS359.ext) h2_ hx331) (fun v362 w363 hR364 => ?_)
            obtain ⟨rfl, hR365⟩ := hR364
            refine ⟨hR365.ext, ?_⟩
            have hS366 := hS359.join hR365
            refine DM.all hsk321 [5, 9] (by kernel_rfl) (by simp) ?_
            intro i367 hi368
            simp only [List.mem_cons, List.not_mem_nil, or_false] at hi368
            rcases hi368 with rfl | rfl
            · skip
              refine LM.call hsk321 63 (by kernel_rfl) (by kernel_rfl) rfl rfl rfl rfl enters17 (impl_ExchangePorts_ok (Ext.refl _) (ty30_shut r35 ((hS366.bring 1 rfl).own)) (ty38_shut r323) (ty38_shut r330) hx338) (fun v369 w370 hR371 => ?_)
              obtain ⟨A372, k373, rfl, hR374⟩ := hR371
              refine ⟨hR374.ext, ?_⟩
              have hS375 := hS366.join hR374
              refine DM.run (fuel := 3) ttok hsk321 [6, 7, 8] 511 (by kernel_rfl) (by kernel_rfl) rfl ?_
              refine DM.weak [(3, .pointer (some ⟨g7, 0, none⟩)), (4, .pointer (some ⟨g13, 0, none⟩)), (5, .pointer (some ⟨g17, 0, none⟩)), (8, .pointer (some ⟨g29, 0, none⟩)), (9, .int .i64 t28.2), (10, .pointer (some ⟨g44, 0, none⟩)), (42, .agg ⟨[.slice A372 r337.1.Agents.length k373]⟩), (43, .int .i64 r337.2)] ⟨rfl, rfl, rfl, rfl, rfl, rfl, rfl, rfl, trivial⟩ ?_
              refine DM.one hsk321 9 (by kernel_rfl) (LM.new ttok hsk321 hS375 1023 (by kernel_rfl) (by kernel_rfl) rfl rfl rfl rfl rfl (fun g376 w377 e378 hS379 => ?_))
              have hS380 := hS379.bring 0 rfl
              refine DM.one hsk321 10 (by kernel_rfl) (LM.store ttok (A := []) hS380 hsk321 2047 (by kernel_rfl) (by kernel_rfl) rfl rfl rfl rfl rfl rfl 0 rfl rfl rfl rfl rfl (fun w381 hS382 => ?_))
              refine DM.run (fuel := 0) ttok hsk321 [11] 4095 (by kernel_rfl) (by kernel_rfl) rfl ?_
              refine DM.done hsk321 (by kernel_rfl) ?_
              exact ⟨(r337.1.Agents, r337.2), [(3, .pointer (some ⟨g7, 0, none⟩)), (4, .pointer (some ⟨g13, 0, none⟩)), (5, .pointer (some ⟨g17, 0, none⟩)), (8, .pointer (some ⟨g29, 0, none⟩)), (9, .int .i64 t28.2), (10, .pointer (some ⟨g44, 0, none⟩)), (11, .pointer (some ⟨g376, 0, none⟩)), (12, .int .i64 r337.2)], ⟨rfl, rfl, rfl, rfl, rfl, rfl, rfl, rfl, trivial⟩, g376, A372, k373, hm, hS382, rfl⟩
            · skip
              refine LM.new ttok hsk321 hS366 543 (by kernel_rfl) (by kernel_rfl) rfl rfl rfl rfl rfl (fun g383 w384 e385 hS386 => ?_)
              refine DM.one hsk321 5 (by kernel_rfl) (LM.call hsk321 575 (by kernel_rfl) (by kernel_rfl) rfl rfl rfl rfl enters17 (impl_ExchangePorts_ok (Ext.refl _) (ty30_shut r35 ((hS386.bring 2 rfl).own)) (ty38_shut r323) (ty38_shut r330) hx338) (fun v387 w388 hR389 => ?_))
              obtain ⟨A390, k391, rfl, hR392⟩ := hR389
              refine ⟨hR392.ext, ?_⟩
              have hS393 := hS386.join hR392
              refine DM.run (fuel := 2) ttok hsk321 [6, 7, 8] 1023 (by kernel_rfl) (by kernel_rfl) rfl ?_
              refine DM.weak [(3, .pointer (some ⟨g7, 0, none⟩)), (4, .pointer (some ⟨g13, 0, none⟩)), (5, .pointer (some ⟨g17, 0, none⟩)), (8, .pointer (some ⟨g29, 0, none⟩)), (9, .int .i64 t28.2), (10, .pointer (some ⟨g44, 0, none⟩)), (11, .pointer (some ⟨g383, 0, none⟩)), (42, .agg ⟨[.slice A390 r337.1.Agents.length k391]⟩), (43, .int .i64 r337.2)] ⟨rfl, rfl, rfl, rfl, rfl, rfl, rfl, rfl, rfl, trivial⟩ ?_
              have hS394 := hS393.bring 1 rfl
              refine DM.one hsk321 10 (by kernel_rfl) (LM.store ttok (A := []) hS394 hsk321 2047 (by kernel_rfl) (by kernel_rfl) rfl rfl rfl rfl rfl rfl 0 rfl rfl rfl rfl rfl (fun w395 hS396 => ?_))
              refine DM.run (fuel := 0) ttok hsk321 [11] 4095 (by kernel_rfl) (by kernel_rfl) rfl ?_
              refine DM.done hsk321 (by kernel_rfl) ?_
              exact ⟨(r337.1.Agents, r337.2), [(3, .pointer (some ⟨g7, 0, none⟩)), (4, .pointer (some ⟨g13, 0, none⟩)), (5, .pointer (some ⟨g17, 0, none⟩)), (8, .pointer (some ⟨g29, 0, none⟩)), (9, .int .i64 t28.2), (10, .pointer (some ⟨g44, 0, none⟩)), (11, .pointer (some ⟨g383, 0, none⟩)), (12, .int .i64 r337.2)], ⟨rfl, rfl, rfl, rfl, rfl, rfl, rfl, rfl, trivial⟩, g383, A390, k391, hm, hS396, rfl⟩
          · skip
            refine LM.new ttok hsk321 hS359 527 (by kernel_rfl) (by kernel_rfl) rfl rfl rfl rfl rfl (fun g397 w398 e399 hS400 => ?_)
            refine DM.one hsk321 4 (by kernel_rfl) (LM.call hsk321 543 (by kernel_rfl) (by kernel_rfl) rfl rfl rfl rfl enters16 (laws_toPort_ok (hE.trans hS400.ext) h2_ hx331) (fun v401 w402 hR403 => ?_))
            obtain ⟨rfl, hR404⟩ := hR403
            refine ⟨hR404.ext, ?_⟩
            have hS405 := hS400.join hR404
            refine DM.one hsk321 5 (by kernel_rfl) (LM.call hsk321 575 (by kernel_rfl) (by kernel_rfl) rfl rfl rfl rfl enters17 (impl_ExchangePorts_ok (Ext.refl _) (ty30_shut r35 ((hS405.bring 2 rfl).own)) (ty38_shut r323) (ty38_shut r330) hx338) (fun v406 w407 hR408 => ?_))
            obtain ⟨A409, k410, rfl, hR411⟩ := hR408
            refine ⟨hR411.ext, ?_⟩
            have hS412 := hS405.join hR411
            refine DM.run (fuel := 2) ttok hsk321 [6, 7, 8] 1023 (by kernel_rfl) (by kernel_rfl) rfl ?_
            refine DM.weak [(3, .pointer (some ⟨g7, 0, none⟩)), (4, .pointer (some ⟨g13, 0, none⟩)), (5, .pointer (some ⟨g17, 0, none⟩)), (8, .pointer (some ⟨g29, 0, none⟩)), (9, .int .i64 t28.2), (10, .pointer (some ⟨g44, 0, none⟩)), (11, .pointer (some ⟨g397, 0, none⟩)), (42, .agg ⟨[.slice A409 r337.1.Agents.length k410]⟩), (43, .int .i64 r337.2)] ⟨rfl, rfl, rfl, rfl, rfl, rfl, rfl, rfl, rfl, trivial⟩ ?_
            have hS413 := hS412.bring 1 rfl
            refine DM.one hsk321 10 (by kernel_rfl) (LM.store ttok (A := []) hS413 hsk321 2047 (by kernel_rfl) (by kernel_rfl) rfl rfl rfl rfl rfl rfl 0 rfl rfl rfl rfl rfl (fun w414 hS415 => ?_))
            refine DM.run (fuel := 0) ttok hsk321 [11] 4095 (by kernel_rfl) (by kernel_rfl) rfl ?_
            refine DM.done hsk321 (by kernel_rfl) ?_
            exact ⟨(r337.1.Agents, r337.2), [(3, .pointer (some ⟨g7, 0, none⟩)), (4, .pointer (some ⟨g13, 0, none⟩)), (5, .pointer (some ⟨g17, 0, none⟩)), (8, .pointer (some ⟨g29, 0, none⟩)), (9, .int .i64 t28.2), (10, .pointer (some ⟨g44, 0, none⟩)), (11, .pointer (some ⟨g397, 0, none⟩)), (12, .int .i64 r337.2)], ⟨rfl, rfl, rfl, rfl, rfl, rfl, rfl, rfl, trivial⟩, g397, A409, k410, hm, hS415, rfl⟩
        · skip
          refine LM.new ttok hsk321 hS322 523 (by kernel_rfl) (by kernel_rfl) rfl rfl rfl rfl rfl (fun g416 w417 e418 hS419 => ?_)
          refine DM.one hsk321 2 (by kernel_rfl) (LM.call hsk321 527 (by kernel_rfl) (by kernel_rfl) rfl rfl rfl rfl enters16 (laws_toPort_ok (hE.trans hS419.ext) h1_ hx324) (fun v420 w421 hR422 => ?_))
          obtain ⟨rfl, hR423⟩ := hR422
          refine ⟨hR423.ext, ?_⟩
          have hS424 := hS419.join hR423
          refine DM.one hsk321 4 (by kernel_rfl) (LM.call hsk321 543 (by kernel_rfl) (by kernel_rfl) rfl rfl rfl rfl enters16 (laws_toPort_ok (hE.trans hS424.ext) h2_ hx331) (fun v425 w426 hR427 => ?_))
          obtain ⟨rfl, hR428⟩ := hR427
          refine ⟨hR428.ext, ?_⟩
          have hS429 := hS424.join hR428
          refine DM.one hsk321 5 (by kernel_rfl) (LM.call hsk321 575 (by kernel_rfl) (by kernel_rfl) rfl rfl rfl rfl enters17 (impl_ExchangePorts_ok (Ext.refl _) (ty30_shut r35 ((hS429.bring 2 rfl).own)) (ty38_shut r323) (ty38_shut r330) hx338) (fun v430 w431 hR432 => ?_))
          obtain ⟨A433, k434, rfl, hR435⟩ := hR432
          refine ⟨hR435.ext, ?_⟩
          have hS436 := hS429.join hR435
          refine DM.run (fuel := 2) ttok hsk321 [6, 7, 8] 1023 (by kernel_rfl) (by kernel_rfl) rfl ?_
          refine DM.weak [(3, .pointer (some ⟨g7, 0, none⟩)), (4, .pointer (some ⟨g13, 0, none⟩)), (5, .pointer (some ⟨g17, 0, none⟩)), (8, .pointer (some ⟨g29, 0, none⟩)), (9, .int .i64 t28.2), (10, .pointer (some ⟨g44, 0, none⟩)), (11, .pointer (some ⟨g416, 0, none⟩)), (42, .agg ⟨[.slice A433 r337.1.Agents.length k434]⟩), (43, .int .i64 r337.2)] ⟨rfl, rfl, rfl, rfl, rfl, rfl, rfl, rfl, rfl, trivial⟩ ?_
          have hS437 := hS436.bring 1 rfl
          refine DM.one hsk321 10 (by kernel_rfl) (LM.store ttok (A := []) hS437 hsk321 2047 (by kernel_rfl) (by kernel_rfl) rfl rfl rfl rfl rfl rfl 0 rfl rfl rfl rfl rfl (fun w438 hS439 => ?_))
          refine DM.run (fuel := 0) ttok hsk321 [11] 4095 (by kernel_rfl) (by kernel_rfl) rfl ?_
          refine DM.done hsk321 (by kernel_rfl) ?_
          exact ⟨(r337.1.Agents, r337.2), [(3, .pointer (some ⟨g7, 0, none⟩)), (4, .pointer (some ⟨g13, 0, none⟩)), (5, .pointer (some ⟨g17, 0, none⟩)), (8, .pointer (some ⟨g29, 0, none⟩)), (9, .int .i64 t28.2), (10, .pointer (some ⟨g44, 0, none⟩)), (11, .pointer (some ⟨g416, 0, none⟩)), (12, .int .i64 r337.2)], ⟨rfl, rfl, rfl, rfl, rfl, rfl, rfl, rfl, trivial⟩, g416, A433, k434, hm, hS439, rfl⟩
    · skip
      refine WP.drawnM 2048 mixed 13 (by kernel_rfl) (by kernel_rfl) [([], 8191), ([0], 8190), ([], 8191), ([2, 1], 8187), ([], 8191), ([4, 3], 8175), ([1, 3, 5, 5], 8149), ([6], 8127), ([7], 8063), ([7], 8063), ([], 8191), ([10, 8, 6, 0, 1, 2, 3, 4, 5, 6, 7, 8, 10], 6911), ([9, 11, 0, 1, 2, 3, 4, 5, 6, 7, 8, 9, 10, 11], 7679)] (by kernel_rfl) hS27.ext (fun hsk440 => ?_)
      have hS441 := hS27.step (Ext.draw _)
      refine DM.loadN ttok hsk440 0 1 (by kernel_rfl) (by kernel_rfl) (by kernel_rfl) (by kernel_rfl) rfl (by kernel_rfl) rfl rfl rfl rfl rfl ((hS27.bring 2 rfl).box) rfl rfl rfl ?_
      refine DM.loadN ttok hsk440 2 5 (by kernel_rfl) (by kernel_rfl) (by kernel_rfl) (by kernel_rfl) rfl (by kernel_rfl) rfl rfl rfl rfl rfl ((hS27.bring 1 rfl).box) rfl rfl rfl ?_
      refine DM.loadN ttok hsk440 4 21 (by kernel_rfl) (by kernel_rfl) (by kernel_rfl) (by kernel_rfl) rfl (by kernel_rfl) rfl rfl rfl rfl rfl ((hS27.bring 0 rfl).box) rfl rfl rfl ?_
      obtain ⟨r442, hx443, hm⟩ := bind_some hm
      obtain ⟨r451, hx452, hm⟩ := bind_some hm
      obtain ⟨r458, hx459, hm⟩ := bind_some hm
      obtain ⟨r465, hx466, hm⟩ := bind_some hm
      refine DM.all hsk440 [1, 10] (by kernel_rfl) (by simp) ?_
      intro i481 hi482
      simp only [List.mem_cons, List.not_mem_nil, or_false] at hi482
      rcases hi482 with rfl | rfl
      · skip
        refine LM.call hsk440 23 (by kernel_rfl) (by kernel_rfl) rfl rfl rfl rfl enters12 (laws_toNet_ok (hE.trans hS441.ext) h0_ hx443) (fun v483 w484 hR485 => ?_)
        obtain ⟨A486, k487, rfl, hR488⟩ := hR485
        refine ⟨hR488.ext, ?_⟩
        have hS489 := hS441.join hR488
        refine DM.all hsk440 [3, 10] (by kernel_rfl) (by simp) ?_
        intro i490 hi491
        simp only [List.mem_cons, List.not_mem_nil, or_false] at hi491
        rcases hi491 with rfl | rfl
        · skip
          refine LM.call hsk440 31 (by kernel_rfl) (by kernel_rfl) rfl rfl rfl rfl enters16 (laws_toPort_ok (hE.trans hS489.ext) h1_ hx452) (fun v492 w493 hR494 => ?_)
          obtain ⟨rfl, hR495⟩ := hR494
          refine ⟨hR495.ext, ?_⟩
          have hS496 := hS489.join hR495
          refine DM.all hsk440 [5, 10] (by kernel_rfl) (by simp) ?_
          intro i497 hi498
          simp only [List.mem_cons, List.not_mem_nil, or_false] at hi498
          rcases hi498 with rfl | rfl
          · skip
            refine LM.call hsk440 63 (by kernel_rfl) (by kernel_rfl) rfl rfl rfl rfl enters16 (laws_toPort_ok (hE.trans hS496.ext) h2_ hx459) (fun v499 w500 hR501 => ?_)
            obtain ⟨rfl, hR502⟩ := hR501
            refine ⟨hR502.ext, ?_⟩
            have hS503 := hS496.join hR502
            refine DM.all hsk440 [6, 10] (by kernel_rfl) (by simp) ?_
            intro i504 hi505
            simp only [List.mem_cons, List.not_mem_nil, or_false] at hi505
            rcases hi505 with rfl | rfl
            · skip
              refine LM.call hsk440 127 (by kernel_rfl) (by kernel_rfl) rfl rfl rfl rfl enters15 (spec_ExchangePorts_ok (Ext.refl _) (ty30_shut r442 ((hS503.bring 0 rfl).own)) (ty38_shut r451) (ty38_shut r458) hx466) (fun v506 w507 hR508 => ?_)
              obtain ⟨A509, k510, rfl, hR511⟩ := hR508
              refine ⟨hR511.ext, ?_⟩
              have hS512 := hS503.join hR511
              refine DM.run (fuel := 3) ttok hsk440 [7, 8, 9] 1023 (by kernel_rfl) (by kernel_rfl) rfl ?_
              refine DM.weak [(3, .pointer (some ⟨g7, 0, none⟩)), (4, .pointer (some ⟨g13, 0, none⟩)), (5, .pointer (some ⟨g17, 0, none⟩)), (31, .agg ⟨[.slice A509 r465.1.Agents.length k510]⟩), (32, .int .i64 r465.2)] ⟨rfl, rfl, rfl, rfl, rfl, trivial⟩ ?_
              refine DM.one hsk440 10 (by kernel_rfl) (LM.new ttok hsk440 hS512 2047 (by kernel_rfl) (by kernel_rfl) rfl rfl rfl rfl rfl (fun g513 w514 e515 hS516 => ?_))
              have hS517 := hS516.bring 0 rfl
              refine DM.one hsk440 11 (by kernel_rfl) (LM.store ttok (A := []) hS517 hsk440 4095 (by kernel_rfl) (by kernel_rfl) rfl rfl rfl rfl rfl rfl 0 rfl rfl rfl rfl rfl (fun w518 hS519 => ?_))
              refine DM.run (fuel := 0) ttok hsk440 [12] 8191 (by kernel_rfl) (by kernel_rfl) rfl ?_
              refine DM.done hsk440 (by kernel_rfl) ?_
              exact ⟨(r465.1.Agents, r465.2), [(3, .pointer (some ⟨g7, 0, none⟩)), (4, .pointer (some ⟨g13, 0, none⟩)), (5, .pointer (some ⟨g17, 0, none⟩)), (8, .pointer (some ⟨g513, 0, none⟩)), (9, .int .i64 r465.2)], ⟨rfl, rfl, rfl, rfl, rfl, trivial⟩, g513, A509, k510, hm, (hS519.bring 2 rfl).drop, rfl⟩
            · skip
              refine LM.new ttok hsk440 hS503 1087 (by kernel_rfl) (by kernel_rfl) rfl rfl rfl rfl rfl (fun g520 w521 e522 hS523 => ?_)
              refine DM.one hsk440 6 (by kernel_rfl) (LM.call hsk440 1151 (by kernel_rfl) (by kernel_rfl) rfl rfl rfl rfl enters15 (spec_ExchangePorts_ok (Ext.refl _) (ty30_shut r442 ((hS523.bring 1 rfl).own)) (ty38_shut r451) (ty38_shut r458) hx466) (fun v524 w525 hR526 => ?_))
              obtain ⟨A527, k528, rfl, hR529⟩ := hR526
              refine ⟨hR529.ext, ?_⟩
              have hS530 := hS523.join hR529
              refine DM.run (fuel := 2) ttok hsk440 [7, 8, 9] 2047 (by kernel_rfl) (by kernel_rfl) rfl ?_
              refine DM.weak [(3, .pointer (some ⟨g7, 0, none⟩)), (4, .pointer (some ⟨g13, 0, none⟩)), (5, .pointer (some ⟨g17, 0, none⟩)), (8, .pointer (some ⟨g520, 0, none⟩)), (31, .agg ⟨[.slice A527 r465.1.Agents.length k528]⟩), (32, .int .i64 r465.2)] ⟨rfl, rfl, rfl, rfl, rfl, rfl, trivial⟩ ?_
              have hS531 := hS530.bring 1 rfl
              refine DM.one hsk440 11 (by kernel_rfl) (LM.store ttok (A := []) hS531 hsk440 4095 (by kernel_rfl) (by kernel_rfl) rfl rfl rfl rfl rfl rfl 0 rfl rfl rfl rfl rfl (fun w532 hS533 => ?_))
              refine DM.run (fuel := 0) ttok hsk440 [12] 8191 (by kernel_rfl) (by kernel_rfl) rfl ?_
              refine DM.done hsk440 (by kernel_rfl) ?_
              exact ⟨(r465.1.Agents, r465.2), [(3, .pointer (some ⟨g7, 0, none⟩)), (4, .pointer (some ⟨g13, 0, none⟩)), (5, .pointer (some ⟨g17, 0, none⟩)), (8, .pointer (some ⟨g520, 0, none⟩)), (9, .int .i64 r465.2)], ⟨rfl, rfl, rfl, rfl, rfl, trivial⟩, g520, A527, k528, hm, (hS533.bring 2 rfl).drop, rfl⟩
          · skip
            refine LM.new ttok hsk440 hS496 1055 (by kernel_rfl) (by kernel_rfl) rfl rfl rfl rfl rfl (fun g534 w535 e536 hS537 => ?_)
            refine DM.one hsk440 5 (by kernel_rfl) (LM.call hsk440 1087 (by kernel_rfl) (by kernel_rfl) rfl rfl rfl rfl enters16 (laws_toPort_ok (hE.trans hS537.ext) h2_ hx459) (fun v538 w539 hR540 => ?_))
            obtain ⟨rfl, hR541⟩ := hR540
            refine ⟨hR541.ext, ?_⟩
            have hS542 := hS537.join hR541
            refine DM.one hsk440 6 (by kernel_rfl) (LM.call hsk440 1151 (by kernel_rfl) (by kernel_rfl) rfl rfl rfl rfl enters15 (spec_ExchangePorts_ok (Ext.refl _) (ty30_shut r442 ((hS542.bring 1 rfl).own)) (ty38_shut r451) (ty38_shut r458) hx466) (fun v543 w544 hR545 => ?_))
            obtain ⟨A546, k547, rfl, hR548⟩ := hR545
            refine ⟨hR548.ext, ?_⟩
            have hS549 := hS542.join hR548
            refine DM.run (fuel := 2) ttok hsk440 [7, 8, 9] 2047 (by kernel_rfl) (by kernel_rfl) rfl ?_
            refine DM.weak [(3, .pointer (some ⟨g7, 0, none⟩)), (4, .pointer (some ⟨g13, 0, none⟩)), (5, .pointer (some ⟨g17, 0, none⟩)), (8, .pointer (some ⟨g534, 0, none⟩)), (31, .agg ⟨[.slice A546 r465.1.Agents.length k547]⟩), (32, .int .i64 r465.2)] ⟨rfl, rfl, rfl, rfl, rfl, rfl, trivial⟩ ?_
            have hS550 := hS549.bring 1 rfl
            refine DM.one hsk440 11 (by kernel_rfl) (LM.store ttok (A := []) hS550 hsk440 4095 (by kernel_rfl) (by kernel_rfl) rfl rfl rfl rfl rfl rfl 0 rfl rfl rfl rfl rfl (fun w551 hS552 => ?_))
            refine DM.run (fuel := 0) ttok hsk440 [12] 8191 (by kernel_rfl) (by kernel_rfl) rfl ?_
            refine DM.done hsk440 (by kernel_rfl) ?_
            exact ⟨(r465.1.Agents, r465.2), [(3, .pointer (some ⟨g7, 0, none⟩)), (4, .pointer (some ⟨g13, 0, none⟩)), (5, .pointer (some ⟨g17, 0, none⟩)), (8, .pointer (some ⟨g534, 0, none⟩)), (9, .int .i64 r465.2)], ⟨rfl, rfl, rfl, rfl, rfl, trivial⟩, g534, A546, k547, hm, (hS552.bring 2 rfl).drop, rfl⟩
        · skip
          refine LM.new ttok hsk440 hS489 1047 (by kernel_rfl) (by kernel_rfl) rfl rfl rfl rfl rfl (fun g553 w554 e555 hS556 => ?_)
          refine DM.one hsk440 3 (by kernel_rfl) (LM.call hsk440 1055 (by kernel_rfl) (by kernel_rfl) rfl rfl rfl rfl enters16 (laws_toPort_ok (hE.trans hS556.ext) h1_ hx452) (fun v557 w558 hR559 => ?_))
          obtain ⟨rfl, hR560⟩ := hR559
          refine ⟨hR560.ext, ?_⟩
          have hS561 := hS556.join hR560
          refine DM.one hsk440 5 (by kernel_rfl) (LM.call hsk440 1087 (by kernel_rfl) (by kernel_rfl) rfl rfl rfl rfl enters16 (laws_toPort_ok (hE.trans hS561.ext) h2_ hx459) (fun v562 w563 hR564 => ?_))
          obtain ⟨rfl, hR565⟩ := hR564
          refine ⟨hR565.ext, ?_⟩
          have hS566 := hS561.join hR565
          refine DM.one hsk440 6 (by kernel_rfl) (LM.call hsk440 1151 (by kernel_rfl) (by kernel_rfl) rfl rfl rfl rfl enters15 (spec_ExchangePorts_ok (Ext.refl _) (ty30_shut r442 ((hS566.bring 1 rfl).own)) (ty38_shut r451) (ty38_shut r458) hx466) (fun v567 w568 hR569 => ?_))
          obtain ⟨A570, k571, rfl, hR572⟩ := hR569
          refine ⟨hR572.ext, ?_⟩
          have hS573 := hS566.join hR572
          refine DM.run (fuel := 2) ttok hsk440 [7, 8, 9] 2047 (by kernel_rfl) (by kernel_rfl) rfl ?_
          refine DM.weak [(3, .pointer (some ⟨g7, 0, none⟩)), (4, .pointer (some ⟨g13, 0, none⟩)), (5, .pointer (some ⟨g17, 0, none⟩)), (8, .pointer (some ⟨g553, 0, none⟩)), (31, .agg ⟨[.slice A570 r465.1.Agents.length k571]⟩), (32, .int .i64 r465.2)] ⟨rfl, rfl, rfl, rfl, rfl, rfl, trivial⟩ ?_
          have hS574 := hS573.bring 1 rfl
          refine DM.one hsk440 11 (by kernel_rfl) (LM.store ttok (A := []) hS574 hsk440 4095 (by kernel_rfl) (by kernel_rfl) rfl rfl rfl rfl rfl rfl 0 rfl rfl rfl rfl rfl (fun w575 hS576 => ?_))
          refine DM.run (fuel := 0) ttok hsk440 [12] 8191 (by kernel_rfl) (by kernel_rfl) rfl ?_
          refine DM.done hsk440 (by kernel_rfl) ?_
          exact ⟨(r465.1.Agents, r465.2), [(3, .pointer (some ⟨g7, 0, none⟩)), (4, .pointer (some ⟨g13, 0, none⟩)), (5, .pointer (some ⟨g17, 0, none⟩)), (8, .pointer (some ⟨g553, 0, none⟩)), (9, .int .i64 r465.2)], ⟨rfl, rfl, rfl, rfl, rfl, trivial⟩, g553, A570, k571, hm, (hS576.bring 2 rfl).drop, rfl⟩
      · skip
        refine LM.new ttok hsk440 hS441 1045 (by kernel_rfl) (by kernel_rfl) rfl rfl rfl rfl rfl (fun g577 w578 e579 hS580 => ?_)
        refine DM.one hsk440 1 (by kernel_rfl) (LM.call hsk440 1047 (by kernel_rfl) (by kernel_rfl) rfl rfl rfl rfl enters12 (laws_toNet_ok (hE.trans hS580.ext) h0_ hx443) (fun v581 w582 hR583 => ?_))
        obtain ⟨A584, k585, rfl, hR586⟩ := hR583
        refine ⟨hR586.ext, ?_⟩
        have hS587 := hS580.join hR586
        refine DM.one hsk440 3 (by kernel_rfl) (LM.call hsk440 1055 (by kernel_rfl) (by kernel_rfl) rfl rfl rfl rfl enters16 (laws_toPort_ok (hE.trans hS587.ext) h1_ hx452) (fun v588 w589 hR590 => ?_))
        obtain ⟨rfl, hR591⟩ := hR590
        refine ⟨hR591.ext, ?_⟩
        have hS592 := hS587.join hR591
        refine DM.one hsk440 5 (by kernel_rfl) (LM.call hsk440 1087 (by kernel_rfl) (by kernel_rfl) rfl rfl rfl rfl enters16 (laws_toPort_ok (hE.trans hS592.ext) h2_ hx459) (fun v593 w594 hR595 => ?_))
        obtain ⟨rfl, hR596⟩ := hR595
        refine ⟨hR596.ext, ?_⟩
        have hS597 := hS592.join hR596
        refine DM.one hsk440 6 (by kernel_rfl) (LM.call hsk440 1151 (by kernel_rfl) (by kernel_rfl) rfl rfl rfl rfl enters15 (spec_ExchangePorts_ok (Ext.refl _) (ty30_shut r442 ((hS597.bring 0 rfl).own)) (ty38_shut r451) (ty38_shut r458) hx466) (fun v598 w599 hR600 => ?_))
        obtain ⟨A601, k602, rfl, hR603⟩ := hR600
        refine ⟨hR603.ext, ?_⟩
        have hS604 := hS597.join hR603
        refine DM.run (fuel := 2) ttok hsk440 [7, 8, 9] 2047 (by kernel_rfl) (by kernel_rfl) rfl ?_
        refine DM.weak [(3, .pointer (some ⟨g7, 0, none⟩)), (4, .pointer (some ⟨g13, 0, none⟩)), (5, .pointer (some ⟨g17, 0, none⟩)), (8, .pointer (some ⟨g577, 0, none⟩)), (31, .agg ⟨[.slice A601 r465.1.Agents.length k602]⟩), (32, .int .i64 r465.2)] ⟨rfl, rfl, rfl, rfl, rfl, rfl, trivial⟩ ?_
        have hS605 := hS604.bring 2 rfl
        refine DM.one hsk440 11 (by kernel_rfl) (LM.store ttok (A := []) hS605 hsk440 4095 (by kernel_rfl) (by kernel_rfl) rfl rfl rfl rfl rfl rfl 0 rfl rfl rfl rfl rfl (fun w606 hS607 => ?_))
        refine DM.run (fuel := 0) ttok hsk440 [12] 8191 (by kernel_rfl) (by kernel_rfl) rfl ?_
        refine DM.done hsk440 (by kernel_rfl) ?_
        exact ⟨(r465.1.Agents, r465.2), [(3, .pointer (some ⟨g7, 0, none⟩)), (4, .pointer (some ⟨g13, 0, none⟩)), (5, .pointer (some ⟨g17, 0, none⟩)), (8, .pointer (some ⟨g577, 0, none⟩)), (9, .int .i64 r465.2)], ⟨rfl, rfl, rfl, rfl, rfl, trivial⟩, g577, A601, k602, hm, (hS607.bring 2 rfl).drop, rfl⟩

end Go.E
