/- Models of functions and proofs that the code runs as they say (written by program). Conditions: the model gives a value. -/
import Derived.Test.YtghfkejdmcpmhaaFP
namespace Go.E
open Go.RowKit Go.Proofs
set_option linter.unusedVariables false
set_option linter.unusedSimpArgs false

theorem enters95 : Enters Try.prog 95 := ⟨_, _, Try.func95, rfl, by kernel_rfl⟩
def m_laws_eqInt64S_j1 (fuel : Nat) (t2 : Unit) : Option Bool := some true
def m_laws_eqInt64S_b1 (fuel : Nat) (x0 : (List Int)) (x1 : (List Int)) (s1 : Int) : Option (Rd (Int) (Unit) (Bool)) := (if (decide (s1 < (x0.length : Int))) = true then ((idx x0 s1).bind fun x19 => ((idx x1 s1).bind fun x25 => (if (x19 != x25) = true then some (.ret false) else some (.next (w64 (s1 + 1)))))) else some (.brk ()))
def m_laws_eqInt64S (fuel : Nat) (x0 : (List Int)) (x1 : (List Int)) : Option (Bool) := (if ((x0.length : Int) != (x1.length : Int)) = true then some false else ((iter (m_laws_eqInt64S_b1 fuel x0 x1) fuel 0).bind fun o => aft o (m_laws_eqInt64S_j1 fuel)))

set_option maxRecDepth 100000 in
theorem laws_eqInt64S_ok {w : World} {A0_ : Option Addr} {k0_ : Nat} {x0 : (List Int)} {A1_ : Option Addr} {k1_ : Nat} {x1 : (List Int)} (h0_ : ty72.ro w [.slice A0_ x0.length k0_] x0) (h1_ : ty72.ro w [.slice A1_ x1.length k1_] x1) {fuel : Nat} {r : Bool} (hm : m_laws_eqInt64S fuel x0 x1 = some r) :
    Calls Try.prog 95 ⟨[.slice A0_ x0.length k0_, .slice A1_ x1.length k1_]⟩ w (Ret fun v w8 => v = .bool r ∧ St w w8 []) := by
  refine Calls.into Try.func95 rfl 26 rfl rfl _ rfl ?_
  unfold m_laws_eqInt64S at hm
  have hS := St.start w
  refine WP.seq ?_
  refine WP.region ?_
  refine RW.run ttok 1 rfl ?_
  refine RW.nil ?_
  refine WP.seq ?_
  refine WP.seq ?_
  refine WP.region ?_
  refine RW.run ttok 5 rfl ?_
  refine RW.nil ?_
  refine WP.cond ((x0.length : Int) != (x1.length : Int)) rfl (fun hc => ?_) (fun hc => ?_)
  · skip
    rw [if_pos hc] at hm
    refine WP.seq ?_
    refine WP.region ?_
    refine RW.run ttok 1 rfl ?_
    refine RW.nil ?_
    refine WP.ret ?_
    cases hm
    exact ⟨_, .cons (.tmp rfl) .nil, rfl, (hS.taken 0)⟩
  · skip
    rw [if_neg (not_t hc)] at hm
    refine WP.skip ?_
    refine WP.seq ?_
    refine WP.seq ?_
    refine WP.region ?_
    refine RW.run ttok 1 rfl ?_
    refine RW.nil ?_
    obtain ⟨o8, hl9, hm⟩ := bind_some hm
    refine WP.cut (fun (t2 : Unit) F w9 => o8 = .inl t2 ∧ Ext w w9 ∧ St w w9 [] ∧ F = []) ?_ ?_
    · skip
      rintro t2 F w7 ⟨ho11, hE6, hS10, rfl⟩
      subst ho11
      rw [aft_inl] at hm
      unfold m_laws_eqInt64S_j1 at hm
      refine WP.seq ?_
      refine WP.region ?_
      refine RW.run ttok 1 rfl ?_
      refine RW.nil ?_
      refine WP.ret ?_
      cases hm
      exact ⟨_, .cons (.tmp rfl) .nil, rfl, (hS10.taken 0)⟩
    · skip
      refine WP.block ?_
      refine WP.weak [(0, .slice A0_ x0.length k0_), (1, .slice A1_ x1.length k1_), (5, .int .i64 0)] ⟨rfl, rfl, rfl, trivial⟩ ?_
      refine WP.iter (fun (s1 : Int) F w9 => Ext w w9 ∧ St w w9 [] ∧ F = [(0, .slice A0_ x0.length k0_), (1, .slice A1_ x1.length k1_), (5, .int .i64 s1)]) _ hl9 ⟨(Ext.refl _), (hS.taken 0), rfl⟩ ?_
      rintro s1 F w16 _ o14 ⟨hE5, hS15, rfl⟩ hb12 ho13
      unfold m_laws_eqInt64S_b1 at hb12
      refine WP.seq ?_
      refine WP.seq ?_
      refine WP.region ?_
      refine RW.run ttok 4 rfl ?_
      refine RW.nil ?_
      refine WP.cond (decide (s1 < (x0.length : Int))) rfl (fun hc => ?_) (fun hc => ?_)
      · skip
        rw [if_pos hc] at hb12
        refine WP.skip ?_
        refine WP.seq ?_
        refine WP.block ?_
        refine WP.seq ?_
        refine WP.drawnM 0 mixed 9 (by kernel_rfl) (by kernel_rfl) [([], 511), ([], 511), ([0, 1], 508), ([2], 507), ([], 511), ([], 511), ([4, 5], 463), ([6], 447), ([3, 7], 375)] (by kernel_rfl) (fun hsk17 => ?_)
        have hS18 := hS15.step (Ext.draw _)
        refine DM.run (fuel := 5) ttok hsk17 [0, 1, 4, 5] 51 (by kernel_rfl) (by kernel_rfl) rfl ?_
        obtain ⟨x19, hx20, hb12⟩ := bind_some hb12
        refine DM.idx ttok hS15.ext hsk17 2 55 (by kernel_rfl) (by kernel_rfl) (by kernel_rfl) (by kernel_rfl) rfl (by kernel_rfl) rfl rfl rfl rfl rfl rfl (by decide) rfl rfl h0_ (idx_some hx20).1 (idx_some hx20).2 rfl rfl (fun p21 es22 ha23 hr24 => ?_)
        cases hr24
        refine DM.load1 ttok hsk17 3 63 (by kernel_rfl) (by kernel_rfl) (by kernel_rfl) (by kernel_rfl) rfl (by kernel_rfl) rfl rfl rfl rfl rfl (At.ext hS15.ext ha23) 0 rfl rfl rfl rfl ?_
        obtain ⟨x25, hx26, hb12⟩ := bind_some hb12
        refine DM.idx ttok hS15.ext hsk17 6 127 (by kernel_rfl) (by kernel_rfl) (by kernel_rfl) (by kernel_rfl) rfl (by kernel_rfl) rfl rfl rfl rfl rfl rfl (by decide) rfl rfl h1_ (idx_some hx26).1 (idx_some hx26).2 rfl rfl (fun p27 es28 ha29 hr30 => ?_)
        cases hr30
        refine DM.load1 ttok hsk17 7 255 (by kernel_rfl) (by kernel_rfl) (by kernel_rfl) (by kernel_rfl) rfl (by kernel_rfl) rfl rfl rfl rfl rfl (At.ext hS15.ext ha29) 0 rfl rfl rfl rfl ?_
        refine DM.run (fuel := 0) ttok hsk17 [8] 511 (by kernel_rfl) (by kernel_rfl) rfl ?_
        refine DM.weak [(0, .slice A0_ x0.length k0_), (1, .slice A1_ x1.length k1_), (5, .int .i64 s1), (25, .bool (x19 != x25))] ⟨rfl, rfl, rfl, rfl, trivial⟩ ?_
        refine DM.done hsk17 (by kernel_rfl) ?_
        refine WP.cond (x19 != x25) rfl (fun hc => ?_) (fun hc => ?_)
        · skip
          rw [if_pos hc] at hb12
          refine WP.seq ?_
          refine WP.region ?_
          refine RW.run ttok 1 rfl ?_
          refine RW.nil ?_
          refine WP.ret ?_
          cases hb12
          cases ho13
          have hm : some _ = some _ := hm
          cases hm
          exact ⟨_, .cons (.tmp rfl) .nil, rfl, (hS18.taken 0)⟩
        · skip
          rw [if_neg (not_t hc)] at hb12
          refine WP.skip ?_
          refine WP.region ?_
          refine RW.run ttok 3 rfl ?_
          refine RW.nil ?_
          cases hb12
          exact ⟨_, [(0, .slice A0_ x0.length k0_), (1, .slice A1_ x1.length k1_), (5, .int .i64 (w64 (s1 + 1)))], ⟨rfl, rfl, rfl, trivial⟩, rfl, (hE5.trans (Ext.draw _)), (hS18.taken 0), rfl⟩
      · skip
        rw [if_neg (not_t hc)] at hb12
        refine WP.exit ?_
        cases hb12
        exact ⟨_, [], trivial, ho13, hE5, (hS15.taken 0), rfl⟩

theorem enters145 : Enters Try.prog 145 := ⟨_, _, Try.func145, rfl, by kernel_rfl⟩
def m_laws_eqWord (fuel : Nat) (x0 : D.Word) (x1 : D.Word) : Option (Bool) := (if (x0.Tag != x1.Tag) = true then some false else (if (x0.At != x1.At) = true then some false else some true))

set_option maxRecDepth 100000 in
theorem laws_eqWord_ok {w : World} {c0_ : List Value} {x0 : D.Word} {c1_ : List Value} {x1 : D.Word} (h0_ : ty61.ro w c0_ x0) (h1_ : ty61.ro w c1_ x1) {fuel : Nat} {r : Bool} (hm : m_laws_eqWord fuel x0 x1 = some r) :
    Calls Try.prog 145 ⟨[.agg ⟨c0_⟩, .agg ⟨c1_⟩]⟩ w (Ret fun v w8 => v = .bool r ∧ St w w8 []) := by
  have e1 := ty61_open h0_; subst e1
  have e2 := ty61_open h1_; subst e2
  refine Calls.into Try.func145 rfl 15 rfl rfl _ rfl ?_
  unfold m_laws_eqWord at hm
  have hS := St.start w
  refine WP.seq ?_
  refine WP.region ?_
  refine RW.new ttok hS rfl rfl rfl rfl (fun g3 w4 e5 hS6 => ?_)
  refine RW.new ttok hS6 rfl rfl rfl rfl (fun g7 w8 e9 hS10 => ?_)
  refine RW.run ttok 1 rfl ?_
  refine RW.nil ?_
  refine WP.seq ?_
  refine WP.seq ?_
  refine WP.region ?_
  refine RW.run ttok 1 rfl ?_
  refine RW.load1 ttok rfl rfl rfl rfl rfl ((hS10.bring 1 rfl).box) 0 rfl rfl rfl rfl ?_
  refine RW.run ttok 1 rfl ?_
  refine RW.load1 ttok rfl rfl rfl rfl rfl ((hS10.bring 0 rfl).box) 0 rfl rfl rfl rfl ?_
  refine RW.run ttok 1 rfl ?_
  refine RW.nil ?_
  refine WP.cond (x0.Tag != x1.Tag) rfl (fun hc => ?_) (fun hc => ?_)
  · skip
    rw [if_pos hc] at hm
    refine WP.seq ?_
    refine WP.region ?_
    refine RW.run ttok 1 rfl ?_
    refine RW.nil ?_
    refine WP.ret ?_
    cases hm
    exact ⟨_, .cons (.tmp rfl) .nil, rfl, (hS10.taken 0)⟩
  · skip
    rw [if_neg (not_t hc)] at hm
    refine WP.skip ?_
    refine WP.seq ?_
    refine WP.seq ?_
    refine WP.region ?_
    refine RW.run ttok 1 rfl ?_
    refine RW.load1 ttok rfl rfl rfl rfl rfl ((hS10.bring 1 rfl).box) 1 rfl rfl rfl rfl ?_
    refine RW.run ttok 1 rfl ?_
    refine RW.load1 ttok rfl rfl rfl rfl rfl ((hS10.bring 0 rfl).box) 1 rfl rfl rfl rfl ?_
    refine RW.run ttok 1 rfl ?_
    refine RW.nil ?_
    refine WP.cond (x0.At != x1.At) rfl (fun hc => ?_) (fun hc => ?_)
    · skip
      rw [if_pos hc] at hm
      refine WP.seq ?_
      refine WP.region ?_
      refine RW.run ttok 1 rfl ?_
      refine RW.nil ?_
      refine WP.ret ?_
      cases hm
      exact ⟨_, .cons (.tmp rfl) .nil, rfl, (hS10.taken 0)⟩
    · skip
      rw [if_neg (not_t hc)] at hm
      refine WP.skip ?_
      refine WP.seq ?_
      refine WP.region ?_
      refine RW.run ttok 1 rfl ?_
      refine RW.nil ?_
      refine WP.ret ?_
      cases hm
      exact ⟨_, .cons (.tmp rfl) .nil, rfl, (hS10.taken 0)⟩

theorem enters188 : Enters Try.prog 188 := ⟨_, _, Try.func188, rfl, by kernel_rfl⟩
def m_laws_eqWordS_j1 (fuel : Nat) (t2 : Unit) : Option Bool := some true
def m_laws_eqWordS_b1 (fuel : Nat) (x0 : (List D.Word)) (x1 : (List D.Word)) (s1 : Int) : Option (Rd (Int) (Unit) (Bool)) := (if (decide (s1 < (x0.length : Int))) = true then ((idx x0 s1).bind fun x19 => ((idx x1 s1).bind fun x26 => ((m_laws_eqWord fuel x19 x26).bind fun r33 => (if (!r33) = true then some (.ret false) else some (.next (w64 (s1 + 1))))))) else some (.brk ()))
def m_laws_eqWordS (fuel : Nat) (x0 : (List D.Word)) (x1 : (List D.Word)) : Option (Bool) := (if ((x0.length : Int) != (x1.length : Int)) = true then some false else ((iter (m_laws_eqWordS_b1 fuel x0 x1) fuel 0).bind fun o => aft o (m_laws_eqWordS_j1 fuel)))

set_option maxRecDepth 100000 in
theorem laws_eqWordS_ok {w : World} {A0_ : Option Addr} {k0_ : Nat} {x0 : (List D.Word)} {A1_ : Option Addr} {k1_ : Nat} {x1 : (List D.Word)} (h0_ : ty230.ro w [.slice A0_ x0.length k0_] x0) (h1_ : ty230.ro w [.slice A1_ x1.length k1_] x1) {fuel : Nat} {r : Bool} (hm : m_laws_eqWordS fuel x0 x1 = some r) :
    Calls Try.prog 188 ⟨[.slice A0_ x0.length k0_, .slice A1_ x1.length k1_]⟩ w (Ret fun v w8 => v = .bool r ∧ St w w8 []) := by
  refine Calls.into Try.func188 rfl 27 rfl rfl _ rfl ?_
  unfold m_laws_eqWordS at hm
  have hS := St.start w
  refine WP.seq ?_
  refine WP.region ?_
  refine RW.run ttok 1 rfl ?_
  refine RW.nil ?_
  refine WP.seq ?_
  refine WP.seq ?_
  refine WP.region ?_
  refine RW.run ttok 5 rfl ?_
  refine RW.nil ?_
  refine WP.cond ((x0.length : Int) != (x1.length : Int)) rfl (fun hc => ?_) (fun hc => ?_)
  · skip
    rw [if_pos hc] at hm
    refine WP.seq ?_
    refine WP.region ?_
    refine RW.run ttok 1 rfl ?_
    refine RW.nil ?_
    refine WP.ret ?_
    cases hm
    exact ⟨_, .cons (.tmp rfl) .nil, rfl, (hS.taken 0)⟩
  · skip
    rw [if_neg (not_t hc)] at hm
    refine WP.skip ?_
    refine WP.seq ?_
    refine WP.seq ?_
    refine WP.region ?_
    refine RW.run ttok 1 rfl ?_
    refine RW.nil ?_
    obtain ⟨o8, hl9, hm⟩ := bind_some hm
    refine WP.cut (fun (t2 : Unit) F w9 => o8 = .inl t2 ∧ Ext w w9 ∧ St w w9 [] ∧ F = []) ?_ ?_
    · skip
      rintro t2 F w7 ⟨ho11, hE6, hS10, rfl⟩
      subst ho11
      rw [aft_inl] at hm
      unfold m_laws_eqWordS_j1 at hm
      refine WP.seq ?_
      refine WP.region ?_
      refine RW.run ttok 1 rfl ?_
      refine RW.nil ?_
      refine WP.ret ?_
      cases hm
      exact ⟨_, .cons (.tmp rfl) .nil, rfl, (hS10.taken 0)⟩
    · skip
      refine WP.block ?_
      refine WP.weak [(0, .slice A0_ x0.length k0_), (1, .slice A1_ x1.length k1_), (5, .int .i64 0)] ⟨rfl, rfl, rfl, trivial⟩ ?_
      refine WP.iter (fun (s1 : Int) F w9 => Ext w w9 ∧ St w w9 [] ∧ F = [(0, .slice A0_ x0.length k0_), (1, .slice A1_ x1.length k1_), (5, .int .i64 s1)]) _ hl9 ⟨(Ext.refl _), (hS.taken 0), rfl⟩ ?_
      rintro s1 F w16 _ o14 ⟨hE5, hS15, rfl⟩ hb12 ho13
      unfold m_laws_eqWordS_b1 at hb12
      refine WP.seq ?_
      refine WP.seq ?_
      refine WP.region ?_
      refine RW.run ttok 4 rfl ?_
      refine RW.nil ?_
      refine WP.cond (decide (s1 < (x0.length : Int))) rfl (fun hc => ?_) (fun hc => ?_)
      · skip
        rw [if_pos hc] at hb12
        refine WP.skip ?_
        refine WP.seq ?_
        refine WP.block ?_
        refine WP.seq ?_
        refine WP.drawnM 0 mixed 10 (by kernel_rfl) (by kernel_rfl) [([], 1023), ([], 1023), ([0, 1], 1020), ([2], 1019), ([], 1023), ([], 1023), ([4, 5], 975), ([6], 959), ([3, 7], 887), ([8], 767)] (by kernel_rfl) (fun hsk17 => ?_)
        have hS18 := hS15.step (Ext.draw _)
        refine DM.run (fuel := 6) ttok hsk17 [0, 1, 4, 5] 51 (by kernel_rfl) (by kernel_rfl) rfl ?_
        obtain ⟨x19, hx20, hb12⟩ := bind_some hb12
        refine DM.idx ttok hS15.ext hsk17 2 55 (by kernel_rfl) (by kernel_rfl) (by kernel_rfl) (by kernel_rfl) rfl (by kernel_rfl) rfl rfl rfl rfl rfl rfl (by decide) rfl rfl h0_ (idx_some hx20).1 (idx_some hx20).2 rfl rfl (fun p21 es22 ha23 hr24 => ?_)
        have e25 := ty61_open hr24; subst e25
        refine DM.loadN ttok hsk17 3 63 (by kernel_rfl) (by kernel_rfl) (by kernel_rfl) (by kernel_rfl) rfl (by kernel_rfl) rfl rfl rfl rfl rfl (At.ext hS15.ext ha23) rfl rfl rfl ?_
        obtain ⟨x26, hx27, hb12⟩ := bind_some hb12
        refine DM.idx ttok hS15.ext hsk17 6 127 (by kernel_rfl) (by kernel_rfl) (by kernel_rfl) (by kernel_rfl) rfl (by kernel_rfl) rfl rfl rfl rfl rfl rfl (by decide) rfl rfl h1_ (idx_some hx27).1 (idx_some hx27).2 rfl rfl (fun p28 es29 ha30 hr31 => ?_)
        have e32 := ty61_open hr31; subst e32
        refine DM.loadN ttok hsk17 7 255 (by kernel_rfl) (by kernel_rfl) (by kernel_rfl) (by kernel_rfl) rfl (by kernel_rfl) rfl rfl rfl rfl rfl (At.ext hS15.ext ha30) rfl rfl rfl ?_
        obtain ⟨r33, hx34, hb12⟩ := bind_some hb12
        refine DM.one hsk17 8 (by kernel_rfl) (LM.call hsk17 511 (by kernel_rfl) (by kernel_rfl) rfl rfl rfl rfl enters145 (laws_eqWord_ok (ty61.ext hS18.ext hr24) (ty61.ext hS18.ext hr31) hx34) (fun v35 w36 hR37 => ?_))
        obtain ⟨rfl, hR38⟩ := hR37
        refine ⟨hR38.ext, ?_⟩
        have hS39 := hS18.join hR38
        refine DM.run (fuel := 0) ttok hsk17 [9] 1023 (by kernel_rfl) (by kernel_rfl) rfl ?_
        refine DM.weak [(0, .slice A0_ x0.length k0_), (1, .slice A1_ x1.length k1_), (5, .int .i64 s1), (26, .bool (!r33))] ⟨rfl, rfl, rfl, rfl, trivial⟩ ?_
        refine DM.done hsk17 (by kernel_rfl) ?_
        refine WP.cond (!r33) rfl (fun hc => ?_) (fun hc => ?_)
        · skip
          rw [if_pos hc] at hb12
          refine WP.seq ?_
          refine WP.region ?_
          refine RW.run ttok 1 rfl ?_
          refine RW.nil ?_
          refine WP.ret ?_
          cases hb12
          cases ho13
          have hm : some _ = some _ := hm
          cases hm
          exact ⟨_, .cons (.tmp rfl) .nil, rfl, (hS39.taken 0)⟩
        · skip
          rw [if_neg (not_t hc)] at hb12
          refine WP.skip ?_
          refine WP.region ?_
          refine RW.run ttok 3 rfl ?_
          refine RW.nil ?_
          cases hb12
          exact ⟨_, [(0, .slice A0_ x0.length k0_), (1, .slice A1_ x1.length k1_), (5, .int .i64 (w64 (s1 + 1)))], ⟨rfl, rfl, rfl, trivial⟩, rfl, ((hE5.trans (Ext.draw _)).trans hR38.ext), (hS39.taken 0), rfl⟩
      · skip
        rw [if_neg (not_t hc)] at hb12
        refine WP.exit ?_
        cases hb12
        exact ⟨_, [], trivial, ho13, hE5, (hS15.taken 0), rfl⟩

theorem enters178 : Enters Try.prog 178 := ⟨_, _, Try.func178, rfl, by kernel_rfl⟩
def m_laws_eqCell (fuel : Nat) (x0 : D.Cell) (x1 : D.Cell) : Option (Bool) := (if (x0.Kind != x1.Kind) = true then some false else (if (x0.Level != x1.Level) = true then some false else (if (x0.Value != x1.Value) = true then some false else ((m_laws_eqInt64S fuel x0.Data x1.Data).bind fun r23 => (if (!r23) = true then some false else ((m_laws_eqWordS fuel x0.Words x1.Words).bind fun r30 => (if (!r30) = true then some false else some true)))))))

set_option maxRecDepth 100000 in
theorem laws_eqCell_ok {w : World} {c0_ : List Value} {x0 : D.Cell} {c1_ : List Value} {x1 : D.Cell} (h0_ : ty232.ro w c0_ x0) (h1_ : ty232.ro w c1_ x1) {fuel : Nat} {r : Bool} (hm : m_laws_eqCell fuel x0 x1 = some r) :
    Calls Try.prog 178 ⟨[.agg ⟨c0_⟩, .agg ⟨c1_⟩]⟩ w (Ret fun v w8 => v = .bool r ∧ St w w8 []) := by
  obtain ⟨A1, k2, A4, k5, e7, h3, h6⟩ := ty232_open h0_; subst e7
  obtain ⟨A8, k9, A11, k12, e14, h10, h13⟩ := ty232_open h1_; subst e14
  refine Calls.into Try.func178 rfl 32 rfl rfl _ rfl ?_
  unfold m_laws_eqCell at hm
  have hS := St.start w
  refine WP.seq ?_
  refine WP.region ?_
  refine RW.new ttok hS rfl rfl rfl rfl (fun g15 w16 e17 hS18 => ?_)
  refine RW.new ttok hS18 rfl rfl rfl rfl (fun g19 w20 e21 hS22 => ?_)
  refine RW.run ttok 1 rfl ?_
  refine RW.nil ?_
  refine WP.seq ?_
  refine WP.seq ?_
  refine WP.region ?_
  refine RW.run ttok 1 rfl ?_
  refine RW.load1 ttok rfl rfl rfl rfl rfl ((hS22.bring 1 rfl).box) 0 rfl rfl rfl rfl ?_
  refine RW.run ttok 1 rfl ?_
  refine RW.load1 ttok rfl rfl rfl rfl rfl ((hS22.bring 0 rfl).box) 0 rfl rfl rfl rfl ?_
  refine RW.run ttok 1 rfl ?_
  refine RW.nil ?_
  refine WP.cond (x0.Kind != x1.Kind) rfl (fun hc => ?_) (fun hc => ?_)
  · skip
    rw [if_pos hc] at hm
    refine WP.seq ?_
    refine WP.region ?_
    refine RW.run ttok 1 rfl ?_
    refine RW.nil ?_
    refine WP.ret ?_
    cases hm
    exact ⟨_, .cons (.tmp rfl) .nil, rfl, (hS22.taken 0)⟩
  · skip
    rw [if_neg (not_t hc)] at hm
    refine WP.skip ?_
    refine WP.seq ?_
    refine WP.seq ?_
    refine WP.region ?_
    refine RW.run ttok 1 rfl ?_
    refine RW.load1 ttok rfl rfl rfl rfl rfl ((hS22.bring 1 rfl).box) 1 rfl rfl rfl rfl ?_
    refine RW.run ttok 1 rfl ?_
    refine RW.load1 ttok rfl rfl rfl rfl rfl ((hS22.bring 0 rfl).box) 1 rfl rfl rfl rfl ?_
    refine RW.run ttok 1 rfl ?_
    refine RW.nil ?_
    refine WP.cond (x0.Level != x1.Level) rfl (fun hc => ?_) (fun hc => ?_)
    · skip
      rw [if_pos hc] at hm
      refine WP.seq ?_
      refine WP.region ?_
      refine RW.run ttok 1 rfl ?_
      refine RW.nil ?_
      refine WP.ret ?_
      cases hm
      exact ⟨_, .cons (.tmp rfl) .nil, rfl, (hS22.taken 0)⟩
    · skip
      rw [if_neg (not_t hc)] at hm
      refine WP.skip ?_
      refine WP.seq ?_
      refine WP.seq ?_
      refine WP.region ?_
      refine RW.run ttok 1 rfl ?_
      refine RW.load1 ttok rfl rfl rfl rfl rfl ((hS22.bring 1 rfl).box) 2 rfl rfl rfl rfl ?_
      refine RW.run ttok 1 rfl ?_
      refine RW.load1 ttok rfl rfl rfl rfl rfl ((hS22.bring 0 rfl).box) 2 rfl rfl rfl rfl ?_
      refine RW.run ttok 1 rfl ?_
      refine RW.nil ?_
      refine WP.cond (x0.Value != x1.Value) rfl (fun hc => ?_) (fun hc => ?_)
      · skip
        rw [if_pos hc] at hm
        refine WP.seq ?_
        refine WP.region ?_
        refine RW.run ttok 1 rfl ?_
        refine RW.nil ?_
        refine WP.ret ?_
        cases hm
        exact ⟨_, .cons (.tmp rfl) .nil, rfl, (hS22.taken 0)⟩
      · skip
        rw [if_neg (not_t hc)] at hm
        refine WP.skip ?_
        refine WP.seq ?_
        refine WP.seq ?_
        refine WP.region ?_
        refine RW.run ttok 1 rfl ?_
        refine RW.load1 ttok rfl rfl rfl rfl rfl ((hS22.bring 1 rfl).box) 3 rfl rfl rfl rfl ?_
        refine RW.run ttok 1 rfl ?_
        refine RW.load1 ttok rfl rfl rfl rfl rfl ((hS22.bring 0 rfl).box) 3 rfl rfl rfl rfl ?_
        obtain ⟨r23, hx24, hm⟩ := bind_some hm
        refine RW.call rfl rfl rfl enters95 (laws_eqInt64S_ok (ty72.ext hS22.ext h3) (ty72.ext hS22.ext h10) hx24) (fun v25 w26 hR27 => ?_)
        obtain ⟨rfl, hR28⟩ := hR27
        have hS29 := hS22.join hR28
        refine RW.run ttok 1 rfl ?_
        refine RW.nil ?_
        refine WP.cond (!r23) rfl (fun hc => ?_) (fun hc => ?_)
        · skip
          rw [if_pos hc] at hm
          refine WP.seq ?_
          refine WP.region ?_
          refine RW.run ttok 1 rfl ?_
          refine RW.nil ?_
          refine WP.ret ?_
          cases hm
          exact ⟨_, .cons (.tmp rfl) .nil, rfl, (hS29.taken 0)⟩
        · skip
          rw [if_neg (not_t hc)] at hm
          refine WP.skip ?_
          refine WP.seq ?_
          refine WP.seq ?_
          refine WP.region ?_
          refine RW.run ttok 1 rfl ?_
          refine RW.load1 ttok rfl rfl rfl rfl rfl ((hS29.bring 1 rfl).box) 4 rfl rfl rfl rfl ?_
          refine RW.run ttok 1 rfl ?_
          refine RW.load1 ttok rfl rfl rfl rfl rfl ((hS29.bring 0 rfl).box) 4 rfl rfl rfl rfl ?_
          obtain ⟨r30, hx31, hm⟩ := bind_some hm
          refine RW.call rfl rfl rfl enters188 (laws_eqWordS_ok (ty230.ext hS29.ext h6) (ty230.ext hS29.ext h13) hx31) (fun v32 w33 hR34 => ?_)
          obtain ⟨rfl, hR35⟩ := hR34
          have hS36 := hS29.join hR35
          refine RW.run ttok 1 rfl ?_
          refine RW.nil ?_
          refine WP.cond (!r30) rfl (fun hc => ?_) (fun hc => ?_)
          · skip
            rw [if_pos hc] at hm
            refine WP.seq ?_
            refine WP.region ?_
            refine RW.run ttok 1 rfl ?_
            refine RW.nil ?_
            refine WP.ret ?_
            cases hm
            exact ⟨_, .cons (.tmp rfl) .nil, rfl, (hS36.taken 0)⟩
          · skip
            rw [if_neg (not_t hc)] at hm
            refine WP.skip ?_
            refine WP.seq ?_
            refine WP.region ?_
            refine RW.run ttok 1 rfl ?_
            refine RW.nil ?_
            refine WP.ret ?_
            cases hm
            exact ⟨_, .cons (.tmp rfl) .nil, rfl, (hS36.taken 0)⟩

theorem enters144 : Enters Try.prog 144 := ⟨_, _, Try.func144, rfl, by kernel_rfl⟩
def m_laws_eqCellS_j1 (fuel : Nat) (t2 : Unit) : Option Bool := some true
def m_laws_eqCellS_b1 (fuel : Nat) (x0 : (List D.Cell)) (x1 : (List D.Cell)) (s1 : Int) : Option (Rd (Int) (Unit) (Bool)) := (if (decide (s1 < (x0.length : Int))) = true then ((idx x0 s1).bind fun x19 => ((idx x1 s1).bind fun x32 => ((m_laws_eqCell fuel x19 x32).bind fun r45 => (if (!r45) = true then some (.ret false) else some (.next (w64 (s1 + 1))))))) else some (.brk ()))
def m_laws_eqCellS (fuel : Nat) (x0 : (List D.Cell)) (x1 : (List D.Cell)) : Option (Bool) := (if ((x0.length : Int) != (x1.length : Int)) = true then some false else ((iter (m_laws_eqCellS_b1 fuel x0 x1) fuel 0).bind fun o => aft o (m_laws_eqCellS_j1 fuel)))

set_option maxRecDepth 100000 in
theorem laws_eqCellS_ok {w : World} {A0_ : Option Addr} {k0_ : Nat} {x0 : (List D.Cell)} {A1_ : Option Addr} {k1_ : Nat} {x1 : (List D.Cell)} (h0_ : ty60.ro w [.slice A0_ x0.length k0_] x0) (h1_ : ty60.ro w [.slice A1_ x1.length k1_] x1) {fuel : Nat} {r : Bool} (hm : m_laws_eqCellS fuel x0 x1 = some r) :
    Calls Try.prog 144 ⟨[.slice A0_ x0.length k0_, .slice A1_ x1.length k1_]⟩ w (Ret fun v w8 => v = .bool r ∧ St w w8 []) := by
  refine Calls.into Try.func144 rfl 27 rfl rfl _ rfl ?_
  unfold m_laws_eqCellS at hm
  have hS := St.start w
  refine WP.seq ?_
  refine WP.region ?_
  refine RW.run ttok 1 rfl ?_
  refine RW.nil ?_
  refine WP.seq ?_
  refine WP.seq ?_
  refine WP.region ?_
  refine RW.run ttok 5 rfl ?_
  refine RW.nil ?_
  refine WP.cond ((x0.length : Int) != (x1.length : Int)) rfl (fun hc => ?_) (fun hc => ?_)
  · skip
    rw [if_pos hc] at hm
    refine WP.seq ?_
    refine WP.region ?_
    refine RW.run ttok 1 rfl ?_
    refine RW.nil ?_
    refine WP.ret ?_
    cases hm
    exact ⟨_, .cons (.tmp rfl) .nil, rfl, (hS.taken 0)⟩
  · skip
    rw [if_neg (not_t hc)] at hm
    refine WP.skip ?_
    refine WP.seq ?_
    refine WP.seq ?_
    refine WP.region ?_
    refine RW.run ttok 1 rfl ?_
    refine RW.nil ?_
    obtain ⟨o8, hl9, hm⟩ := bind_some hm
    refine WP.cut (fun (t2 : Unit) F w9 => o8 = .inl t2 ∧ Ext w w9 ∧ St w w9 [] ∧ F = []) ?_ ?_
    · skip
      rintro t2 F w7 ⟨ho11, hE6, hS10, rfl⟩
      subst ho11
      rw [aft_inl] at hm
      unfold m_laws_eqCellS_j1 at hm
      refine WP.seq ?_
      refine WP.region ?_
      refine RW.run ttok 1 rfl ?_
      refine RW.nil ?_
      refine WP.ret ?_
      cases hm
      exact ⟨_, .cons (.tmp rfl) .nil, rfl, (hS10.taken 0)⟩
    · skip
      refine WP.block ?_
      refine WP.weak [(0, .slice A0_ x0.length k0_), (1, .slice A1_ x1.length k1_), (5, .int .i64 0)] ⟨rfl, rfl, rfl, trivial⟩ ?_
      refine WP.iter (fun (s1 : Int) F w9 => Ext w w9 ∧ St w w9 [] ∧ F = [(0, .slice A0_ x0.length k0_), (1, .slice A1_ x1.length k1_), (5, .int .i64 s1)]) _ hl9 ⟨(Ext.refl _), (hS.taken 0), rfl⟩ ?_
      rintro s1 F w16 _ o14 ⟨hE5, hS15, rfl⟩ hb12 ho13
      unfold m_laws_eqCellS_b1 at hb12
      refine WP.seq ?_
      refine WP.seq ?_
      refine WP.region ?_
      refine RW.run ttok 4 rfl ?_
      refine RW.nil ?_
      refine WP.cond (decide (s1 < (x0.length : Int))) rfl (fun hc => ?_) (fun hc => ?_)
      · skip
        rw [if_pos hc] at hb12
        refine WP.skip ?_
        refine WP.seq ?_
        refine WP.block ?_
        refine WP.seq ?_
        refine WP.drawnM 0 mixed 10 (by kernel_rfl) (by kernel_rfl) [([], 1023), ([], 1023), ([0, 1], 1020), ([2], 1019), ([], 1023), ([], 1023), ([4, 5], 975), ([6], 959), ([3, 7], 887), ([8], 767)] (by kernel_rfl) (fun hsk17 => ?_)
        have hS18 := hS15.step (Ext.draw _)
        refine DM.run (fuel := 6) ttok hsk17 [0, 1, 4, 5] 51 (by kernel_rfl) (by kernel_rfl) rfl ?_
        obtain ⟨x19, hx20, hb12⟩ := bind_some hb12
        refine DM.idx ttok hS15.ext hsk17 2 55 (by kernel_rfl) (by kernel_rfl) (by kernel_rfl) (by kernel_rfl) rfl (by kernel_rfl) rfl rfl rfl rfl rfl rfl (by decide) rfl rfl h0_ (idx_some hx20).1 (idx_some hx20).2 rfl rfl (fun p21 es22 ha23 hr24 => ?_)
        obtain ⟨A25, k26, A28, k29, e31, h27, h30⟩ := ty232_open hr24; subst e31
        refine DM.loadN ttok hsk17 3 63 (by kernel_rfl) (by kernel_rfl) (by kernel_rfl) (by kernel_rfl) rfl (by kernel_rfl) rfl rfl rfl rfl rfl (At.ext hS15.ext ha23) rfl rfl rfl ?_
        obtain ⟨x32, hx33, hb12⟩ := bind_some hb12
        refine DM.idx ttok hS15.ext hsk17 6 127 (by kernel_rfl) (by kernel_rfl) (by kernel_rfl) (by kernel_rfl) rfl (by kernel_rfl) rfl rfl rfl rfl rfl rfl (by decide) rfl rfl h1_ (idx_some hx33).1 (idx_some hx33).2 rfl rfl (fun p34 es35 ha36 hr37 => ?_)
        obtain ⟨A38, k39, A41, k42, e44, h40, h43⟩ := ty232_open hr37; subst e44
        refine DM.loadN ttok hsk17 7 255 (by kernel_rfl) (by kernel_rfl) (by kernel_rfl) (by kernel_rfl) rfl (by kernel_rfl) rfl rfl rfl rfl rfl (At.ext hS15.ext ha36) rfl rfl rfl ?_
        obtain ⟨r45, hx46, hb12⟩ := bind_some hb12
        refine DM.one hsk17 8 (by kernel_rfl) (LM.call hsk17 511 (by kernel_rfl) (by kernel_rfl) rfl rfl rfl rfl enters178 (laws_eqCell_ok (ty232.ext hS18.ext hr24) (ty232.ext hS18.ext hr37) hx46) (fun v47 w48 hR49 => ?_))
        obtain ⟨rfl, hR50⟩ := hR49
        refine ⟨hR50.ext, ?_⟩
        have hS51 := hS18.join hR50
        refine DM.run (fuel := 0) ttok hsk17 [9] 1023 (by kernel_rfl) (by kernel_rfl) rfl ?_
        refine DM.weak [(0, .slice A0_ x0.length k0_), (1, .slice A1_ x1.length k1_), (5, .int .i64 s1), (26, .bool (!r45))] ⟨rfl, rfl, rfl, rfl, trivial⟩ ?_
        refine DM.done hsk17 (by kernel_rfl) ?_
        refine WP.cond (!r45) rfl (fun hc => ?_) (fun hc => ?_)
        · skip
          rw [if_pos hc] at hb12
          refine WP.seq ?_
          refine WP.region ?_
          refine RW.run ttok 1 rfl ?_
          refine RW.nil ?_
          refine WP.ret ?_
          cases hb12
          cases ho13
          have hm : some _ = some _ := hm
          cases hm
          exact ⟨_, .cons (.tmp rfl) .nil, rfl, (hS51.taken 0)⟩
        · skip
          rw [if_neg (not_t hc)] at hb12
          refine WP.skip ?_
          refine WP.region ?_
          refine RW.run ttok 3 rfl ?_
          refine RW.nil ?_
          cases hb12
          exact ⟨_, [(0, .slice A0_ x0.length k0_), (1, .slice A1_ x1.length k1_), (5, .int .i64 (w64 (s1 + 1)))], ⟨rfl, rfl, rfl, trivial⟩, rfl, ((hE5.trans (Ext.draw _)).trans hR50.ext), (hS51.taken 0), rfl⟩
      · skip
        rw [if_neg (not_t hc)] at hb12
        refine WP.exit ?_
        cases hb12
        exact ⟨_, [], trivial, ho13, hE5, (hS15.taken 0), rfl⟩

theorem enters179 : Enters Try.prog 179 := ⟨_, _, Try.func179, rfl, by kernel_rfl⟩
def m_laws_eqPair (fuel : Nat) (x0 : D.Pair) (x1 : D.Pair) : Option (Bool) := (if (x0.A != x1.A) = true then some false else (if (x0.B != x1.B) = true then some false else some true))

set_option maxRecDepth 100000 in
theorem laws_eqPair_ok {w : World} {c0_ : List Value} {x0 : D.Pair} {c1_ : List Value} {x1 : D.Pair} (h0_ : ty155.ro w c0_ x0) (h1_ : ty155.ro w c1_ x1) {fuel : Nat} {r : Bool} (hm : m_laws_eqPair fuel x0 x1 = some r) :
    Calls Try.prog 179 ⟨[.agg ⟨c0_⟩, .agg ⟨c1_⟩]⟩ w (Ret fun v w8 => v = .bool r ∧ St w w8 []) := by
  have e1 := ty155_open h0_; subst e1
  have e2 := ty155_open h1_; subst e2
  refine Calls.into Try.func179 rfl 15 rfl rfl _ rfl ?_
  unfold m_laws_eqPair at hm
  have hS := St.start w
  refine WP.seq ?_
  refine WP.region ?_
  refine RW.new ttok hS rfl rfl rfl rfl (fun g3 w4 e5 hS6 => ?_)
  refine RW.new ttok hS6 rfl rfl rfl rfl (fun g7 w8 e9 hS10 => ?_)
  refine RW.run ttok 1 rfl ?_
  refine RW.nil ?_
  refine WP.seq ?_
  refine WP.seq ?_
  refine WP.region ?_
  refine RW.run ttok 1 rfl ?_
  refine RW.load1 ttok rfl rfl rfl rfl rfl ((hS10.bring 1 rfl).box) 0 rfl rfl rfl rfl ?_
  refine RW.run ttok 1 rfl ?_
  refine RW.load1 ttok rfl rfl rfl rfl rfl ((hS10.bring 0 rfl).box) 0 rfl rfl rfl rfl ?_
  refine RW.run ttok 1 rfl ?_
  refine RW.nil ?_
  refine WP.cond (x0.A != x1.A) rfl (fun hc => ?_) (fun hc => ?_)
  · skip
    rw [if_pos hc] at hm
    refine WP.seq ?_
    refine WP.region ?_
    refine RW.run ttok 1 rfl ?_
    refine RW.nil ?_
    refine WP.ret ?_
    cases hm
    exact ⟨_, .cons (.tmp rfl) .nil, rfl, (hS10.taken 0)⟩
  · skip
    rw [if_neg (not_t hc)] at hm
    refine WP.skip ?_
    refine WP.seq ?_
    refine WP.seq ?_
    refine WP.region ?_
    refine RW.run ttok 1 rfl ?_
    refine RW.load1 ttok rfl rfl rfl rfl rfl ((hS10.bring 1 rfl).box) 1 rfl rfl rfl rfl ?_
    refine RW.run ttok 1 rfl ?_
    refine RW.load1 ttok rfl rfl rfl rfl rfl ((hS10.bring 0 rfl).box) 1 rfl rfl rfl rfl ?_
    refine RW.run ttok 1 rfl ?_
    refine RW.nil ?_
    refine WP.cond (x0.B != x1.B) rfl (fun hc => ?_) (fun hc => ?_)
    · skip
      rw [if_pos hc] at hm
      refine WP.seq ?_
      refine WP.region ?_
      refine RW.run ttok 1 rfl ?_
      refine RW.nil ?_
      refine WP.ret ?_
      cases hm
      exact ⟨_, .cons (.tmp rfl) .nil, rfl, (hS10.taken 0)⟩
    · skip
      rw [if_neg (not_t hc)] at hm
      refine WP.skip ?_
      refine WP.seq ?_
      refine WP.region ?_
      refine RW.run ttok 1 rfl ?_
      refine RW.nil ?_
      refine WP.ret ?_
      cases hm
      exact ⟨_, .cons (.tmp rfl) .nil, rfl, (hS10.taken 0)⟩

theorem enters146 : Enters Try.prog 146 := ⟨_, _, Try.func146, rfl, by kernel_rfl⟩
def m_laws_eqPairS_j1 (fuel : Nat) (t2 : Unit) : Option Bool := some true
def m_laws_eqPairS_b1 (fuel : Nat) (x0 : (List D.Pair)) (x1 : (List D.Pair)) (s1 : Int) : Option (Rd (Int) (Unit) (Bool)) := (if (decide (s1 < (x0.length : Int))) = true then ((idx x0 s1).bind fun x19 => ((idx x1 s1).bind fun x26 => ((m_laws_eqPair fuel x19 x26).bind fun r33 => (if (!r33) = true then some (.ret false) else some (.next (w64 (s1 + 1))))))) else some (.brk ()))
def m_laws_eqPairS (fuel : Nat) (x0 : (List D.Pair)) (x1 : (List D.Pair)) : Option (Bool) := (if ((x0.length : Int) != (x1.length : Int)) = true then some false else ((iter (m_laws_eqPairS_b1 fuel x0 x1) fuel 0).bind fun o => aft o (m_laws_eqPairS_j1 fuel)))

set_option maxRecDepth 100000 in
theorem laws_eqPairS_ok {w : World} {A0_ : Option Addr} {k0_ : Nat} {x0 : (List D.Pair)} {A1_ : Option Addr} {k1_ : Nat} {x1 : (List D.Pair)} (h0_ : ty62.ro w [.slice A0_ x0.length k0_] x0) (h1_ : ty62.ro w [.slice A1_ x1.length k1_] x1) {fuel : Nat} {r : Bool} (hm : m_laws_eqPairS fuel x0 x1 = some r) :
    Calls Try.prog 146 ⟨[.slice A0_ x0.length k0_, .slice A1_ x1.length k1_]⟩ w (Ret fun v w8 => v = .bool r ∧ St w w8 []) := by
  refine Calls.into Try.func146 rfl 27 rfl rfl _ rfl ?_
  unfold m_laws_eqPairS at hm
  have hS := St.start w
  refine WP.seq ?_
  refine WP.region ?_
  refine RW.run ttok 1 rfl ?_
  refine RW.nil ?_
  refine WP.seq ?_
  refine WP.seq ?_
  refine WP.region ?_
  refine RW.run ttok 5 rfl ?_
  refine RW.nil ?_
  refine WP.cond ((x0.length : Int) != (x1.length : Int)) rfl (fun hc => ?_) (fun hc => ?_)
  · skip
    rw [if_pos hc] at hm
    refine WP.seq ?_
    refine WP.region ?_
    refine RW.run ttok 1 rfl ?_
    refine RW.nil ?_
    refine WP.ret ?_
    cases hm
    exact ⟨_, .cons (.tmp rfl) .nil, rfl, (hS.taken 0)⟩
  · skip
    rw [if_neg (not_t hc)] at hm
    refine WP.skip ?_
    refine WP.seq ?_
    refine WP.seq ?_
    refine WP.region ?_
    refine RW.run ttok 1 rfl ?_
    refine RW.nil ?_
    obtain ⟨o8, hl9, hm⟩ := bind_some hm
    refine WP.cut (fun (t2 : Unit) F w9 => o8 = .inl t2 ∧ Ext w w9 ∧ St w w9 [] ∧ F = []) ?_ ?_
    · skip
      rintro t2 F w7 ⟨ho11, hE6, hS10, rfl⟩
      subst ho11
      rw [aft_inl] at hm
      unfold m_laws_eqPairS_j1 at hm
      refine WP.seq ?_
      refine WP.region ?_
      refine RW.run ttok 1 rfl ?_
      refine RW.nil ?_
      refine WP.ret ?_
      cases hm
      exact ⟨_, .cons (.tmp rfl) .nil, rfl, (hS10.taken 0)⟩
    · skip
      refine WP.block ?_
      refine WP.weak [(0, .slice A0_ x0.length k0_), (1, .slice A1_ x1.length k1_), (5, .int .i64 0)] ⟨rfl, rfl, rfl, trivial⟩ ?_
      refine WP.iter (fun (s1 : Int) F w9 => Ext w w9 ∧ St w w9 [] ∧ F = [(0, .slice A0_ x0.length k0_), (1, .slice A1_ x1.length k1_), (5, .int .i64 s1)]) _ hl9 ⟨(Ext.refl _), (hS.taken 0), rfl⟩ ?_
      rintro s1 F w16 _ o14 ⟨hE5, hS15, rfl⟩ hb12 ho13
      unfold m_laws_eqPairS_b1 at hb12
      refine WP.seq ?_
      refine WP.seq ?_
      refine WP.region ?_
      refine RW.run ttok 4 rfl ?_
      refine RW.nil ?_
      refine WP.cond (decide (s1 < (x0.length : Int))) rfl (fun hc => ?_) (fun hc => ?_)
      · skip
        rw [if_pos hc] at hb12
        refine WP.skip ?_
        refine WP.seq ?_
        refine WP.block ?_
        refine WP.seq ?_
        refine WP.drawnM 0 mixed 10 (by kernel_rfl) (by kernel_rfl) [([], 1023), ([], 1023), ([0, 1], 1020), ([2], 1019), ([], 1023), ([], 1023), ([4, 5], 975), ([6], 959), ([3, 7], 887), ([8], 767)] (by kernel_rfl) (fun hsk17 => ?_)
        have hS18 := hS15.step (Ext.draw _)
        refine DM.run (fuel := 6) ttok hsk17 [0, 1, 4, 5] 51 (by kernel_rfl) (by kernel_rfl) rfl ?_
        obtain ⟨x19, hx20, hb12⟩ := bind_some hb12
        refine DM.idx ttok hS15.ext hsk17 2 55 (by kernel_rfl) (by kernel_rfl) (by kernel_rfl) (by kernel_rfl) rfl (by kernel_rfl) rfl rfl rfl rfl rfl rfl (by decide) rfl rfl h0_ (idx_some hx20).1 (idx_some hx20).2 rfl rfl (fun p21 es22 ha23 hr24 => ?_)
        have e25 := ty155_open hr24; subst e25
        refine DM.loadN ttok hsk17 3 63 (by kernel_rfl) (by kernel_rfl) (by kernel_rfl) (by kernel_rfl) rfl (by kernel_rfl) rfl rfl rfl rfl rfl (At.ext hS15.ext ha23) rfl rfl rfl ?_
        obtain ⟨x26, hx27, hb12⟩ := bind_some hb12
        refine DM.idx ttok hS15.ext hsk17 6 127 (by kernel_rfl) (by kernel_rfl) (by kernel_rfl) (by kernel_rfl) rfl (by kernel_rfl) rfl rfl rfl rfl rfl rfl (by decide) rfl rfl h1_ (idx_some hx27).1 (idx_some hx27).2 rfl rfl (fun p28 es29 ha30 hr31 => ?_)
        have e32 := ty155_open hr31; subst e32
        refine DM.loadN ttok hsk17 7 255 (by kernel_rfl) (by kernel_rfl) (by kernel_rfl) (by kernel_rfl) rfl (by kernel_rfl) rfl rfl rfl rfl rfl (At.ext hS15.ext ha30) rfl rfl rfl ?_
        obtain ⟨r33, hx34, hb12⟩ := bind_some hb12
        refine DM.one hsk17 8 (by kernel_rfl) (LM.call hsk17 511 (by kernel_rfl) (by kernel_rfl) rfl rfl rfl rfl enters179 (laws_eqPair_ok (ty155.ext hS18.ext hr24) (ty155.ext hS18.ext hr31) hx34) (fun v35 w36 hR37 => ?_))
        obtain ⟨rfl, hR38⟩ := hR37
        refine ⟨hR38.ext, ?_⟩
        have hS39 := hS18.join hR38
        refine DM.run (fuel := 0) ttok hsk17 [9] 1023 (by kernel_rfl) (by kernel_rfl) rfl ?_
        refine DM.weak [(0, .slice A0_ x0.length k0_), (1, .slice A1_ x1.length k1_), (5, .int .i64 s1), (26, .bool (!r33))] ⟨rfl, rfl, rfl, rfl, trivial⟩ ?_
        refine DM.done hsk17 (by kernel_rfl) ?_
        refine WP.cond (!r33) rfl (fun hc => ?_) (fun hc => ?_)
        · skip
          rw [if_pos hc] at hb12
          refine WP.seq ?_
          refine WP.region ?_
          refine RW.run ttok 1 rfl ?_
          refine RW.nil ?_
          refine WP.ret ?_
          cases hb12
          cases ho13
          have hm : some _ = some _ := hm
          cases hm
          exact ⟨_, .cons (.tmp rfl) .nil, rfl, (hS39.taken 0)⟩
        · skip
          rw [if_neg (not_t hc)] at hb12
          refine WP.skip ?_
          refine WP.region ?_
          refine RW.run ttok 3 rfl ?_
          refine RW.nil ?_
          cases hb12
          exact ⟨_, [(0, .slice A0_ x0.length k0_), (1, .slice A1_ x1.length k1_), (5, .int .i64 (w64 (s1 + 1)))], ⟨rfl, rfl, rfl, trivial⟩, rfl, ((hE5.trans (Ext.draw _)).trans hR38.ext), (hS39.taken 0), rfl⟩
      · skip
        rw [if_neg (not_t hc)] at hb12
        refine WP.exit ?_
        cases hb12
        exact ⟨_, [], trivial, ho13, hE5, (hS15.taken 0), rfl⟩

theorem enters79 : Enters Try.prog 79 := ⟨_, _, Try.func79, rfl, by kernel_rfl⟩
def m_laws_eqMemory (fuel : Nat) (x0 : D.Memory) (x1 : D.Memory) : Option (Bool) := ((m_laws_eqCellS fuel x0.Cells x1.Cells).bind fun r23 => (if (!r23) = true then some false else (if (x0.Free != x1.Free) = true then some false else ((m_laws_eqWord fuel x0.Root x1.Root).bind fun r30 => (if (!r30) = true then some false else ((m_laws_eqPairS fuel x0.Redexes x1.Redexes).bind fun r37 => (if (!r37) = true then some false else some true)))))))

set_option maxRecDepth 100000 in
theorem laws_eqMemory_ok {w : World} {c0_ : List Value} {x0 : D.Memory} {c1_ : List Value} {x1 : D.Memory} (h0_ : ty64.ro w c0_ x0) (h1_ : ty64.ro w c1_ x1) {fuel : Nat} {r : Bool} (hm : m_laws_eqMemory fuel x0 x1 = some r) :
    Calls Try.prog 79 ⟨[.agg ⟨c0_⟩, .agg ⟨c1_⟩]⟩ w (Ret fun v w8 => v = .bool r ∧ St w w8 []) := by
  obtain ⟨A1, k2, A4, k5, e7, h3, h6⟩ := ty64_open h0_; subst e7
  obtain ⟨A8, k9, A11, k12, e14, h10, h13⟩ := ty64_open h1_; subst e14
  refine Calls.into Try.func79 rfl 28 rfl rfl _ rfl ?_
  unfold m_laws_eqMemory at hm
  have hS := St.start w
  refine WP.seq ?_
  refine WP.region ?_
  refine RW.new ttok hS rfl rfl rfl rfl (fun g15 w16 e17 hS18 => ?_)
  refine RW.new ttok hS18 rfl rfl rfl rfl (fun g19 w20 e21 hS22 => ?_)
  refine RW.run ttok 1 rfl ?_
  refine RW.nil ?_
  refine WP.seq ?_
  refine WP.seq ?_
  refine WP.region ?_
  refine RW.run ttok 1 rfl ?_
  refine RW.load1 ttok rfl rfl rfl rfl rfl ((hS22.bring 1 rfl).box) 0 rfl rfl rfl rfl ?_
  refine RW.run ttok 1 rfl ?_
  refine RW.load1 ttok rfl rfl rfl rfl rfl ((hS22.bring 0 rfl).box) 0 rfl rfl rfl rfl ?_
  obtain ⟨r23, hx24, hm⟩ := bind_some hm
  refine RW.call rfl rfl rfl enters144 (laws_eqCellS_ok (ty60.ext hS22.ext h3) (ty60.ext hS22.ext h10) hx24) (fun v25 w26 hR27 => ?_)
  obtain ⟨rfl, hR28⟩ := hR27
  have hS29 := hS22.join hR28
  refine RW.run ttok 1 rfl ?_
  refine RW.nil ?_
  refine WP.cond (!r23) rfl (fun hc => ?_) (fun hc => ?_)
  · skip
    rw [if_pos hc] at hm
    refine WP.seq ?_
    refine WP.region ?_
    refine RW.run ttok 1 rfl ?_
    refine RW.nil ?_
    refine WP.ret ?_
    cases hm
    exact ⟨_, .cons (.tmp rfl) .nil, rfl, (hS29.taken 0)⟩
  · skip
    rw [if_neg (not_t hc)] at hm
    refine WP.skip ?_
    refine WP.seq ?_
    refine WP.seq ?_
    refine WP.region ?_
    refine RW.run ttok 1 rfl ?_
    refine RW.load1 ttok rfl rfl rfl rfl rfl ((hS29.bring 1 rfl).box) 1 rfl rfl rfl rfl ?_
    refine RW.run ttok 1 rfl ?_
    refine RW.load1 ttok rfl rfl rfl rfl rfl ((hS29.bring 0 rfl).box) 1 rfl rfl rfl rfl ?_
    refine RW.run ttok 1 rfl ?_
    refine RW.nil ?_
    refine WP.cond (x0.Free != x1.Free) rfl (fun hc => ?_) (fun hc => ?_)
    · skip
      rw [if_pos hc] at hm
      refine WP.seq ?_
      refine WP.region ?_
      refine RW.run ttok 1 rfl ?_
      refine RW.nil ?_
      refine WP.ret ?_
      cases hm
      exact ⟨_, .cons (.tmp rfl) .nil, rfl, (hS29.taken 0)⟩
    · skip
      rw [if_neg (not_t hc)] at hm
      refine WP.skip ?_
      refine WP.seq ?_
      refine WP.seq ?_
      refine WP.region ?_
      refine RW.run ttok 1 rfl ?_
      refine RW.loadN ttok rfl rfl rfl rfl rfl (At.sub ((hS29.bring 1 rfl).box) 2 2) rfl rfl rfl ?_
      refine RW.run ttok 1 rfl ?_
      refine RW.loadN ttok rfl rfl rfl rfl rfl (At.sub ((hS29.bring 0 rfl).box) 2 2) rfl rfl rfl ?_
      obtain ⟨r30, hx31, hm⟩ := bind_some hm
      refine RW.call rfl rfl rfl enters145 (laws_eqWord_ok (ty61_shut x0.Root) (ty61_shut x1.Root) hx31) (fun v32 w33 hR34 => ?_)
      obtain ⟨rfl, hR35⟩ := hR34
      have hS36 := hS29.join hR35
      refine RW.run ttok 1 rfl ?_
      refine RW.nil ?_
      refine WP.cond (!r30) rfl (fun hc => ?_) (fun hc => ?_)
      · skip
        rw [if_pos hc] at hm
        refine WP.seq ?_
        refine WP.region ?_
        refine RW.run ttok 1 rfl ?_
        refine RW.nil ?_
        refine WP.ret ?_
        cases hm
        exact ⟨_, .cons (.tmp rfl) .nil, rfl, (hS36.taken 0)⟩
      · skip
        rw [if_neg (not_t hc)] at hm
        refine WP.skip ?_
        refine WP.seq ?_
        refine WP.seq ?_
        refine WP.region ?_
        refine RW.run ttok 1 rfl ?_
        refine RW.load1 ttok rfl rfl rfl rfl rfl ((hS36.bring 1 rfl).box) 4 rfl rfl rfl rfl ?_
        refine RW.run ttok 1 rfl ?_
        refine RW.load1 ttok rfl rfl rfl rfl rfl ((hS36.bring 0 rfl).box) 4 rfl rfl rfl rfl ?_
        obtain ⟨r37, hx38, hm⟩ := bind_some hm
        refine RW.call rfl rfl rfl enters146 (laws_eqPairS_ok (ty62.ext hS36.ext h6) (ty62.ext hS36.ext h13) hx38) (fun v39 w40 hR41 => ?_)
        obtain ⟨rfl, hR42⟩ := hR41
        have hS43 := hS36.join hR42
        refine RW.run ttok 1 rfl ?_
        refine RW.nil ?_
        refine WP.cond (!r37) rfl (fun hc => ?_) (fun hc => ?_)
        · skip
          rw [if_pos hc] at hm
          refine WP.seq ?_
          refine WP.region ?_
          refine RW.run ttok 1 rfl ?_
          refine RW.nil ?_
          refine WP.ret ?_
          cases hm
          exact ⟨_, .cons (.tmp rfl) .nil, rfl, (hS43.taken 0)⟩
        · skip
          rw [if_neg (not_t hc)] at hm
          refine WP.skip ?_
          refine WP.seq ?_
          refine WP.region ?_
          refine RW.run ttok 1 rfl ?_
          refine RW.nil ?_
          refine WP.ret ?_
          cases hm
          exact ⟨_, .cons (.tmp rfl) .nil, rfl, (hS43.taken 0)⟩

theorem enters189 : Enters Try.prog 189 := ⟨_, _, Try.func189, rfl, by kernel_rfl⟩
def m_laws_eqLink (fuel : Nat) (x0 : D.Link) (x1 : D.Link) : Option (Bool) := ((m_laws_eqWord fuel x0.A x1.A).bind fun r11 => (if (!r11) = true then some false else ((m_laws_eqWord fuel x0.B x1.B).bind fun r18 => (if (!r18) = true then some false else some true))))

set_option maxRecDepth 100000 in
theorem laws_eqLink_ok {w : World} {c0_ : List Value} {x0 : D.Link} {c1_ : List Value} {x1 : D.Link} (h0_ : ty158.ro w c0_ x0) (h1_ : ty158.ro w c1_ x1) {fuel : Nat} {r : Bool} (hm : m_laws_eqLink fuel x0 x1 = some r) :
    Calls Try.prog 189 ⟨[.agg ⟨c0_⟩, .agg ⟨c1_⟩]⟩ w (Ret fun v w8 => v = .bool r ∧ St w w8 []) := by
  have e1 := ty158_open h0_; subst e1
  have e2 := ty158_open h1_; subst e2
  refine Calls.into Try.func189 rfl 17 rfl rfl _ rfl ?_
  unfold m_laws_eqLink at hm
  have hS := St.start w
  refine WP.seq ?_
  refine WP.region ?_
  refine RW.new ttok hS rfl rfl rfl rfl (fun g3 w4 e5 hS6 => ?_)
  refine RW.new ttok hS6 rfl rfl rfl rfl (fun g7 w8 e9 hS10 => ?_)
  refine RW.run ttok 1 rfl ?_
  refine RW.nil ?_
  refine WP.seq ?_
  refine WP.seq ?_
  refine WP.region ?_
  refine RW.run ttok 1 rfl ?_
  refine RW.loadN ttok rfl rfl rfl rfl rfl (At.sub ((hS10.bring 1 rfl).box) 0 2) rfl rfl rfl ?_
  refine RW.run ttok 1 rfl ?_
  refine RW.loadN ttok rfl rfl rfl rfl rfl (At.sub ((hS10.bring 0 rfl).box) 0 2) rfl rfl rfl ?_
  obtain ⟨r11, hx12, hm⟩ := bind_some hm
  refine RW.call rfl rfl rfl enters145 (laws_eqWord_ok (ty61_shut x0.A) (ty61_shut x1.A) hx12) (fun v13 w14 hR15 => ?_)
  obtain ⟨rfl, hR16⟩ := hR15
  have hS17 := hS10.join hR16
  refine RW.run ttok 1 rfl ?_
  refine RW.nil ?_
  refine WP.cond (!r11) rfl (fun hc => ?_) (fun hc => ?_)
  · skip
    rw [if_pos hc] at hm
    refine WP.seq ?_
    refine WP.region ?_
    refine RW.run ttok 1 rfl ?_
    refine RW.nil ?_
    refine WP.ret ?_
    cases hm
    exact ⟨_, .cons (.tmp rfl) .nil, rfl, (hS17.taken 0)⟩
  · skip
    rw [if_neg (not_t hc)] at hm
    refine WP.skip ?_
    refine WP.seq ?_
    refine WP.seq ?_
    refine WP.region ?_
    refine RW.run ttok 1 rfl ?_
    refine RW.loadN ttok rfl rfl rfl rfl rfl (At.sub ((hS17.bring 1 rfl).box) 2 2) rfl rfl rfl ?_
    refine RW.run ttok 1 rfl ?_
    refine RW.loadN ttok rfl rfl rfl rfl rfl (At.sub ((hS17.bring 0 rfl).box) 2 2) rfl rfl rfl ?_
    obtain ⟨r18, hx19, hm⟩ := bind_some hm
    refine RW.call rfl rfl rfl enters145 (laws_eqWord_ok (ty61_shut x0.B) (ty61_shut x1.B) hx19) (fun v20 w21 hR22 => ?_)
    obtain ⟨rfl, hR23⟩ := hR22
    have hS24 := hS17.join hR23
    refine RW.run ttok 1 rfl ?_
    refine RW.nil ?_
    refine WP.cond (!r18) rfl (fun hc => ?_) (fun hc => ?_)
    · skip
      rw [if_pos hc] at hm
      refine WP.seq ?_
      refine WP.region ?_
      refine RW.run ttok 1 rfl ?_
      refine RW.nil ?_
      refine WP.ret ?_
      cases hm
      exact ⟨_, .cons (.tmp rfl) .nil, rfl, (hS24.taken 0)⟩
    · skip
      rw [if_neg (not_t hc)] at hm
      refine WP.skip ?_
      refine WP.seq ?_
      refine WP.region ?_
      refine RW.run ttok 1 rfl ?_
      refine RW.nil ?_
      refine WP.ret ?_
      cases hm
      exact ⟨_, .cons (.tmp rfl) .nil, rfl, (hS24.taken 0)⟩

theorem enters180 : Enters Try.prog 180 := ⟨_, _, Try.func180, rfl, by kernel_rfl⟩
def m_laws_eqLinkS_j1 (fuel : Nat) (t2 : Unit) : Option Bool := some true
def m_laws_eqLinkS_b1 (fuel : Nat) (x0 : (List D.Link)) (x1 : (List D.Link)) (s1 : Int) : Option (Rd (Int) (Unit) (Bool)) := (if (decide (s1 < (x0.length : Int))) = true then ((idx x0 s1).bind fun x19 => ((idx x1 s1).bind fun x26 => ((m_laws_eqLink fuel x19 x26).bind fun r33 => (if (!r33) = true then some (.ret false) else some (.next (w64 (s1 + 1))))))) else some (.brk ()))
def m_laws_eqLinkS (fuel : Nat) (x0 : (List D.Link)) (x1 : (List D.Link)) : Option (Bool) := (if ((x0.length : Int) != (x1.length : Int)) = true then some false else ((iter (m_laws_eqLinkS_b1 fuel x0 x1) fuel 0).bind fun o => aft o (m_laws_eqLinkS_j1 fuel)))

set_option maxRecDepth 100000 in
theorem laws_eqLinkS_ok {w : World} {A0_ : Option Addr} {k0_ : Nat} {x0 : (List D.Link)} {A1_ : Option Addr} {k1_ : Nat} {x1 : (List D.Link)} (h0_ : ty150.ro w [.slice A0_ x0.length k0_] x0) (h1_ : ty150.ro w [.slice A1_ x1.length k1_] x1) {fuel : Nat} {r : Bool} (hm : m_laws_eqLinkS fuel x0 x1 = some r) :
    Calls Try.prog 180 ⟨[.slice A0_ x0.length k0_, .slice A1_ x1.length k1_]⟩ w (Ret fun v w8 => v = .bool r ∧ St w w8 []) := by
  refine Calls.into Try.func180 rfl 27 rfl rfl _ rfl ?_
  unfold m_laws_eqLinkS at hm
  have hS := St.start w
  refine WP.seq ?_
  refine WP.region ?_
  refine RW.run ttok 1 rfl ?_
  refine RW.nil ?_
  refine WP.seq ?_
  refine WP.seq ?_
  refine WP.region ?_
  refine RW.run ttok 5 rfl ?_
  refine RW.nil ?_
  refine WP.cond ((x0.length : Int) != (x1.length : Int)) rfl (fun hc => ?_) (fun hc => ?_)
  · skip
    rw [if_pos hc] at hm
    refine WP.seq ?_
    refine WP.region ?_
    refine RW.run ttok 1 rfl ?_
    refine RW.nil ?_
    refine WP.ret ?_
    cases hm
    exact ⟨_, .cons (.tmp rfl) .nil, rfl, (hS.taken 0)⟩
  · skip
    rw [if_neg (not_t hc)] at hm
    refine WP.skip ?_
    refine WP.seq ?_
    refine WP.seq ?_
    refine WP.region ?_
    refine RW.run ttok 1 rfl ?_
    refine RW.nil ?_
    obtain ⟨o8, hl9, hm⟩ := bind_some hm
    refine WP.cut (fun (t2 : Unit) F w9 => o8 = .inl t2 ∧ Ext w w9 ∧ St w w9 [] ∧ F = []) ?_ ?_
    · skip
      rintro t2 F w7 ⟨ho11, hE6, hS10, rfl⟩
      subst ho11
      rw [aft_inl] at hm
      unfold m_laws_eqLinkS_j1 at hm
      refine WP.seq ?_
      refine WP.region ?_
      refine RW.run ttok 1 rfl ?_
      refine RW.nil ?_
      refine WP.ret ?_
      cases hm
      exact ⟨_, .cons (.tmp rfl) .nil, rfl, (hS10.taken 0)⟩
    · skip
      refine WP.block ?_
      refine WP.weak [(0, .slice A0_ x0.length k0_), (1, .slice A1_ x1.length k1_), (5, .int .i64 0)] ⟨rfl, rfl, rfl, trivial⟩ ?_
      refine WP.iter (fun (s1 : Int) F w9 => Ext w w9 ∧ St w w9 [] ∧ F = [(0, .slice A0_ x0.length k0_), (1, .slice A1_ x1.length k1_), (5, .int .i64 s1)]) _ hl9 ⟨(Ext.refl _), (hS.taken 0), rfl⟩ ?_
      rintro s1 F w16 _ o14 ⟨hE5, hS15, rfl⟩ hb12 ho13
      unfold m_laws_eqLinkS_b1 at hb12
      refine WP.seq ?_
      refine WP.seq ?_
      refine WP.region ?_
      refine RW.run ttok 4 rfl ?_
      refine RW.nil ?_
      refine WP.cond (decide (s1 < (x0.length : Int))) rfl (fun hc => ?_) (fun hc => ?_)
      · skip
        rw [if_pos hc] at hb12
        refine WP.skip ?_
        refine WP.seq ?_
        refine WP.block ?_
        refine WP.seq ?_
        refine WP.drawnM 0 mixed 10 (by kernel_rfl) (by kernel_rfl) [([], 1023), ([], 1023), ([0, 1], 1020), ([2], 1019), ([], 1023), ([], 1023), ([4, 5], 975), ([6], 959), ([3, 7], 887), ([8], 767)] (by kernel_rfl) (fun hsk17 => ?_)
        have hS18 := hS15.step (Ext.draw _)
        refine DM.run (fuel := 6) ttok hsk17 [0, 1, 4, 5] 51 (by kernel_rfl) (by kernel_rfl) rfl ?_
        obtain ⟨x19, hx20, hb12⟩ := bind_some hb12
        refine DM.idx ttok hS15.ext hsk17 2 55 (by kernel_rfl) (by kernel_rfl) (by kernel_rfl) (by kernel_rfl) rfl (by kernel_rfl) rfl rfl rfl rfl rfl rfl (by decide) rfl rfl h0_ (idx_some hx20).1 (idx_some hx20).2 rfl rfl (fun p21 es22 ha23 hr24 => ?_)
        have e25 := ty158_open hr24; subst e25
        refine DM.loadN ttok hsk17 3 63 (by kernel_rfl) (by kernel_rfl) (by kernel_rfl) (by kernel_rfl) rfl (by kernel_rfl) rfl rfl rfl rfl rfl (At.ext hS15.ext ha23) rfl rfl rfl ?_
        obtain ⟨x26, hx27, hb12⟩ := bind_some hb12
        refine DM.idx ttok hS15.ext hsk17 6 127 (by kernel_rfl) (by kernel_rfl) (by kernel_rfl) (by kernel_rfl) rfl (by kernel_rfl) rfl rfl rfl rfl rfl rfl (by decide) rfl rfl h1_ (idx_some hx27).1 (idx_some hx27).2 rfl rfl (fun p28 es29 ha30 hr31 => ?_)
        have e32 := ty158_open hr31; subst e32
        refine DM.loadN ttok hsk17 7 255 (by kernel_rfl) (by kernel_rfl) (by kernel_rfl) (by kernel_rfl) rfl (by kernel_rfl) rfl rfl rfl rfl rfl (At.ext hS15.ext ha30) rfl rfl rfl ?_
        obtain ⟨r33, hx34, hb12⟩ := bind_some hb12
        refine DM.one hsk17 8 (by kernel_rfl) (LM.call hsk17 511 (by kernel_rfl) (by kernel_rfl) rfl rfl rfl rfl enters189 (laws_eqLink_ok (ty158.ext hS18.ext hr24) (ty158.ext hS18.ext hr31) hx34) (fun v35 w36 hR37 => ?_))
        obtain ⟨rfl, hR38⟩ := hR37
        refine ⟨hR38.ext, ?_⟩
        have hS39 := hS18.join hR38
        refine DM.run (fuel := 0) ttok hsk17 [9] 1023 (by kernel_rfl) (by kernel_rfl) rfl ?_
        refine DM.weak [(0, .slice A0_ x0.length k0_), (1, .slice A1_ x1.length k1_), (5, .int .i64 s1), (26, .bool (!r33))] ⟨rfl, rfl, rfl, rfl, trivial⟩ ?_
        refine DM.done hsk17 (by kernel_rfl) ?_
        refine WP.cond (!r33) rfl (fun hc => ?_) (fun hc => ?_)
        · skip
          rw [if_pos hc] at hb12
          refine WP.seq ?_
          refine WP.region ?_
          refine RW.run ttok 1 rfl ?_
          refine RW.nil ?_
          refine WP.ret ?_
          cases hb12
          cases ho13
          have hm : some _ = some _ := hm
          cases hm
          exact ⟨_, .cons (.tmp rfl) .nil, rfl, (hS39.taken 0)⟩
        · skip
          rw [if_neg (not_t hc)] at hb12
          refine WP.skip ?_
          refine WP.region ?_
          refine RW.run ttok 3 rfl ?_
          refine RW.nil ?_
          cases hb12
          exact ⟨_, [(0, .slice A0_ x0.length k0_), (1, .slice A1_ x1.length k1_), (5, .int .i64 (w64 (s1 + 1)))], ⟨rfl, rfl, rfl, trivial⟩, rfl, ((hE5.trans (Ext.draw _)).trans hR38.ext), (hS39.taken 0), rfl⟩
      · skip
        rw [if_neg (not_t hc)] at hb12
        refine WP.exit ?_
        cases hb12
        exact ⟨_, [], trivial, ho13, hE5, (hS15.taken 0), rfl⟩

theorem enters147 : Enters Try.prog 147 := ⟨_, _, Try.func147, rfl, by kernel_rfl⟩
def m_laws_eqWorker (fuel : Nat) (x0 : D.Worker) (x1 : D.Worker) : Option (Bool) := (if (x0.Phase != x1.Phase) = true then some false else (if (x0.Victim != x1.Victim) = true then some false else ((m_laws_eqPairS fuel x0.Redexes x1.Redexes).bind fun r29 => (if (!r29) = true then some false else ((m_laws_eqLinkS fuel x0.Links x1.Links).bind fun r36 => (if (!r36) = true then some false else ((m_laws_eqInt64S fuel x0.Counts x1.Counts).bind fun r43 => (if (!r43) = true then some false else some true))))))))

set_option maxRecDepth 100000 in
theorem laws_eqWorker_ok {w : World} {c0_ : List Value} {x0 : D.Worker} {c1_ : List Value} {x1 : D.Worker} (h0_ : ty152.ro w c0_ x0) (h1_ : ty152.ro w c1_ x1) {fuel : Nat} {r : Bool} (hm : m_laws_eqWorker fuel x0 x1 = some r) :
    Calls Try.prog 147 ⟨[.agg ⟨c0_⟩, .agg ⟨c1_⟩]⟩ w (Ret fun v w8 => v = .bool r ∧ St w w8 []) := by
  obtain ⟨A1, k2, A4, k5, A7, k8, e10, h3, h6, h9⟩ := ty152_open h0_; subst e10
  obtain ⟨A11, k12, A14, k15, A17, k18, e20, h13, h16, h19⟩ := ty152_open h1_; subst e20
  refine Calls.into Try.func147 rfl 33 rfl rfl _ rfl ?_
  unfold m_laws_eqWorker at hm
  have hS := St.start w
  refine WP.seq ?_
  refine WP.region ?_
  refine RW.new ttok hS rfl rfl rfl rfl (fun g21 w22 e23 hS24 => ?_)
  refine RW.new ttok hS24 rfl rfl rfl rfl (fun g25 w26 e27 hS28 => ?_)
  refine RW.run ttok 1 rfl ?_
  refine RW.nil ?_
  refine WP.seq ?_
  refine WP.seq ?_
  refine WP.region ?_
  refine RW.run ttok 1 rfl ?_
  refine RW.load1 ttok rfl rfl rfl rfl rfl ((hS28.bring 1 rfl).box) 0 rfl rfl rfl rfl ?_
  refine RW.run ttok 1 rfl ?_
  refine RW.load1 ttok rfl rfl rfl rfl rfl ((hS28.bring 0 rfl).box) 0 rfl rfl rfl rfl ?_
  refine RW.run ttok 1 rfl ?_
  refine RW.nil ?_
  refine WP.cond (x0.Phase != x1.Phase) rfl (fun hc => ?_) (fun hc => ?_)
  · skip
    rw [if_pos hc] at hm
    refine WP.seq ?_
    refine WP.region ?_
    refine RW.run ttok 1 rfl ?_
    refine RW.nil ?_
    refine WP.ret ?_
    cases hm
    exact ⟨_, .cons (.tmp rfl) .nil, rfl, (hS28.taken 0)⟩
  · skip
    rw [if_neg (not_t hc)] at hm
    refine WP.skip ?_
    refine WP.seq ?_
    refine WP.seq ?_
    refine WP.region ?_
    refine RW.run ttok 1 rfl ?_
    refine RW.load1 ttok rfl rfl rfl rfl rfl ((hS28.bring 1 rfl).box) 1 rfl rfl rfl rfl ?_
    refine RW.run ttok 1 rfl ?_
    refine RW.load1 ttok rfl rfl rfl rfl rfl ((hS28.bring 0 rfl).box) 1 rfl rfl rfl rfl ?_
    refine RW.run ttok 1 rfl ?_
    refine RW.nil ?_
    refine WP.cond (x0.Victim != x1.Victim) rfl (fun hc => ?_) (fun hc => ?_)
    · skip
      rw [if_pos hc] at hm
      refine WP.seq ?_
      refine WP.region ?_
      refine RW.run ttok 1 rfl ?_
      refine RW.nil ?_
      refine WP.ret ?_
      cases hm
      exact ⟨_, .cons (.tmp rfl) .nil, rfl, (hS28.taken 0)⟩
    · skip
      rw [if_neg (not_t hc)] at hm
      refine WP.skip ?_
      refine WP.seq ?_
      refine WP.seq ?_
      refine WP.region ?_
      refine RW.run ttok 1 rfl ?_
      refine RW.load1 ttok rfl rfl rfl rfl rfl ((hS28.bring 1 rfl).box) 2 rfl rfl rfl rfl ?_
      refine RW.run ttok 1 rfl ?_
      refine RW.load1 ttok rfl rfl rfl rfl rfl ((hS28.bring 0 rfl).box) 2 rfl rfl rfl rfl ?_
      obtain ⟨r29, hx30, hm⟩ := bind_some hm
      refine RW.call rfl rfl rfl enters146 (laws_eqPairS_ok (ty62.ext hS28.ext h3) (ty62.ext hS28.ext h13) hx30) (fun v31 w32 hR33 => ?_)
      obtain ⟨rfl, hR34⟩ := hR33
      have hS35 := hS28.join hR34
      refine RW.run ttok 1 rfl ?_
      refine RW.nil ?_
      refine WP.cond (!r29) rfl (fun hc => ?_) (fun hc => ?_)
      · skip
        rw [if_pos hc] at hm
        refine WP.seq ?_
        refine WP.region ?_
        refine RW.run ttok 1 rfl ?_
        refine RW.nil ?_
        refine WP.ret ?_
        cases hm
        exact ⟨_, .cons (.tmp rfl) .nil, rfl, (hS35.taken 0)⟩
      · skip
        rw [if_neg (not_t hc)] at hm
        refine WP.skip ?_
        refine WP.seq ?_
        refine WP.seq ?_
        refine WP.region ?_
        refine RW.run ttok 1 rfl ?_
        refine RW.load1 ttok rfl rfl rfl rfl rfl ((hS35.bring 1 rfl).box) 3 rfl rfl rfl rfl ?_
        refine RW.run ttok 1 rfl ?_
        refine RW.load1 ttok rfl rfl rfl rfl rfl ((hS35.bring 0 rfl).box) 3 rfl rfl rfl rfl ?_
        obtain ⟨r36, hx37, hm⟩ := bind_some hm
        refine RW.call rfl rfl rfl enters180 (laws_eqLinkS_ok (ty150.ext hS35.ext h6) (ty150.ext hS35.ext h16) hx37) (fun v38 w39 hR40 => ?_)
        obtain ⟨rfl, hR41⟩ := hR40
        have hS42 := hS35.join hR41
        refine RW.run ttok 1 rfl ?_
        refine RW.nil ?_
        refine WP.cond (!r36) rfl (fun hc => ?_) (fun hc => ?_)
        · skip
          rw [if_pos hc] at hm
          refine WP.seq ?_
          refine WP.region ?_
          refine RW.run ttok 1 rfl ?_
          refine RW.nil ?_
          refine WP.ret ?_
          cases hm
          exact ⟨_, .cons (.tmp rfl) .nil, rfl, (hS42.taken 0)⟩
        · skip
          rw [if_neg (not_t hc)] at hm
          refine WP.skip ?_
          refine WP.seq ?_
          refine WP.seq ?_
          refine WP.region ?_
          refine RW.run ttok 1 rfl ?_
          refine RW.load1 ttok rfl rfl rfl rfl rfl ((hS42.bring 1 rfl).box) 4 rfl rfl rfl rfl ?_
          refine RW.run ttok 1 rfl ?_
          refine RW.load1 ttok rfl rfl rfl rfl rfl ((hS42.bring 0 rfl).box) 4 rfl rfl rfl rfl ?_
          obtain ⟨r43, hx44, hm⟩ := bind_some hm
          refine RW.call rfl rfl rfl enters95 (laws_eqInt64S_ok (ty72.ext hS42.ext h9) (ty72.ext hS42.ext h19) hx44) (fun v45 w46 hR47 => ?_)
          obtain ⟨rfl, hR48⟩ := hR47
          have hS49 := hS42.join hR48
          refine RW.run ttok 1 rfl ?_
          refine RW.nil ?_
          refine WP.cond (!r43) rfl (fun hc => ?_) (fun hc => ?_)
          · skip
            rw [if_pos hc] at hm
            refine WP.seq ?_
            refine WP.region ?_
            refine RW.run ttok 1 rfl ?_
            refine RW.nil ?_
            refine WP.ret ?_
            cases hm
            exact ⟨_, .cons (.tmp rfl) .nil, rfl, (hS49.taken 0)⟩
          · skip
            rw [if_neg (not_t hc)] at hm
            refine WP.skip ?_
            refine WP.seq ?_
            refine WP.region ?_
            refine RW.run ttok 1 rfl ?_
            refine RW.nil ?_
            refine WP.ret ?_
            cases hm
            exact ⟨_, .cons (.tmp rfl) .nil, rfl, (hS49.taken 0)⟩

theorem enters80 : Enters Try.prog 80 := ⟨_, _, Try.func80, rfl, by kernel_rfl⟩
def m_laws_eqWorkerS_j1 (fuel : Nat) (t2 : Unit) : Option Bool := some true
def m_laws_eqWorkerS_b1 (fuel : Nat) (x0 : (List D.Worker)) (x1 : (List D.Worker)) (s1 : Int) : Option (Rd (Int) (Unit) (Bool)) := (if (decide (s1 < (x0.length : Int))) = true then ((idx x0 s1).bind fun x19 => ((idx x1 s1).bind fun x35 => ((m_laws_eqWorker fuel x19 x35).bind fun r51 => (if (!r51) = true then some (.ret false) else some (.next (w64 (s1 + 1))))))) else some (.brk ()))
def m_laws_eqWorkerS (fuel : Nat) (x0 : (List D.Worker)) (x1 : (List D.Worker)) : Option (Bool) := (if ((x0.length : Int) != (x1.length : Int)) = true then some false else ((iter (m_laws_eqWorkerS_b1 fuel x0 x1) fuel 0).bind fun o => aft o (m_laws_eqWorkerS_j1 fuel)))

set_option maxRecDepth 100000 in
theorem laws_eqWorkerS_ok {w : World} {A0_ : Option Addr} {k0_ : Nat} {x0 : (List D.Worker)} {A1_ : Option Addr} {k1_ : Nat} {x1 : (List D.Worker)} (h0_ : ty65.ro w [.slice A0_ x0.length k0_] x0) (h1_ : ty65.ro w [.slice A1_ x1.length k1_] x1) {fuel : Nat} {r : Bool} (hm : m_laws_eqWorkerS fuel x0 x1 = some r) :
    Calls Try.prog 80 ⟨[.slice A0_ x0.length k0_, .slice A1_ x1.length k1_]⟩ w (Ret fun v w8 => v = .bool r ∧ St w w8 []) := by
  refine Calls.into Try.func80 rfl 27 rfl rfl _ rfl ?_
  unfold m_laws_eqWorkerS at hm
  have hS := St.start w
  refine WP.seq ?_
  refine WP.region ?_
  refine RW.run ttok 1 rfl ?_
  refine RW.nil ?_
  refine WP.seq ?_
  refine WP.seq ?_
  refine WP.region ?_
  refine RW.run ttok 5 rfl ?_
  refine RW.nil ?_
  refine WP.cond ((x0.length : Int) != (x1.length : Int)) rfl (fun hc => ?_) (fun hc => ?_)
  · skip
    rw [if_pos hc] at hm
    refine WP.seq ?_
    refine WP.region ?_
    refine RW.run ttok 1 rfl ?_
    refine RW.nil ?_
    refine WP.ret ?_
    cases hm
    exact ⟨_, .cons (.tmp rfl) .nil, rfl, (hS.taken 0)⟩
  · skip
    rw [if_neg (not_t hc)] at hm
    refine WP.skip ?_
    refine WP.seq ?_
    refine WP.seq ?_
    refine WP.region ?_
    refine RW.run ttok 1 rfl ?_
    refine RW.nil ?_
    obtain ⟨o8, hl9, hm⟩ := bind_some hm
    refine WP.cut (fun (t2 : Unit) F w9 => o8 = .inl t2 ∧ Ext w w9 ∧ St w w9 [] ∧ F = []) ?_ ?_
    · skip
      rintro t2 F w7 ⟨ho11, hE6, hS10, rfl⟩
      subst ho11
      rw [aft_inl] at hm
      unfold m_laws_eqWorkerS_j1 at hm
      refine WP.seq ?_
      refine WP.region ?_
      refine RW.run ttok 1 rfl ?_
      refine RW.nil ?_
      refine WP.ret ?_
      cases hm
      exact ⟨_, .cons (.tmp rfl) .nil, rfl, (hS10.taken 0)⟩
    · skip
      refine WP.block ?_
      refine WP.weak [(0, .slice A0_ x0.length k0_), (1, .slice A1_ x1.length k1_), (5, .int .i64 0)] ⟨rfl, rfl, rfl, trivial⟩ ?_
      refine WP.iter (fun (s1 : Int) F w9 => Ext w w9 ∧ St w w9 [] ∧ F = [(0, .slice A0_ x0.length k0_), (1, .slice A1_ x1.length k1_), (5, .int .i64 s1)]) _ hl9 ⟨(Ext.refl _), (hS.taken 0), rfl⟩ ?_
      rintro s1 F w16 _ o14 ⟨hE5, hS15, rfl⟩ hb12 ho13
      unfold m_laws_eqWorkerS_b1 at hb12
      refine WP.seq ?_
      refine WP.seq ?_
      refine WP.region ?_
      refine RW.run ttok 4 rfl ?_
      refine RW.nil ?_
      refine WP.cond (decide (s1 < (x0.length : Int))) rfl (fun hc => ?_) (fun hc => ?_)
      · skip
        rw [if_pos hc] at hb12
        refine WP.skip ?_
        refine WP.seq ?_
        refine WP.block ?_
        refine WP.seq ?_
        refine WP.drawnM 0 mixed 10 (by kernel_rfl) (by kernel_rfl) [([], 1023), ([], 1023), ([0, 1], 1020), ([2], 1019), ([], 1023), ([], 1023), ([4, 5], 975), ([6], 959), ([3, 7], 887), ([8], 767)] (by kernel_rfl) (fun hsk17 => ?_)
        have hS18 := hS15.step (Ext.draw _)
        refine DM.run (fuel := 6) ttok hsk17 [0, 1, 4, 5] 51 (by kernel_rfl) (by kernel_rfl) rfl ?_
        obtain ⟨x19, hx20, hb12⟩ := bind_some hb12
        refine DM.idx ttok hS15.ext hsk17 2 55 (by kernel_rfl) (by kernel_rfl) (by kernel_rfl) (by kernel_rfl) rfl (by kernel_rfl) rfl rfl rfl rfl rfl rfl (by decide) rfl rfl h0_ (idx_some hx20).1 (idx_some hx20).2 rfl rfl (fun p21 es22 ha23 hr24 => ?_)
        obtain ⟨A25, k26, A28, k29, A31, k32, e34, h27, h30, h33⟩ := ty152_open hr24; subst e34
        refine DM.loadN ttok hsk17 3 63 (by kernel_rfl) (by kernel_rfl) (by kernel_rfl) (by kernel_rfl) rfl (by kernel_rfl) rfl rfl rfl rfl rfl (At.ext hS15.ext ha23) rfl rfl rfl ?_
        obtain ⟨x35, hx36, hb12⟩ := bind_some hb12
        refine DM.idx ttok hS15.ext hsk17 6 127 (by kernel_rfl) (by kernel_rfl) (by kernel_rfl) (by kernel_rfl) rfl (by kernel_rfl) rfl rfl rfl rfl rfl rfl (by decide) rfl rfl h1_ (idx_some hx36).1 (idx_some hx36).2 rfl rfl (fun p37 es38 ha39 hr40 => ?_)
        obtain ⟨A41, k42, A44, k45, A47, k48, e50, h43, h46, h49⟩ := ty152_open hr40; subst e50
        refine DM.loadN ttok hsk17 7 255 (by kernel_rfl) (by kernel_rfl) (by kernel_rfl) (by kernel_rfl) rfl (by kernel_rfl) rfl rfl rfl rfl rfl (At.ext hS15.ext ha39) rfl rfl rfl ?_
        obtain ⟨r51, hx52, hb12⟩ := bind_some hb12
        refine DM.one hsk17 8 (by kernel_rfl) (LM.call hsk17 511 (by kernel_rfl) (by kernel_rfl) rfl rfl rfl rfl enters147 (laws_eqWorker_ok (ty152.ext hS18.ext hr24) (ty152.ext hS18.ext hr40) hx52) (fun v53 w54 hR55 => ?_))
        obtain ⟨rfl, hR56⟩ := hR55
        refine ⟨hR56.ext, ?_⟩
        have hS57 := hS18.join hR56
        refine DM.run (fuel := 0) ttok hsk17 [9] 1023 (by kernel_rfl) (by kernel_rfl) rfl ?_
        refine DM.weak [(0, .slice A0_ x0.length k0_), (1, .slice A1_ x1.length k1_), (5, .int .i64 s1), (26, .bool (!r51))] ⟨rfl, rfl, rfl, rfl, trivial⟩ ?_
        refine DM.done hsk17 (by kernel_rfl) ?_
        refine WP.cond (!r51) rfl (fun hc => ?_) (fun hc => ?_)
        · skip
          rw [if_pos hc] at hb12
          refine WP.seq ?_
          refine WP.region ?_
          refine RW.run ttok 1 rfl ?_
          refine RW.nil ?_
          refine WP.ret ?_
          cases hb12
          cases ho13
          have hm : some _ = some _ := hm
          cases hm
          exact ⟨_, .cons (.tmp rfl) .nil, rfl, (hS57.taken 0)⟩
        · skip
          rw [if_neg (not_t hc)] at hb12
          refine WP.skip ?_
          refine WP.region ?_
          refine RW.run ttok 3 rfl ?_
          refine RW.nil ?_
          cases hb12
          exact ⟨_, [(0, .slice A0_ x0.length k0_), (1, .slice A1_ x1.length k1_), (5, .int .i64 (w64 (s1 + 1)))], ⟨rfl, rfl, rfl, trivial⟩, rfl, ((hE5.trans (Ext.draw _)).trans hR56.ext), (hS57.taken 0), rfl⟩
      · skip
        rw [if_neg (not_t hc)] at hb12
        refine WP.exit ?_
        cases hb12
        exact ⟨_, [], trivial, ho13, hE5, (hS15.taken 0), rfl⟩

theorem enters25 : Enters Try.prog 25 := ⟨_, _, Try.func25, rfl, by kernel_rfl⟩
def m_laws_eqPool (fuel : Nat) (x0 : D.Pool) (x1 : D.Pool) : Option (Bool) := ((m_laws_eqMemory fuel x0.Memory x1.Memory).bind fun r29 => (if (!r29) = true then some false else ((m_laws_eqWorkerS fuel x0.Workers x1.Workers).bind fun r36 => (if (!r36) = true then some false else (if (x0.Active != x1.Active) = true then some false else some true)))))

set_option maxRecDepth 100000 in
theorem laws_eqPool_ok {w : World} {c0_ : List Value} {x0 : D.Pool} {c1_ : List Value} {x1 : D.Pool} (h0_ : ty67.ro w c0_ x0) (h1_ : ty67.ro w c1_ x1) {fuel : Nat} {r : Bool} (hm : m_laws_eqPool fuel x0 x1 = some r) :
    Calls Try.prog 25 ⟨[.agg ⟨c0_⟩, .agg ⟨c1_⟩]⟩ w (Ret fun v w8 => v = .bool r ∧ St w w8 []) := by
  obtain ⟨A1, k2, A4, k5, A7, k8, e10, h3, h6, h9⟩ := ty67_open h0_; subst e10
  obtain ⟨A11, k12, A14, k15, A17, k18, e20, h13, h16, h19⟩ := ty67_open h1_; subst e20
  refine Calls.into Try.func25 rfl 22 rfl rfl _ rfl ?_
  unfold m_laws_eqPool at hm
  have hS := St.start w
  refine WP.seq ?_
  refine WP.region ?_
  refine RW.new ttok hS rfl rfl rfl rfl (fun g21 w22 e23 hS24 => ?_)
  refine RW.new ttok hS24 rfl rfl rfl rfl (fun g25 w26 e27 hS28 => ?_)
  refine RW.run ttok 1 rfl ?_
  refine RW.nil ?_
  refine WP.seq ?_
  refine WP.seq ?_
  refine WP.region ?_
  refine RW.run ttok 1 rfl ?_
  refine RW.loadN ttok rfl rfl rfl rfl rfl (At.sub ((hS28.bring 1 rfl).box) 0 5) rfl rfl rfl ?_
  refine RW.run ttok 1 rfl ?_
  refine RW.loadN ttok rfl rfl rfl rfl rfl (At.sub ((hS28.bring 0 rfl).box) 0 5) rfl rfl rfl ?_
  obtain ⟨r29, hx30, hm⟩ := bind_some hm
  refine RW.call rfl rfl rfl enters79 (laws_eqMemory_ok (ty64_shut x0.Memory (ty60.ext hS28.ext h3) (ty62.ext hS28.ext h6)) (ty64_shut x1.Memory (ty60.ext hS28.ext h13) (ty62.ext hS28.ext h16)) hx30) (fun v31 w32 hR33 => ?_)
  obtain ⟨rfl, hR34⟩ := hR33
  have hS35 := hS28.join hR34
  refine RW.run ttok 1 rfl ?_
  refine RW.nil ?_
  refine WP.cond (!r29) rfl (fun hc => ?_) (fun hc => ?_)
  · skip
    rw [if_pos hc] at hm
    refine WP.seq ?_
    refine WP.region ?_
    refine RW.run ttok 1 rfl ?_
    refine RW.nil ?_
    refine WP.ret ?_
    cases hm
    exact ⟨_, .cons (.tmp rfl) .nil, rfl, (hS35.taken 0)⟩
  · skip
    rw [if_neg (not_t hc)] at hm
    refine WP.skip ?_
    refine WP.seq ?_
    refine WP.seq ?_
    refine WP.region ?_
    refine RW.run ttok 1 rfl ?_
    refine RW.load1 ttok rfl rfl rfl rfl rfl ((hS35.bring 1 rfl).box) 5 rfl rfl rfl rfl ?_
    refine RW.run ttok 1 rfl ?_
    refine RW.load1 ttok rfl rfl rfl rfl rfl ((hS35.bring 0 rfl).box) 5 rfl rfl rfl rfl ?_
    obtain ⟨r36, hx37, hm⟩ := bind_some hm
    refine RW.call rfl rfl rfl enters80 (laws_eqWorkerS_ok (ty65.ext hS35.ext h9) (ty65.ext hS35.ext h19) hx37) (fun v38 w39 hR40 => ?_)
    obtain ⟨rfl, hR41⟩ := hR40
    have hS42 := hS35.join hR41
    refine RW.run ttok 1 rfl ?_
    refine RW.nil ?_
    refine WP.cond (!r36) rfl (fun hc => ?_) (fun hc => ?_)
    · skip
      rw [if_pos hc] at hm
      refine WP.seq ?_
      refine WP.region ?_
      refine RW.run ttok 1 rfl ?_
      refine RW.nil ?_
      refine WP.ret ?_
      cases hm
      exact ⟨_, .cons (.tmp rfl) .nil, rfl, (hS42.taken 0)⟩
    · skip
      rw [if_neg (not_t hc)] at hm
      refine WP.skip ?_
      refine WP.seq ?_
      refine WP.seq ?_
      refine WP.region ?_
      refine RW.run ttok 1 rfl ?_
      refine RW.load1 ttok rfl rfl rfl rfl rfl ((hS42.bring 1 rfl).box) 6 rfl rfl rfl rfl ?_
      refine RW.run ttok 1 rfl ?_
      refine RW.load1 ttok rfl rfl rfl rfl rfl ((hS42.bring 0 rfl).box) 6 rfl rfl rfl rfl ?_
      refine RW.run ttok 1 rfl ?_
      refine RW.nil ?_
      refine WP.cond (x0.Active != x1.Active) rfl (fun hc => ?_) (fun hc => ?_)
      · skip
        rw [if_pos hc] at hm
        refine WP.seq ?_
        refine WP.region ?_
        refine RW.run ttok 1 rfl ?_
        refine RW.nil ?_
        refine WP.ret ?_
        cases hm
        exact ⟨_, .cons (.tmp rfl) .nil, rfl, (hS42.taken 0)⟩
      · skip
        rw [if_neg (not_t hc)] at hm
        refine WP.skip ?_
        refine WP.seq ?_
        refine WP.region ?_
        refine RW.run ttok 1 rfl ?_
        refine RW.nil ?_
        refine WP.ret ?_
        cases hm
        exact ⟨_, .cons (.tmp rfl) .nil, rfl, (hS42.taken 0)⟩

theorem enters5 : Enters Try.prog 5 := ⟨_, _, Try.func5, rfl, by kernel_rfl⟩
def m_laws_FnExactSamePool (fuel : Nat) (x0 : D.Pool) (x1 : D.Pool) : Option (Bool) := ((m_laws_szPool fuel x0 1048576).bind fun r29 => (if (decide (r29 < 0)) = true then some true else ((m_laws_szPool fuel x1 r29).bind fun r36 => (if (decide (r36 < 0)) = true then some true else ((m_laws_toPool fuel x0).bind fun r45 => ((m_laws_toPool fuel x1).bind fun r58 => ((m_spec_SamePool fuel r45 r58).bind fun r71 => ((m_laws_toPool fuel x0).bind fun r78 => ((m_laws_toPool fuel x1).bind fun r98 => ((m_impl_SamePool fuel r78 r98).bind fun r118 => (if (!(r118 == r71)) = true then some false else ((m_laws_toPool fuel x0).bind fun r127 => ((m_laws_eqPool fuel r78 r127).bind fun r140 => (if (!r140) = true then some false else ((m_laws_toPool fuel x1).bind fun r149 => ((m_laws_eqPool fuel r98 r149).bind fun r162 => (if (!r162) = true then some false else some true)))))))))))))))))

set_option maxRecDepth 100000 in
theorem laws_FnExactSamePool_ok {w : World} {c0_ : List Value} {x0 : D.Pool} {c1_ : List Value} {x1 : D.Pool} (h0_ : ty57.ro w c0_ x0) (h1_ : ty57.ro w c1_ x1) {fuel : Nat} {r : Bool} (hm : m_laws_FnExactSamePool fuel x0 x1 = some r) :
    Calls Try.prog 5 ⟨[.agg ⟨c0_⟩, .agg ⟨c1_⟩]⟩ w (Ret fun v w8 => v = .bool r ∧ St w w8 []) := by
  obtain ⟨A1, k2, A4, k5, A7, k8, e10, h3, h6, h9⟩ := ty57_open h0_; subst e10
  obtain ⟨A11, k12, A14, k15, A17, k18, e20, h13, h16, h19⟩ := ty57_open h1_; subst e20
  refine Calls.into Try.func5 rfl 45 rfl rfl _ rfl ?_
  unfold m_laws_FnExactSamePool at hm
  have hS := St.start w
  refine WP.seq ?_
  refine WP.region ?_
  refine RW.new ttok hS rfl rfl rfl rfl (fun g21 w22 e23 hS24 => ?_)
  refine RW.new ttok hS24 rfl rfl rfl rfl (fun g25 w26 e27 hS28 => ?_)
  refine RW.run ttok 1 rfl ?_
  refine RW.nil ?_
  refine WP.seq ?_
  refine WP.region ?_
  refine RW.run ttok 1 rfl ?_
  refine RW.nil ?_
  refine WP.seq ?_
  refine WP.region ?_
  refine RW.loadN ttok rfl rfl rfl rfl rfl ((hS28.bring 1 rfl).box) rfl rfl rfl ?_
  refine RW.run ttok 1 rfl ?_
  obtain ⟨r29, hx30, hm⟩ := bind_some hm
  refine RW.call rfl rfl rfl enters21 (laws_szPool_ok (ty57.ext hS28.ext h0_) hx30) (fun v31 w32 hR33 => ?_)
  obtain ⟨rfl, hR34⟩ := hR33
  have hS35 := hS28.join hR34
  refine RW.run ttok 1 rfl ?_
  refine RW.nil ?_
  refine WP.seq ?_
  refine WP.seq ?_
  refine WP.region ?_
  refine RW.run ttok 2 rfl ?_
  refine RW.nil ?_
  refine WP.cond (decide (r29 < 0)) rfl (fun hc => ?_) (fun hc => ?_)
  · skip
    rw [if_pos hc] at hm
    refine WP.seq ?_
    refine WP.region ?_
    refine RW.run ttok 1 rfl ?_
    refine RW.nil ?_
    refine WP.ret ?_
    cases hm
    exact ⟨_, .cons (.tmp rfl) .nil, rfl, (hS35.taken 0)⟩
  · skip
    rw [if_neg (not_t hc)] at hm
    refine WP.skip ?_
    refine WP.seq ?_
    refine WP.region ?_
    refine RW.loadN ttok rfl rfl rfl rfl rfl ((hS35.bring 0 rfl).box) rfl rfl rfl ?_
    refine RW.run ttok 1 rfl ?_
    obtain ⟨r36, hx37, hm⟩ := bind_some hm
    refine RW.call rfl rfl rfl enters21 (laws_szPool_ok (ty57.ext hS35.ext h1_) hx37) (fun v38 w39 hR40 => ?_)
    obtain ⟨rfl, hR41⟩ := hR40
    have hS42 := hS35.join hR41
    refine RW.run ttok 1 rfl ?_
    refine RW.nil ?_
    refine WP.seq ?_
    refine WP.seq ?_
    refine WP.region ?_
    refine RW.run ttok 2 rfl ?_
    refine RW.nil ?_
    refine WP.cond (decide (r36 < 0)) rfl (fun hc => ?_) (fun hc => ?_)
    · skip
      rw [if_pos hc] at hm
      refine WP.seq ?_
      refine WP.region ?_
      refine RW.run ttok 1 rfl ?_
      refine RW.nil ?_
      refine WP.ret ?_
      cases hm
      exact ⟨_, .cons (.tmp rfl) .nil, rfl, (hS42.taken 0)⟩
    · skip
      rw [if_neg (not_t hc)] at hm
      refine WP.skip ?_
      refine WP.seq ?_
      refine WP.drawnM 0 mixed 6 (by kernel_rfl) (by kernel_rfl) [([], 63), ([0], 62), ([], 63), ([2, 1], 59), ([1, 3, 3], 53), ([4, 4, 0, 1, 2, 3, 4], 47)] (by kernel_rfl) (fun hsk43 => ?_)
      have hS44 := hS42.step (Ext.draw _)
      refine DM.loadN ttok hsk43 0 1 (by kernel_rfl) (by kernel_rfl) (by kernel_rfl) (by kernel_rfl) rfl (by kernel_rfl) rfl rfl rfl rfl rfl ((hS42.bring 1 rfl).box) rfl rfl rfl ?_
      refine DM.loadN ttok hsk43 2 5 (by kernel_rfl) (by kernel_rfl) (by kernel_rfl) (by kernel_rfl) rfl (by kernel_rfl) rfl rfl rfl rfl rfl ((hS42.bring 0 rfl).box) rfl rfl rfl ?_
      obtain ⟨r45, hx46, hm⟩ := bind_some hm
      refine DM.one hsk43 1 (by kernel_rfl) (LM.call hsk43 7 (by kernel_rfl) (by kernel_rfl) rfl rfl rfl rfl enters23 (laws_toPool_ok (ty57.ext hS44.ext h0_) hx46) (fun v47 w48 hR49 => ?_))
      obtain ⟨A50, k51, A52, k53, A54, k55, rfl, hR56⟩ := hR49
      refine ⟨hR56.ext, ?_⟩
      have hS57 := hS44.join hR56
      obtain ⟨r58, hx59, hm⟩ := bind_some hm
      refine DM.one hsk43 3 (by kernel_rfl) (LM.call hsk43 15 (by kernel_rfl) (by kernel_rfl) rfl rfl rfl rfl enters23 (laws_toPool_ok (ty57.ext hS57.ext h1_) hx59) (fun v60 w61 hR62 => ?_))
      obtain ⟨A63, k64, A65, k66, A67, k68, rfl, hR69⟩ := hR62
      refine ⟨hR69.ext, ?_⟩
      have hS70 := hS57.join hR69
      obtain ⟨r71, hx72, hm⟩ := bind_some hm
      refine DM.one hsk43 4 (by kernel_rfl) (LM.call hsk43 31 (by kernel_rfl) (by kernel_rfl) rfl rfl rfl rfl enters22 (spec_SamePool_ok (ty67_shut r45 ((hS70.bring 3 rfl).own) ((hS70.bring 4 rfl).own) ((hS70.bring 5 rfl).own)) (ty67_shut r58 ((hS70.bring 0 rfl).own) ((hS70.bring 1 rfl).own) ((hS70.bring 2 rfl).own)) hx72) (fun v73 w74 hR75 => ?_))
      obtain ⟨rfl, hR76⟩ := hR75
      refine ⟨hR76.ext, ?_⟩
      have hS77 := hS70.join hR76
      refine DM.run (fuel := 0) ttok hsk43 [5] 63 (by kernel_rfl) (by kernel_rfl) rfl ?_
      refine DM.weak [(2, .pointer (some ⟨g21, 0, none⟩)), (3, .pointer (some ⟨g25, 0, none⟩)), (6, .bool r71)] ⟨rfl, rfl, rfl, trivial⟩ ?_
      refine DM.done hsk43 (by kernel_rfl) ?_
      refine WP.seq ?_
      refine WP.region ?_
      refine RW.loadN ttok rfl rfl rfl rfl rfl ((hS77.bring 7 rfl).box) rfl rfl rfl ?_
      obtain ⟨r78, hx79, hm⟩ := bind_some hm
      refine RW.call rfl rfl rfl enters23 (laws_toPool_ok (ty57.ext hS77.ext h0_) hx79) (fun v80 w81 hR82 => ?_)
      obtain ⟨A83, k84, A85, k86, A87, k88, rfl, hR89⟩ := hR82
      have hS90 := hS77.join hR89
      refine RW.new ttok hS90 rfl rfl rfl rfl (fun g91 w92 e93 hS94 => ?_)
      have hS95 := hS94.bring 0 rfl
      refine RW.store ttok (A := []) hS95 rfl rfl rfl rfl rfl 0 rfl rfl rfl rfl rfl (fun w96 hS97 => ?_)
      refine RW.nil ?_
      refine WP.seq ?_
      refine WP.region ?_
      refine RW.loadN ttok rfl rfl rfl rfl rfl ((hS97.bring 10 rfl).box) rfl rfl rfl ?_
      obtain ⟨r98, hx99, hm⟩ := bind_some hm
      refine RW.call rfl rfl rfl enters23 (laws_toPool_ok (ty57.ext hS97.ext h1_) hx99) (fun v100 w101 hR102 => ?_)
      obtain ⟨A103, k104, A105, k106, A107, k108, rfl, hR109⟩ := hR102
      have hS110 := hS97.join hR109
      refine RW.new ttok hS110 rfl rfl rfl rfl (fun g111 w112 e113 hS114 => ?_)
      have hS115 := hS114.bring 0 rfl
      refine RW.store ttok (A := []) hS115 rfl rfl rfl rfl rfl 0 rfl rfl rfl rfl rfl (fun w116 hS117 => ?_)
      refine RW.nil ?_
      refine WP.seq ?_
      refine WP.region ?_
      refine RW.loadN ttok rfl rfl rfl rfl rfl ((hS117.bring 4 rfl).box) rfl rfl rfl ?_
      refine RW.loadN ttok rfl rfl rfl rfl rfl ((hS117.bring 0 rfl).box) rfl rfl rfl ?_
      obtain ⟨r118, hx119, hm⟩ := bind_some hm
      refine RW.call rfl rfl rfl enters24 (impl_SamePool_ok (ty67_shut r78 ((hS117.bring 5 rfl).own) ((hS117.bring 6 rfl).own) ((hS117.bring 7 rfl).own)) (ty67_shut r98 ((hS117.bring 1 rfl).own) ((hS117.bring 2 rfl).own) ((hS117.bring 3 rfl).own)) hx119) (fun v120 w121 hR122 => ?_)
      obtain ⟨rfl, hR123⟩ := hR122
      have hS124 := hS117.join hR123
      refine RW.run ttok 1 rfl ?_
      refine RW.nil ?_
      refine WP.seq ?_
      refine WP.seq ?_
      refine WP.region ?_
      refine RW.run ttok 3 rfl ?_
      refine RW.nil ?_
      refine WP.cond (!(r118 == r71)) rfl (fun hc => ?_) (fun hc => ?_)
      · skip
        rw [if_pos hc] at hm
        refine WP.seq ?_
        refine WP.region ?_
        refine RW.run ttok 1 rfl ?_
        refine RW.nil ?_
        refine WP.ret ?_
        cases hm
        exact ⟨_, .cons (.tmp rfl) .nil, rfl, (hS124.taken 0)⟩
      · skip
        rw [if_neg (not_t hc)] at hm
        refine WP.skip ?_
        refine WP.seq ?_
        refine WP.seq ?_
        refine WP.drawnM 0 mixed 5 (by kernel_rfl) (by kernel_rfl) [([], 31), ([], 31), ([1], 29), ([0, 2, 2], 26), ([3], 23)] (by kernel_rfl) (fun hsk125 => ?_)
        have hS126 := hS124.step (Ext.draw _)
        refine DM.loadN ttok hsk125 0 1 (by kernel_rfl) (by kernel_rfl) (by kernel_rfl) (by kernel_rfl) rfl (by kernel_rfl) rfl rfl rfl rfl rfl ((hS124.bring 4 rfl).box) rfl rfl rfl ?_
        refine DM.loadN ttok hsk125 1 3 (by kernel_rfl) (by kernel_rfl) (by kernel_rfl) (by kernel_rfl) rfl (by kernel_rfl) rfl rfl rfl rfl rfl ((hS124.bring 15 rfl).box) rfl rfl rfl ?_
        obtain ⟨r127, hx128, hm⟩ := bind_some hm
        refine DM.one hsk125 2 (by kernel_rfl) (LM.call hsk125 7 (by kernel_rfl) (by kernel_rfl) rfl rfl rfl rfl enters23 (laws_toPool_ok (ty57.ext hS126.ext h0_) hx128) (fun v129 w130 hR131 => ?_))
        obtain ⟨A132, k133, A134, k135, A136, k137, rfl, hR138⟩ := hR131
        refine ⟨hR138.ext, ?_⟩
        have hS139 := hS126.join hR138
        obtain ⟨r140, hx141, hm⟩ := bind_some hm
        refine DM.one hsk125 3 (by kernel_rfl) (LM.call hsk125 15 (by kernel_rfl) (by kernel_rfl) rfl rfl rfl rfl enters25 (laws_eqPool_ok (ty67_shut r78 ((hS139.bring 8 rfl).own) ((hS139.bring 9 rfl).own) ((hS139.bring 10 rfl).own)) (ty67_shut r127 ((hS139.bring 0 rfl).own) ((hS139.bring 1 rfl).own) ((hS139.bring 2 rfl).own)) hx141) (fun v142 w143 hR144 => ?_))
        obtain ⟨rfl, hR145⟩ := hR144
        refine ⟨hR145.ext, ?_⟩
        have hS146 := hS139.join hR145
        refine DM.run (fuel := 0) ttok hsk125 [4] 31 (by kernel_rfl) (by kernel_rfl) rfl ?_
        refine DM.weak [(3, .pointer (some ⟨g25, 0, none⟩)), (8, .pointer (some ⟨g111, 0, none⟩)), (39, .bool (!r140))] ⟨rfl, rfl, rfl, trivial⟩ ?_
        refine DM.done hsk125 (by kernel_rfl) ?_
        refine WP.cond (!r140) rfl (fun hc => ?_) (fun hc => ?_)
        · skip
          rw [if_pos hc] at hm
          refine WP.seq ?_
          refine WP.region ?_
          refine RW.run ttok 1 rfl ?_
          refine RW.nil ?_
          refine WP.ret ?_
          cases hm
          exact ⟨_, .cons (.tmp rfl) .nil, rfl, (hS146.taken 0)⟩
        · skip
          rw [if_neg (not_t hc)] at hm
          refine WP.skip ?_
          refine WP.seq ?_
          refine WP.seq ?_
          refine WP.drawnM 0 mixed 5 (by kernel_rfl) (by kernel_rfl) [([], 31), ([], 31), ([1], 29), ([0, 2, 2], 26), ([3], 23)] (by kernel_rfl) (fun hsk147 => ?_)
          have hS148 := hS146.step (Ext.draw _)
          refine DM.loadN ttok hsk147 0 1 (by kernel_rfl) (by kernel_rfl) (by kernel_rfl) (by kernel_rfl) rfl (by kernel_rfl) rfl rfl rfl rfl rfl ((hS146.bring 3 rfl).box) rfl rfl rfl ?_
          refine DM.loadN ttok hsk147 1 3 (by kernel_rfl) (by kernel_rfl) (by kernel_rfl) (by kernel_rfl) rfl (by kernel_rfl) rfl rfl rfl rfl rfl ((hS146.bring 17 rfl).box) rfl rfl rfl ?_
          obtain ⟨r149, hx150, hm⟩ := bind_some hm
          refine DM.one hsk147 2 (by kernel_rfl) (LM.call hsk147 7 (by kernel_rfl) (by kernel_rfl) rfl rfl rfl rfl enters23 (laws_toPool_ok (ty57.ext hS148.ext h1_) hx150) (fun v151 w152 hR153 => ?_))
          obtain ⟨A154, k155, A156, k157, A158, k159, rfl, hR160⟩ := hR153
          refine ⟨hR160.ext, ?_⟩
          have hS161 := hS148.join hR160
          obtain ⟨r162, hx163, hm⟩ := bind_some hm
          refine DM.one hsk147 3 (by kernel_rfl) (LM.call hsk147 15 (by kernel_rfl) (by kernel_rfl) rfl rfl rfl rfl enters25 (laws_eqPool_ok (ty67_shut r98 ((hS161.bring 7 rfl).own) ((hS161.bring 8 rfl).own) ((hS161.bring 9 rfl).own)) (ty67_shut r149 ((hS161.bring 0 rfl).own) ((hS161.bring 1 rfl).own) ((hS161.bring 2 rfl).own)) hx163) (fun v164 w165 hR166 => ?_))
          obtain ⟨rfl, hR167⟩ := hR166
          refine ⟨hR167.ext, ?_⟩
          have hS168 := hS161.join hR167
          refine DM.run (fuel := 0) ttok hsk147 [4] 31 (by kernel_rfl) (by kernel_rfl) rfl ?_
          refine DM.weak [(44, .bool (!r162))] ⟨rfl, trivial⟩ ?_
          refine DM.done hsk147 (by kernel_rfl) ?_
          refine WP.cond (!r162) rfl (fun hc => ?_) (fun hc => ?_)
          · skip
            rw [if_pos hc] at hm
            refine WP.seq ?_
            refine WP.region ?_
            refine RW.run ttok 1 rfl ?_
            refine RW.nil ?_
            refine WP.ret ?_
            cases hm
            exact ⟨_, .cons (.tmp rfl) .nil, rfl, (hS168.taken 0)⟩
          · skip
            rw [if_neg (not_t hc)] at hm
            refine WP.skip ?_
            refine WP.seq ?_
            refine WP.region ?_
            refine RW.run ttok 1 rfl ?_
            refine RW.nil ?_
            refine WP.ret ?_
            cases hm
            exact ⟨_, .cons (.tmp rfl) .nil, rfl, (hS168.taken 0)⟩

end Go.E
