/- Models of functions and proofs that the code runs as they say (written by program). Conditions: the model gives a value. -/
import Derived.Test.YtlgkoadccodcaaaFVb
namespace Go.E
open Go.RowKit Go.Proofs
set_option linter.unusedVariables false
set_option linter.unusedSimpArgs false
set_option maxHeartbeats 2000000

theorem enters190 : Enters Try.prog 190 := ⟨_, _, Try.func190, rfl, by kernel_rfl⟩
def m_laws_eqPair (fuel : Nat) (x0 : D.Pair) (x1 : D.Pair) : Option (Bool) := (if (x0.A != x1.A) = true then some false else (if (x0.B != x1.B) = true then some false else some true))

set_option maxRecDepth 100000 in
theorem laws_eqPair_ok {W w : World} (hE : Ext W w) {c0_ : List Value} {x0 : D.Pair} {c1_ : List Value} {x1 : D.Pair} (h0_ : ty173.ro W c0_ x0) (h1_ : ty173.ro W c1_ x1) {fuel : Nat} {r : Bool} (hm : m_laws_eqPair fuel x0 x1 = some r) :
    Calls Try.prog 190 ⟨[.agg ⟨c0_⟩, .agg ⟨c1_⟩]⟩ w (Ret fun v w8 => v = .bool r ∧ St w w8 []) := by
  have e1 := ty173_open h0_; subst e1
  have e2 := ty173_open h1_; subst e2
  refine Calls.into Try.func190 rfl 15 rfl rfl _ rfl ?_
  unfold m_laws_eqPair at hm
  have hS := St.start w
  refine WP.seq ?_
  refine WP.region ?_
  refine RW.new ttok hS rfl rfl rfl rfl (fun g3 w4 e5 hS6 => ?_)
  refine RW.new ttok hS6 rfl rfl rfl rfl (fun g7 w10 e11 hS12 => ?_)
  refine RW.run ttok 1 rfl ?_
  refine RW.nil ?_
  refine WP.seq ?_
  refine WP.seq ?_
  refine WP.region ?_
  refine RW.run ttok 1 rfl ?_
  refine RW.load1 ttok rfl rfl rfl rfl rfl ((hS12.bring 1 rfl).box) 0 rfl rfl rfl rfl ?_
  refine RW.run ttok 1 rfl ?_
  refine RW.load1 ttok rfl rfl rfl rfl rfl ((hS12.bring 0 rfl).box) 0 rfl rfl rfl rfl ?_
  refine RW.run ttok 1 rfl ?_
  refine RW.nil ?_
  refine WP.cond (x0.A != x1.A) rfl (fun hc => ?_) (fun hc => ?_)
  · skip
    rw [if_pos hc] at hm
    refine WP.seq ?_
    refine WP.region ?_
    refine RW.run ttok 1 rfl ?_
    refine RW.nil ?_
    refine WP.ret ?_
    cases hm
    exact ⟨_, .cons (.tmp rfl) .nil, rfl, (hS12.taken 0)⟩
  · skip
    rw [if_neg (not_t hc)] at hm
    refine WP.skip ?_
    refine WP.seq ?_
    refine WP.seq ?_
    refine WP.region ?_
    refine RW.run ttok 1 rfl ?_
    refine RW.load1 ttok rfl rfl rfl rfl rfl ((hS12.bring 1 rfl).box) 1 rfl rfl rfl rfl ?_
    refine RW.run ttok 1 rfl ?_
    refine RW.load1 ttok rfl rfl rfl rfl rfl ((hS12.bring 0 rfl).box) 1 rfl rfl rfl rfl ?_
    refine RW.run ttok 1 rfl ?_
    refine RW.nil ?_
    refine WP.cond (x0.B != x1.B) rfl (fun hc => ?_) (fun hc => ?_)
    · skip
      rw [if_pos hc] at hm
      refine WP.seq ?_
      refine WP.region ?_
      refine RW.run ttok 1 rfl ?_
      refine RW.nil ?_
      refine WP.ret ?_
      cases hm
      exact ⟨_, .cons (.tmp rfl) .nil, rfl, (hS12.taken 0)⟩
    · skip
      rw [if_neg (not_t hc)] at hm
      refine WP.skip ?_
      refine WP.seq ?_
      refine WP.region ?_
      refine RW.run ttok 1 rfl ?_
      refine RW.nil ?_
      refine WP.ret ?_
      cases hm
      exact ⟨_, .cons (.tmp rfl) .nil, rfl, (hS12.taken 0)⟩

theorem enters123 : Enters Try.prog 123 := ⟨_, _, Try.func123, rfl, by kernel_rfl⟩
def m_laws_eqPairS_j1 (fuel : Nat) (t2 : Unit) : Option Bool := some true
def m_laws_eqPairS_b1 (fuel : Nat) (x0 : (List D.Pair)) (x1 : (List D.Pair)) (s1 : Int) : Option (Rd (Int) (Unit) (Bool)) := (if (decide (s1 < (x0.length : Int))) = true then ((idx x0 s1).bind fun x21 => ((idx x1 s1).bind fun x28 => ((m_laws_eqPair fuel x21 x28).bind fun r35 => (if (!r35) = true then some (.ret false) else some (.next (w64 (s1 + 1))))))) else some (.brk ()))
def m_laws_eqPairS (fuel : Nat) (x0 : (List D.Pair)) (x1 : (List D.Pair)) : Option (Bool) := (if ((x0.length : Int) != (x1.length : Int)) = true then some false else ((iter (m_laws_eqPairS_b1 fuel x0 x1) fuel 0).bind fun o => aft o (m_laws_eqPairS_j1 fuel)))

set_option maxRecDepth 100000 in
theorem laws_eqPairS_ok {W w : World} (hE : Ext W w) {A0_ : Option Addr} {k0_ : Nat} {x0 : (List D.Pair)} {A1_ : Option Addr} {k1_ : Nat} {x1 : (List D.Pair)} (h0_ : ty93.ro W [.slice A0_ x0.length k0_] x0) (h1_ : ty93.ro W [.slice A1_ x1.length k1_] x1) {fuel : Nat} {r : Bool} (hm : m_laws_eqPairS fuel x0 x1 = some r) :
    Calls Try.prog 123 ⟨[.slice A0_ x0.length k0_, .slice A1_ x1.length k1_]⟩ w (Ret fun v w8 => v = .bool r ∧ St w w8 []) := by
  refine Calls.into Try.func123 rfl 27 rfl rfl _ rfl ?_
  unfold m_laws_eqPairS at hm
  have hS := St.start w
  refine WP.seq ?_
  refine WP.region ?_
  refine RW.run ttok 1 rfl ?_
  refine RW.nil ?_
  refine WP.seq ?_
  refine WP.seq ?_
  refine WP.region ?_
  refine RW.run ttok 5 rfl ?_
  refine RW.nil ?_
  refine WP.cond ((x0.length : Int) != (x1.length : Int)) rfl (fun hc => ?_) (fun hc => ?_)
  · skip
    rw [if_pos hc] at hm
    refine WP.seq ?_
    refine WP.region ?_
    refine RW.run ttok 1 rfl ?_
    refine RW.nil ?_
    refine WP.ret ?_
    cases hm
    exact ⟨_, .cons (.tmp rfl) .nil, rfl, hS⟩
  · skip
    rw [if_neg (not_t hc)] at hm
    refine WP.skip ?_
    refine WP.seq ?_
    refine WP.seq ?_
    refine WP.region ?_
    refine RW.run ttok 1 rfl ?_
    refine RW.nil ?_
    obtain ⟨o10, hl11, hm⟩ := bind_some hm
    refine WP.cut (fun (t2 : Unit) F w9 => o10 = .inl t2 ∧ Ext w w9 ∧ St w w9 [] ∧ F = []) ?_ ?_
    · skip
      rintro t2 F w7 ⟨ho13, hE6, hS12, rfl⟩
      subst ho13
      rw [aft_inl] at hm
      unfold m_laws_eqPairS_j1 at hm
      refine WP.seq ?_
      refine WP.region ?_
      refine RW.run ttok 1 rfl ?_
      refine RW.nil ?_
      refine WP.ret ?_
      cases hm
      exact ⟨_, .cons (.tmp rfl) .nil, rfl, hS12⟩
    · skip
      refine WP.block ?_
      refine WP.weak [(0, .slice A0_ x0.length k0_), (1, .slice A1_ x1.length k1_), (5, .int .i64 0)] ⟨rfl, rfl, rfl, trivial⟩ ?_
      refine WP.iter (fun (s1 : Int) F w9 => Ext w w9 ∧ St w w9 [] ∧ F = [(0, .slice A0_ x0.length k0_), (1, .slice A1_ x1.length k1_), (5, .int .i64 s1)]) _ hl11 ⟨(Ext.refl _), hS, rfl⟩ ?_
      rintro s1 F w18 _ o16 ⟨hE5, hS17, rfl⟩ hb14 ho15
      unfold m_laws_eqPairS_b1 at hb14
      refine WP.seq ?_
      refine WP.seq ?_
      refine WP.region ?_
      refine RW.run ttok 4 rfl ?_
      refine RW.nil ?_
      refine WP.cond (decide (s1 < (x0.length : Int))) rfl (fun hc => ?_) (fun hc => ?_)
      · skip
        rw [if_pos hc] at hb14
        refine WP.skip ?_
        refine WP.seq ?_
        refine WP.block ?_
        refine WP.seq ?_
        refine WP.drawnM 0 mixed 10 (by kernel_rfl) (by kernel_rfl) [([], 1023), ([], 1023), ([0, 1], 1020), ([2], 1019), ([], 1023), ([], 1023), ([4, 5], 975), ([6], 959), ([3, 7], 887), ([8], 767)] (by kernel_rfl) (fun hsk19 => ?_)
        have hS20 := hS17.step (Ext.draw _)
        refine DM.run (fuel := 6) ttok hsk19 [0, 1, 4, 5] 51 (by kernel_rfl) (by kernel_rfl) rfl ?_
        obtain ⟨x21, hx22, hb14⟩ := bind_some hb14
        refine DM.idx ttok (hE.trans hS17.ext) hsk19 2 55 (by kernel_rfl) (by kernel_rfl) (by kernel_rfl) (by kernel_rfl) rfl (by kernel_rfl) rfl rfl rfl rfl rfl rfl (by decide) rfl rfl h0_ (idx_some hx22).1 (idx_some hx22).2 rfl rfl (fun p23 es24 ha25 hr26 => ?_)
        have e27 := ty173_open hr26; subst e27
        refine DM.loadN ttok hsk19 3 63 (by kernel_rfl) (by kernel_rfl) (by kernel_rfl) (by kernel_rfl) rfl (by kernel_rfl) rfl rfl rfl rfl rfl (At.ext (hE.trans hS17.ext) ha25) rfl rfl rfl ?_
        obtain ⟨x28, hx29, hb14⟩ := bind_some hb14
        refine DM.idx ttok (hE.trans hS17.ext) hsk19 6 127 (by kernel_rfl) (by kernel_rfl) (by kernel_rfl) (by kernel_rfl) rfl (by kernel_rfl) rfl rfl rfl rfl rfl rfl (by decide) rfl rfl h1_ (idx_some hx29).1 (idx_some hx29).2 rfl rfl (fun p30 es31 ha32 hr33 => ?_)
        have e34 := ty173_open hr33; subst e34
        refine DM.loadN ttok hsk19 7 255 (by kernel_rfl) (by kernel_rfl) (by kernel_rfl) (by kernel_rfl) rfl (by kernel_rfl) rfl rfl rfl rfl rfl (At.ext (hE.trans hS17.ext) ha32) rfl rfl rfl ?_
        obtain ⟨r35, hx36, hb14⟩ := bind_some hb14
        refine DM.one hsk19 8 (by kernel_rfl) (LM.call hsk19 511 (by kernel_rfl) (by kernel_rfl) rfl rfl rfl rfl enters190 (laws_eqPair_ok (hE.trans hS20.ext) hr26 hr33 hx36) (fun v37 w38 hR39 => ?_))
        obtain ⟨rfl, hR40⟩ := hR39
        refine ⟨hR40.ext, ?_⟩
        have hS41 := hS20.join hR40
        refine DM.run (fuel := 0) ttok hsk19 [9] 1023 (by kernel_rfl) (by kernel_rfl) rfl ?_
        refine DM.weak [(0, .slice A0_ x0.length k0_), (1, .slice A1_ x1.length k1_), (5, .int .i64 s1), (26, .bool (!r35))] ⟨rfl, rfl, rfl, rfl, trivial⟩ ?_
        refine DM.done hsk19 (by kernel_rfl) ?_
        refine WP.cond (!r35) rfl (fun hc => ?_) (fun hc => ?_)
        · skip
          rw [if_pos hc] at hb14
          refine WP.seq ?_
          refine WP.region ?_
          refine RW.run ttok 1 rfl ?_
          refine RW.nil ?_
          refine WP.ret ?_
          cases hb14
          cases ho15
          have hm : some _ = some _ := hm
          cases hm
          exact ⟨_, .cons (.tmp rfl) .nil, rfl, hS41⟩
        · skip
          rw [if_neg (not_t hc)] at hb14
          refine WP.skip ?_
          refine WP.region ?_
          refine RW.run ttok 3 rfl ?_
          refine RW.nil ?_
          cases hb14
          exact ⟨_, [(0, .slice A0_ x0.length k0_), (1, .slice A1_ x1.length k1_), (5, .int .i64 (w64 (s1 + 1)))], ⟨rfl, rfl, rfl, trivial⟩, rfl, ((hE5.trans (Ext.draw _)).trans hR40.ext), hS41, rfl⟩
      · skip
        rw [if_neg (not_t hc)] at hb14
        refine WP.exit ?_
        cases hb14
        exact ⟨_, [], trivial, ho15, hE5, hS17, rfl⟩

theorem enters58 : Enters Try.prog 58 := ⟨_, _, Try.func58, rfl, by kernel_rfl⟩
def m_laws_eqMemory (fuel : Nat) (x0 : D.Memory) (x1 : D.Memory) : Option (Bool) := ((m_laws_eqCellS fuel x0.Cells x1.Cells).bind fun r25 => (if (!r25) = true then some false else (if (x0.Free != x1.Free) = true then some false else ((m_laws_eqWord fuel x0.Root x1.Root).bind fun r32 => (if (!r32) = true then some false else ((m_laws_eqPairS fuel x0.Redexes x1.Redexes).bind fun r39 => (if (!r39) = true then some false else some true)))))))

set_option maxRecDepth 100000 in
theorem laws_eqMemory_ok {W w : World} (hE : Ext W w) {c0_ : List Value} {x0 : D.Memory} {c1_ : List Value} {x1 : D.Memory} (h0_ : ty95.ro W c0_ x0) (h1_ : ty95.ro W c1_ x1) {fuel : Nat} {r : Bool} (hm : m_laws_eqMemory fuel x0 x1 = some r) :
    Calls Try.prog 58 ⟨[.agg ⟨c0_⟩, .agg ⟨c1_⟩]⟩ w (Ret fun v w8 => v = .bool r ∧ St w w8 []) := by
  obtain ⟨A1, k2, A4, k5, e7, h3, h6⟩ := ty95_open h0_; subst e7
  obtain ⟨A10, k11, A13, k14, e16, h12, h15⟩ := ty95_open h1_; subst e16
  refine Calls.into Try.func58 rfl 28 rfl rfl _ rfl ?_
  unfold m_laws_eqMemory at hm
  have hS := St.start w
  refine WP.seq ?_
  refine WP.region ?_
  refine RW.new ttok hS rfl rfl rfl rfl (fun g17 w18 e19 hS20 => ?_)
  refine RW.new ttok hS20 rfl rfl rfl rfl (fun g21 w22 e23 hS24 => ?_)
  refine RW.run ttok 1 rfl ?_
  refine RW.nil ?_
  refine WP.seq ?_
  refine WP.seq ?_
  refine WP.region ?_
  refine RW.run ttok 1 rfl ?_
  refine RW.load1 ttok rfl rfl rfl rfl rfl ((hS24.bring 1 rfl).box) 0 rfl rfl rfl rfl ?_
  refine RW.run ttok 1 rfl ?_
  refine RW.load1 ttok rfl rfl rfl rfl rfl ((hS24.bring 0 rfl).box) 0 rfl rfl rfl rfl ?_
  obtain ⟨r25, hx26, hm⟩ := bind_some hm
  refine RW.call rfl rfl rfl enters122 (laws_eqCellS_ok (hE.trans hS24.ext) h3 h12 hx26) (fun v27 w28 hR29 => ?_)
  obtain ⟨rfl, hR30⟩ := hR29
  have hS31 := hS24.join hR30
  refine RW.run ttok 1 rfl ?_
  refine RW.nil ?_
  refine WP.cond (!r25) rfl (fun hc => ?_) (fun hc => ?_)
  · skip
    rw [if_pos hc] at hm
    refine WP.seq ?_
    refine WP.region ?_
    refine RW.run ttok 1 rfl ?_
    refine RW.nil ?_
    refine WP.ret ?_
    cases hm
    exact ⟨_, .cons (.tmp rfl) .nil, rfl, (hS31.taken 0)⟩
  · skip
    rw [if_neg (not_t hc)] at hm
    refine WP.skip ?_
    refine WP.seq ?_
    refine WP.seq ?_
    refine WP.region ?_
    refine RW.run ttok 1 rfl ?_
    refine RW.load1 ttok rfl rfl rfl rfl rfl ((hS31.bring 1 rfl).box) 1 rfl rfl rfl rfl ?_
    refine RW.run ttok 1 rfl ?_
    refine RW.load1 ttok rfl rfl rfl rfl rfl ((hS31.bring 0 rfl).box) 1 rfl rfl rfl rfl ?_
    refine RW.run ttok 1 rfl ?_
    refine RW.nil ?_
    refine WP.cond (x0.Free != x1.Free) rfl (fun hc => ?_) (fun hc => ?_)
    · skip
      rw [if_pos hc] at hm
      refine WP.seq ?_
      refine WP.region ?_
      refine RW.run ttok 1 rfl ?_
      refine RW.nil ?_
      refine WP.ret ?_
      cases hm
      exact ⟨_, .cons (.tmp rfl) .nil, rfl, (hS31.taken 0)⟩
    · skip
      rw [if_neg (not_t hc)] at hm
      refine WP.skip ?_
      refine WP.seq ?_
      refine WP.seq ?_
      refine WP.region ?_
      refine RW.run ttok 1 rfl ?_
      refine RW.loadN ttok rfl rfl rfl rfl rfl (At.sub ((hS31.bring 1 rfl).box) 2 2) rfl rfl rfl ?_
      refine RW.run ttok 1 rfl ?_
      refine RW.loadN ttok rfl rfl rfl rfl rfl (At.sub ((hS31.bring 0 rfl).box) 2 2) rfl rfl rfl ?_
      obtain ⟨r32, hx33, hm⟩ := bind_some hm
      refine RW.call rfl rfl rfl enters62 (laws_eqWord_ok (hE.trans hS31.ext) (ty92_shut x0.Root) (ty92_shut x1.Root) hx33) (fun v34 w35 hR36 => ?_)
      obtain ⟨rfl, hR37⟩ := hR36
      have hS38 := hS31.join hR37
      refine RW.run ttok 1 rfl ?_
      refine RW.nil ?_
      refine WP.cond (!r32) rfl (fun hc => ?_) (fun hc => ?_)
      · skip
        rw [if_pos hc] at hm
        refine WP.seq ?_
        refine WP.region ?_
        refine RW.run ttok 1 rfl ?_
        refine RW.nil ?_
        refine WP.ret ?_
        cases hm
        exact ⟨_, .cons (.tmp rfl) .nil, rfl, (hS38.taken 0)⟩
      · skip
        rw [if_neg (not_t hc)] at hm
        refine WP.skip ?_
        refine WP.seq ?_
        refine WP.seq ?_
        refine WP.region ?_
        refine RW.run ttok 1 rfl ?_
        refine RW.load1 ttok rfl rfl rfl rfl rfl ((hS38.bring 1 rfl).box) 4 rfl rfl rfl rfl ?_
        refine RW.run ttok 1 rfl ?_
        refine RW.load1 ttok rfl rfl rfl rfl rfl ((hS38.bring 0 rfl).box) 4 rfl rfl rfl rfl ?_
        obtain ⟨r39, hx40, hm⟩ := bind_some hm
        refine RW.call rfl rfl rfl enters123 (laws_eqPairS_ok (hE.trans hS38.ext) h6 h15 hx40) (fun v41 w42 hR43 => ?_)
        obtain ⟨rfl, hR44⟩ := hR43
        have hS45 := hS38.join hR44
        refine RW.run ttok 1 rfl ?_
        refine RW.nil ?_
        refine WP.cond (!r39) rfl (fun hc => ?_) (fun hc => ?_)
        · skip
          rw [if_pos hc] at hm
          refine WP.seq ?_
          refine WP.region ?_
          refine RW.run ttok 1 rfl ?_
          refine RW.nil ?_
          refine WP.ret ?_
          cases hm
          exact ⟨_, .cons (.tmp rfl) .nil, rfl, (hS45.taken 0)⟩
        · skip
          rw [if_neg (not_t hc)] at hm
          refine WP.skip ?_
          refine WP.seq ?_
          refine WP.region ?_
          refine RW.run ttok 1 rfl ?_
          refine RW.nil ?_
          refine WP.ret ?_
          cases hm
          exact ⟨_, .cons (.tmp rfl) .nil, rfl, (hS45.taken 0)⟩

theorem enters11 : Enters Try.prog 11 := ⟨_, _, Try.func11, rfl, by kernel_rfl⟩
def m_laws_FnExactValidMemory (fuel : Nat) (x0 : D.Memory) : Option (Bool) := ((m_laws_szMemory fuel x0 1048576).bind fun r14 => (if (decide (r14 < 0)) = true then some true else ((m_laws_toMemory fuel x0).bind fun r21 => ((m_spec_ValidMemory fuel r21).bind fun r32 => ((m_laws_toMemory fuel x0).bind fun r39 => ((m_impl_ValidMemory fuel r39).bind fun r57 => (if (!(r57 == r32)) = true then some false else ((m_laws_toMemory fuel x0).bind fun r67 => ((m_laws_eqMemory fuel r39 r67).bind fun r78 => (if (!r78) = true then some false else some true))))))))))

set_option maxRecDepth 100000 in
theorem laws_FnExactValidMemory_ok {W w : World} (hE : Ext W w) {c0_ : List Value} {x0 : D.Memory} (h0_ : ty88.ro W c0_ x0) {fuel : Nat} {r : Bool} (hm : m_laws_FnExactValidMemory fuel x0 = some r) :
    Calls Try.prog 11 ⟨[.agg ⟨c0_⟩]⟩ w (Ret fun v w8 => v = .bool r ∧ St w w8 []) := by
  obtain ⟨A1, k2, A4, k5, e7, h3, h6⟩ := ty88_open h0_; subst e7
  refine Calls.into Try.func11 rfl 27 rfl rfl _ rfl ?_
  unfold m_laws_FnExactValidMemory at hm
  have hS := St.start w
  refine WP.seq ?_
  refine WP.region ?_
  refine RW.new ttok hS rfl rfl rfl rfl (fun g10 w11 e12 hS13 => ?_)
  refine RW.run ttok 1 rfl ?_
  refine RW.nil ?_
  refine WP.seq ?_
  refine WP.region ?_
  refine RW.run ttok 1 rfl ?_
  refine RW.nil ?_
  refine WP.seq ?_
  refine WP.region ?_
  refine RW.loadN ttok rfl rfl rfl rfl rfl ((hS13.bring 0 rfl).box) rfl rfl rfl ?_
  refine RW.run ttok 1 rfl ?_
  obtain ⟨r14, hx15, hm⟩ := bind_some hm
  refine RW.call rfl rfl rfl enters54 (laws_szMemory_ok (hE.trans hS13.ext) h0_ hx15) (fun v16 w17 hR18 => ?_)
  obtain ⟨rfl, hR19⟩ := hR18
  have hS20 := hS13.join hR19
  refine RW.run ttok 1 rfl ?_
  refine RW.nil ?_
  refine WP.seq ?_
  refine WP.seq ?_
  refine WP.region ?_
  refine RW.run ttok 2 rfl ?_
  refine RW.nil ?_
  refine WP.cond (decide (r14 < 0)) rfl (fun hc => ?_) (fun hc => ?_)
  · skip
    rw [if_pos hc] at hm
    refine WP.seq ?_
    refine WP.region ?_
    refine RW.run ttok 1 rfl ?_
    refine RW.nil ?_
    refine WP.ret ?_
    cases hm
    exact ⟨_, .cons (.tmp rfl) .nil, rfl, (hS20.taken 0)⟩
  · skip
    rw [if_neg (not_t hc)] at hm
    refine WP.skip ?_
    refine WP.seq ?_
    refine WP.region ?_
    refine RW.loadN ttok rfl rfl rfl rfl rfl ((hS20.bring 0 rfl).box) rfl rfl rfl ?_
    obtain ⟨r21, hx22, hm⟩ := bind_some hm
    refine RW.call rfl rfl rfl enters56 (laws_toMemory_ok (hE.trans hS20.ext) h0_ hx22) (fun v23 w24 hR25 => ?_)
    obtain ⟨A26, k27, A28, k29, rfl, hR30⟩ := hR25
    have hS31 := hS20.join hR30
    obtain ⟨r32, hx33, hm⟩ := bind_some hm
    refine RW.call rfl rfl rfl enters55 (spec_ValidMemory_ok (Ext.refl _) (ty95_shut r21 ((hS31.bring 0 rfl).own) ((hS31.bring 1 rfl).own)) hx33) (fun v34 w35 hR36 => ?_)
    obtain ⟨rfl, hR37⟩ := hR36
    have hS38 := hS31.join hR37
    refine RW.run ttok 1 rfl ?_
    refine RW.nil ?_
    refine WP.seq ?_
    refine WP.region ?_
    refine RW.loadN ttok rfl rfl rfl rfl rfl ((hS38.bring 2 rfl).box) rfl rfl rfl ?_
    obtain ⟨r39, hx40, hm⟩ := bind_some hm
    refine RW.call rfl rfl rfl enters56 (laws_toMemory_ok (hE.trans hS38.ext) h0_ hx40) (fun v41 w42 hR43 => ?_)
    obtain ⟨A44, k45, A46, k47, rfl, hR48⟩ := hR43
    have hS49 := hS38.join hR48
    refine RW.new ttok hS49 rfl rfl rfl rfl (fun g50 w51 e52 hS53 => ?_)
    have hS54 := hS53.bring 0 rfl
    refine RW.store ttok (A := []) hS54 rfl rfl rfl rfl rfl 0 rfl rfl rfl rfl rfl (fun w55 hS56 => ?_)
    refine RW.nil ?_
    refine WP.seq ?_
    refine WP.region ?_
    refine RW.loadN ttok rfl rfl rfl rfl rfl ((hS56.bring 0 rfl).box) rfl rfl rfl ?_
    obtain ⟨r57, hx58, hm⟩ := bind_some hm
    refine RW.call rfl rfl rfl enters57 (impl_ValidMemory_ok (Ext.refl _) (ty95_shut r39 ((hS56.bring 1 rfl).own) ((hS56.bring 2 rfl).own)) hx58) (fun v59 w60 hR61 => ?_)
    obtain ⟨rfl, hR62⟩ := hR61
    have hS63 := hS56.join hR62
    refine RW.run ttok 1 rfl ?_
    refine RW.nil ?_
    refine WP.seq ?_
    refine WP.seq ?_
    refine WP.region ?_
    refine RW.run ttok 3 rfl ?_
    refine RW.nil ?_
    refine WP.cond (!(r57 == r32)) rfl (fun hc => ?_) (fun hc => ?_)
    · skip
      rw [if_pos hc] at hm
      refine WP.seq ?_
      refine WP.region ?_
      refine RW.run ttok 1 rfl ?_
      refine RW.nil ?_
      refine WP.ret ?_
      cases hm
      exact ⟨_, .cons (.tmp rfl) .nil, rfl, (hS63.taken 0)⟩
    · skip
      rw [if_neg (not_t hc)] at hm
      refine WP.skip ?_
      refine WP.seq ?_
      refine WP.seq ?_
      refine WP.drawnM 0 mixed 5 (by kernel_rfl) (by kernel_rfl) [([], 31), ([], 31), ([1], 29), ([0, 2, 2], 26), ([3], 23)] (by kernel_rfl) (fun hsk65 => ?_)
      have hS66 := hS63.step (Ext.draw _)
      refine DM.loadN ttok hsk65 0 1 (by kernel_rfl) (by kernel_rfl) (by kernel_rfl) (by kernel_rfl) rfl (by kernel_rfl) rfl rfl rfl rfl rfl ((hS63.bring 0 rfl).box) rfl rfl rfl ?_
      refine DM.loadN ttok hsk65 1 3 (by kernel_rfl) (by kernel_rfl) (by kernel_rfl) (by kernel_rfl) rfl (by kernel_rfl) rfl rfl rfl rfl rfl ((hS63.bring 5 rfl).box) rfl rfl rfl ?_
      obtain ⟨r67, hx68, hm⟩ := bind_some hm
      refine DM.one hsk65 2 (by kernel_rfl) (LM.call hsk65 7 (by kernel_rfl) (by kernel_rfl) rfl rfl rfl rfl enters56 (laws_toMemory_ok (hE.trans hS66.ext) h0_ hx68) (fun v69 w70 hR71 => ?_))
      obtain ⟨A72, k73, A74, k75, rfl, hR76⟩ := hR71
      refine ⟨hR76.ext, ?_⟩
      have hS77 := hS66.join hR76
      obtain ⟨r78, hx79, hm⟩ := bind_some hm
      refine DM.one hsk65 3 (by kernel_rfl) (LM.call hsk65 15 (by kernel_rfl) (by kernel_rfl) rfl rfl rfl rfl enters58 (laws_eqMemory_ok (Ext.refl _) (ty95_shut r39 ((hS77.bring 3 rfl).own) ((hS77.bring 4 rfl).own)) (ty95_shut r67 ((hS77.bring 0 rfl).own) ((hS77.bring 1 rfl).own)) hx79) (fun v80 w81 hR82 => ?_))
      obtain ⟨rfl, hR83⟩ := hR82
      refine ⟨hR83.ext, ?_⟩
      have hS84 := hS77.join hR83
      refine DM.run (fuel := 0) ttok hsk65 [4] 31 (by kernel_rfl) (by kernel_rfl) rfl ?_
      refine DM.weak [(26, .bool (!r78))] ⟨rfl, trivial⟩ ?_
      refine DM.done hsk65 (by kernel_rfl) ?_
      refine WP.cond (!r78) rfl (fun hc => ?_) (fun hc => ?_)
      · skip
        rw [if_pos hc] at hm
        refine WP.seq ?_
        refine WP.region ?_
        refine RW.run ttok 1 rfl ?_
        refine RW.nil ?_
        refine WP.ret ?_
        cases hm
        exact ⟨_, .cons (.tmp rfl) .nil, rfl, (hS84.taken 0)⟩
      · skip
        rw [if_neg (not_t hc)] at hm
        refine WP.skip ?_
        refine WP.seq ?_
        refine WP.region ?_
        refine RW.run ttok 1 rfl ?_
        refine RW.nil ?_
        refine WP.ret ?_
        cases hm
        exact ⟨_, .cons (.tmp rfl) .nil, rfl, (hS84.taken 0)⟩

theorem enters63 : Enters Try.prog 63 := ⟨_, _, Try.func63, rfl, by kernel_rfl⟩
def m_spec_CountCells_j1 (fuel : Nat) (x0 : D.Memory) (t22 : Int × Int) : Option (Int × Int × Int × Int) := some (t22.1, t22.2, w64 ((w64 ((x0.Cells.length : Int) - t22.1)) - t22.2), 0)
def m_spec_CountCells_j3 (fuel : Nat) (s21 : Int × Int × Int) (t59 : Int) (t78 : Int) : Option (Rd (Int × Int × Int) (Int × Int) (Int × Int × Int × Int)) := some (.next (t59, t78, w64 (s21.2.2 + 1)))
def m_spec_CountCells_j2 (fuel : Nat) (x0 : D.Memory) (s21 : Int × Int × Int) (t59 : Int) : Option (Rd (Int × Int × Int) (Int × Int) (Int × Int × Int × Int)) := ((idx x0.Cells s21.2.2).bind fun x65 => (if (x65.Kind == 13) = true then m_spec_CountCells_j3 fuel s21 t59 (w64 (s21.2.1 + 1)) else m_spec_CountCells_j3 fuel s21 t59 s21.2.1))
def m_spec_CountCells_b1 (fuel : Nat) (x0 : D.Memory) (s21 : Int × Int × Int) : Option (Rd (Int × Int × Int) (Int × Int) (Int × Int × Int × Int)) := (if (decide (s21.2.2 < (x0.Cells.length : Int))) = true then ((idx x0.Cells s21.2.2).bind fun x39 => ((m_spec_l21IsAgent fuel x39).bind fun r52 => (if r52 = true then m_spec_CountCells_j2 fuel x0 s21 (w64 (s21.1 + 1)) else m_spec_CountCells_j2 fuel x0 s21 s21.1))) else some (.brk (s21.1, s21.2.1)))
def m_spec_CountCells (fuel : Nat) (x0 : D.Memory) : Option (Int × Int × Int × Int) := ((m_spec_l21Ok fuel x0).bind fun r14 => (if (!r14) = true then some (0, 0, 0, 1) else ((iter (m_spec_CountCells_b1 fuel x0) fuel (0, 0, 0)).bind fun o => aft o (m_spec_CountCells_j1 fuel x0))))

set_option maxRecDepth 100000 in
theorem spec_CountCells_ok {W w : World} (hE : Ext W w) {c0_ : List Value} {x0 : D.Memory} (h0_ : ty95.ro W c0_ x0) {fuel : Nat} {r : Int × Int × Int × Int} (hm : m_spec_CountCells fuel x0 = some r) :
    Calls Try.prog 63 ⟨[.agg ⟨c0_⟩]⟩ w (Ret fun v w8 => v = .tuple ⟨[.int .i64 r.1, .int .i64 r.2.1, .int .i64 r.2.2.1, .int .i64 r.2.2.2]⟩ ∧ St w w8 []) := by
  obtain ⟨A1, k2, A4, k5, e7, h3, h6⟩ := ty95_open h0_; subst e7
  refine Calls.into Try.func63 rfl 43 rfl rfl _ rfl ?_
  unfold m_spec_CountCells at hm
  have hS := St.start w
  refine WP.seq ?_
  refine WP.region ?_
  refine RW.new ttok hS rfl rfl rfl rfl (fun g10 w11 e12 hS13 => ?_)
  refine RW.run ttok 4 rfl ?_
  refine RW.nil ?_
  refine WP.seq ?_
  refine WP.seq ?_
  refine WP.region ?_
  obtain ⟨r14, hx15, hm⟩ := bind_some hm
  refine RW.call rfl rfl rfl enters118 (spec_l21Ok_ok (Ext.refl _) (ty95.ext (hE.trans hS13.ext) h0_) ((hS13.bring 0 rfl).box) hx15) (fun v16 w17 hR18 => ?_)
  obtain ⟨rfl, hR19⟩ := hR18
  have hS20 := hS13.join hR19
  refine RW.run ttok 1 rfl ?_
  refine RW.nil ?_
  refine WP.cond (!r14) rfl (fun hc => ?_) (fun hc => ?_)
  · skip
    rw [if_pos hc] at hm
    refine WP.seq ?_
    refine WP.region ?_
    refine RW.run ttok 4 rfl ?_
    refine RW.nil ?_
    refine WP.ret ?_
    cases hm
    exact ⟨_, .cons (.tmp rfl) (.cons (.tmp rfl) (.cons (.tmp rfl) (.cons (.tmp rfl) .nil))), rfl, (hS20.taken 0)⟩
  · skip
    rw [if_neg (not_t hc)] at hm
    refine WP.skip ?_
    refine WP.seq ?_
    refine WP.region ?_
    refine RW.run ttok 1 rfl ?_
    refine RW.nil ?_
    refine WP.seq ?_
    refine WP.region ?_
    refine RW.run ttok 1 rfl ?_
    refine RW.nil ?_
    refine WP.seq ?_
    refine WP.seq ?_
    refine WP.region ?_
    refine RW.run ttok 1 rfl ?_
    refine RW.nil ?_
    obtain ⟨o28, hl29, hm⟩ := bind_some hm
    refine WP.cut (fun (t22 : Int × Int) F w9 => o28 = .inl t22 ∧ Ext w17 w9 ∧ St w w9 [Box g10 [.slice A1 x0.Cells.length k2, .int .i64 x0.Free, .int .i64 x0.Root.Tag, .int .i64 x0.Root.At, .slice A4 x0.Redexes.length k5] 95] ∧ F = [(1, .pointer (some ⟨g10, 0, none⟩)), (6, .int .i64 t22.1), (7, .int .i64 t22.2)]) ?_ ?_
    · skip
      rintro t22 F w27 ⟨ho31, hE26, hS30, rfl⟩
      subst ho31
      rw [aft_inl] at hm
      unfold m_spec_CountCells_j1 at hm
      refine WP.seq ?_
      refine WP.drawnM 0 mixed 13 (by kernel_rfl) (by kernel_rfl) [([], 8191), ([], 8191), ([], 8191), ([2], 8187), ([3], 8183), ([], 8191), ([4, 5], 8143), ([], 8191), ([6, 7], 7999), ([0, 0], 8190), ([1, 9, 0, 1, 9], 8189), ([8, 10, 0, 1, 2, 3, 4, 5, 6, 7, 8, 9, 10], 7935), ([11, 0, 1, 2, 3, 4, 5, 6, 7, 8, 9, 10, 11], 8191)] (by kernel_rfl) (fun hsk32 => ?_)
      have hS33 := hS30.step (Ext.draw _)
      refine DM.run (fuel := 6) ttok hsk32 [0, 1, 2, 5, 7, 9, 10] 1703 (by kernel_rfl) (by kernel_rfl) rfl ?_
      refine DM.load1 ttok hsk32 3 1711 (by kernel_rfl) (by kernel_rfl) (by kernel_rfl) (by kernel_rfl) rfl (by kernel_rfl) rfl rfl rfl rfl rfl ((hS30.bring 0 rfl).box) 0 rfl rfl rfl rfl ?_
      refine DM.run (fuel := 0) ttok hsk32 [4, 6, 8, 11, 12] 8191 (by kernel_rfl) (by kernel_rfl) rfl ?_
      refine DM.weak [(2, .int .i64 t22.1), (3, .int .i64 t22.2), (4, .int .i64 (w64 ((w64 ((x0.Cells.length : Int) - t22.1)) - t22.2))), (5, .int .i64 0)] ⟨rfl, rfl, rfl, rfl, trivial⟩ ?_
      refine DM.done hsk32 (by kernel_rfl) ?_
      refine WP.ret ?_
      cases hm
      exact ⟨_, .cons (.tmp rfl) (.cons (.tmp rfl) (.cons (.tmp rfl) (.cons (.tmp rfl) .nil))), rfl, (hS33.taken 0)⟩
    · skip
      refine WP.block ?_
      refine WP.weak [(1, .pointer (some ⟨g10, 0, none⟩)), (6, .int .i64 0), (7, .int .i64 0), (8, .int .i64 0)] ⟨rfl, rfl, rfl, rfl, trivial⟩ ?_
      refine WP.iter (fun (s21 : Int × Int × Int) F w9 => Ext w17 w9 ∧ St w w9 [Box g10 [.slice A1 x0.Cells.length k2, .int .i64 x0.Free, .int .i64 x0.Root.Tag, .int .i64 x0.Root.At, .slice A4 x0.Redexes.length k5] 95] ∧ F = [(1, .pointer (some ⟨g10, 0, none⟩)), (6, .int .i64 s21.1), (7, .int .i64 s21.2.1), (8, .int .i64 s21.2.2)]) _ hl29 ⟨(Ext.refl _), hS20, rfl⟩ ?_
      rintro s21 F w38 _ o36 ⟨hE25, hS37, rfl⟩ hb34 ho35
      unfold m_spec_CountCells_b1 at hb34
      refine WP.seq ?_
      refine WP.seq ?_
      refine WP.region ?_
      refine RW.run ttok 2 rfl ?_
      refine RW.load1 ttok rfl rfl rfl rfl rfl ((hS37.bring 0 rfl).box) 0 rfl rfl rfl rfl ?_
      refine RW.run ttok 2 rfl ?_
      refine RW.nil ?_
      refine WP.cond (decide (s21.2.2 < (x0.Cells.length : Int))) rfl (fun hc => ?_) (fun hc => ?_)
      · skip
        rw [if_pos hc] at hb34
        refine WP.skip ?_
        refine WP.seq ?_
        refine WP.block ?_
        refine WP.seq ?_
        refine WP.seq ?_
        refine WP.region ?_
        refine RW.run ttok 1 rfl ?_
        refine RW.load1 ttok rfl rfl rfl rfl rfl ((hS37.bring 0 rfl).box) 0 rfl rfl rfl rfl ?_
        refine RW.run ttok 1 rfl ?_
        obtain ⟨x39, hx40, hb34⟩ := bind_some hb34
        refine RW.idx ttok (hE.trans hS37.ext) rfl rfl rfl rfl rfl rfl (by decide) rfl rfl h3 (idx_some hx40).1 (idx_some hx40).2 rfl rfl (fun p41 es42 ha43 hr44 => ?_)
        obtain ⟨A45, k46, A48, k49, e51, h47, h50⟩ := ty167_open hr44; subst e51
        obtain ⟨r52, hx53, hb34⟩ := bind_some hb34
        refine RW.call rfl rfl rfl enters128 (spec_l21IsAgent_ok (hE.trans hS37.ext) hr44 ha43 hx53) (fun v54 w55 hR56 => ?_)
        obtain ⟨rfl, hR57⟩ := hR56
        have hS58 := hS37.join hR57
        refine RW.nil ?_
        refine WP.cut (fun (t59 : Int) F w9 => m_spec_CountCells_j2 fuel x0 s21 t59 = some o36 ∧ Ext w55 w9 ∧ St w w9 [Box g10 [.slice A1 x0.Cells.length k2, .int .i64 x0.Free, .int .i64 x0.Root.Tag, .int .i64 x0.Root.At, .slice A4 x0.Redexes.length k5] 95] ∧ F = [(1, .pointer (some ⟨g10, 0, none⟩)), (6, .int .i64 t59), (7, .int .i64 s21.2.1), (8, .int .i64 s21.2.2)]) ?_ ?_
        · skip
          rintro t59 F w62 ⟨hb34, hE60, hS61, rfl⟩
          unfold m_spec_CountCells_j2 at hb34
          refine WP.seq ?_
          refine WP.region ?_
          refine RW.run ttok 1 rfl ?_
          refine RW.load1 ttok rfl rfl rfl rfl rfl ((hS61.bring 0 rfl).box) 0 rfl rfl rfl rfl ?_
          refine RW.run ttok 1 rfl ?_
          obtain ⟨x65, hx66, hb34⟩ := bind_some hb34
          refine RW.idx ttok (hE.trans hS61.ext) rfl rfl rfl rfl rfl rfl (by decide) rfl rfl h3 (idx_some hx66).1 (idx_some hx66).2 rfl rfl (fun p67 es68 ha69 hr70 => ?_)
          obtain ⟨A71, k72, A74, k75, e77, h73, h76⟩ := ty167_open hr70; subst e77
          refine RW.run ttok 1 rfl ?_
          refine RW.load1 ttok rfl rfl rfl rfl rfl (At.ext (hE.trans hS61.ext) ha69) 0 rfl rfl rfl rfl ?_
          refine RW.run ttok 1 rfl ?_
          refine RW.nil ?_
          refine WP.cut (fun (t78 : Int) F w9 => m_spec_CountCells_j3 fuel s21 t59 t78 = some o36 ∧ Ext w62 w9 ∧ St w w9 [Box g10 [.slice A1 x0.Cells.length k2, .int .i64 x0.Free, .int .i64 x0.Root.Tag, .int .i64 x0.Root.At, .slice A4 x0.Redexes.length k5] 95] ∧ F = [(1, .pointer (some ⟨g10, 0, none⟩)), (6, .int .i64 t59), (7, .int .i64 t78), (8, .int .i64 s21.2.2)]) ?_ ?_
          · skip
            rintro t78 F w81 ⟨hb34, hE79, hS80, rfl⟩
            unfold m_spec_CountCells_j3 at hb34
            refine WP.region ?_
            refine RW.run ttok 3 rfl ?_
            refine RW.nil ?_
            cases hb34
            exact ⟨_, [(1, .pointer (some ⟨g10, 0, none⟩)), (6, .int .i64 t59), (7, .int .i64 t78), (8, .int .i64 (w64 (s21.2.2 + 1)))], ⟨rfl, rfl, rfl, rfl, trivial⟩, rfl, (((hE25.trans hR57.ext).trans hE60).trans hE79), hS80, rfl⟩
          · skip
            refine WP.cond (x65.Kind == 13) rfl (fun hc => ?_) (fun hc => ?_)
            · skip
              rw [if_pos hc] at hb34
              refine WP.region ?_
              refine RW.run ttok 3 rfl ?_
              refine RW.nil ?_
              exact ⟨w64 (s21.2.1 + 1), [(1, .pointer (some ⟨g10, 0, none⟩)), (6, .int .i64 t59), (7, .int .i64 (w64 (s21.2.1 + 1))), (8, .int .i64 s21.2.2)], ⟨rfl, rfl, rfl, rfl, trivial⟩, hb34, (Ext.refl _), hS61, rfl⟩
            · skip
              rw [if_neg (not_t hc)] at hb34
              refine WP.skip ?_
              exact ⟨s21.2.1, [(1, .pointer (some ⟨g10, 0, none⟩)), (6, .int .i64 t59), (7, .int .i64 s21.2.1), (8, .int .i64 s21.2.2)], ⟨rfl, rfl, rfl, rfl, trivial⟩, hb34, (Ext.refl _), hS61, rfl⟩
        · skip
          refine WP.cond r52 rfl (fun hc => ?_) (fun hc => ?_)
          · skip
            rw [if_pos hc] at hb34
            refine WP.region ?_
            refine RW.run ttok 3 rfl ?_
            refine RW.nil ?_
            exact ⟨w64 (s21.1 + 1), [(1, .pointer (some ⟨g10, 0, none⟩)), (6, .int .i64 (w64 (s21.1 + 1))), (7, .int .i64 s21.2.1), (8, .int .i64 s21.2.2)], ⟨rfl, rfl, rfl, rfl, trivial⟩, hb34, (Ext.refl _), hS58, rfl⟩
          · skip
            rw [if_neg (not_t hc)] at hb34
            refine WP.skip ?_
            exact ⟨s21.1, [(1, .pointer (some ⟨g10, 0, none⟩)), (6, .int .i64 s21.1), (7, .int .i64 s21.2.1), (8, .int .i64 s21.2.2)], ⟨rfl, rfl, rfl, rfl, trivial⟩, hb34, (Ext.refl _), hS58, rfl⟩
      · skip
        rw [if_neg (not_t hc)] at hb34
        refine WP.exit ?_
        cases hb34
        exact ⟨_, [(1, .pointer (some ⟨g10, 0, none⟩)), (6, .int .i64 s21.1), (7, .int .i64 s21.2.1)], ⟨rfl, rfl, rfl, trivial⟩, ho35, hE25, hS37, rfl⟩

theorem enters129 : Enters Try.prog 129 := ⟨_, _, Try.func129, rfl, by kernel_rfl⟩
def m_impl_Memory_counts_j1 (fuel : Nat) (t11 : Int × Int × Int) : Option (Int × Int × Int) := some (t11.1, t11.2.1, t11.2.2)
def m_impl_Memory_counts_b1 (fuel : Nat) (x0 : D.Memory) (s10 : Int × Int × Int × Int) : Option (Rd (Int × Int × Int × Int) (Int × Int × Int) (Int × Int × Int)) := (if (decide (s10.2.2.2 < (x0.Cells.length : Int))) = true then ((idx x0.Cells s10.2.2.2).bind fun x23 => ((m_impl_Cell_isAgentCell fuel x23).bind fun r43 => ((m_impl_truth fuel r43).bind fun r50 => ((m_impl_Cell_isVariable fuel x23).bind fun r57 => ((m_impl_truth fuel r57).bind fun r65 => ((m_impl_Cell_isFree fuel x23).bind fun r72 => ((m_impl_truth fuel r72).bind fun r79 => some (.next (w64 (s10.1 + r50), w64 (s10.2.1 + r65), w64 (s10.2.2.1 + r79), w64 (s10.2.2.2 + 1)))))))))) else some (.brk (s10.1, s10.2.1, s10.2.2.1)))
def m_impl_Memory_counts (fuel : Nat) (x0 : D.Memory) : Option (Int × Int × Int) := ((iter (m_impl_Memory_counts_b1 fuel x0) fuel (0, 0, 0, 0)).bind fun o => aft o (m_impl_Memory_counts_j1 fuel))

set_option maxRecDepth 100000 in
theorem impl_Memory_counts_ok {W w : World} (hE : Ext W w) {p0_ : Addr} {c0_ : List Value} {x0 : D.Memory} (h0_ : ty95.ro W c0_ x0) (g0_ : At W p0_ c0_) {fuel : Nat} {r : Int × Int × Int} (hm : m_impl_Memory_counts fuel x0 = some r) :
    Calls Try.prog 129 ⟨[.pointer (some p0_)]⟩ w (Ret fun v w8 => v = .tuple ⟨[.int .i64 r.1, .int .i64 r.2.1, .int .i64 r.2.2]⟩ ∧ St w w8 []) := by
  obtain ⟨A1, k2, A4, k5, e7, h3, h6⟩ := ty95_open h0_; subst e7
  refine Calls.into Try.func129 rfl 35 rfl rfl _ rfl ?_
  unfold m_impl_Memory_counts at hm
  have hS := St.start w
  refine WP.seq ?_
  refine WP.region ?_
  refine RW.run ttok 3 rfl ?_
  refine RW.nil ?_
  refine WP.seq ?_
  refine WP.seq ?_
  refine WP.region ?_
  refine RW.run ttok 3 rfl ?_
  refine RW.load1 ttok rfl rfl rfl rfl rfl (At.ext (hE.trans hS.ext) g0_) 0 rfl rfl rfl rfl ?_
  refine RW.run ttok 2 rfl ?_
  refine RW.nil ?_
  obtain ⟨o14, hl15, hm⟩ := bind_some hm
  refine WP.cut (fun (t11 : Int × Int × Int) F w9 => o14 = .inl t11 ∧ St w w9 [] ∧ F = [(2, .int .i64 t11.1), (3, .int .i64 t11.2.1), (4, .int .i64 t11.2.2)]) ?_ ?_
  · skip
    rintro t11 F w13 ⟨ho17, hS16, rfl⟩
    subst ho17
    rw [aft_inl] at hm
    unfold m_impl_Memory_counts_j1 at hm
    refine WP.seq ?_
    refine WP.region ?_
    refine RW.run ttok 6 rfl ?_
    refine RW.nil ?_
    refine WP.ret ?_
    cases hm
    exact ⟨_, .cons (.tmp rfl) (.cons (.tmp rfl) (.cons (.tmp rfl) .nil)), rfl, hS16⟩
  · skip
    refine WP.block ?_
    refine WP.weak [(2, .int .i64 0), (3, .int .i64 0), (4, .int .i64 0), (10, .slice A1 x0.Cells.length k2), (11, .int .i64 (x0.Cells.length : Int)), (12, .int .i64 0)] ⟨rfl, rfl, rfl, rfl, rfl, rfl, trivial⟩ ?_
    refine WP.iter (fun (s10 : Int × Int × Int × Int) F w9 => St w w9 [] ∧ F = [(2, .int .i64 s10.1), (3, .int .i64 s10.2.1), (4, .int .i64 s10.2.2.1), (10, .slice A1 x0.Cells.length k2), (11, .int .i64 (x0.Cells.length : Int)), (12, .int .i64 s10.2.2.2)]) _ hl15 ⟨hS, rfl⟩ ?_
    rintro s10 F w22 _ o20 ⟨hS21, rfl⟩ hb18 ho19
    unfold m_impl_Memory_counts_b1 at hb18
    refine WP.seq ?_
    refine WP.region ?_
    refine RW.run ttok 1 rfl ?_
    refine RW.nil ?_
    refine WP.seq ?_
    refine WP.cond (decide (s10.2.2.2 < (x0.Cells.length : Int))) rfl (fun hc => ?_) (fun hc => ?_)
    · skip
      rw [if_pos hc] at hb18
      refine WP.skip ?_
      refine WP.seq ?_
      refine WP.block ?_
      refine WP.seq ?_
      refine WP.region ?_
      obtain ⟨x23, hx24, hb18⟩ := bind_some hb18
      refine RW.idx ttok (hE.trans hS21.ext) rfl rfl rfl rfl rfl rfl (by decide) rfl rfl h3 (idx_some hx24).1 (idx_some hx24).2 rfl rfl (fun p25 es26 ha27 hr28 => ?_)
      obtain ⟨A29, k30, A32, k33, e35, h31, h34⟩ := ty167_open hr28; subst e35
      refine RW.loadN ttok rfl rfl rfl rfl rfl (At.ext (hE.trans hS21.ext) ha27) rfl rfl rfl ?_
      refine RW.new ttok hS21 rfl rfl rfl rfl (fun g36 w37 e38 hS39 => ?_)
      have hS40 := hS39.bring 0 rfl
      refine RW.store ttok (A := []) hS40 rfl rfl rfl rfl rfl 0 rfl rfl rfl rfl rfl (fun w41 hS42 => ?_)
      refine RW.nil ?_
      refine WP.seq ?_
      refine WP.region ?_
      refine RW.run ttok 1 rfl ?_
      refine RW.loadN ttok rfl rfl rfl rfl rfl ((hS42.bring 0 rfl).box) rfl rfl rfl ?_
      obtain ⟨r43, hx44, hb18⟩ := bind_some hb18
      refine RW.call rfl rfl rfl enters192 (impl_Cell_isAgentCell_ok (hE.trans hS42.ext) (ty167_shut x23 h31 h34) hx44) (fun v45 w46 hR47 => ?_)
      obtain ⟨rfl, hR48⟩ := hR47
      have hS49 := hS42.join hR48
      obtain ⟨r50, hx51, hb18⟩ := bind_some hb18
      refine RW.call rfl rfl rfl enters170 (impl_truth_ok (hE.trans hS49.ext)  hx51) (fun v52 w53 hR54 => ?_)
      obtain ⟨rfl, hR55⟩ := hR54
      have hS56 := hS49.join hR55
      refine RW.run ttok 2 rfl ?_
      refine RW.nil ?_
      refine WP.seq ?_
      refine WP.region ?_
      refine RW.run ttok 1 rfl ?_
      refine RW.loadN ttok rfl rfl rfl rfl rfl ((hS56.bring 0 rfl).box) rfl rfl rfl ?_
      obtain ⟨r57, hx58, hb18⟩ := bind_some hb18
      refine RW.call rfl rfl rfl enters188 (impl_Cell_isVariable_ok (hE.trans hS56.ext) (ty167_shut x23 h31 h34) hx58) (fun v59 w60 hR61 => ?_)
      obtain ⟨rfl, hR62⟩ := hR61
      have hS63 := hS56.join hR62
      obtain ⟨r65, hx66, hb18⟩ := bind_some hb18
      refine RW.call rfl rfl rfl enters170 (impl_truth_ok (hE.trans hS63.ext)  hx66) (fun v67 w68 hR69 => ?_)
      obtain ⟨rfl, hR70⟩ := hR69
      have hS71 := hS63.join hR70
      refine RW.run ttok 2 rfl ?_
      refine RW.nil ?_
      refine WP.region ?_
      refine RW.run ttok 1 rfl ?_
      refine RW.loadN ttok rfl rfl rfl rfl rfl ((hS71.bring 0 rfl).box) rfl rfl rfl ?_
      obtain ⟨r72, hx73, hb18⟩ := bind_some hb18
      refine RW.call rfl rfl rfl enters193 (impl_Cell_isFree_ok (hE.trans hS71.ext) (ty167_shut x23 h31 h34) hx73) (fun v74 w75 hR76 => ?_)
      obtain ⟨rfl, hR77⟩ := hR76
      have hS78 := hS71.join hR77
      obtain ⟨r79, hx80, hb18⟩ := bind_some hb18
      refine RW.call rfl rfl rfl enters170 (impl_truth_ok (hE.trans hS78.ext)  hx80) (fun v81 w82 hR83 => ?_)
      obtain ⟨rfl, hR84⟩ := hR83
      have hS85 := hS78.join hR84
      refine RW.run ttok 2 rfl ?_
      refine RW.nil ?_
      refine WP.region ?_
      refine RW.run ttok 2 rfl ?_
      refine RW.nil ?_
      cases hb18
      exact ⟨_, [(2, .int .i64 (w64 (s10.1 + r50))), (3, .int .i64 (w64 (s10.2.1 + r65))), (4, .int .i64 (w64 (s10.2.2.1 + r79))), (10, .slice A1 x0.Cells.length k2), (11, .int .i64 (x0.Cells.length : Int)), (12, .int .i64 (w64 (s10.2.2.2 + 1)))], ⟨rfl, rfl, rfl, rfl, rfl, rfl, trivial⟩, rfl, (hS85.taken 0), rfl⟩
    · skip
      rw [if_neg (not_t hc)] at hb18
      refine WP.exit ?_
      cases hb18
      exact ⟨_, [(2, .int .i64 s10.1), (3, .int .i64 s10.2.1), (4, .int .i64 s10.2.2.1)], ⟨rfl, rfl, rfl, trivial⟩, ho19, hS21, rfl⟩

theorem enters64 : Enters Try.prog 64 := ⟨_, _, Try.func64, rfl, by kernel_rfl⟩
def m_impl_CountCells (fuel : Nat) (x0 : D.Memory) : Option (Int × Int × Int × Int) := ((m_impl_ValidMemory fuel x0).bind fun r14 => (if (!r14) = true then some (0, 0, 0, 1) else ((m_impl_Memory_counts fuel x0).bind fun r21 => some (r21.1, r21.2.1, r21.2.2, 0))))

set_option maxRecDepth 100000 in
theorem impl_CountCells_ok {W w : World} (hE : Ext W w) {c0_ : List Value} {x0 : D.Memory} (h0_ : ty95.ro W c0_ x0) {fuel : Nat} {r : Int × Int × Int × Int} (hm : m_impl_CountCells fuel x0 = some r) :
    Calls Try.prog 64 ⟨[.agg ⟨c0_⟩]⟩ w (Ret fun v w8 => v = .tuple ⟨[.int .i64 r.1, .int .i64 r.2.1, .int .i64 r.2.2.1, .int .i64 r.2.2.2]⟩ ∧ St w w8 []) := by
  obtain ⟨A1, k2, A4, k5, e7, h3, h6⟩ := ty95_open h0_; subst e7
  refine Calls.into Try.func64 rfl 20 rfl rfl _ rfl ?_
  unfold m_impl_CountCells at hm
  have hS := St.start w
  refine WP.seq ?_
  refine WP.region ?_
  refine RW.new ttok hS rfl rfl rfl rfl (fun g10 w11 e12 hS13 => ?_)
  refine RW.run ttok 4 rfl ?_
  refine RW.nil ?_
  refine WP.seq ?_
  refine WP.seq ?_
  refine WP.region ?_
  refine RW.loadN ttok rfl rfl rfl rfl rfl ((hS13.bring 0 rfl).box) rfl rfl rfl ?_
  obtain ⟨r14, hx15, hm⟩ := bind_some hm
  refine RW.call rfl rfl rfl enters57 (impl_ValidMemory_ok (hE.trans hS13.ext) h0_ hx15) (fun v16 w17 hR18 => ?_)
  obtain ⟨rfl, hR19⟩ := hR18
  have hS20 := hS13.join hR19
  refine RW.run ttok 1 rfl ?_
  refine RW.nil ?_
  refine WP.cond (!r14) rfl (fun hc => ?_) (fun hc => ?_)
  · skip
    rw [if_pos hc] at hm
    refine WP.seq ?_
    refine WP.region ?_
    refine RW.run ttok 4 rfl ?_
    refine RW.nil ?_
    refine WP.ret ?_
    cases hm
    exact ⟨_, .cons (.tmp rfl) (.cons (.tmp rfl) (.cons (.tmp rfl) (.cons (.tmp rfl) .nil))), rfl, (hS20.taken 0)⟩
  · skip
    rw [if_neg (not_t hc)] at hm
    refine WP.skip ?_
    refine WP.seq ?_
    refine WP.region ?_
    obtain ⟨r21, hx22, hm⟩ := bind_some hm
    refine RW.call rfl rfl rfl enters129 (impl_Memory_counts_ok (Ext.refl _) (ty95.ext (hE.trans hS20.ext) h0_) ((hS20.bring 0 rfl).box) hx22) (fun v23 w24 hR25 => ?_)
    obtain ⟨rfl, hR26⟩ := hR25
    have hS27 := hS20.join hR26
    refine RW.run ttok 7 rfl ?_
    refine RW.nil ?_
    refine WP.seq ?_
    refine WP.region ?_
    refine RW.run ttok 7 rfl ?_
    refine RW.nil ?_
    refine WP.ret ?_
    cases hm
    exact ⟨_, .cons (.tmp rfl) (.cons (.tmp rfl) (.cons (.tmp rfl) (.cons (.tmp rfl) .nil))), rfl, (hS27.taken 0)⟩

theorem enters13 : Enters Try.prog 13 := ⟨_, _, Try.func13, rfl, by kernel_rfl⟩
def m_laws_FnExactCountCells_j1 (fuel : Nat) (x0 : D.Memory) (r39 : D.Memory) (t65 : Bool) : Option Bool := (if t65 = true then some false else ((m_laws_toMemory fuel x0).bind fun r72 => ((m_laws_eqMemory fuel r39 r72).bind fun r83 => (if (!r83) = true then some false else some true))))
def m_laws_FnExactCountCells (fuel : Nat) (x0 : D.Memory) : Option (Bool) := ((m_laws_szMemory fuel x0 1048576).bind fun r14 => (if (decide (r14 < 0)) = true then some true else ((m_laws_toMemory fuel x0).bind fun r21 => ((m_spec_CountCells fuel r21).bind fun r32 => ((m_laws_toMemory fuel x0).bind fun r39 => ((m_impl_CountCells fuel r39).bind fun r57 => (if (r57.1 != r32.1) = true then m_laws_FnExactCountCells_j1 fuel x0 r39 true else (if (r57.2.1 != r32.2.1) = true then m_laws_FnExactCountCells_j1 fuel x0 r39 true else (if (r57.2.2.1 != r32.2.2.1) = true then m_laws_FnExactCountCells_j1 fuel x0 r39 true else m_laws_FnExactCountCells_j1 fuel x0 r39 (r57.2.2.2 != r32.2.2.2))))))))))

set_option maxRecDepth 100000 in
theorem laws_FnExactCountCells_ok {W w : World} (hE : Ext W w) {c0_ : List Value} {x0 : D.Memory} (h0_ : ty88.ro W c0_ x0) {fuel : Nat} {r : Bool} (hm : m_laws_FnExactCountCells fuel x0 = some r) :
    Calls Try.prog 13 ⟨[.agg ⟨c0_⟩]⟩ w (Ret fun v w8 => v = .bool r ∧ St w w8 []) := by
  obtain ⟨A1, k2, A4, k5, e7, h3, h6⟩ := ty88_open h0_; subst e7
  refine Calls.into Try.func13 rfl 58 rfl rfl _ rfl ?_
  unfold m_laws_FnExactCountCells at hm
  have hS := St.start w
  refine WP.seq ?_
  refine WP.region ?_
  refine RW.new ttok hS rfl rfl rfl rfl (fun g10 w11 e12 hS13 => ?_)
  refine RW.run ttok 1 rfl ?_
  refine RW.nil ?_
  refine WP.seq ?_
  refine WP.region ?_
  refine RW.run ttok 1 rfl ?_
  refine RW.nil ?_
  refine WP.seq ?_
  refine WP.region ?_
  refine RW.loadN ttok rfl rfl rfl rfl rfl ((hS13.bring 0 rfl).box) rfl rfl rfl ?_
  refine RW.run ttok 1 rfl ?_
  obtain ⟨r14, hx15, hm⟩ := bind_some hm
  refine RW.call rfl rfl rfl enters54 (laws_szMemory_ok (hE.trans hS13.ext) h0_ hx15) (fun v16 w17 hR18 => ?_)
  obtain ⟨rfl, hR19⟩ := hR18
  have hS20 := hS13.join hR19
  refine RW.run ttok 1 rfl ?_
  refine RW.nil ?_
  refine WP.seq ?_
  refine WP.seq ?_
  refine WP.region ?_
  refine RW.run ttok 2 rfl ?_
  refine RW.nil ?_
  refine WP.cond (decide (r14 < 0)) rfl (fun hc => ?_) (fun hc => ?_)
  · skip
    rw [if_pos hc] at hm
    refine WP.seq ?_
    refine WP.region ?_
    refine RW.run ttok 1 rfl ?_
    refine RW.nil ?_
    refine WP.ret ?_
    cases hm
    exact ⟨_, .cons (.tmp rfl) .nil, rfl, (hS20.taken 0)⟩
  · skip
    rw [if_neg (not_t hc)] at hm
    refine WP.skip ?_
    refine WP.seq ?_
    refine WP.region ?_
    refine RW.loadN ttok rfl rfl rfl rfl rfl ((hS20.bring 0 rfl).box) rfl rfl rfl ?_
    obtain ⟨r21, hx22, hm⟩ := bind_some hm
    refine RW.call rfl rfl rfl enters56 (laws_toMemory_ok (hE.trans hS20.ext) h0_ hx22) (fun v23 w24 hR25 => ?_)
    obtain ⟨A26, k27, A28, k29, rfl, hR30⟩ := hR25
    have hS31 := hS20.join hR30
    obtain ⟨r32, hx33, hm⟩ := bind_some hm
    refine RW.call rfl rfl rfl enters63 (spec_CountCells_ok (Ext.refl _) (ty95_shut r21 ((hS31.bring 0 rfl).own) ((hS31.bring 1 rfl).own)) hx33) (fun v34 w35 hR36 => ?_)
    obtain ⟨rfl, hR37⟩ := hR36
    have hS38 := hS31.join hR37
    refine RW.run ttok 9 rfl ?_
    refine RW.nil ?_
    refine WP.seq ?_
    refine WP.region ?_
    refine RW.loadN ttok rfl rfl rfl rfl rfl ((hS38.bring 2 rfl).box) rfl rfl rfl ?_
    obtain ⟨r39, hx40, hm⟩ := bind_some hm
    refine RW.call rfl rfl rfl enters56 (laws_toMemory_ok (hE.trans hS38.ext) h0_ hx40) (fun v41 w42 hR43 => ?_)
    obtain ⟨A44, k45, A46, k47, rfl, hR48⟩ := hR43
    have hS49 := hS38.join hR48
    refine RW.new ttok hS49 rfl rfl rfl rfl (fun g50 w51 e52 hS53 => ?_)
    have hS54 := hS53.bring 0 rfl
    refine RW.store ttok (A := []) hS54 rfl rfl rfl rfl rfl 0 rfl rfl rfl rfl rfl (fun w55 hS56 => ?_)
    refine RW.nil ?_
    refine WP.seq ?_
    refine WP.region ?_
    refine RW.loadN ttok rfl rfl rfl rfl rfl ((hS56.bring 0 rfl).box) rfl rfl rfl ?_
    obtain ⟨r57, hx58, hm⟩ := bind_some hm
    refine RW.call rfl rfl rfl enters64 (impl_CountCells_ok (Ext.refl _) (ty95_shut r39 ((hS56.bring 1 rfl).own) ((hS56.bring 2 rfl).own)) hx58) (fun v59 w60 hR61 => ?_)
    obtain ⟨rfl, hR62⟩ := hR61
    have hS63 := hS56.join hR62
    refine RW.run ttok 9 rfl ?_
    refine RW.nil ?_
    refine WP.seq ?_
    refine WP.seq ?_
    refine WP.cut (fun (t65 : Bool) F w9 => m_laws_FnExactCountCells_j1 fuel x0 r39 t65 = some r ∧ Ext w60 w9 ∧ St w w9 [Box g50 [.slice A44 r39.Cells.length k45, .int .i64 r39.Free, .int .i64 r39.Root.Tag, .int .i64 r39.Root.At, .slice A46 r39.Redexes.length k47] 95, Own ty91 [.slice A44 r39.Cells.length k45] r39.Cells, Own ty93 [.slice A46 r39.Redexes.length k47] r39.Redexes, Own ty91 [.slice A26 r21.Cells.length k27] r21.Cells, Own ty93 [.slice A28 r21.Redexes.length k29] r21.Redexes, Box g10 [.slice A1 x0.Cells.length k2, .int .i64 x0.Free, .int .i64 x0.Root.Tag, .int .i64 x0.Root.At, .slice A4 x0.Redexes.length k5] 88] ∧ F = [(1, .pointer (some ⟨g10, 0, none⟩)), (8, .pointer (some ⟨g50, 0, none⟩)), (52, .bool t65)]) ?_ ?_
    · skip
      rintro t65 F w68 ⟨hm, hE66, hS67, rfl⟩
      unfold m_laws_FnExactCountCells_j1 at hm
      refine WP.cond t65 rfl (fun hc => ?_) (fun hc => ?_)
      · skip
        rw [if_pos hc] at hm
        refine WP.seq ?_
        refine WP.region ?_
        refine RW.run ttok 1 rfl ?_
        refine RW.nil ?_
        refine WP.ret ?_
        cases hm
        exact ⟨_, .cons (.tmp rfl) .nil, rfl, (hS67.taken 0)⟩
      · skip
        rw [if_neg (not_t hc)] at hm
        refine WP.skip ?_
        refine WP.seq ?_
        refine WP.seq ?_
        refine WP.drawnM 0 mixed 5 (by kernel_rfl) (by kernel_rfl) [([], 31), ([], 31), ([1], 29), ([0, 2, 2], 26), ([3], 23)] (by kernel_rfl) (fun hsk70 => ?_)
        have hS71 := hS67.step (Ext.draw _)
        refine DM.loadN ttok hsk70 0 1 (by kernel_rfl) (by kernel_rfl) (by kernel_rfl) (by kernel_rfl) rfl (by kernel_rfl) rfl rfl rfl rfl rfl ((hS67.bring 0 rfl).box) rfl rfl rfl ?_
        refine DM.loadN ttok hsk70 1 3 (by kernel_rfl) (by kernel_rfl) (by kernel_rfl) (by kernel_rfl) rfl (by kernel_rfl) rfl rfl rfl rfl rfl ((hS67.bring 5 rfl).box) rfl rfl rfl ?_
        obtain ⟨r72, hx73, hm⟩ := bind_some hm
        refine DM.one hsk70 2 (by kernel_rfl) (LM.call hsk70 7 (by kernel_rfl) (by kernel_rfl) rfl rfl rfl rfl enters56 (laws_toMemory_ok (hE.trans hS71.ext) h0_ hx73) (fun v74 w75 hR76 => ?_))
        obtain ⟨A77, k78, A79, k80, rfl, hR81⟩ := hR76
        refine ⟨hR81.ext, ?_⟩
        have hS82 := hS71.join hR81
        obtain ⟨r83, hx84, hm⟩ := bind_some hm
        refine DM.one hsk70 3 (by kernel_rfl) (LM.call hsk70 15 (by kernel_rfl) (by kernel_rfl) rfl rfl rfl rfl enters58 (laws_eqMemory_ok (Ext.refl _) (ty95_shut r39 ((hS82.bring 3 rfl).own) ((hS82.bring 4 rfl).own)) (ty95_shut r72 ((hS82.bring 0 rfl).own) ((hS82.bring 1 rfl).own)) hx84) (fun v85 w86 hR87 => ?_))
        obtain ⟨rfl, hR88⟩ := hR87
        refine ⟨hR88.ext, ?_⟩
        have hS89 := hS82.join hR88
        refine DM.run (fuel := 0) ttok hsk70 [4] 31 (by kernel_rfl) (by kernel_rfl) rfl ?_
        refine DM.weak [(57, .bool (!r83))] ⟨rfl, trivial⟩ ?_
        refine DM.done hsk70 (by kernel_rfl) ?_
        refine WP.cond (!r83) rfl (fun hc => ?_) (fun hc => ?_)
        · skip
          rw [if_pos hc] at hm
          refine WP.seq ?_
          refine WP.region ?_
          refine RW.run ttok 1 rfl ?_
          refine RW.nil ?_
          refine WP.ret ?_
          cases hm
          exact ⟨_, .cons (.tmp rfl) .nil, rfl, (hS89.taken 0)⟩
        · skip
          rw [if_neg (not_t hc)] at hm
          refine WP.skip ?_
          refine WP.seq ?_
          refine WP.region ?_
          refine RW.run ttok 1 rfl ?_
          refine RW.nil ?_
          refine WP.ret ?_
          cases hm
          exact ⟨_, .cons (.tmp rfl) .nil, rfl, (hS89.taken 0)⟩
    · skip
      refine WP.region ?_
      refine RW.run ttok 4 rfl ?_
      by_cases hg90 : (r57.1 != r32.1) = true
      · skip
        rw [if_pos hg90] at hm
        refine RW.know 38 rfl (congrArg Value.bool hg90) ?_
        refine RW.run ttok 14 rfl ?_
        refine RW.nil ?_
        exact ⟨true, [(1, .pointer (some ⟨g10, 0, none⟩)), (8, .pointer (some ⟨g50, 0, none⟩)), (52, .bool true)], ⟨rfl, rfl, rfl, trivial⟩, hm, (Ext.refl _), hS63, rfl⟩
      · skip
        rw [if_neg hg90] at hm
        refine RW.know 38 rfl (congrArg Value.bool (Bool.eq_false_iff.2 hg90)) ?_
        refine RW.run ttok 5 rfl ?_
        by_cases hg91 : (r57.2.1 != r32.2.1) = true
        · skip
          rw [if_pos hg91] at hm
          refine RW.know 43 rfl (congrArg Value.bool hg91) ?_
          refine RW.run ttok 9 rfl ?_
          refine RW.nil ?_
          exact ⟨true, [(1, .pointer (some ⟨g10, 0, none⟩)), (8, .pointer (some ⟨g50, 0, none⟩)), (52, .bool true)], ⟨rfl, rfl, rfl, trivial⟩, hm, (Ext.refl _), hS63, rfl⟩
        · skip
          rw [if_neg hg91] at hm
          refine RW.know 43 rfl (congrArg Value.bool (Bool.eq_false_iff.2 hg91)) ?_
          refine RW.run ttok 5 rfl ?_
          by_cases hg92 : (r57.2.2.1 != r32.2.2.1) = true
          · skip
            rw [if_pos hg92] at hm
            refine RW.know 48 rfl (congrArg Value.bool hg92) ?_
            refine RW.run ttok 4 rfl ?_
            refine RW.nil ?_
            exact ⟨true, [(1, .pointer (some ⟨g10, 0, none⟩)), (8, .pointer (some ⟨g50, 0, none⟩)), (52, .bool true)], ⟨rfl, rfl, rfl, trivial⟩, hm, (Ext.refl _), hS63, rfl⟩
          · skip
            rw [if_neg hg92] at hm
            refine RW.know 48 rfl (congrArg Value.bool (Bool.eq_false_iff.2 hg92)) ?_
            refine RW.run ttok 4 rfl ?_
            refine RW.nil ?_
            exact ⟨(r57.2.2.2 != r32.2.2.2), [(1, .pointer (some ⟨g10, 0, none⟩)), (8, .pointer (some ⟨g50, 0, none⟩)), (52, .bool (r57.2.2.2 != r32.2.2.2))], ⟨rfl, rfl, rfl, trivial⟩, hm, (Ext.refl _), hS63, rfl⟩

theorem enters59 : Enters Try.prog 59 := ⟨_, _, Try.func59, rfl, by kernel_rfl⟩
def m_spec_ResolveWord (fuel : Nat) (x0 : D.Memory) (x1 : D.Word) : Option (D.Word × Int) := ((m_spec_l21Ok fuel x0).bind fun r23 => (if (!r23) = true then some ((⟨0, 0⟩ : D.Word), 1) else ((m_spec_l21Word fuel x0 x1).bind fun r33 => (if (!r33) = true then some ((⟨0, 0⟩ : D.Word), 2) else ((m_spec_l21Resolve fuel x0 x1).bind fun r43 => some ((⟨r43.1.Tag, r43.1.At⟩ : D.Word), 0))))))

set_option maxRecDepth 100000 in
theorem spec_ResolveWord_ok {W w : World} (hE : Ext W w) {c0_ : List Value} {x0 : D.Memory} {c1_ : List Value} {x1 : D.Word} (h0_ : ty95.ro W c0_ x0) (h1_ : ty92.ro W c1_ x1) {fuel : Nat} {r : D.Word × Int} (hm : m_spec_ResolveWord fuel x0 x1 = some r) :
    Calls Try.prog 59 ⟨[.agg ⟨c0_⟩, .agg ⟨c1_⟩]⟩ w (Ret fun v w8 => v = .tuple ⟨[.agg ⟨[.int .i64 r.1.Tag, .int .i64 r.1.At]⟩, .int .i64 r.2]⟩ ∧ St w w8 []) := by
  obtain ⟨A1, k2, A4, k5, e7, h3, h6⟩ := ty95_open h0_; subst e7
  have e10 := ty92_open h1_; subst e10
  refine Calls.into Try.func59 rfl 21 rfl rfl _ rfl ?_
  unfold m_spec_ResolveWord at hm
  have hS := St.start w
  refine WP.seq ?_
  refine WP.region ?_
  refine RW.new ttok hS rfl rfl rfl rfl (fun g11 w12 e13 hS14 => ?_)
  refine RW.new ttok hS14 rfl rfl rfl rfl (fun g15 w16 e17 hS18 => ?_)
  refine RW.new ttok hS18 rfl rfl rfl rfl (fun g19 w20 e21 hS22 => ?_)
  refine RW.run ttok 1 rfl ?_
  refine RW.nil ?_
  refine WP.seq ?_
  refine WP.seq ?_
  refine WP.region ?_
  obtain ⟨r23, hx24, hm⟩ := bind_some hm
  refine RW.call rfl rfl rfl enters118 (spec_l21Ok_ok (Ext.refl _) (ty95.ext (hE.trans hS22.ext) h0_) ((hS22.bring 2 rfl).box) hx24) (fun v25 w26 hR27 => ?_)
  obtain ⟨rfl, hR28⟩ := hR27
  have hS29 := hS22.join hR28
  refine RW.run ttok 1 rfl ?_
  refine RW.nil ?_
  refine WP.cond (!r23) rfl (fun hc => ?_) (fun hc => ?_)
  · skip
    rw [if_pos hc] at hm
    refine WP.seq ?_
    refine WP.region ?_
    refine RW.quiet rfl (Quiet.build ttok rfl rfl rfl rfl rfl) rfl rfl ?_
    have hS30 := hS29.bring 0 rfl
    refine RW.store ttok (A := []) hS30 rfl rfl rfl rfl rfl 0 rfl rfl rfl rfl rfl (fun w31 hS32 => ?_)
    refine RW.run ttok 1 rfl ?_
    refine RW.nil ?_
    refine WP.ret ?_
    cases hm
    exact ⟨_, .cons (ResIs.agg ttok rfl rfl rfl ((hS32.bring 0 rfl).box) rfl) (.cons (.tmp rfl) .nil), rfl, (hS32.taken 0)⟩
  · skip
    rw [if_neg (not_t hc)] at hm
    refine WP.skip ?_
    refine WP.seq ?_
    refine WP.seq ?_
    refine WP.region ?_
    refine RW.loadN ttok rfl rfl rfl rfl rfl ((hS29.bring 1 rfl).box) rfl rfl rfl ?_
    obtain ⟨r33, hx34, hm⟩ := bind_some hm
    refine RW.call rfl rfl rfl enters124 (spec_l21Word_ok (Ext.refl _) (ty95.ext (hE.trans hS29.ext) h0_) ((hS29.bring 2 rfl).box) (ty92.ext (hE.trans hS29.ext) h1_) hx34) (fun v35 w36 hR37 => ?_)
    obtain ⟨rfl, hR38⟩ := hR37
    have hS39 := hS29.join hR38
    refine RW.run ttok 1 rfl ?_
    refine RW.nil ?_
    refine WP.cond (!r33) rfl (fun hc => ?_) (fun hc => ?_)
    · skip
      rw [if_pos hc] at hm
      refine WP.seq ?_
      refine WP.region ?_
      refine RW.quiet rfl (Quiet.build ttok rfl rfl rfl rfl rfl) rfl rfl ?_
      have hS40 := hS39.bring 0 rfl
      refine RW.store ttok (A := []) hS40 rfl rfl rfl rfl rfl 0 rfl rfl rfl rfl rfl (fun w41 hS42 => ?_)
      refine RW.run ttok 1 rfl ?_
      refine RW.nil ?_
      refine WP.ret ?_
      cases hm
      exact ⟨_, .cons (ResIs.agg ttok rfl rfl rfl ((hS42.bring 0 rfl).box) rfl) (.cons (.tmp rfl) .nil), rfl, (hS42.taken 0)⟩
    · skip
      rw [if_neg (not_t hc)] at hm
      refine WP.skip ?_
      refine WP.seq ?_
      refine WP.region ?_
      refine RW.loadN ttok rfl rfl rfl rfl rfl ((hS39.bring 1 rfl).box) rfl rfl rfl ?_
      obtain ⟨r43, hx44, hm⟩ := bind_some hm
      refine RW.call rfl rfl rfl enters125 (spec_l21Resolve_ok (Ext.refl _) (ty95.ext (hE.trans hS39.ext) h0_) ((hS39.bring 2 rfl).box) (ty92.ext (hE.trans hS39.ext) h1_) hx44) (fun v45 w46 hR47 => ?_)
      obtain ⟨rfl, hR48⟩ := hR47
      have hS49 := hS39.join hR48
      refine RW.run ttok 3 rfl ?_
      refine RW.new ttok hS49 rfl rfl rfl rfl (fun g50 w51 e52 hS53 => ?_)
      have hS54 := hS53.bring 0 rfl
      refine RW.store ttok (A := []) hS54 rfl rfl rfl rfl rfl 0 rfl rfl rfl rfl rfl (fun w55 hS56 => ?_)
      refine RW.run ttok 1 rfl ?_
      refine RW.nil ?_
      refine WP.seq ?_
      refine WP.region ?_
      refine RW.loadN ttok rfl rfl rfl rfl rfl ((hS56.bring 0 rfl).box) rfl rfl rfl ?_
      have hS57 := hS56.bring 1 rfl
      refine RW.store ttok (A := []) hS57 rfl rfl rfl rfl rfl 0 rfl rfl rfl rfl rfl (fun w58 hS59 => ?_)
      refine RW.run ttok 1 rfl ?_
      refine RW.nil ?_
      refine WP.ret ?_
      cases hm
      exact ⟨_, .cons (ResIs.agg ttok rfl rfl rfl ((hS59.bring 0 rfl).box) rfl) (.cons (.tmp rfl) .nil), rfl, (hS59.taken 0)⟩

theorem enters61 : Enters Try.prog 61 := ⟨_, _, Try.func61, rfl, by kernel_rfl⟩
def m_impl_ResolveWord (fuel : Nat) (x0 : D.Memory) (x1 : D.Word) : Option (D.Word × Int) := ((m_impl_ValidMemory fuel x0).bind fun r23 => (if (!r23) = true then some ((⟨0, 0⟩ : D.Word), 1) else ((m_impl_Memory_validWord fuel x0 x1).bind fun r33 => (if (!r33) = true then some ((⟨0, 0⟩ : D.Word), 2) else ((m_impl_Memory_resolve fuel x0 x1).bind fun r43 => some ((⟨r43.1.Tag, r43.1.At⟩ : D.Word), 0))))))

set_option maxRecDepth 100000 in
theorem impl_ResolveWord_ok {W w : World} (hE : Ext W w) {c0_ : List Value} {x0 : D.Memory} {c1_ : List Value} {x1 : D.Word} (h0_ : ty95.ro W c0_ x0) (h1_ : ty92.ro W c1_ x1) {fuel : Nat} {r : D.Word × Int} (hm : m_impl_ResolveWord fuel x0 x1 = some r) :
    Calls Try.prog 61 ⟨[.agg ⟨c0_⟩, .agg ⟨c1_⟩]⟩ w (Ret fun v w8 => v = .tuple ⟨[.agg ⟨[.int .i64 r.1.Tag, .int .i64 r.1.At]⟩, .int .i64 r.2]⟩ ∧ St w w8 []) := by
  obtain ⟨A1, k2, A4, k5, e7, h3, h6⟩ := ty95_open h0_; subst e7
  have e10 := ty92_open h1_; subst e10
  refine Calls.into Try.func61 rfl 24 rfl rfl _ rfl ?_
  unfold m_impl_ResolveWord at hm
  have hS := St.start w
  refine WP.seq ?_
  refine WP.region ?_
  refine RW.new ttok hS rfl rfl rfl rfl (fun g11 w12 e13 hS14 => ?_)
  refine RW.new ttok hS14 rfl rfl rfl rfl (fun g15 w16 e17 hS18 => ?_)
  refine RW.new ttok hS18 rfl rfl rfl rfl (fun g19 w20 e21 hS22 => ?_)
  refine RW.run ttok 1 rfl ?_
  refine RW.nil ?_
  refine WP.seq ?_
  refine WP.block ?_
  refine WP.seq ?_
  refine WP.region ?_
  refine RW.loadN ttok rfl rfl rfl rfl rfl ((hS22.bring 2 rfl).box) rfl rfl rfl ?_
  obtain ⟨r23, hx24, hm⟩ := bind_some hm
  refine RW.call rfl rfl rfl enters57 (impl_ValidMemory_ok (hE.trans hS22.ext) h0_ hx24) (fun v25 w26 hR27 => ?_)
  obtain ⟨rfl, hR28⟩ := hR27
  have hS29 := hS22.join hR28
  refine RW.run ttok 2 rfl ?_
  refine RW.nil ?_
  refine WP.cond (!r23) rfl (fun hc => ?_) (fun hc => ?_)
  · skip
    rw [if_pos hc] at hm
    refine WP.seq ?_
    refine WP.region ?_
    refine RW.quiet rfl (Quiet.build ttok rfl rfl rfl rfl rfl) rfl rfl ?_
    have hS30 := hS29.bring 0 rfl
    refine RW.store ttok (A := []) hS30 rfl rfl rfl rfl rfl 0 rfl rfl rfl rfl rfl (fun w31 hS32 => ?_)
    refine RW.run ttok 1 rfl ?_
    refine RW.nil ?_
    refine WP.ret ?_
    cases hm
    exact ⟨_, .cons (ResIs.agg ttok rfl rfl rfl ((hS32.bring 0 rfl).box) rfl) (.cons (.tmp rfl) .nil), rfl, (hS32.taken 0)⟩
  · skip
    rw [if_neg (not_t hc)] at hm
    refine WP.seq ?_
    refine WP.region ?_
    refine RW.loadN ttok rfl rfl rfl rfl rfl ((hS29.bring 1 rfl).box) rfl rfl rfl ?_
    obtain ⟨r33, hx34, hm⟩ := bind_some hm
    refine RW.call rfl rfl rfl enters126 (impl_Memory_validWord_ok (Ext.refl _) (ty95.ext (hE.trans hS29.ext) h0_) ((hS29.bring 2 rfl).box) (ty92.ext (hE.trans hS29.ext) h1_) hx34) (fun v35 w36 hR37 => ?_)
    obtain ⟨rfl, hR38⟩ := hR37
    have hS39 := hS29.join hR38
    refine RW.run ttok 2 rfl ?_
    refine RW.nil ?_
    refine WP.cond (!r33) rfl (fun hc => ?_) (fun hc => ?_)
    · skip
      rw [if_pos hc] at hm
      refine WP.seq ?_
      refine WP.region ?_
      refine RW.quiet rfl (Quiet.build ttok rfl rfl rfl rfl rfl) rfl rfl ?_
      have hS40 := hS39.bring 0 rfl
      refine RW.store ttok (A := []) hS40 rfl rfl rfl rfl rfl 0 rfl rfl rfl rfl rfl (fun w41 hS42 => ?_)
      refine RW.run ttok 1 rfl ?_
      refine RW.nil ?_
      refine WP.ret ?_
      cases hm
      exact ⟨_, .cons (ResIs.agg ttok rfl rfl rfl ((hS42.bring 0 rfl).box) rfl) (.cons (.tmp rfl) .nil), rfl, (hS42.taken 0)⟩
    · skip
      rw [if_neg (not_t hc)] at hm
      refine WP.skip ?_
      refine WP.seq ?_
      refine WP.region ?_
      refine RW.loadN ttok rfl rfl rfl rfl rfl ((hS39.bring 1 rfl).box) rfl rfl rfl ?_
      obtain ⟨r43, hx44, hm⟩ := bind_some hm
      refine RW.call rfl rfl rfl enters127 (impl_Memory_resolve_ok (Ext.refl _) (ty95.ext (hE.trans hS39.ext) h0_) ((hS39.bring 2 rfl).box) (ty92.ext (hE.trans hS39.ext) h1_) hx44) (fun v45 w46 hR47 => ?_)
      obtain ⟨rfl, hR48⟩ := hR47
      have hS49 := hS39.join hR48
      refine RW.run ttok 3 rfl ?_
      refine RW.new ttok hS49 rfl rfl rfl rfl (fun g50 w51 e52 hS53 => ?_)
      have hS54 := hS53.bring 0 rfl
      refine RW.store ttok (A := []) hS54 rfl rfl rfl rfl rfl 0 rfl rfl rfl rfl rfl (fun w55 hS56 => ?_)
      refine RW.run ttok 1 rfl ?_
      refine RW.nil ?_
      refine WP.seq ?_
      refine WP.region ?_
      refine RW.loadN ttok rfl rfl rfl rfl rfl ((hS56.bring 0 rfl).box) rfl rfl rfl ?_
      have hS57 := hS56.bring 1 rfl
      refine RW.store ttok (A := []) hS57 rfl rfl rfl rfl rfl 0 rfl rfl rfl rfl rfl (fun w58 hS59 => ?_)
      refine RW.run ttok 1 rfl ?_
      refine RW.nil ?_
      refine WP.ret ?_
      cases hm
      exact ⟨_, .cons (ResIs.agg ttok rfl rfl rfl ((hS59.bring 0 rfl).box) rfl) (.cons (.tmp rfl) .nil), rfl, (hS59.taken 0)⟩

theorem enters12 : Enters Try.prog 12 := ⟨_, _, Try.func12, rfl, by kernel_rfl⟩
def m_laws_FnExactResolveWord_j3 (fuel : Nat) (x0 : D.Memory) (r31 : D.Memory) (t54 : Bool) : Option Bool := (if t54 = true then some false else ((m_laws_toMemory fuel x0).bind fun r61 => ((m_laws_eqMemory fuel r31 r61).bind fun r73 => (if (!r73) = true then some false else some true))))
def m_laws_FnExactResolveWord_j2 (fuel : Nat) (x0 : D.Memory) (t26 : (Int × Int) × Int) (r31 : D.Memory) (t49 : (Int × Int) × Int) : Option Bool := ((m_laws_eqWord fuel (⟨t49.1.1, t49.1.2⟩ : D.Word) (⟨t26.1.1, t26.1.2⟩ : D.Word)).bind fun r80 => (if (!r80) = true then m_laws_FnExactResolveWord_j3 fuel x0 r31 true else m_laws_FnExactResolveWord_j3 fuel x0 r31 (t49.2 != t26.2)))
def m_laws_FnExactResolveWord_j1 (fuel : Nat) (x0 : D.Memory) (x1 : D.Word) (t26 : (Int × Int) × Int) : Option Bool := ((m_laws_toMemory fuel x0).bind fun r31 => ((m_laws_toWord fuel x1).bind fun r90 => ((m_impl_ResolveWord fuel r31 r90).bind fun r97 => m_laws_FnExactResolveWord_j2 fuel x0 t26 r31 ((r97.1.Tag, r97.1.At), r97.2))))
def m_laws_FnExactResolveWord (fuel : Nat) (x0 : D.Memory) (x1 : D.Word) : Option (Bool) := ((m_laws_szMemory fuel x0 1048576).bind fun r19 => (if (decide (r19 < 0)) = true then some true else ((m_laws_toMemory fuel x0).bind fun r163 => ((m_laws_toWord fuel x1).bind fun r174 => ((m_spec_ResolveWord fuel r163 r174).bind fun r181 => m_laws_FnExactResolveWord_j1 fuel x0 x1 ((r181.1.Tag, r181.1.At), r181.2))))))

set_option maxRecDepth 100000 in
theorem laws_FnExactResolveWord_ok {W w : World} (hE : Ext W w) {c0_ : List Value} {x0 : D.Memory} {c1_ : List Value} {x1 : D.Word} (h0_ : ty88.ro W c0_ x0) (h1_ : ty85.ro W c1_ x1) {fuel : Nat} {r : Bool} (hm : m_laws_FnExactResolveWord fuel x0 x1 = some r) :
    Calls Try.prog 12 ⟨[.agg ⟨c0_⟩, .agg ⟨c1_⟩]⟩ w (Ret fun v w8 => v = .bool r ∧ St w w8 []) := by
  obtain ⟨A1, k2, A4, k5, e7, h3, h6⟩ := ty88_open h0_; subst e7
  have e10 := ty85_open h1_; subst e10
  refine Calls.into Try.func12 rfl 47 rfl rfl _ rfl ?_
  unfold m_laws_FnExactResolveWord at hm
  have hS := St.start w
  refine WP.seq ?_
  refine WP.region ?_
  refine RW.new ttok hS rfl rfl rfl rfl (fun g11 w12 e13 hS14 => ?_)
  refine RW.new ttok hS14 rfl rfl rfl rfl (fun g15 w16 e17 hS18 => ?_)
  refine RW.run ttok 1 rfl ?_
  refine RW.nil ?_
  refine WP.seq ?_
  refine WP.region ?_
  refine RW.run ttok 1 rfl ?_
  refine RW.nil ?_
  refine WP.seq ?_
  refine WP.region ?_
  refine RW.loadN ttok rfl rfl rfl rfl rfl ((hS18.bring 1 rfl).box) rfl rfl rfl ?_
  refine RW.run ttok 1 rfl ?_
  obtain ⟨r19, hx20, hm⟩ := bind_some hm
  refine RW.call rfl rfl rfl enters54 (laws_szMemory_ok (hE.trans hS18.ext) h0_ hx20) (fun v21 w22 hR23 => ?_)
  obtain ⟨rfl, hR24⟩ := hR23
  have hS25 := hS18.join hR24
  refine RW.run ttok 1 rfl ?_
  refine RW.nil ?_
  refine WP.seq ?_
  refine WP.seq ?_
  refine WP.region ?_
  refine RW.run ttok 2 rfl ?_
  refine RW.nil ?_
  refine WP.cond (decide (r19 < 0)) rfl (fun hc => ?_) (fun hc => ?_)
  · skip
    rw [if_pos hc] at hm
    refine WP.seq ?_
    refine WP.region ?_
    refine RW.run ttok 1 rfl ?_
    refine RW.nil ?_
    refine WP.ret ?_
    cases hm
    exact ⟨_, .cons (.tmp rfl) .nil, rfl, (hS25.taken 0)⟩
  · skip
    rw [if_neg (not_t hc)] at hm
    refine WP.skip ?_
    refine WP.seq ?_
    refine WP.cut (fun (t26 : (Int × Int) × Int) F w9 => ∃ g27, m_laws_FnExactResolveWord_j1 fuel x0 x1 t26 = some r ∧ St w w9 [Box g27 [.int .i64 t26.1.1, .int .i64 t26.1.2] 92, Box g15 [.int .i64 x1.Tag, .int .i64 x1.At] 85, Box g11 [.slice A1 x0.Cells.length k2, .int .i64 x0.Free, .int .i64 x0.Root.Tag, .int .i64 x0.Root.At, .slice A4 x0.Redexes.length k5] 88] ∧ F = [(2, .pointer (some ⟨g11, 0, none⟩)), (3, .pointer (some ⟨g15, 0, none⟩)), (6, .pointer (some ⟨g27, 0, none⟩)), (7, .int .i64 t26.2)]) ?_ ?_
    · skip
      rintro t26 F w29 ⟨g27, hm, hS28, rfl⟩
      unfold m_laws_FnExactResolveWord_j1 at hm
      refine WP.seq ?_
      refine WP.region ?_
      refine RW.loadN ttok rfl rfl rfl rfl rfl ((hS28.bring 2 rfl).box) rfl rfl rfl ?_
      obtain ⟨r31, hx32, hm⟩ := bind_some hm
      refine RW.call rfl rfl rfl enters56 (laws_toMemory_ok (hE.trans hS28.ext) h0_ hx32) (fun v33 w34 hR35 => ?_)
      obtain ⟨A36, k37, A38, k39, rfl, hR40⟩ := hR35
      have hS41 := hS28.join hR40
      refine RW.new ttok hS41 rfl rfl rfl rfl (fun g42 w43 e44 hS45 => ?_)
      have hS46 := hS45.bring 0 rfl
      refine RW.store ttok (A := []) hS46 rfl rfl rfl rfl rfl 0 rfl rfl rfl rfl rfl (fun w47 hS48 => ?_)
      refine RW.nil ?_
      refine WP.seq ?_
      refine WP.cut (fun (t49 : (Int × Int) × Int) F w9 => ∃ g50, m_laws_FnExactResolveWord_j2 fuel x0 t26 r31 t49 = some r ∧ St w w9 [Box g50 [.int .i64 t49.1.1, .int .i64 t49.1.2] 92, Box g42 [.slice A36 r31.Cells.length k37, .int .i64 r31.Free, .int .i64 r31.Root.Tag, .int .i64 r31.Root.At, .slice A38 r31.Redexes.length k39] 95, Own ty91 [.slice A36 r31.Cells.length k37] r31.Cells, Own ty93 [.slice A38 r31.Redexes.length k39] r31.Redexes, Box g27 [.int .i64 t26.1.1, .int .i64 t26.1.2] 92, Box g15 [.int .i64 x1.Tag, .int .i64 x1.At] 85, Box g11 [.slice A1 x0.Cells.length k2, .int .i64 x0.Free, .int .i64 x0.Root.Tag, .int .i64 x0.Root.At, .slice A4 x0.Redexes.length k5] 88] ∧ F = [(2, .pointer (some ⟨g11, 0, none⟩)), (6, .pointer (some ⟨g27, 0, none⟩)), (7, .int .i64 t26.2), (8, .pointer (some ⟨g42, 0, none⟩)), (9, .pointer (some ⟨g50, 0, none⟩)), (10, .int .i64 t49.2)]) ?_ ?_
      · skip
        rintro t49 F w52 ⟨g50, hm, hS51, rfl⟩
        unfold m_laws_FnExactResolveWord_j2 at hm
        refine WP.seq ?_
        refine WP.seq ?_
        refine WP.cut (fun (t54 : Bool) F w9 => m_laws_FnExactResolveWord_j3 fuel x0 r31 t54 = some r ∧ Ext w52 w9 ∧ St w w9 [Box g50 [.int .i64 t49.1.1, .int .i64 t49.1.2] 92, Box g42 [.slice A36 r31.Cells.length k37, .int .i64 r31.Free, .int .i64 r31.Root.Tag, .int .i64 r31.Root.At, .slice A38 r31.Redexes.length k39] 95, Own ty91 [.slice A36 r31.Cells.length k37] r31.Cells, Own ty93 [.slice A38 r31.Redexes.length k39] r31.Redexes, Box g27 [.int .i64 t26.1.1, .int .i64 t26.1.2] 92, Box g15 [.int .i64 x1.Tag, .int .i64 x1.At] 85, Box g11 [.slice A1 x0.Cells.length k2, .int .i64 x0.Free, .int .i64 x0.Root.Tag, .int .i64 x0.Root.At, .slice A4 x0.Redexes.length k5] 88] ∧ F = [(2, .pointer (some ⟨g11, 0, none⟩)), (8, .pointer (some ⟨g42, 0, none⟩)), (41, .bool t54)]) ?_ ?_
        · skip
          rintro t54 F w57 ⟨hm, hE55, hS56, rfl⟩
          unfold m_laws_FnExactResolveWord_j3 at hm
          refine WP.cond t54 rfl (fun hc => ?_) (fun hc => ?_)
          · skip
            rw [if_pos hc] at hm
            refine WP.seq ?_
            refine WP.region ?_
            refine RW.run ttok 1 rfl ?_
            refine RW.nil ?_
            refine WP.ret ?_
            cases hm
            exact ⟨_, .cons (.tmp rfl) .nil, rfl, (hS56.taken 0)⟩
          · skip
            rw [if_neg (not_t hc)] at hm
            refine WP.skip ?_
            refine WP.seq ?_
            refine WP.seq ?_
            refine WP.drawnM 0 mixed 5 (by kernel_rfl) (by kernel_rfl) [([], 31), ([], 31), ([1], 29), ([0, 2, 2], 26), ([3], 23)] (by kernel_rfl) (fun hsk59 => ?_)
            have hS60 := hS56.step (Ext.draw _)
            refine DM.loadN ttok hsk59 0 1 (by kernel_rfl) (by kernel_rfl) (by kernel_rfl) (by kernel_rfl) rfl (by kernel_rfl) rfl rfl rfl rfl rfl ((hS56.bring 1 rfl).box) rfl rfl rfl ?_
            refine DM.loadN ttok hsk59 1 3 (by kernel_rfl) (by kernel_rfl) (by kernel_rfl) (by kernel_rfl) rfl (by kernel_rfl) rfl rfl rfl rfl rfl ((hS56.bring 6 rfl).box) rfl rfl rfl ?_
            obtain ⟨r61, hx62, hm⟩ := bind_some hm
            refine DM.one hsk59 2 (by kernel_rfl) (LM.call hsk59 7 (by kernel_rfl) (by kernel_rfl) rfl rfl rfl rfl enters56 (laws_toMemory_ok (hE.trans hS60.ext) h0_ hx62) (fun v63 w65 hR66 => ?_))
            obtain ⟨A67, k68, A69, k70, rfl, hR71⟩ := hR66
            refine ⟨hR71.ext, ?_⟩
            have hS72 := hS60.join hR71
            obtain ⟨r73, hx74, hm⟩ := bind_some hm
            refine DM.one hsk59 3 (by kernel_rfl) (LM.call hsk59 15 (by kernel_rfl) (by kernel_rfl) rfl rfl rfl rfl enters58 (laws_eqMemory_ok (Ext.refl _) (ty95_shut r31 ((hS72.bring 4 rfl).own) ((hS72.bring 5 rfl).own)) (ty95_shut r61 ((hS72.bring 0 rfl).own) ((hS72.bring 1 rfl).own)) hx74) (fun v75 w76 hR77 => ?_))
            obtain ⟨rfl, hR78⟩ := hR77
            refine ⟨hR78.ext, ?_⟩
            have hS79 := hS72.join hR78
            refine DM.run (fuel := 0) ttok hsk59 [4] 31 (by kernel_rfl) (by kernel_rfl) rfl ?_
            refine DM.weak [(46, .bool (!r73))] ⟨rfl, trivial⟩ ?_
            refine DM.done hsk59 (by kernel_rfl) ?_
            refine WP.cond (!r73) rfl (fun hc => ?_) (fun hc => ?_)
            · skip
              rw [if_pos hc] at hm
              refine WP.seq ?_
              refine WP.region ?_
              refine RW.run ttok 1 rfl ?_
              refine RW.nil ?_
              refine WP.ret ?_
              cases hm
              exact ⟨_, .cons (.tmp rfl) .nil, rfl, (hS79.taken 0)⟩
            · skip
              rw [if_neg (not_t hc)] at hm
              refine WP.skip ?_
              refine WP.seq ?_
              refine WP.region ?_
              refine RW.run ttok 1 rfl ?_
              refine RW.nil ?_
              refine WP.ret ?_
              cases hm
              exact ⟨_, .cons (.tmp rfl) .nil, rfl, (hS79.taken 0)⟩
        · skip
          refine WP.region ?_
          refine RW.loadN ttok rfl rfl rfl rfl rfl ((hS51.bring 0 rfl).box) rfl rfl rfl ?_
          refine RW.loadN ttok rfl rfl rfl rfl rfl ((hS51.bring 4 rfl).box) rfl rfl rfl ?_
          obtain ⟨r80, hx81, hm⟩ := bind_some hm
          refine RW.call rfl rfl rfl enters62 (laws_eqWord_ok (hE.trans hS51.ext) (ty92_shut (⟨t49.1.1, t49.1.2⟩ : D.Word)) (ty92_shut (⟨t26.1.1, t26.1.2⟩ : D.Word)) hx81) (fun v82 w83 hR84 => ?_)
          obtain ⟨rfl, hR85⟩ := hR84
          have hS86 := hS51.join hR85
          refine RW.run ttok 2 rfl ?_
          by_cases hg87 : (!r80) = true
          · skip
            rw [if_pos hg87] at hm
            refine RW.know 37 rfl (congrArg Value.bool hg87) ?_
            refine RW.run ttok 4 rfl ?_
            refine RW.nil ?_
            exact ⟨true, [(2, .pointer (some ⟨g11, 0, none⟩)), (8, .pointer (some ⟨g42, 0, none⟩)), (41, .bool true)], ⟨rfl, rfl, rfl, trivial⟩, hm, hR85.ext, hS86, rfl⟩
          · skip
            rw [if_neg hg87] at hm
            refine RW.know 37 rfl (congrArg Value.bool (Bool.eq_false_iff.2 hg87)) ?_
            refine RW.run ttok 4 rfl ?_
            refine RW.nil ?_
            exact ⟨(t49.2 != t26.2), [(2, .pointer (some ⟨g11, 0, none⟩)), (8, .pointer (some ⟨g42, 0, none⟩)), (41, .bool (t49.2 != t26.2))], ⟨rfl, rfl, rfl, trivial⟩, hm, hR85.ext, hS86, rfl⟩
      · skip
        refine WP.drawnM 256 mixed 10 (by kernel_rfl) (by kernel_rfl) [([], 1023), ([], 1023), ([1], 1021), ([0, 2, 2], 1018), ([3], 1015), ([4], 1007), ([4], 1007), ([], 1023), ([7, 5, 3, 0, 1, 2, 3, 4, 5, 7], 863), ([6, 8, 0, 1, 2, 3, 4, 5, 6, 7, 8], 959)] (by kernel_rfl) (fun hsk88 => ?_)
        have hS89 := hS48.step (Ext.draw _)
        refine DM.loadN ttok hsk88 0 1 (by kernel_rfl) (by kernel_rfl) (by kernel_rfl) (by kernel_rfl) rfl (by kernel_rfl) rfl rfl rfl rfl rfl ((hS48.bring 0 rfl).box) rfl rfl rfl ?_
        refine DM.loadN ttok hsk88 1 3 (by kernel_rfl) (by kernel_rfl) (by kernel_rfl) (by kernel_rfl) rfl (by kernel_rfl) rfl rfl rfl rfl rfl ((hS48.bring 4 rfl).box) rfl rfl rfl ?_
        obtain ⟨r90, hx91, hm⟩ := bind_some hm
        obtain ⟨r97, hx98, hm⟩ := bind_some hm
        refine DM.all hsk88 [2, 7] (by kernel_rfl) (by simp) ?_
        intro i111 hi112
        simp only [List.mem_cons, List.not_mem_nil, or_false] at hi112
        rcases hi112 with rfl | rfl
        · skip
          refine LM.call hsk88 7 (by kernel_rfl) (by kernel_rfl) rfl rfl rfl rfl enters60 (laws_toWord_ok (hE.trans hS89.ext) h1_ hx91) (fun v113 w114 hR115 => ?_)
          obtain ⟨rfl, hR116⟩ := hR115
          refine ⟨hR116.ext, ?_⟩
          have hS117 := hS89.join hR116
          refine DM.all hsk88 [3, 7] (by kernel_rfl) (by simp) ?_
          intro i118 hi119
          simp only [List.mem_cons, List.not_mem_nil, or_false] at hi119
          rcases hi119 with rfl | rfl
          · skip
            refine LM.call hsk88 15 (by kernel_rfl) (by kernel_rfl) rfl rfl rfl rfl enters61 (impl_ResolveWord_ok (Ext.refl _) (ty95_shut r31 ((hS117.bring 1 rfl).own) ((hS117.bring 2 rfl).own)) (ty92_shut r90) hx98) (fun v120 w121 hR122 => ?_)
            obtain ⟨rfl, hR123⟩ := hR122
            refine ⟨hR123.ext, ?_⟩
            have hS124 := hS117.join hR123
            refine DM.run (fuel := 3) ttok hsk88 [4, 5, 6] 127 (by kernel_rfl) (by kernel_rfl) rfl ?_
            refine DM.weak [(2, .pointer (some ⟨g11, 0, none⟩)), (6, .pointer (some ⟨g27, 0, none⟩)), (7, .int .i64 t26.2), (8, .pointer (some ⟨g42, 0, none⟩)), (31, .agg ⟨[.int .i64 r97.1.Tag, .int .i64 r97.1.At]⟩), (32, .int .i64 r97.2)] ⟨rfl, rfl, rfl, rfl, rfl, rfl, trivial⟩ ?_
            refine DM.one hsk88 7 (by kernel_rfl) (LM.new ttok hsk88 hS124 255 (by kernel_rfl) (by kernel_rfl) rfl rfl rfl rfl rfl (fun g125 w126 e127 hS128 => ?_))
            have hS129 := hS128.bring 0 rfl
            refine DM.one hsk88 8 (by kernel_rfl) (LM.store ttok (A := []) hS129 hsk88 511 (by kernel_rfl) (by kernel_rfl) rfl rfl rfl rfl rfl rfl 0 rfl rfl rfl rfl rfl (fun w130 hS131 => ?_))
            refine DM.run (fuel := 0) ttok hsk88 [9] 1023 (by kernel_rfl) (by kernel_rfl) rfl ?_
            refine DM.done hsk88 (by kernel_rfl) ?_
            exact ⟨((r97.1.Tag, r97.1.At), r97.2), [(2, .pointer (some ⟨g11, 0, none⟩)), (6, .pointer (some ⟨g27, 0, none⟩)), (7, .int .i64 t26.2), (8, .pointer (some ⟨g42, 0, none⟩)), (9, .pointer (some ⟨g125, 0, none⟩)), (10, .int .i64 r97.2)], ⟨rfl, rfl, rfl, rfl, rfl, rfl, trivial⟩, g125, hm, hS131, rfl⟩
          · skip
            refine LM.new ttok hsk88 hS117 135 (by kernel_rfl) (by kernel_rfl) rfl rfl rfl rfl rfl (fun g132 w133 e134 hS135 => ?_)
            refine DM.one hsk88 3 (by kernel_rfl) (LM.call hsk88 143 (by kernel_rfl) (by kernel_rfl) rfl rfl rfl rfl enters61 (impl_ResolveWord_ok (Ext.refl _) (ty95_shut r31 ((hS135.bring 2 rfl).own) ((hS135.bring 3 rfl).own)) (ty92_shut r90) hx98) (fun v136 w137 hR138 => ?_))
            obtain ⟨rfl, hR139⟩ := hR138
            refine ⟨hR139.ext, ?_⟩
            have hS140 := hS135.join hR139
            refine DM.run (fuel := 2) ttok hsk88 [4, 5, 6] 255 (by kernel_rfl) (by kernel_rfl) rfl ?_
            refine DM.weak [(2, .pointer (some ⟨g11, 0, none⟩)), (6, .pointer (some ⟨g27, 0, none⟩)), (7, .int .i64 t26.2), (8, .pointer (some ⟨g42, 0, none⟩)), (9, .pointer (some ⟨g132, 0, none⟩)), (31, .agg ⟨[.int .i64 r97.1.Tag, .int .i64 r97.1.At]⟩), (32, .int .i64 r97.2)] ⟨rfl, rfl, rfl, rfl, rfl, rfl, rfl, trivial⟩ ?_
            have hS141 := hS140.bring 0 rfl
            refine DM.one hsk88 8 (by kernel_rfl) (LM.store ttok (A := []) hS141 hsk88 511 (by kernel_rfl) (by kernel_rfl) rfl rfl rfl rfl rfl rfl 0 rfl rfl rfl rfl rfl (fun w142 hS143 => ?_))
            refine DM.run (fuel := 0) ttok hsk88 [9] 1023 (by kernel_rfl) (by kernel_rfl) rfl ?_
            refine DM.done hsk88 (by kernel_rfl) ?_
            exact ⟨((r97.1.Tag, r97.1.At), r97.2), [(2, .pointer (some ⟨g11, 0, none⟩)), (6, .pointer (some ⟨g27, 0, none⟩)), (7, .int .i64 t26.2), (8, .pointer (some ⟨g42, 0, none⟩)), (9, .pointer (some ⟨g132, 0, none⟩)), (10, .int .i64 r97.2)], ⟨rfl, rfl, rfl, rfl, rfl, rfl, trivial⟩, g132, hm, hS143, rfl⟩
        · skip
          refine LM.new ttok hsk88 hS89 131 (by kernel_rfl) (by kernel_rfl) rfl rfl rfl rfl rfl (fun g144 w145 e146 hS147 => ?_)
          refine DM.one hsk88 2 (by kernel_rfl) (LM.call hsk88 135 (by kernel_rfl) (by kernel_rfl) rfl rfl rfl rfl enters60 (laws_toWord_ok (hE.trans hS147.ext) h1_ hx91) (fun v148 w149 hR150 => ?_))
          obtain ⟨rfl, hR151⟩ := hR150
          refine ⟨hR151.ext, ?_⟩
          have hS152 := hS147.join hR151
          refine DM.one hsk88 3 (by kernel_rfl) (LM.call hsk88 143 (by kernel_rfl) (by kernel_rfl) rfl rfl rfl rfl enters61 (impl_ResolveWord_ok (Ext.refl _) (ty95_shut r31 ((hS152.bring 2 rfl).own) ((hS152.bring 3 rfl).own)) (ty92_shut r90) hx98) (fun v153 w154 hR155 => ?_))
          obtain ⟨rfl, hR156⟩ := hR155
          refine ⟨hR156.ext, ?_⟩
          have hS157 := hS152.join hR156
          refine DM.run (fuel := 2) ttok hsk88 [4, 5, 6] 255 (by kernel_rfl) (by kernel_rfl) rfl ?_
          refine DM.weak [(2, .pointer (some ⟨g11, 0, none⟩)), (6, .pointer (some ⟨g27, 0, none⟩)), (7, .int .i64 t26.2), (8, .pointer (some ⟨g42, 0, none⟩)), (9, .pointer (some ⟨g144, 0, none⟩)), (31, .agg ⟨[.int .i64 r97.1.Tag, .int .i64 r97.1.At]⟩), (32, .int .i64 r97.2)] ⟨rfl, rfl, rfl, rfl, rfl, rfl, rfl, trivial⟩ ?_
          have hS158 := hS157.bring 0 rfl
          refine DM.one hsk88 8 (by kernel_rfl) (LM.store ttok (A := []) hS158 hsk88 511 (by kernel_rfl) (by kernel_rfl) rfl rfl rfl rfl rfl rfl 0 rfl rfl rfl rfl rfl (fun w159 hS160 => ?_))
          refine DM.run (fuel := 0) ttok hsk88 [9] 1023 (by kernel_rfl) (by kernel_rfl) rfl ?_
          refine DM.done hsk88 (by kernel_rfl) ?_
          exact ⟨((r97.1.Tag, r97.1.At), r97.2), [(2, .pointer (some ⟨g11, 0, none⟩)), (6, .pointer (some ⟨g27, 0, none⟩)), (7, .int .i64 t26.2), (8, .pointer (some ⟨g42, 0, none⟩)), (9, .pointer (some ⟨g144, 0, none⟩)), (10, .int .i64 r97.2)], ⟨rfl, rfl, rfl, rfl, rfl, rfl, trivial⟩, g144, hm, hS160, rfl⟩
    · skip
      refine WP.drawnM 512 mixed 11 (by kernel_rfl) (by kernel_rfl) [([], 2047), ([0], 2046), ([], 2047), ([2, 1], 2043), ([1, 3, 3], 2037), ([4], 2031), ([5], 2015), ([5], 2015), ([], 2047), ([8, 6, 4, 0, 1, 2, 3, 4, 5, 6, 8], 1727), ([7, 9, 0, 1, 2, 3, 4, 5, 6, 7, 8, 9], 1919)] (by kernel_rfl) (fun hsk161 => ?_)
      have hS162 := hS25.step (Ext.draw _)
      refine DM.loadN ttok hsk161 0 1 (by kernel_rfl) (by kernel_rfl) (by kernel_rfl) (by kernel_rfl) rfl (by kernel_rfl) rfl rfl rfl rfl rfl ((hS25.bring 1 rfl).box) rfl rfl rfl ?_
      refine DM.loadN ttok hsk161 2 5 (by kernel_rfl) (by kernel_rfl) (by kernel_rfl) (by kernel_rfl) rfl (by kernel_rfl) rfl rfl rfl rfl rfl ((hS25.bring 0 rfl).box) rfl rfl rfl ?_
      obtain ⟨r163, hx164, hm⟩ := bind_some hm
      obtain ⟨r174, hx175, hm⟩ := bind_some hm
      obtain ⟨r181, hx182, hm⟩ := bind_some hm
      refine DM.all hsk161 [1, 8] (by kernel_rfl) (by simp) ?_
      intro i195 hi196
      simp only [List.mem_cons, List.not_mem_nil, or_false] at hi196
      rcases hi196 with rfl | rfl
      · skip
        refine LM.call hsk161 7 (by kernel_rfl) (by kernel_rfl) rfl rfl rfl rfl enters56 (laws_toMemory_ok (hE.trans hS162.ext) h0_ hx164) (fun v197 w198 hR199 => ?_)
        obtain ⟨A200, k201, A202, k203, rfl, hR204⟩ := hR199
        refine ⟨hR204.ext, ?_⟩
        have hS205 := hS162.join hR204
        refine DM.all hsk161 [3, 8] (by kernel_rfl) (by simp) ?_
        intro i206 hi207
        simp only [List.mem_cons, List.not_mem_nil, or_false] at hi207
        rcases hi207 with rfl | rfl
        · skip
          refine LM.call hsk161 15 (by kernel_rfl) (by kernel_rfl) rfl rfl rfl rfl enters60 (laws_toWord_ok (hE.trans hS205.ext) h1_ hx175) (fun v208 w209 hR210 => ?_)
          obtain ⟨rfl, hR211⟩ := hR210
          refine ⟨hR211.ext, ?_⟩
          have hS212 := hS205.join hR211
          refine DM.all hsk161 [4, 8] (by kernel_rfl) (by simp) ?_
          intro i213 hi214
          simp only [List.mem_cons, List.not_mem_nil, or_false] at hi214
          rcases hi214 with rfl | rfl
          · skip
            refine LM.call hsk161 31 (by kernel_rfl) (by kernel_rfl) rfl rfl rfl rfl enters59 (spec_ResolveWord_ok (Ext.refl _) (ty95_shut r163 ((hS212.bring 0 rfl).own) ((hS212.bring 1 rfl).own)) (ty92_shut r174) hx182) (fun v215 w216 hR217 => ?_)
            obtain ⟨rfl, hR218⟩ := hR217
            refine ⟨hR218.ext, ?_⟩
            have hS219 := hS212.join hR218
            refine DM.run (fuel := 3) ttok hsk161 [5, 6, 7] 255 (by kernel_rfl) (by kernel_rfl) rfl ?_
            refine DM.weak [(2, .pointer (some ⟨g11, 0, none⟩)), (3, .pointer (some ⟨g15, 0, none⟩)), (22, .agg ⟨[.int .i64 r181.1.Tag, .int .i64 r181.1.At]⟩), (23, .int .i64 r181.2)] ⟨rfl, rfl, rfl, rfl, trivial⟩ ?_
            refine DM.one hsk161 8 (by kernel_rfl) (LM.new ttok hsk161 hS219 511 (by kernel_rfl) (by kernel_rfl) rfl rfl rfl rfl rfl (fun g220 w221 e222 hS223 => ?_))
            have hS224 := hS223.bring 0 rfl
            refine DM.one hsk161 9 (by kernel_rfl) (LM.store ttok (A := []) hS224 hsk161 1023 (by kernel_rfl) (by kernel_rfl) rfl rfl rfl rfl rfl rfl 0 rfl rfl rfl rfl rfl (fun w225 hS226 => ?_))
            refine DM.run (fuel := 0) ttok hsk161 [10] 2047 (by kernel_rfl) (by kernel_rfl) rfl ?_
            refine DM.done hsk161 (by kernel_rfl) ?_
            exact ⟨((r181.1.Tag, r181.1.At), r181.2), [(2, .pointer (some ⟨g11, 0, none⟩)), (3, .pointer (some ⟨g15, 0, none⟩)), (6, .pointer (some ⟨g220, 0, none⟩)), (7, .int .i64 r181.2)], ⟨rfl, rfl, rfl, rfl, trivial⟩, g220, hm, ((hS226.bring 1 rfl).drop.bring 1 rfl).drop, rfl⟩
          · skip
            refine LM.new ttok hsk161 hS212 271 (by kernel_rfl) (by kernel_rfl) rfl rfl rfl rfl rfl (fun g227 w228 e229 hS230 => ?_)
            refine DM.one hsk161 4 (by kernel_rfl) (LM.call hsk161 287 (by kernel_rfl) (by kernel_rfl) rfl rfl rfl rfl enters59 (spec_ResolveWord_ok (Ext.refl _) (ty95_shut r163 ((hS230.bring 1 rfl).own) ((hS230.bring 2 rfl).own)) (ty92_shut r174) hx182) (fun v231 w232 hR233 => ?_))
            obtain ⟨rfl, hR234⟩ := hR233
            refine ⟨hR234.ext, ?_⟩
            have hS235 := hS230.join hR234
            refine DM.run (fuel := 2) ttok hsk161 [5, 6, 7] 511 (by kernel_rfl) (by kernel_rfl) rfl ?_
            refine DM.weak [(2, .pointer (some ⟨g11, 0, none⟩)), (3, .pointer (some ⟨g15, 0, none⟩)), (6, .pointer (some ⟨g227, 0, none⟩)), (22, .agg ⟨[.int .i64 r181.1.Tag, .int .i64 r181.1.At]⟩), (23, .int .i64 r181.2)] ⟨rfl, rfl, rfl, rfl, rfl, trivial⟩ ?_
            have hS236 := hS235.bring 0 rfl
            refine DM.one hsk161 9 (by kernel_rfl) (LM.store ttok (A := []) hS236 hsk161 1023 (by kernel_rfl) (by kernel_rfl) rfl rfl rfl rfl rfl rfl 0 rfl rfl rfl rfl rfl (fun w237 hS238 => ?_))
            refine DM.run (fuel := 0) ttok hsk161 [10] 2047 (by kernel_rfl) (by kernel_rfl) rfl ?_
            refine DM.done hsk161 (by kernel_rfl) ?_
            exact ⟨((r181.1.Tag, r181.1.At), r181.2), [(2, .pointer (some ⟨g11, 0, none⟩)), (3, .pointer (some ⟨g15, 0, none⟩)), (6, .pointer (some ⟨g227, 0, none⟩)), (7, .int .i64 r181.2)], ⟨rfl, rfl, rfl, rfl, trivial⟩, g227, hm, ((hS238.bring 1 rfl).drop.bring 1 rfl).drop, rfl⟩
        · skip
          refine LM.new ttok hsk161 hS205 263 (by kernel_rfl) (by kernel_rfl) rfl rfl rfl rfl rfl (fun g239 w240 e241 hS242 => ?_)
          refine DM.one hsk161 3 (by kernel_rfl) (LM.call hsk161 271 (by kernel_rfl) (by kernel_rfl) rfl rfl rfl rfl enters60 (laws_toWord_ok (hE.trans hS242.ext) h1_ hx175) (fun v243 w244 hR245 => ?_))
          obtain ⟨rfl, hR246⟩ := hR245
          refine ⟨hR246.ext, ?_⟩
          have hS247 := hS242.join hR246
          refine DM.one hsk161 4 (by kernel_rfl) (LM.call hsk161 287 (by kernel_rfl) (by kernel_rfl) rfl rfl rfl rfl enters59 (spec_ResolveWord_ok (Ext.refl _) (ty95_shut r163 ((hS247.bring 1 rfl).own) ((hS247.bring 2 rfl).own)) (ty92_shut r174) hx182) (fun v248 w249 hR250 => ?_))
          obtain ⟨rfl, hR251⟩ := hR250
          refine ⟨hR251.ext, ?_⟩
          have hS252 := hS247.join hR251
          refine DM.run (fuel := 2) ttok hsk161 [5, 6, 7] 511 (by kernel_rfl) (by kernel_rfl) rfl ?_
          refine DM.weak [(2, .pointer (some ⟨g11, 0, none⟩)), (3, .pointer (some ⟨g15, 0, none⟩)), (6, .pointer (some ⟨g239, 0, none⟩)), (22, .agg ⟨[.int .i64 r181.1.Tag, .int .i64 r181.1.At]⟩), (23, .int .i64 r181.2)] ⟨rfl, rfl, rfl, rfl, rfl, trivial⟩ ?_
          have hS253 := hS252.bring 0 rfl
          refine DM.one hsk161 9 (by kernel_rfl) (LM.store ttok (A := []) hS253 hsk161 1023 (by kernel_rfl) (by kernel_rfl) rfl rfl rfl rfl rfl rfl 0 rfl rfl rfl rfl rfl (fun w254 hS255 => ?_))
          refine DM.run (fuel := 0) ttok hsk161 [10] 2047 (by kernel_rfl) (by kernel_rfl) rfl ?_
          refine DM.done hsk161 (by kernel_rfl) ?_
          exact ⟨((r181.1.Tag, r181.1.At), r181.2), [(2, .pointer (some ⟨g11, 0, none⟩)), (3, .pointer (some ⟨g15, 0, none⟩)), (6, .pointer (some ⟨g239, 0, none⟩)), (7, .int .i64 r181.2)], ⟨rfl, rfl, rfl, rfl, trivial⟩, g239, hm, ((hS255.bring 1 rfl).drop.bring 1 rfl).drop, rfl⟩
      · skip
        refine LM.new ttok hsk161 hS162 261 (by kernel_rfl) (by kernel_rfl) rfl rfl rfl rfl rfl (fun g256 w257 e258 hS259 => ?_)
        refine DM.one hsk161 1 (by kernel_rfl) (LM.call hsk161 263 (by kernel_rfl) (by kernel_rfl) rfl rfl rfl rfl enters56 (laws_toMemory_ok (hE.trans hS259.ext) h0_ hx164) (fun v260 w261 hR262 => ?_))
        obtain ⟨A263, k264, A265, k266, rfl, hR267⟩ := hR262
        refine ⟨hR267.ext, ?_⟩
        have hS268 := hS259.join hR267
        refine DM.one hsk161 3 (by kernel_rfl) (LM.call hsk161 271 (by kernel_rfl) (by kernel_rfl) rfl rfl rfl rfl enters60 (laws_toWord_ok (hE.trans hS268.ext) h1_ hx175) (fun v269 w270 hR271 => ?_))
        obtain ⟨rfl, hR272⟩ := hR271
        refine ⟨hR272.ext, ?_⟩
        have hS273 := hS268.join hR272
        refine DM.one hsk161 4 (by kernel_rfl) (LM.call hsk161 287 (by kernel_rfl) (by kernel_rfl) rfl rfl rfl rfl enters59 (spec_ResolveWord_ok (Ext.refl _) (ty95_shut r163 ((hS273.bring 0 rfl).own) ((hS273.bring 1 rfl).own)) (ty92_shut r174) hx182) (fun v274 w275 hR276 => ?_))
        obtain ⟨rfl, hR277⟩ := hR276
        refine ⟨hR277.ext, ?_⟩
        have hS278 := hS273.join hR277
        refine DM.run (fuel := 2) ttok hsk161 [5, 6, 7] 511 (by kernel_rfl) (by kernel_rfl) rfl ?_
        refine DM.weak [(2, .pointer (some ⟨g11, 0, none⟩)), (3, .pointer (some ⟨g15, 0, none⟩)), (6, .pointer (some ⟨g256, 0, none⟩)), (22, .agg ⟨[.int .i64 r181.1.Tag, .int .i64 r181.1.At]⟩), (23, .int .i64 r181.2)] ⟨rfl, rfl, rfl, rfl, rfl, trivial⟩ ?_
        have hS279 := hS278.bring 2 rfl
        refine DM.one hsk161 9 (by kernel_rfl) (LM.store ttok (A := []) hS279 hsk161 1023 (by kernel_rfl) (by kernel_rfl) rfl rfl rfl rfl rfl rfl 0 rfl rfl rfl rfl rfl (fun w280 hS281 => ?_))
        refine DM.run (fuel := 0) ttok hsk161 [10] 2047 (by kernel_rfl) (by kernel_rfl) rfl ?_
        refine DM.done hsk161 (by kernel_rfl) ?_
        exact ⟨((r181.1.Tag, r181.1.At), r181.2), [(2, .pointer (some ⟨g11, 0, none⟩)), (3, .pointer (some ⟨g15, 0, none⟩)), (6, .pointer (some ⟨g256, 0, none⟩)), (7, .int .i64 r181.2)], ⟨rfl, rfl, rfl, rfl, trivial⟩, g256, hm, ((hS281.bring 1 rfl).drop.bring 1 rfl).drop, rfl⟩

end Go.E
