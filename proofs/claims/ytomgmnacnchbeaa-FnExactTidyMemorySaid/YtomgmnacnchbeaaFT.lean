/- Models of functions and proofs that the code runs as they say (written by program). Conditions: the model gives a value. -/
import Derived.Test.YtomgmnacnchbeaaFVb
namespace Go.E
open Go.RowKit Go.Proofs
set_option linter.unusedVariables false
set_option linter.unusedSimpArgs false
set_option maxHeartbeats 2000000

theorem enters120 : Enters Try.prog 120 := ⟨_, _, Try.func120, rfl, by kernel_rfl⟩
def m_laws_szInt64S (fuel : Nat) (x0 : (List Int)) (x1 : Int) : Option (Int) := (if (decide ((w64 (x1 - (x0.length : Int))) < 0)) = true then some (-1) else some (w64 (x1 - (x0.length : Int))))

set_option maxRecDepth 100000 in
theorem laws_szInt64S_ok {W w : World} (hE : Ext W w) {A0_ : Option Addr} {k0_ : Nat} {x0 : (List Int)} {x1 : Int} (h0_ : ty103.ro W [.slice A0_ x0.length k0_] x0) {fuel : Nat} {r : Int} (hm : m_laws_szInt64S fuel x0 x1 = some r) :
    Calls Try.prog 120 ⟨[.slice A0_ x0.length k0_, .int .i64 x1]⟩ w (Ret fun v w8 => v = .int .i64 r ∧ St w w8 []) := by
  refine Calls.into Try.func120 rfl 12 rfl rfl _ rfl ?_
  unfold m_laws_szInt64S at hm
  have hS := St.start w
  refine WP.seq ?_
  refine WP.region ?_
  refine RW.run ttok 1 rfl ?_
  refine RW.nil ?_
  refine WP.seq ?_
  refine WP.region ?_
  refine RW.run ttok 5 rfl ?_
  refine RW.nil ?_
  refine WP.seq ?_
  refine WP.seq ?_
  refine WP.region ?_
  refine RW.run ttok 2 rfl ?_
  refine RW.nil ?_
  refine WP.cond (decide ((w64 (x1 - (x0.length : Int))) < 0)) rfl (fun hc => ?_) (fun hc => ?_)
  · skip
    rw [if_pos hc] at hm
    refine WP.seq ?_
    refine WP.region ?_
    refine RW.run ttok 1 rfl ?_
    refine RW.nil ?_
    refine WP.ret ?_
    cases hm
    exact ⟨_, .cons (.tmp rfl) .nil, rfl, hS⟩
  · skip
    rw [if_neg (not_t hc)] at hm
    refine WP.skip ?_
    refine WP.seq ?_
    refine WP.region ?_
    refine RW.run ttok 2 rfl ?_
    refine RW.nil ?_
    refine WP.ret ?_
    cases hm
    exact ⟨_, .cons (.tmp rfl) .nil, rfl, hS⟩

theorem enters212 : Enters Try.prog 212 := ⟨_, _, Try.func212, rfl, by kernel_rfl⟩
def m_laws_szWordS (fuel : Nat) (x0 : (List D.Word)) (x1 : Int) : Option (Int) := (if (decide ((w64 (x1 - (x0.length : Int))) < 0)) = true then some (-1) else some (w64 (x1 - (x0.length : Int))))

set_option maxRecDepth 100000 in
theorem laws_szWordS_ok {W w : World} (hE : Ext W w) {A0_ : Option Addr} {k0_ : Nat} {x0 : (List D.Word)} {x1 : Int} (h0_ : ty208.ro W [.slice A0_ x0.length k0_] x0) {fuel : Nat} {r : Int} (hm : m_laws_szWordS fuel x0 x1 = some r) :
    Calls Try.prog 212 ⟨[.slice A0_ x0.length k0_, .int .i64 x1]⟩ w (Ret fun v w8 => v = .int .i64 r ∧ St w w8 []) := by
  refine Calls.into Try.func212 rfl 12 rfl rfl _ rfl ?_
  unfold m_laws_szWordS at hm
  have hS := St.start w
  refine WP.seq ?_
  refine WP.region ?_
  refine RW.run ttok 1 rfl ?_
  refine RW.nil ?_
  refine WP.seq ?_
  refine WP.region ?_
  refine RW.run ttok 5 rfl ?_
  refine RW.nil ?_
  refine WP.seq ?_
  refine WP.seq ?_
  refine WP.region ?_
  refine RW.run ttok 2 rfl ?_
  refine RW.nil ?_
  refine WP.cond (decide ((w64 (x1 - (x0.length : Int))) < 0)) rfl (fun hc => ?_) (fun hc => ?_)
  · skip
    rw [if_pos hc] at hm
    refine WP.seq ?_
    refine WP.region ?_
    refine RW.run ttok 1 rfl ?_
    refine RW.nil ?_
    refine WP.ret ?_
    cases hm
    exact ⟨_, .cons (.tmp rfl) .nil, rfl, hS⟩
  · skip
    rw [if_neg (not_t hc)] at hm
    refine WP.skip ?_
    refine WP.seq ?_
    refine WP.region ?_
    refine RW.run ttok 2 rfl ?_
    refine RW.nil ?_
    refine WP.ret ?_
    cases hm
    exact ⟨_, .cons (.tmp rfl) .nil, rfl, hS⟩

theorem enters142 : Enters Try.prog 142 := ⟨_, _, Try.func142, rfl, by kernel_rfl⟩
def m_laws_szCell (fuel : Nat) (x0 : D.Cell) (x1 : Int) : Option (Int) := ((m_laws_szInt64S fuel x0.Data x1).bind fun r14 => (if (decide (r14 < 0)) = true then some (-1) else ((m_laws_szWordS fuel x0.Words r14).bind fun r21 => (if (decide (r21 < 0)) = true then some (-1) else some r21))))

set_option maxRecDepth 100000 in
theorem laws_szCell_ok {W w : World} (hE : Ext W w) {c0_ : List Value} {x0 : D.Cell} {x1 : Int} (h0_ : ty210.ro W c0_ x0) {fuel : Nat} {r : Int} (hm : m_laws_szCell fuel x0 x1 = some r) :
    Calls Try.prog 142 ⟨[.agg ⟨c0_⟩, .int .i64 x1]⟩ w (Ret fun v w8 => v = .int .i64 r ∧ St w w8 []) := by
  obtain ⟨A1, k2, A4, k5, e7, h3, h6⟩ := ty210_open h0_; subst e7
  refine Calls.into Try.func142 rfl 18 rfl rfl _ rfl ?_
  unfold m_laws_szCell at hm
  have hS := St.start w
  refine WP.seq ?_
  refine WP.region ?_
  refine RW.new ttok hS rfl rfl rfl rfl (fun g10 w11 e12 hS13 => ?_)
  refine RW.run ttok 1 rfl ?_
  refine RW.nil ?_
  refine WP.seq ?_
  refine WP.region ?_
  refine RW.run ttok 1 rfl ?_
  refine RW.load1 ttok rfl rfl rfl rfl rfl ((hS13.bring 0 rfl).box) 3 rfl rfl rfl rfl ?_
  refine RW.run ttok 1 rfl ?_
  obtain ⟨r14, hx15, hm⟩ := bind_some hm
  refine RW.call rfl rfl rfl enters120 (laws_szInt64S_ok (hE.trans hS13.ext) h3 hx15) (fun v16 w17 hR18 => ?_)
  obtain ⟨rfl, hR19⟩ := hR18
  have hS20 := hS13.join hR19
  refine RW.run ttok 1 rfl ?_
  refine RW.nil ?_
  refine WP.seq ?_
  refine WP.seq ?_
  refine WP.region ?_
  refine RW.run ttok 2 rfl ?_
  refine RW.nil ?_
  refine WP.cond (decide (r14 < 0)) rfl (fun hc => ?_) (fun hc => ?_)
  · skip
    rw [if_pos hc] at hm
    refine WP.seq ?_
    refine WP.region ?_
    refine RW.run ttok 1 rfl ?_
    refine RW.nil ?_
    refine WP.ret ?_
    cases hm
    exact ⟨_, .cons (.tmp rfl) .nil, rfl, (hS20.taken 0)⟩
  · skip
    rw [if_neg (not_t hc)] at hm
    refine WP.skip ?_
    refine WP.seq ?_
    refine WP.region ?_
    refine RW.run ttok 1 rfl ?_
    refine RW.load1 ttok rfl rfl rfl rfl rfl ((hS20.bring 0 rfl).box) 4 rfl rfl rfl rfl ?_
    refine RW.run ttok 1 rfl ?_
    obtain ⟨r21, hx22, hm⟩ := bind_some hm
    refine RW.call rfl rfl rfl enters212 (laws_szWordS_ok (hE.trans hS20.ext) h6 hx22) (fun v23 w24 hR25 => ?_)
    obtain ⟨rfl, hR26⟩ := hR25
    have hS27 := hS20.join hR26
    refine RW.run ttok 1 rfl ?_
    refine RW.nil ?_
    refine WP.seq ?_
    refine WP.seq ?_
    refine WP.region ?_
    refine RW.run ttok 2 rfl ?_
    refine RW.nil ?_
    refine WP.cond (decide (r21 < 0)) rfl (fun hc => ?_) (fun hc => ?_)
    · skip
      rw [if_pos hc] at hm
      refine WP.seq ?_
      refine WP.region ?_
      refine RW.run ttok 1 rfl ?_
      refine RW.nil ?_
      refine WP.ret ?_
      cases hm
      exact ⟨_, .cons (.tmp rfl) .nil, rfl, (hS27.taken 0)⟩
    · skip
      rw [if_neg (not_t hc)] at hm
      refine WP.skip ?_
      refine WP.seq ?_
      refine WP.region ?_
      refine RW.run ttok 2 rfl ?_
      refine RW.nil ?_
      refine WP.ret ?_
      cases hm
      exact ⟨_, .cons (.tmp rfl) .nil, rfl, (hS27.taken 0)⟩

theorem enters78 : Enters Try.prog 78 := ⟨_, _, Try.func78, rfl, by kernel_rfl⟩
def m_laws_szCellS_j1 (fuel : Nat) (t2 : Int) : Option Int := some t2
def m_laws_szCellS_b1 (fuel : Nat) (x0 : (List D.Cell)) (s1 : Int × Int) : Option (Rd (Int × Int) (Int) (Int)) := (if (decide (s1.2 < (x0.length : Int))) = true then ((idx x0 s1.2).bind fun x19 => ((m_laws_szCell fuel x19 s1.1).bind fun r32 => (if (decide (r32 < 0)) = true then some (.ret (-1)) else some (.next (r32, w64 (s1.2 + 1)))))) else some (.brk s1.1))
def m_laws_szCellS (fuel : Nat) (x0 : (List D.Cell)) (x1 : Int) : Option (Int) := (if (decide ((w64 (x1 - (x0.length : Int))) < 0)) = true then some (-1) else ((iter (m_laws_szCellS_b1 fuel x0) fuel (w64 (x1 - (x0.length : Int)), 0)).bind fun o => aft o (m_laws_szCellS_j1 fuel)))

set_option maxRecDepth 100000 in
theorem laws_szCellS_ok {W w : World} (hE : Ext W w) {A0_ : Option Addr} {k0_ : Nat} {x0 : (List D.Cell)} {x1 : Int} (h0_ : ty68.ro W [.slice A0_ x0.length k0_] x0) {fuel : Nat} {r : Int} (hm : m_laws_szCellS fuel x0 x1 = some r) :
    Calls Try.prog 78 ⟨[.slice A0_ x0.length k0_, .int .i64 x1]⟩ w (Ret fun v w8 => v = .int .i64 r ∧ St w w8 []) := by
  refine Calls.into Try.func78 rfl 27 rfl rfl _ rfl ?_
  unfold m_laws_szCellS at hm
  have hS := St.start w
  refine WP.seq ?_
  refine WP.region ?_
  refine RW.run ttok 1 rfl ?_
  refine RW.nil ?_
  refine WP.seq ?_
  refine WP.region ?_
  refine RW.run ttok 5 rfl ?_
  refine RW.nil ?_
  refine WP.seq ?_
  refine WP.seq ?_
  refine WP.region ?_
  refine RW.run ttok 2 rfl ?_
  refine RW.nil ?_
  refine WP.cond (decide ((w64 (x1 - (x0.length : Int))) < 0)) rfl (fun hc => ?_) (fun hc => ?_)
  · skip
    rw [if_pos hc] at hm
    refine WP.seq ?_
    refine WP.region ?_
    refine RW.run ttok 1 rfl ?_
    refine RW.nil ?_
    refine WP.ret ?_
    cases hm
    exact ⟨_, .cons (.tmp rfl) .nil, rfl, hS⟩
  · skip
    rw [if_neg (not_t hc)] at hm
    refine WP.skip ?_
    refine WP.seq ?_
    refine WP.seq ?_
    refine WP.region ?_
    refine RW.run ttok 1 rfl ?_
    refine RW.nil ?_
    obtain ⟨o10, hl11, hm⟩ := bind_some hm
    refine WP.cut (fun (t2 : Int) F w9 => o10 = .inl t2 ∧ Ext w w9 ∧ St w w9 [] ∧ F = [(1, .int .i64 t2)]) ?_ ?_
    · skip
      rintro t2 F w7 ⟨ho13, hE6, hS12, rfl⟩
      subst ho13
      rw [aft_inl] at hm
      unfold m_laws_szCellS_j1 at hm
      refine WP.seq ?_
      refine WP.region ?_
      refine RW.run ttok 2 rfl ?_
      refine RW.nil ?_
      refine WP.ret ?_
      cases hm
      exact ⟨_, .cons (.tmp rfl) .nil, rfl, hS12⟩
    · skip
      refine WP.block ?_
      refine WP.weak [(0, .slice A0_ x0.length k0_), (1, .int .i64 (w64 (x1 - (x0.length : Int)))), (5, .int .i64 0)] ⟨rfl, rfl, rfl, trivial⟩ ?_
      refine WP.iter (fun (s1 : Int × Int) F w9 => Ext w w9 ∧ St w w9 [] ∧ F = [(0, .slice A0_ x0.length k0_), (1, .int .i64 s1.1), (5, .int .i64 s1.2)]) _ hl11 ⟨(Ext.refl _), hS, rfl⟩ ?_
      rintro s1 F w18 _ o16 ⟨hE5, hS17, rfl⟩ hb14 ho15
      unfold m_laws_szCellS_b1 at hb14
      refine WP.seq ?_
      refine WP.seq ?_
      refine WP.region ?_
      refine RW.run ttok 4 rfl ?_
      refine RW.nil ?_
      refine WP.cond (decide (s1.2 < (x0.length : Int))) rfl (fun hc => ?_) (fun hc => ?_)
      · skip
        rw [if_pos hc] at hb14
        refine WP.skip ?_
        refine WP.seq ?_
        refine WP.block ?_
        refine WP.seq ?_
        refine WP.region ?_
        refine RW.run ttok 2 rfl ?_
        obtain ⟨x19, hx20, hb14⟩ := bind_some hb14
        refine RW.idx ttok (hE.trans hS17.ext) rfl rfl rfl rfl rfl rfl (by decide) rfl rfl h0_ (idx_some hx20).1 (idx_some hx20).2 rfl rfl (fun p21 es22 ha23 hr24 => ?_)
        obtain ⟨A25, k26, A28, k29, e31, h27, h30⟩ := ty210_open hr24; subst e31
        refine RW.loadN ttok rfl rfl rfl rfl rfl (At.ext (hE.trans hS17.ext) ha23) rfl rfl rfl ?_
        refine RW.run ttok 1 rfl ?_
        obtain ⟨r32, hx33, hb14⟩ := bind_some hb14
        refine RW.call rfl rfl rfl enters142 (laws_szCell_ok (hE.trans hS17.ext) hr24 hx33) (fun v34 w35 hR36 => ?_)
        obtain ⟨rfl, hR37⟩ := hR36
        have hS38 := hS17.join hR37
        refine RW.run ttok 1 rfl ?_
        refine RW.nil ?_
        refine WP.seq ?_
        refine WP.region ?_
        refine RW.run ttok 2 rfl ?_
        refine RW.nil ?_
        refine WP.cond (decide (r32 < 0)) rfl (fun hc => ?_) (fun hc => ?_)
        · skip
          rw [if_pos hc] at hb14
          refine WP.seq ?_
          refine WP.region ?_
          refine RW.run ttok 1 rfl ?_
          refine RW.nil ?_
          refine WP.ret ?_
          cases hb14
          cases ho15
          have hm : some _ = some _ := hm
          cases hm
          exact ⟨_, .cons (.tmp rfl) .nil, rfl, hS38⟩
        · skip
          rw [if_neg (not_t hc)] at hb14
          refine WP.skip ?_
          refine WP.region ?_
          refine RW.run ttok 3 rfl ?_
          refine RW.nil ?_
          cases hb14
          exact ⟨_, [(0, .slice A0_ x0.length k0_), (1, .int .i64 r32), (5, .int .i64 (w64 (s1.2 + 1)))], ⟨rfl, rfl, rfl, trivial⟩, rfl, (hE5.trans hR37.ext), hS38, rfl⟩
      · skip
        rw [if_neg (not_t hc)] at hb14
        refine WP.exit ?_
        cases hb14
        exact ⟨_, [(1, .int .i64 s1.1)], ⟨rfl, trivial⟩, ho15, hE5, hS17, rfl⟩

theorem enters79 : Enters Try.prog 79 := ⟨_, _, Try.func79, rfl, by kernel_rfl⟩
def m_laws_szPairS (fuel : Nat) (x0 : (List D.Pair)) (x1 : Int) : Option (Int) := (if (decide ((w64 (x1 - (x0.length : Int))) < 0)) = true then some (-1) else some (w64 (x1 - (x0.length : Int))))

set_option maxRecDepth 100000 in
theorem laws_szPairS_ok {W w : World} (hE : Ext W w) {A0_ : Option Addr} {k0_ : Nat} {x0 : (List D.Pair)} {x1 : Int} (h0_ : ty71.ro W [.slice A0_ x0.length k0_] x0) {fuel : Nat} {r : Int} (hm : m_laws_szPairS fuel x0 x1 = some r) :
    Calls Try.prog 79 ⟨[.slice A0_ x0.length k0_, .int .i64 x1]⟩ w (Ret fun v w8 => v = .int .i64 r ∧ St w w8 []) := by
  refine Calls.into Try.func79 rfl 12 rfl rfl _ rfl ?_
  unfold m_laws_szPairS at hm
  have hS := St.start w
  refine WP.seq ?_
  refine WP.region ?_
  refine RW.run ttok 1 rfl ?_
  refine RW.nil ?_
  refine WP.seq ?_
  refine WP.region ?_
  refine RW.run ttok 5 rfl ?_
  refine RW.nil ?_
  refine WP.seq ?_
  refine WP.seq ?_
  refine WP.region ?_
  refine RW.run ttok 2 rfl ?_
  refine RW.nil ?_
  refine WP.cond (decide ((w64 (x1 - (x0.length : Int))) < 0)) rfl (fun hc => ?_) (fun hc => ?_)
  · skip
    rw [if_pos hc] at hm
    refine WP.seq ?_
    refine WP.region ?_
    refine RW.run ttok 1 rfl ?_
    refine RW.nil ?_
    refine WP.ret ?_
    cases hm
    exact ⟨_, .cons (.tmp rfl) .nil, rfl, hS⟩
  · skip
    rw [if_neg (not_t hc)] at hm
    refine WP.skip ?_
    refine WP.seq ?_
    refine WP.region ?_
    refine RW.run ttok 2 rfl ?_
    refine RW.nil ?_
    refine WP.ret ?_
    cases hm
    exact ⟨_, .cons (.tmp rfl) .nil, rfl, hS⟩

theorem enters35 : Enters Try.prog 35 := ⟨_, _, Try.func35, rfl, by kernel_rfl⟩
def m_laws_szMemory (fuel : Nat) (x0 : D.Memory) (x1 : Int) : Option (Int) := ((m_laws_szCellS fuel x0.Cells x1).bind fun r14 => (if (decide (r14 < 0)) = true then some (-1) else ((m_laws_szPairS fuel x0.Redexes r14).bind fun r21 => (if (decide (r21 < 0)) = true then some (-1) else some r21))))

set_option maxRecDepth 100000 in
theorem laws_szMemory_ok {W w : World} (hE : Ext W w) {c0_ : List Value} {x0 : D.Memory} {x1 : Int} (h0_ : ty73.ro W c0_ x0) {fuel : Nat} {r : Int} (hm : m_laws_szMemory fuel x0 x1 = some r) :
    Calls Try.prog 35 ⟨[.agg ⟨c0_⟩, .int .i64 x1]⟩ w (Ret fun v w8 => v = .int .i64 r ∧ St w w8 []) := by
  obtain ⟨A1, k2, A4, k5, e7, h3, h6⟩ := ty73_open h0_; subst e7
  refine Calls.into Try.func35 rfl 18 rfl rfl _ rfl ?_
  unfold m_laws_szMemory at hm
  have hS := St.start w
  refine WP.seq ?_
  refine WP.region ?_
  refine RW.new ttok hS rfl rfl rfl rfl (fun g10 w11 e12 hS13 => ?_)
  refine RW.run ttok 1 rfl ?_
  refine RW.nil ?_
  refine WP.seq ?_
  refine WP.region ?_
  refine RW.run ttok 1 rfl ?_
  refine RW.load1 ttok rfl rfl rfl rfl rfl ((hS13.bring 0 rfl).box) 0 rfl rfl rfl rfl ?_
  refine RW.run ttok 1 rfl ?_
  obtain ⟨r14, hx15, hm⟩ := bind_some hm
  refine RW.call rfl rfl rfl enters78 (laws_szCellS_ok (hE.trans hS13.ext) h3 hx15) (fun v16 w17 hR18 => ?_)
  obtain ⟨rfl, hR19⟩ := hR18
  have hS20 := hS13.join hR19
  refine RW.run ttok 1 rfl ?_
  refine RW.nil ?_
  refine WP.seq ?_
  refine WP.seq ?_
  refine WP.region ?_
  refine RW.run ttok 2 rfl ?_
  refine RW.nil ?_
  refine WP.cond (decide (r14 < 0)) rfl (fun hc => ?_) (fun hc => ?_)
  · skip
    rw [if_pos hc] at hm
    refine WP.seq ?_
    refine WP.region ?_
    refine RW.run ttok 1 rfl ?_
    refine RW.nil ?_
    refine WP.ret ?_
    cases hm
    exact ⟨_, .cons (.tmp rfl) .nil, rfl, (hS20.taken 0)⟩
  · skip
    rw [if_neg (not_t hc)] at hm
    refine WP.skip ?_
    refine WP.seq ?_
    refine WP.region ?_
    refine RW.run ttok 1 rfl ?_
    refine RW.load1 ttok rfl rfl rfl rfl rfl ((hS20.bring 0 rfl).box) 4 rfl rfl rfl rfl ?_
    refine RW.run ttok 1 rfl ?_
    obtain ⟨r21, hx22, hm⟩ := bind_some hm
    refine RW.call rfl rfl rfl enters79 (laws_szPairS_ok (hE.trans hS20.ext) h6 hx22) (fun v23 w24 hR25 => ?_)
    obtain ⟨rfl, hR26⟩ := hR25
    have hS27 := hS20.join hR26
    refine RW.run ttok 1 rfl ?_
    refine RW.nil ?_
    refine WP.seq ?_
    refine WP.seq ?_
    refine WP.region ?_
    refine RW.run ttok 2 rfl ?_
    refine RW.nil ?_
    refine WP.cond (decide (r21 < 0)) rfl (fun hc => ?_) (fun hc => ?_)
    · skip
      rw [if_pos hc] at hm
      refine WP.seq ?_
      refine WP.region ?_
      refine RW.run ttok 1 rfl ?_
      refine RW.nil ?_
      refine WP.ret ?_
      cases hm
      exact ⟨_, .cons (.tmp rfl) .nil, rfl, (hS27.taken 0)⟩
    · skip
      rw [if_neg (not_t hc)] at hm
      refine WP.skip ?_
      refine WP.seq ?_
      refine WP.region ?_
      refine RW.run ttok 2 rfl ?_
      refine RW.nil ?_
      refine WP.ret ?_
      cases hm
      exact ⟨_, .cons (.tmp rfl) .nil, rfl, (hS27.taken 0)⟩

theorem enters123 : Enters Try.prog 123 := ⟨_, _, Try.func123, rfl, by kernel_rfl⟩
def m_laws_toInt64S_j1 (fuel : Nat) (t11 : (List Int)) : Option (List Int) := some t11
def m_laws_toInt64S_b1 (fuel : Nat) (x0 : (List Int)) (s10 : Int × (List Int)) : Option (Rd (Int × (List Int)) ((List Int)) ((List Int))) := (if (decide (s10.1 < (x0.length : Int))) = true then ((idx x0 s10.1).bind fun x25 => (if decide (0 ≤ s10.1 ∧ s10.1.toNat < s10.2.length) = true then some (.next (w64 (s10.1 + 1), (s10.2.set s10.1.toNat x25))) else none)) else some (.brk s10.2))
def m_laws_toInt64S (fuel : Nat) (x0 : (List Int)) : Option ((List Int)) := (if decide (0 ≤ (x0.length : Int) ∧ (x0.length : Int) ≤ 4294967296) = true then ((iter (m_laws_toInt64S_b1 fuel x0) fuel (0, (List.replicate (x0.length : Int).toNat (0 : Int)))).bind fun o => aft o (m_laws_toInt64S_j1 fuel)) else none)

set_option maxRecDepth 100000 in
theorem laws_toInt64S_ok {W w : World} (hE : Ext W w) {A0_ : Option Addr} {k0_ : Nat} {x0 : (List Int)} (h0_ : ty103.ro W [.slice A0_ x0.length k0_] x0) {fuel : Nat} {r : (List Int)} (hm : m_laws_toInt64S fuel x0 = some r) :
    Calls Try.prog 123 ⟨[.slice A0_ x0.length k0_]⟩ w (Ret fun v w8 => ∃ A0 k0, v = .slice A0 r.length k0 ∧ St w w8 [Own ty103 [.slice A0 r.length k0] r]) := by
  refine Calls.into Try.func123 rfl 22 rfl rfl _ rfl ?_
  unfold m_laws_toInt64S at hm
  have hS := St.start w
  refine WP.seq ?_
  refine WP.region ?_
  refine RW.run ttok 1 rfl ?_
  refine RW.nil ?_
  refine WP.seq ?_
  refine WP.region ?_
  refine RW.run ttok 2 rfl ?_
  by_cases hk1 : decide (0 ≤ (x0.length : Int) ∧ (x0.length : Int) ≤ 4294967296) = true
  case neg => rw [if_neg hk1] at hm; cases hm
  rw [if_pos hk1] at hm
  have hz7 := of_decide_eq_true hk1
  refine RW.make (U := tInt) ttok (0 : Int) hS rfl rfl rfl rfl rfl rfl rfl rfl hz7.1 (by have := hz7.2; show _ * (8 : Int) ≤ _; omega) (by have := hz7.2; simp only [maxLen]; omega) (fun _ => ⟨rfl, rfl⟩) rfl rfl (fun A2 k3 w4 e5 hS6 => ?_)
  refine RW.run ttok 1 rfl ?_
  refine RW.nil ?_
  refine WP.seq ?_
  refine WP.seq ?_
  refine WP.region ?_
  refine RW.run ttok 1 rfl ?_
  refine RW.nil ?_
  obtain ⟨o14, hl15, hm⟩ := bind_some hm
  refine WP.cut (fun (t11 : (List Int)) F w9 => o14 = .inl t11 ∧ St w w9 [Own ty103 [.slice A2 (List.replicate (x0.length : Int).toNat (0 : Int)).length k3] t11] ∧ F = [(3, .slice A2 (List.replicate (x0.length : Int).toNat (0 : Int)).length k3)]) ?_ ?_
  · skip
    rintro t11 F w13 ⟨ho17, hS16, rfl⟩
    subst ho17
    rw [aft_inl] at hm
    unfold m_laws_toInt64S_j1 at hm
    refine WP.seq ?_
    refine WP.region ?_
    refine RW.run ttok 2 rfl ?_
    refine RW.nil ?_
    refine WP.ret ?_
    cases hm
    have hn18 := (hS16.bring 0 rfl).lenEq
    have hS19 := (hS16.bring 0 rfl).reLen hn18
    exact ⟨_, .cons (.tmp rfl) .nil, A2, k3, (by first | (simp only [hn18]; done) | (simp only [hn18]; rfl)), hS19⟩
  · skip
    refine WP.block ?_
    refine WP.weak [(0, .slice A0_ x0.length k0_), (3, .slice A2 (List.replicate (x0.length : Int).toNat (0 : Int)).length k3), (4, .int .i64 0)] ⟨rfl, rfl, rfl, trivial⟩ ?_
    refine WP.iter (fun (s10 : Int × (List Int)) F w9 => St w w9 [Own ty103 [.slice A2 (List.replicate (x0.length : Int).toNat (0 : Int)).length k3] s10.2] ∧ F = [(0, .slice A0_ x0.length k0_), (3, .slice A2 (List.replicate (x0.length : Int).toNat (0 : Int)).length k3), (4, .int .i64 s10.1)]) _ hl15 ⟨hS6, rfl⟩ ?_
    rintro s10 F w24 _ o22 ⟨hS23, rfl⟩ hb20 ho21
    unfold m_laws_toInt64S_b1 at hb20
    refine WP.seq ?_
    refine WP.seq ?_
    refine WP.region ?_
    refine RW.run ttok 4 rfl ?_
    refine RW.nil ?_
    refine WP.cond (decide (s10.1 < (x0.length : Int))) rfl (fun hc => ?_) (fun hc => ?_)
    · skip
      rw [if_pos hc] at hb20
      refine WP.skip ?_
      refine WP.seq ?_
      refine WP.block ?_
      refine WP.region ?_
      refine RW.run ttok 4 rfl ?_
      obtain ⟨x25, hx26, hb20⟩ := bind_some hb20
      refine RW.idx ttok (hE.trans hS23.ext) rfl rfl rfl rfl rfl rfl (by decide) rfl rfl h0_ (idx_some hx26).1 (idx_some hx26).2 rfl rfl (fun p27 es28 ha29 hr30 => ?_)
      cases hr30
      refine RW.load1 ttok rfl rfl rfl rfl rfl (At.ext (hE.trans hS23.ext) ha29) 0 rfl rfl rfl rfl ?_
      have hS31 := hS23.bring 0 rfl
      by_cases hk32 : decide (0 ≤ s10.1 ∧ s10.1.toNat < s10.2.length) = true
      case neg => rw [if_neg hk32] at hb20; cases hb20
      rw [if_pos hk32] at hb20
      have hb33 := of_decide_eq_true hk32
      refine RW.idxOwnN ttok hS31 rfl rfl rfl rfl rfl rfl rfl rfl hb33.1 hb33.2 rfl rfl (fun q34 hq35 => ?_)
      have hS36 := hS31.flat (T := tInt) (cs := [.int .i64 x25]) (x := x25) ⟨rfl, rfl⟩
      have hS37 := hS36.bring 1 rfl
      refine RW.storeElN ttok hS37 rfl rfl rfl rfl rfl rfl hb33.2 hq35 rfl rfl (fun w38 hS39 => ?_)
      refine RW.nil ?_
      refine WP.region ?_
      refine RW.run ttok 3 rfl ?_
      refine RW.nil ?_
      cases hb20
      exact ⟨_, [(0, .slice A0_ x0.length k0_), (3, .slice A2 (List.replicate (x0.length : Int).toNat (0 : Int)).length k3), (4, .int .i64 (w64 (s10.1 + 1)))], ⟨rfl, rfl, rfl, trivial⟩, rfl, hS39, rfl⟩
    · skip
      rw [if_neg (not_t hc)] at hb20
      refine WP.exit ?_
      cases hb20
      exact ⟨_, [(3, .slice A2 (List.replicate (x0.length : Int).toNat (0 : Int)).length k3)], ⟨rfl, trivial⟩, ho21, hS23, rfl⟩

theorem enters83 : Enters Try.prog 83 := ⟨_, _, Try.func83, rfl, by kernel_rfl⟩
def m_laws_toWord (fuel : Nat) (x0 : D.Word) : Option (D.Word) := some (⟨x0.Tag, x0.At⟩ : D.Word)

set_option maxRecDepth 100000 in
theorem laws_toWord_ok {W w : World} (hE : Ext W w) {c0_ : List Value} {x0 : D.Word} (h0_ : ty70.ro W c0_ x0) {fuel : Nat} {r : D.Word} (hm : m_laws_toWord fuel x0 = some r) :
    Calls Try.prog 83 ⟨[.agg ⟨c0_⟩]⟩ w (Ret fun v w8 => v = .agg ⟨[.int .i64 r.Tag, .int .i64 r.At]⟩ ∧ St w w8 []) := by
  have e1 := ty70_open h0_; subst e1
  refine Calls.into Try.func83 rfl 11 rfl rfl _ rfl ?_
  unfold m_laws_toWord at hm
  have hS := St.start w
  refine WP.seq ?_
  refine WP.region ?_
  refine RW.new ttok hS rfl rfl rfl rfl (fun g2 w3 e4 hS5 => ?_)
  refine RW.new ttok hS5 rfl rfl rfl rfl (fun g6 w7 e10 hS11 => ?_)
  refine RW.nil ?_
  refine WP.seq ?_
  refine WP.region ?_
  refine RW.new ttok hS11 rfl rfl rfl rfl (fun g12 w13 e14 hS15 => ?_)
  refine RW.nil ?_
  refine WP.seq ?_
  refine WP.region ?_
  refine RW.run ttok 1 rfl ?_
  refine RW.load1 ttok rfl rfl rfl rfl rfl ((hS15.bring 2 rfl).box) 0 rfl rfl rfl rfl ?_
  refine RW.run ttok 1 rfl ?_
  have hS16 := hS15.bring 0 rfl
  refine RW.store ttok (A := []) hS16 rfl rfl rfl rfl rfl 0 rfl rfl rfl rfl rfl (fun w17 hS18 => ?_)
  refine RW.nil ?_
  refine WP.seq ?_
  refine WP.region ?_
  refine RW.run ttok 1 rfl ?_
  refine RW.load1 ttok rfl rfl rfl rfl rfl ((hS18.bring 2 rfl).box) 1 rfl rfl rfl rfl ?_
  refine RW.run ttok 1 rfl ?_
  have hS19 := hS18.bring 0 rfl
  refine RW.store ttok (A := []) hS19 rfl rfl rfl rfl rfl 1 rfl rfl rfl rfl rfl (fun w20 hS21 => ?_)
  refine RW.nil ?_
  refine WP.seq ?_
  refine WP.region ?_
  refine RW.loadN ttok rfl rfl rfl rfl rfl ((hS21.bring 0 rfl).box) rfl rfl rfl ?_
  have hS22 := hS21.bring 1 rfl
  refine RW.store ttok (A := []) hS22 rfl rfl rfl rfl rfl 0 rfl rfl rfl rfl rfl (fun w23 hS24 => ?_)
  refine RW.nil ?_
  refine WP.ret ?_
  cases hm
  exact ⟨_, .cons (ResIs.agg ttok rfl rfl rfl ((hS24.bring 0 rfl).box) rfl) .nil, rfl, (hS24.taken 0)⟩

theorem enters214 : Enters Try.prog 214 := ⟨_, _, Try.func214, rfl, by kernel_rfl⟩
def m_laws_toWordS_j1 (fuel : Nat) (t11 : (List D.Word)) : Option (List D.Word) := some t11
def m_laws_toWordS_b1 (fuel : Nat) (x0 : (List D.Word)) (s10 : Int × (List D.Word)) : Option (Rd (Int × (List D.Word)) ((List D.Word)) ((List D.Word))) := (if (decide (s10.1 < (x0.length : Int))) = true then ((idx x0 s10.1).bind fun x25 => ((m_laws_toWord fuel x25).bind fun r32 => (if decide (0 ≤ s10.1 ∧ s10.1.toNat < s10.2.length) = true then some (.next (w64 (s10.1 + 1), (s10.2.set s10.1.toNat r32))) else none))) else some (.brk s10.2))
def m_laws_toWordS (fuel : Nat) (x0 : (List D.Word)) : Option ((List D.Word)) := (if decide (0 ≤ (x0.length : Int) ∧ (x0.length : Int) ≤ 4294967296) = true then ((iter (m_laws_toWordS_b1 fuel x0) fuel (0, (List.replicate (x0.length : Int).toNat (⟨(0 : Int), (0 : Int)⟩ : D.Word)))).bind fun o => aft o (m_laws_toWordS_j1 fuel)) else none)

set_option maxRecDepth 100000 in
theorem laws_toWordS_ok {W w : World} (hE : Ext W w) {A0_ : Option Addr} {k0_ : Nat} {x0 : (List D.Word)} (h0_ : ty208.ro W [.slice A0_ x0.length k0_] x0) {fuel : Nat} {r : (List D.Word)} (hm : m_laws_toWordS fuel x0 = some r) :
    Calls Try.prog 214 ⟨[.slice A0_ x0.length k0_]⟩ w (Ret fun v w8 => ∃ A0 k0, v = .slice A0 r.length k0 ∧ St w w8 [Own ty155 [.slice A0 r.length k0] r]) := by
  refine Calls.into Try.func214 rfl 23 rfl rfl _ rfl ?_
  unfold m_laws_toWordS at hm
  have hS := St.start w
  refine WP.seq ?_
  refine WP.region ?_
  refine RW.run ttok 1 rfl ?_
  refine RW.nil ?_
  refine WP.seq ?_
  refine WP.region ?_
  refine RW.run ttok 2 rfl ?_
  by_cases hk1 : decide (0 ≤ (x0.length : Int) ∧ (x0.length : Int) ≤ 4294967296) = true
  case neg => rw [if_neg hk1] at hm; cases hm
  rw [if_pos hk1] at hm
  have hz7 := of_decide_eq_true hk1
  refine RW.make (U := ty77) ttok (⟨(0 : Int), (0 : Int)⟩ : D.Word) hS rfl rfl rfl rfl rfl rfl rfl rfl hz7.1 (by have := hz7.2; show _ * (16 : Int) ≤ _; omega) (by have := hz7.2; simp only [maxLen]; omega) (fun _ => (ty77_ownI (c := (⟨(0 : Int), (0 : Int)⟩ : D.Word)) rfl)) rfl rfl (fun A2 k3 w4 e5 hS6 => ?_)
  refine RW.run ttok 1 rfl ?_
  refine RW.nil ?_
  refine WP.seq ?_
  refine WP.seq ?_
  refine WP.region ?_
  refine RW.run ttok 1 rfl ?_
  refine RW.nil ?_
  obtain ⟨o14, hl15, hm⟩ := bind_some hm
  refine WP.cut (fun (t11 : (List D.Word)) F w9 => o14 = .inl t11 ∧ St w w9 [Own ty155 [.slice A2 (List.replicate (x0.length : Int).toNat (⟨(0 : Int), (0 : Int)⟩ : D.Word)).length k3] t11] ∧ F = [(3, .slice A2 (List.replicate (x0.length : Int).toNat (⟨(0 : Int), (0 : Int)⟩ : D.Word)).length k3)]) ?_ ?_
  · skip
    rintro t11 F w13 ⟨ho17, hS16, rfl⟩
    subst ho17
    rw [aft_inl] at hm
    unfold m_laws_toWordS_j1 at hm
    refine WP.seq ?_
    refine WP.region ?_
    refine RW.run ttok 2 rfl ?_
    refine RW.nil ?_
    refine WP.ret ?_
    cases hm
    have hn18 := (hS16.bring 0 rfl).lenEq
    have hS19 := (hS16.bring 0 rfl).reLen hn18
    exact ⟨_, .cons (.tmp rfl) .nil, A2, k3, (by first | (simp only [hn18]; done) | (simp only [hn18]; rfl)), hS19⟩
  · skip
    refine WP.block ?_
    refine WP.weak [(0, .slice A0_ x0.length k0_), (3, .slice A2 (List.replicate (x0.length : Int).toNat (⟨(0 : Int), (0 : Int)⟩ : D.Word)).length k3), (4, .int .i64 0)] ⟨rfl, rfl, rfl, trivial⟩ ?_
    refine WP.iter (fun (s10 : Int × (List D.Word)) F w9 => St w w9 [Own ty155 [.slice A2 (List.replicate (x0.length : Int).toNat (⟨(0 : Int), (0 : Int)⟩ : D.Word)).length k3] s10.2] ∧ F = [(0, .slice A0_ x0.length k0_), (3, .slice A2 (List.replicate (x0.length : Int).toNat (⟨(0 : Int), (0 : Int)⟩ : D.Word)).length k3), (4, .int .i64 s10.1)]) _ hl15 ⟨hS6, rfl⟩ ?_
    rintro s10 F w24 _ o22 ⟨hS23, rfl⟩ hb20 ho21
    unfold m_laws_toWordS_b1 at hb20
    refine WP.seq ?_
    refine WP.seq ?_
    refine WP.region ?_
    refine RW.run ttok 4 rfl ?_
    refine RW.nil ?_
    refine WP.cond (decide (s10.1 < (x0.length : Int))) rfl (fun hc => ?_) (fun hc => ?_)
    · skip
      rw [if_pos hc] at hb20
      refine WP.skip ?_
      refine WP.seq ?_
      refine WP.block ?_
      refine WP.region ?_
      refine RW.run ttok 4 rfl ?_
      obtain ⟨x25, hx26, hb20⟩ := bind_some hb20
      refine RW.idx ttok (hE.trans hS23.ext) rfl rfl rfl rfl rfl rfl (by decide) rfl rfl h0_ (idx_some hx26).1 (idx_some hx26).2 rfl rfl (fun p27 es28 ha29 hr30 => ?_)
      have e31 := ty70_open hr30; subst e31
      refine RW.loadN ttok rfl rfl rfl rfl rfl (At.ext (hE.trans hS23.ext) ha29) rfl rfl rfl ?_
      obtain ⟨r32, hx33, hb20⟩ := bind_some hb20
      refine RW.call rfl rfl rfl enters83 (laws_toWord_ok (hE.trans hS23.ext) hr30 hx33) (fun v34 w35 hR36 => ?_)
      obtain ⟨rfl, hR37⟩ := hR36
      have hS38 := hS23.join hR37
      have hS39 := hS38.bring 0 rfl
      by_cases hk40 : decide (0 ≤ s10.1 ∧ s10.1.toNat < s10.2.length) = true
      case neg => rw [if_neg hk40] at hb20; cases hb20
      rw [if_pos hk40] at hb20
      have hb41 := of_decide_eq_true hk40
      refine RW.idxOwnN ttok hS39 rfl rfl rfl rfl rfl rfl rfl rfl hb41.1 hb41.2 rfl rfl (fun q42 hq43 => ?_)
      have hS44 := ty77_shutS (c := r32) (B := _) hS39
      have hS45 := hS44.bring 1 rfl
      refine RW.storeElN ttok hS45 rfl rfl rfl rfl rfl rfl hb41.2 hq43 rfl rfl (fun w46 hS47 => ?_)
      refine RW.nil ?_
      refine WP.region ?_
      refine RW.run ttok 3 rfl ?_
      refine RW.nil ?_
      cases hb20
      exact ⟨_, [(0, .slice A0_ x0.length k0_), (3, .slice A2 (List.replicate (x0.length : Int).toNat (⟨(0 : Int), (0 : Int)⟩ : D.Word)).length k3), (4, .int .i64 (w64 (s10.1 + 1)))], ⟨rfl, rfl, rfl, trivial⟩, rfl, hS47, rfl⟩
    · skip
      rw [if_neg (not_t hc)] at hb20
      refine WP.exit ?_
      cases hb20
      exact ⟨_, [(3, .slice A2 (List.replicate (x0.length : Int).toNat (⟨(0 : Int), (0 : Int)⟩ : D.Word)).length k3)], ⟨rfl, trivial⟩, ho21, hS23, rfl⟩

theorem enters145 : Enters Try.prog 145 := ⟨_, _, Try.func145, rfl, by kernel_rfl⟩
def m_laws_toCell (fuel : Nat) (x0 : D.Cell) : Option (D.Cell) := ((m_laws_toInt64S fuel x0.Data).bind fun r31 => ((m_laws_toWordS fuel x0.Words).bind fun r43 => some (⟨x0.Kind, x0.Level, x0.Value, r31, r43⟩ : D.Cell)))

set_option maxRecDepth 100000 in
theorem laws_toCell_ok {W w : World} (hE : Ext W w) {c0_ : List Value} {x0 : D.Cell} (h0_ : ty210.ro W c0_ x0) {fuel : Nat} {r : D.Cell} (hm : m_laws_toCell fuel x0 = some r) :
    Calls Try.prog 145 ⟨[.agg ⟨c0_⟩]⟩ w (Ret fun v w8 => ∃ A0 k0 A1 k1, v = .agg ⟨[.int .i64 r.Kind, .int .i64 r.Level, .int .i64 r.Value, .slice A0 r.Data.length k0, .slice A1 r.Words.length k1]⟩ ∧ St w w8 [Own ty103 [.slice A0 r.Data.length k0] r.Data, Own ty155 [.slice A1 r.Words.length k1] r.Words]) := by
  obtain ⟨A1, k2, A4, k5, e7, h3, h6⟩ := ty210_open h0_; subst e7
  refine Calls.into Try.func145 rfl 22 rfl rfl _ rfl ?_
  unfold m_laws_toCell at hm
  have hS := St.start w
  refine WP.seq ?_
  refine WP.region ?_
  refine RW.new ttok hS rfl rfl rfl rfl (fun g10 w11 e12 hS13 => ?_)
  refine RW.new ttok hS13 rfl rfl rfl rfl (fun g14 w15 e16 hS17 => ?_)
  refine RW.nil ?_
  refine WP.seq ?_
  refine WP.region ?_
  refine RW.new ttok hS17 rfl rfl rfl rfl (fun g18 w19 e20 hS21 => ?_)
  refine RW.nil ?_
  refine WP.seq ?_
  refine WP.region ?_
  refine RW.run ttok 1 rfl ?_
  refine RW.load1 ttok rfl rfl rfl rfl rfl ((hS21.bring 2 rfl).box) 0 rfl rfl rfl rfl ?_
  refine RW.run ttok 1 rfl ?_
  have hS22 := hS21.bring 0 rfl
  refine RW.store ttok (A := []) hS22 rfl rfl rfl rfl rfl 0 rfl rfl rfl rfl rfl (fun w23 hS24 => ?_)
  refine RW.nil ?_
  refine WP.seq ?_
  refine WP.region ?_
  refine RW.run ttok 1 rfl ?_
  refine RW.load1 ttok rfl rfl rfl rfl rfl ((hS24.bring 2 rfl).box) 1 rfl rfl rfl rfl ?_
  refine RW.run ttok 1 rfl ?_
  have hS25 := hS24.bring 0 rfl
  refine RW.store ttok (A := []) hS25 rfl rfl rfl rfl rfl 1 rfl rfl rfl rfl rfl (fun w26 hS27 => ?_)
  refine RW.nil ?_
  refine WP.seq ?_
  refine WP.region ?_
  refine RW.run ttok 1 rfl ?_
  refine RW.load1 ttok rfl rfl rfl rfl rfl ((hS27.bring 2 rfl).box) 2 rfl rfl rfl rfl ?_
  refine RW.run ttok 1 rfl ?_
  have hS28 := hS27.bring 0 rfl
  refine RW.store ttok (A := []) hS28 rfl rfl rfl rfl rfl 2 rfl rfl rfl rfl rfl (fun w29 hS30 => ?_)
  refine RW.nil ?_
  refine WP.seq ?_
  refine WP.region ?_
  refine RW.run ttok 1 rfl ?_
  refine RW.load1 ttok rfl rfl rfl rfl rfl ((hS30.bring 2 rfl).box) 3 rfl rfl rfl rfl ?_
  obtain ⟨r31, hx32, hm⟩ := bind_some hm
  refine RW.call rfl rfl rfl enters123 (laws_toInt64S_ok (hE.trans hS30.ext) h3 hx32) (fun v33 w34 hR35 => ?_)
  obtain ⟨A36, k37, rfl, hR38⟩ := hR35
  have hS39 := hS30.join hR38
  refine RW.run ttok 1 rfl ?_
  have hS40 := hS39.bring 1 rfl
  refine RW.store ttok (A := []) hS40 rfl rfl rfl rfl rfl 3 rfl rfl rfl rfl rfl (fun w41 hS42 => ?_)
  refine RW.nil ?_
  refine WP.seq ?_
  refine WP.region ?_
  refine RW.run ttok 1 rfl ?_
  refine RW.load1 ttok rfl rfl rfl rfl rfl ((hS42.bring 3 rfl).box) 4 rfl rfl rfl rfl ?_
  obtain ⟨r43, hx44, hm⟩ := bind_some hm
  refine RW.call rfl rfl rfl enters214 (laws_toWordS_ok (hE.trans hS42.ext) h6 hx44) (fun v45 w46 hR47 => ?_)
  obtain ⟨A48, k49, rfl, hR50⟩ := hR47
  have hS51 := hS42.join hR50
  refine RW.run ttok 1 rfl ?_
  have hS52 := hS51.bring 1 rfl
  refine RW.store ttok (A := []) hS52 rfl rfl rfl rfl rfl 4 rfl rfl rfl rfl rfl (fun w53 hS54 => ?_)
  refine RW.nil ?_
  refine WP.seq ?_
  refine WP.region ?_
  refine RW.loadN ttok rfl rfl rfl rfl rfl ((hS54.bring 0 rfl).box) rfl rfl rfl ?_
  have hS55 := hS54.bring 3 rfl
  refine RW.store ttok (A := []) hS55 rfl rfl rfl rfl rfl 0 rfl rfl rfl rfl rfl (fun w56 hS57 => ?_)
  refine RW.nil ?_
  refine WP.ret ?_
  cases hm
  exact ⟨_, .cons (ResIs.agg ttok rfl rfl rfl ((hS57.bring 0 rfl).box) rfl) .nil, A36, k37, A48, k49, rfl, (((hS57.bring 2 rfl).bring 3 rfl).taken 2)⟩

theorem enters82 : Enters Try.prog 82 := ⟨_, _, Try.func82, rfl, by kernel_rfl⟩
def m_laws_toCellS_j1 (fuel : Nat) (t11 : (List D.Cell)) : Option (List D.Cell) := some t11
def m_laws_toCellS_b1 (fuel : Nat) (x0 : (List D.Cell)) (s10 : Int × (List D.Cell)) : Option (Rd (Int × (List D.Cell)) ((List D.Cell)) ((List D.Cell))) := (if (decide (s10.1 < (x0.length : Int))) = true then ((idx x0 s10.1).bind fun x25 => ((m_laws_toCell fuel x25).bind fun r38 => (if decide (0 ≤ s10.1 ∧ s10.1.toNat < s10.2.length) = true then some (.next (w64 (s10.1 + 1), (s10.2.set s10.1.toNat r38))) else none))) else some (.brk s10.2))
def m_laws_toCellS (fuel : Nat) (x0 : (List D.Cell)) : Option ((List D.Cell)) := (if decide (0 ≤ (x0.length : Int) ∧ (x0.length : Int) ≤ 4294967296) = true then ((iter (m_laws_toCellS_b1 fuel x0) fuel (0, (List.replicate (x0.length : Int).toNat (⟨(0 : Int), (0 : Int), (0 : Int), ([] : (List Int)), ([] : (List D.Word))⟩ : D.Cell)))).bind fun o => aft o (m_laws_toCellS_j1 fuel)) else none)

set_option maxRecDepth 100000 in
theorem laws_toCellS_ok {W w : World} (hE : Ext W w) {A0_ : Option Addr} {k0_ : Nat} {x0 : (List D.Cell)} (h0_ : ty68.ro W [.slice A0_ x0.length k0_] x0) {fuel : Nat} {r : (List D.Cell)} (hm : m_laws_toCellS fuel x0 = some r) :
    Calls Try.prog 82 ⟨[.slice A0_ x0.length k0_]⟩ w (Ret fun v w8 => ∃ A0 k0, v = .slice A0 r.length k0 ∧ St w w8 [Own ty76 [.slice A0 r.length k0] r]) := by
  refine Calls.into Try.func82 rfl 23 rfl rfl _ rfl ?_
  unfold m_laws_toCellS at hm
  have hS := St.start w
  refine WP.seq ?_
  refine WP.region ?_
  refine RW.run ttok 1 rfl ?_
  refine RW.nil ?_
  refine WP.seq ?_
  refine WP.region ?_
  refine RW.run ttok 2 rfl ?_
  by_cases hk1 : decide (0 ≤ (x0.length : Int) ∧ (x0.length : Int) ≤ 4294967296) = true
  case neg => rw [if_neg hk1] at hm; cases hm
  rw [if_pos hk1] at hm
  have hz7 := of_decide_eq_true hk1
  refine RW.make (U := ty157) ttok (⟨(0 : Int), (0 : Int), (0 : Int), ([] : (List Int)), ([] : (List D.Word))⟩ : D.Cell) hS rfl rfl rfl rfl rfl rfl rfl rfl hz7.1 (by have := hz7.2; show _ * (72 : Int) ≤ _; omega) (by have := hz7.2; simp only [maxLen]; omega) (fun _ => (ty157_ownI (c := (⟨(0 : Int), (0 : Int), (0 : Int), ([] : (List Int)), ([] : (List D.Word))⟩ : D.Cell)) ⟨[], [], rfl, (slNilOwn tInt 2 _), ⟨[], [], rfl, (slNilOwn ty77 77 _), rfl⟩⟩)) rfl rfl (fun A2 k3 w4 e5 hS6 => ?_)
  refine RW.run ttok 1 rfl ?_
  refine RW.nil ?_
  refine WP.seq ?_
  refine WP.seq ?_
  refine WP.region ?_
  refine RW.run ttok 1 rfl ?_
  refine RW.nil ?_
  obtain ⟨o14, hl15, hm⟩ := bind_some hm
  refine WP.cut (fun (t11 : (List D.Cell)) F w9 => o14 = .inl t11 ∧ St w w9 [Own ty76 [.slice A2 (List.replicate (x0.length : Int).toNat (⟨(0 : Int), (0 : Int), (0 : Int), ([] : (List Int)), ([] : (List D.Word))⟩ : D.Cell)).length k3] t11] ∧ F = [(3, .slice A2 (List.replicate (x0.length : Int).toNat (⟨(0 : Int), (0 : Int), (0 : Int), ([] : (List Int)), ([] : (List D.Word))⟩ : D.Cell)).length k3)]) ?_ ?_
  · skip
    rintro t11 F w13 ⟨ho17, hS16, rfl⟩
    subst ho17
    rw [aft_inl] at hm
    unfold m_laws_toCellS_j1 at hm
    refine WP.seq ?_
    refine WP.region ?_
    refine RW.run ttok 2 rfl ?_
    refine RW.nil ?_
    refine WP.ret ?_
    cases hm
    have hn18 := (hS16.bring 0 rfl).lenEq
    have hS19 := (hS16.bring 0 rfl).reLen hn18
    exact ⟨_, .cons (.tmp rfl) .nil, A2, k3, (by first | (simp only [hn18]; done) | (simp only [hn18]; rfl)), hS19⟩
  · skip
    refine WP.block ?_
    refine WP.weak [(0, .slice A0_ x0.length k0_), (3, .slice A2 (List.replicate (x0.length : Int).toNat (⟨(0 : Int), (0 : Int), (0 : Int), ([] : (List Int)), ([] : (List D.Word))⟩ : D.Cell)).length k3), (4, .int .i64 0)] ⟨rfl, rfl, rfl, trivial⟩ ?_
    refine WP.iter (fun (s10 : Int × (List D.Cell)) F w9 => St w w9 [Own ty76 [.slice A2 (List.replicate (x0.length : Int).toNat (⟨(0 : Int), (0 : Int), (0 : Int), ([] : (List Int)), ([] : (List D.Word))⟩ : D.Cell)).length k3] s10.2] ∧ F = [(0, .slice A0_ x0.length k0_), (3, .slice A2 (List.replicate (x0.length : Int).toNat (⟨(0 : Int), (0 : Int), (0 : Int), ([] : (List Int)), ([] : (List D.Word))⟩ : D.Cell)).length k3), (4, .int .i64 s10.1)]) _ hl15 ⟨hS6, rfl⟩ ?_
    rintro s10 F w24 _ o22 ⟨hS23, rfl⟩ hb20 ho21
    unfold m_laws_toCellS_b1 at hb20
    refine WP.seq ?_
    refine WP.seq ?_
    refine WP.region ?_
    refine RW.run ttok 4 rfl ?_
    refine RW.nil ?_
    refine WP.cond (decide (s10.1 < (x0.length : Int))) rfl (fun hc => ?_) (fun hc => ?_)
    · skip
      rw [if_pos hc] at hb20
      refine WP.skip ?_
      refine WP.seq ?_
      refine WP.block ?_
      refine WP.region ?_
      refine RW.run ttok 4 rfl ?_
      obtain ⟨x25, hx26, hb20⟩ := bind_some hb20
      refine RW.idx ttok (hE.trans hS23.ext) rfl rfl rfl rfl rfl rfl (by decide) rfl rfl h0_ (idx_some hx26).1 (idx_some hx26).2 rfl rfl (fun p27 es28 ha29 hr30 => ?_)
      obtain ⟨A31, k32, A34, k35, e37, h33, h36⟩ := ty210_open hr30; subst e37
      refine RW.loadN ttok rfl rfl rfl rfl rfl (At.ext (hE.trans hS23.ext) ha29) rfl rfl rfl ?_
      obtain ⟨r38, hx39, hb20⟩ := bind_some hb20
      refine RW.call rfl rfl rfl enters145 (laws_toCell_ok (hE.trans hS23.ext) hr30 hx39) (fun v40 w41 hR42 => ?_)
      obtain ⟨A43, k44, A45, k46, rfl, hR47⟩ := hR42
      have hS48 := hS23.join hR47
      have hS49 := hS48.bring 2 rfl
      by_cases hk50 : decide (0 ≤ s10.1 ∧ s10.1.toNat < s10.2.length) = true
      case neg => rw [if_neg hk50] at hb20; cases hb20
      rw [if_pos hk50] at hb20
      have hb51 := of_decide_eq_true hk50
      refine RW.idxOwnN ttok hS49 rfl rfl rfl rfl rfl rfl rfl rfl hb51.1 hb51.2 rfl rfl (fun q52 hq53 => ?_)
      have hS54 := hS49.bring 2 rfl
      have hS55 := hS54.bring 2 rfl
      have hS56 := ty157_shutS (c := r38) (B := _) hS55
      have hS57 := hS56.bring 1 rfl
      refine RW.storeElN ttok hS57 rfl rfl rfl rfl rfl rfl hb51.2 hq53 rfl rfl (fun w58 hS59 => ?_)
      refine RW.nil ?_
      refine WP.region ?_
      refine RW.run ttok 3 rfl ?_
      refine RW.nil ?_
      cases hb20
      exact ⟨_, [(0, .slice A0_ x0.length k0_), (3, .slice A2 (List.replicate (x0.length : Int).toNat (⟨(0 : Int), (0 : Int), (0 : Int), ([] : (List Int)), ([] : (List D.Word))⟩ : D.Cell)).length k3), (4, .int .i64 (w64 (s10.1 + 1)))], ⟨rfl, rfl, rfl, trivial⟩, rfl, hS59, rfl⟩
    · skip
      rw [if_neg (not_t hc)] at hb20
      refine WP.exit ?_
      cases hb20
      exact ⟨_, [(3, .slice A2 (List.replicate (x0.length : Int).toNat (⟨(0 : Int), (0 : Int), (0 : Int), ([] : (List Int)), ([] : (List D.Word))⟩ : D.Cell)).length k3)], ⟨rfl, trivial⟩, ho21, hS23, rfl⟩

theorem enters146 : Enters Try.prog 146 := ⟨_, _, Try.func146, rfl, by kernel_rfl⟩
def m_laws_toPair (fuel : Nat) (x0 : D.Pair) : Option (D.Pair) := some (⟨x0.A, x0.B⟩ : D.Pair)

set_option maxRecDepth 100000 in
theorem laws_toPair_ok {W w : World} (hE : Ext W w) {c0_ : List Value} {x0 : D.Pair} (h0_ : ty216.ro W c0_ x0) {fuel : Nat} {r : D.Pair} (hm : m_laws_toPair fuel x0 = some r) :
    Calls Try.prog 146 ⟨[.agg ⟨c0_⟩]⟩ w (Ret fun v w8 => v = .agg ⟨[.int .i64 r.A, .int .i64 r.B]⟩ ∧ St w w8 []) := by
  have e1 := ty216_open h0_; subst e1
  refine Calls.into Try.func146 rfl 11 rfl rfl _ rfl ?_
  unfold m_laws_toPair at hm
  have hS := St.start w
  refine WP.seq ?_
  refine WP.region ?_
  refine RW.new ttok hS rfl rfl rfl rfl (fun g2 w3 e4 hS5 => ?_)
  refine RW.new ttok hS5 rfl rfl rfl rfl (fun g6 w7 e10 hS11 => ?_)
  refine RW.nil ?_
  refine WP.seq ?_
  refine WP.region ?_
  refine RW.new ttok hS11 rfl rfl rfl rfl (fun g12 w13 e14 hS15 => ?_)
  refine RW.nil ?_
  refine WP.seq ?_
  refine WP.region ?_
  refine RW.run ttok 1 rfl ?_
  refine RW.load1 ttok rfl rfl rfl rfl rfl ((hS15.bring 2 rfl).box) 0 rfl rfl rfl rfl ?_
  refine RW.run ttok 1 rfl ?_
  have hS16 := hS15.bring 0 rfl
  refine RW.store ttok (A := []) hS16 rfl rfl rfl rfl rfl 0 rfl rfl rfl rfl rfl (fun w17 hS18 => ?_)
  refine RW.nil ?_
  refine WP.seq ?_
  refine WP.region ?_
  refine RW.run ttok 1 rfl ?_
  refine RW.load1 ttok rfl rfl rfl rfl rfl ((hS18.bring 2 rfl).box) 1 rfl rfl rfl rfl ?_
  refine RW.run ttok 1 rfl ?_
  have hS19 := hS18.bring 0 rfl
  refine RW.store ttok (A := []) hS19 rfl rfl rfl rfl rfl 1 rfl rfl rfl rfl rfl (fun w20 hS21 => ?_)
  refine RW.nil ?_
  refine WP.seq ?_
  refine WP.region ?_
  refine RW.loadN ttok rfl rfl rfl rfl rfl ((hS21.bring 0 rfl).box) rfl rfl rfl ?_
  have hS22 := hS21.bring 1 rfl
  refine RW.store ttok (A := []) hS22 rfl rfl rfl rfl rfl 0 rfl rfl rfl rfl rfl (fun w23 hS24 => ?_)
  refine RW.nil ?_
  refine WP.ret ?_
  cases hm
  exact ⟨_, .cons (ResIs.agg ttok rfl rfl rfl ((hS24.bring 0 rfl).box) rfl) .nil, rfl, (hS24.taken 0)⟩

theorem enters84 : Enters Try.prog 84 := ⟨_, _, Try.func84, rfl, by kernel_rfl⟩
def m_laws_toPairS_j1 (fuel : Nat) (t11 : (List D.Pair)) : Option (List D.Pair) := some t11
def m_laws_toPairS_b1 (fuel : Nat) (x0 : (List D.Pair)) (s10 : Int × (List D.Pair)) : Option (Rd (Int × (List D.Pair)) ((List D.Pair)) ((List D.Pair))) := (if (decide (s10.1 < (x0.length : Int))) = true then ((idx x0 s10.1).bind fun x25 => ((m_laws_toPair fuel x25).bind fun r32 => (if decide (0 ≤ s10.1 ∧ s10.1.toNat < s10.2.length) = true then some (.next (w64 (s10.1 + 1), (s10.2.set s10.1.toNat r32))) else none))) else some (.brk s10.2))
def m_laws_toPairS (fuel : Nat) (x0 : (List D.Pair)) : Option ((List D.Pair)) := (if decide (0 ≤ (x0.length : Int) ∧ (x0.length : Int) ≤ 4294967296) = true then ((iter (m_laws_toPairS_b1 fuel x0) fuel (0, (List.replicate (x0.length : Int).toNat (⟨(0 : Int), (0 : Int)⟩ : D.Pair)))).bind fun o => aft o (m_laws_toPairS_j1 fuel)) else none)

set_option maxRecDepth 100000 in
theorem laws_toPairS_ok {W w : World} (hE : Ext W w) {A0_ : Option Addr} {k0_ : Nat} {x0 : (List D.Pair)} (h0_ : ty71.ro W [.slice A0_ x0.length k0_] x0) {fuel : Nat} {r : (List D.Pair)} (hm : m_laws_toPairS fuel x0 = some r) :
    Calls Try.prog 84 ⟨[.slice A0_ x0.length k0_]⟩ w (Ret fun v w8 => ∃ A0 k0, v = .slice A0 r.length k0 ∧ St w w8 [Own ty78 [.slice A0 r.length k0] r]) := by
  refine Calls.into Try.func84 rfl 23 rfl rfl _ rfl ?_
  unfold m_laws_toPairS at hm
  have hS := St.start w
  refine WP.seq ?_
  refine WP.region ?_
  refine RW.run ttok 1 rfl ?_
  refine RW.nil ?_
  refine WP.seq ?_
  refine WP.region ?_
  refine RW.run ttok 2 rfl ?_
  by_cases hk1 : decide (0 ≤ (x0.length : Int) ∧ (x0.length : Int) ≤ 4294967296) = true
  case neg => rw [if_neg hk1] at hm; cases hm
  rw [if_pos hk1] at hm
  have hz7 := of_decide_eq_true hk1
  refine RW.make (U := ty139) ttok (⟨(0 : Int), (0 : Int)⟩ : D.Pair) hS rfl rfl rfl rfl rfl rfl rfl rfl hz7.1 (by have := hz7.2; show _ * (16 : Int) ≤ _; omega) (by have := hz7.2; simp only [maxLen]; omega) (fun _ => (ty139_ownI (c := (⟨(0 : Int), (0 : Int)⟩ : D.Pair)) rfl)) rfl rfl (fun A2 k3 w4 e5 hS6 => ?_)
  refine RW.run ttok 1 rfl ?_
  refine RW.nil ?_
  refine WP.seq ?_
  refine WP.seq ?_
  refine WP.region ?_
  refine RW.run ttok 1 rfl ?_
  refine RW.nil ?_
  obtain ⟨o14, hl15, hm⟩ := bind_some hm
  refine WP.cut (fun (t11 : (List D.Pair)) F w9 => o14 = .inl t11 ∧ St w w9 [Own ty78 [.slice A2 (List.replicate (x0.length : Int).toNat (⟨(0 : Int), (0 : Int)⟩ : D.Pair)).length k3] t11] ∧ F = [(3, .slice A2 (List.replicate (x0.length : Int).toNat (⟨(0 : Int), (0 : Int)⟩ : D.Pair)).length k3)]) ?_ ?_
  · skip
    rintro t11 F w13 ⟨ho17, hS16, rfl⟩
    subst ho17
    rw [aft_inl] at hm
    unfold m_laws_toPairS_j1 at hm
    refine WP.seq ?_
    refine WP.region ?_
    refine RW.run ttok 2 rfl ?_
    refine RW.nil ?_
    refine WP.ret ?_
    cases hm
    have hn18 := (hS16.bring 0 rfl).lenEq
    have hS19 := (hS16.bring 0 rfl).reLen hn18
    exact ⟨_, .cons (.tmp rfl) .nil, A2, k3, (by first | (simp only [hn18]; done) | (simp only [hn18]; rfl)), hS19⟩
  · skip
    refine WP.block ?_
    refine WP.weak [(0, .slice A0_ x0.length k0_), (3, .slice A2 (List.replicate (x0.length : Int).toNat (⟨(0 : Int), (0 : Int)⟩ : D.Pair)).length k3), (4, .int .i64 0)] ⟨rfl, rfl, rfl, trivial⟩ ?_
    refine WP.iter (fun (s10 : Int × (List D.Pair)) F w9 => St w w9 [Own ty78 [.slice A2 (List.replicate (x0.length : Int).toNat (⟨(0 : Int), (0 : Int)⟩ : D.Pair)).length k3] s10.2] ∧ F = [(0, .slice A0_ x0.length k0_), (3, .slice A2 (List.replicate (x0.length : Int).toNat (⟨(0 : Int), (0 : Int)⟩ : D.Pair)).length k3), (4, .int .i64 s10.1)]) _ hl15 ⟨hS6, rfl⟩ ?_
    rintro s10 F w24 _ o22 ⟨hS23, rfl⟩ hb20 ho21
    unfold m_laws_toPairS_b1 at hb20
    refine WP.seq ?_
    refine WP.seq ?_
    refine WP.region ?_
    refine RW.run ttok 4 rfl ?_
    refine RW.nil ?_
    refine WP.cond (decide (s10.1 < (x0.length : Int))) rfl (fun hc => ?_) (fun hc => ?_)
    · skip
      rw [if_pos hc] at hb20
      refine WP.skip ?_
      refine WP.seq ?_
      refine WP.block ?_
      refine WP.region ?_
      refine RW.run ttok 4 rfl ?_
      obtain ⟨x25, hx26, hb20⟩ := bind_some hb20
      refine RW.idx ttok (hE.trans hS23.ext) rfl rfl rfl rfl rfl rfl (by decide) rfl rfl h0_ (idx_some hx26).1 (idx_some hx26).2 rfl rfl (fun p27 es28 ha29 hr30 => ?_)
      have e31 := ty216_open hr30; subst e31
      refine RW.loadN ttok rfl rfl rfl rfl rfl (At.ext (hE.trans hS23.ext) ha29) rfl rfl rfl ?_
      obtain ⟨r32, hx33, hb20⟩ := bind_some hb20
      refine RW.call rfl rfl rfl enters146 (laws_toPair_ok (hE.trans hS23.ext) hr30 hx33) (fun v34 w35 hR36 => ?_)
      obtain ⟨rfl, hR37⟩ := hR36
      have hS38 := hS23.join hR37
      have hS39 := hS38.bring 0 rfl
      by_cases hk40 : decide (0 ≤ s10.1 ∧ s10.1.toNat < s10.2.length) = true
      case neg => rw [if_neg hk40] at hb20; cases hb20
      rw [if_pos hk40] at hb20
      have hb41 := of_decide_eq_true hk40
      refine RW.idxOwnN ttok hS39 rfl rfl rfl rfl rfl rfl rfl rfl hb41.1 hb41.2 rfl rfl (fun q42 hq43 => ?_)
      have hS44 := ty139_shutS (c := r32) (B := _) hS39
      have hS45 := hS44.bring 1 rfl
      refine RW.storeElN ttok hS45 rfl rfl rfl rfl rfl rfl hb41.2 hq43 rfl rfl (fun w46 hS47 => ?_)
      refine RW.nil ?_
      refine WP.region ?_
      refine RW.run ttok 3 rfl ?_
      refine RW.nil ?_
      cases hb20
      exact ⟨_, [(0, .slice A0_ x0.length k0_), (3, .slice A2 (List.replicate (x0.length : Int).toNat (⟨(0 : Int), (0 : Int)⟩ : D.Pair)).length k3), (4, .int .i64 (w64 (s10.1 + 1)))], ⟨rfl, rfl, rfl, trivial⟩, rfl, hS47, rfl⟩
    · skip
      rw [if_neg (not_t hc)] at hb20
      refine WP.exit ?_
      cases hb20
      exact ⟨_, [(3, .slice A2 (List.replicate (x0.length : Int).toNat (⟨(0 : Int), (0 : Int)⟩ : D.Pair)).length k3)], ⟨rfl, trivial⟩, ho21, hS23, rfl⟩

theorem enters37 : Enters Try.prog 37 := ⟨_, _, Try.func37, rfl, by kernel_rfl⟩
def m_laws_toMemory (fuel : Nat) (x0 : D.Memory) : Option (D.Memory) := ((m_laws_toCellS fuel x0.Cells).bind fun r22 => ((m_laws_toWord fuel x0.Root).bind fun r37 => ((m_laws_toPairS fuel x0.Redexes).bind fun r47 => some (⟨r22, x0.Free, (⟨r37.Tag, r37.At⟩ : D.Word), r47⟩ : D.Memory))))

set_option maxRecDepth 100000 in
theorem laws_toMemory_ok {W w : World} (hE : Ext W w) {c0_ : List Value} {x0 : D.Memory} (h0_ : ty73.ro W c0_ x0) {fuel : Nat} {r : D.Memory} (hm : m_laws_toMemory fuel x0 = some r) :
    Calls Try.prog 37 ⟨[.agg ⟨c0_⟩]⟩ w (Ret fun v w8 => ∃ A0 k0 A1 k1, v = .agg ⟨[.slice A0 r.Cells.length k0, .int .i64 r.Free, .int .i64 r.Root.Tag, .int .i64 r.Root.At, .slice A1 r.Redexes.length k1]⟩ ∧ St w w8 [Own ty76 [.slice A0 r.Cells.length k0] r.Cells, Own ty78 [.slice A1 r.Redexes.length k1] r.Redexes]) := by
  obtain ⟨A1, k2, A4, k5, e7, h3, h6⟩ := ty73_open h0_; subst e7
  refine Calls.into Try.func37 rfl 20 rfl rfl _ rfl ?_
  unfold m_laws_toMemory at hm
  have hS := St.start w
  refine WP.seq ?_
  refine WP.region ?_
  refine RW.new ttok hS rfl rfl rfl rfl (fun g10 w11 e12 hS13 => ?_)
  refine RW.new ttok hS13 rfl rfl rfl rfl (fun g14 w15 e16 hS17 => ?_)
  refine RW.nil ?_
  refine WP.seq ?_
  refine WP.region ?_
  refine RW.new ttok hS17 rfl rfl rfl rfl (fun g18 w19 e20 hS21 => ?_)
  refine RW.nil ?_
  refine WP.seq ?_
  refine WP.region ?_
  refine RW.run ttok 1 rfl ?_
  refine RW.load1 ttok rfl rfl rfl rfl rfl ((hS21.bring 2 rfl).box) 0 rfl rfl rfl rfl ?_
  obtain ⟨r22, hx23, hm⟩ := bind_some hm
  refine RW.call rfl rfl rfl enters82 (laws_toCellS_ok (hE.trans hS21.ext) h3 hx23) (fun v24 w25 hR26 => ?_)
  obtain ⟨A27, k28, rfl, hR29⟩ := hR26
  have hS30 := hS21.join hR29
  refine RW.run ttok 1 rfl ?_
  have hS31 := hS30.bring 1 rfl
  refine RW.store ttok (A := []) hS31 rfl rfl rfl rfl rfl 0 rfl rfl rfl rfl rfl (fun w32 hS33 => ?_)
  refine RW.nil ?_
  refine WP.seq ?_
  refine WP.region ?_
  refine RW.run ttok 1 rfl ?_
  refine RW.load1 ttok rfl rfl rfl rfl rfl ((hS33.bring 3 rfl).box) 1 rfl rfl rfl rfl ?_
  refine RW.run ttok 1 rfl ?_
  have hS34 := hS33.bring 0 rfl
  refine RW.store ttok (A := []) hS34 rfl rfl rfl rfl rfl 1 rfl rfl rfl rfl rfl (fun w35 hS36 => ?_)
  refine RW.nil ?_
  refine WP.seq ?_
  refine WP.region ?_
  refine RW.run ttok 1 rfl ?_
  refine RW.loadN ttok rfl rfl rfl rfl rfl (At.sub ((hS36.bring 3 rfl).box) 2 2) rfl rfl rfl ?_
  obtain ⟨r37, hx38, hm⟩ := bind_some hm
  refine RW.call rfl rfl rfl enters83 (laws_toWord_ok (hE.trans hS36.ext) (ty70_shut x0.Root) hx38) (fun v39 w40 hR41 => ?_)
  obtain ⟨rfl, hR42⟩ := hR41
  have hS43 := hS36.join hR42
  refine RW.run ttok 1 rfl ?_
  have hS44 := hS43.bring 0 rfl
  refine RW.store ttok (A := []) hS44 rfl rfl rfl rfl rfl 2 rfl rfl rfl rfl rfl (fun w45 hS46 => ?_)
  refine RW.nil ?_
  refine WP.seq ?_
  refine WP.region ?_
  refine RW.run ttok 1 rfl ?_
  refine RW.load1 ttok rfl rfl rfl rfl rfl ((hS46.bring 3 rfl).box) 4 rfl rfl rfl rfl ?_
  obtain ⟨r47, hx48, hm⟩ := bind_some hm
  refine RW.call rfl rfl rfl enters84 (laws_toPairS_ok (hE.trans hS46.ext) h6 hx48) (fun v49 w50 hR51 => ?_)
  obtain ⟨A52, k53, rfl, hR54⟩ := hR51
  have hS55 := hS46.join hR54
  refine RW.run ttok 1 rfl ?_
  have hS56 := hS55.bring 1 rfl
  refine RW.store ttok (A := []) hS56 rfl rfl rfl rfl rfl 4 rfl rfl rfl rfl rfl (fun w57 hS58 => ?_)
  refine RW.nil ?_
  refine WP.seq ?_
  refine WP.region ?_
  refine RW.loadN ttok rfl rfl rfl rfl rfl ((hS58.bring 0 rfl).box) rfl rfl rfl ?_
  have hS59 := hS58.bring 3 rfl
  refine RW.store ttok (A := []) hS59 rfl rfl rfl rfl rfl 0 rfl rfl rfl rfl rfl (fun w60 hS61 => ?_)
  refine RW.nil ?_
  refine WP.ret ?_
  cases hm
  exact ⟨_, .cons (ResIs.agg ttok rfl rfl rfl ((hS61.bring 0 rfl).box) rfl) .nil, A27, k28, A52, k53, rfl, (((hS61.bring 2 rfl).bring 3 rfl).taken 2)⟩

theorem enters161 : Enters Try.prog 161 := ⟨_, _, Try.func161, rfl, by kernel_rfl⟩
def m_spec_l00Own (fuel : Nat) (x0 : (List Int)) : Option ((List Int)) := (if decide ((([] : (List Int)).length : Int) + (x0.length : Int) ≤ 4294967296) = true then some (([] : (List Int)) ++ x0) else none)

set_option maxRecDepth 100000 in
theorem spec_l00Own_ok {W w : World} (hE : Ext W w) {A0_ : Option Addr} {k0_ : Nat} {x0 : (List Int)} (h0_ : ty103.ro W [.slice A0_ x0.length k0_] x0) {fuel : Nat} {r : (List Int)} (hm : m_spec_l00Own fuel x0 = some r) :
    Calls Try.prog 161 ⟨[.slice A0_ x0.length k0_]⟩ w (Ret fun v w8 => ∃ A0 k0, v = .slice A0 r.length k0 ∧ St w w8 [Own ty103 [.slice A0 r.length k0] r]) := by
  refine Calls.into Try.func161 rfl 6 rfl rfl _ rfl ?_
  unfold m_spec_l00Own at hm
  have hS := St.start w
  refine WP.seq ?_
  refine WP.region ?_
  refine RW.run ttok 1 rfl ?_
  refine RW.nil ?_
  refine WP.seq ?_
  refine WP.region ?_
  refine RW.newSlice0 (U := tInt) ttok hS rfl rfl rfl rfl rfl rfl rfl (fun A1 k2 w3 e4 hS5 => ?_)
  refine RW.run ttok 1 rfl ?_
  have hS6 := hS5.bring 0 rfl
  by_cases hk7 : decide ((([] : (List Int)).length : Int) + (x0.length : Int) ≤ 4294967296) = true
  case neg => rw [if_neg hk7] at hm; cases hm
  rw [if_pos hk7] at hm
  refine RW.appendRo ttok Flat.int hS6 rfl rfl rfl rfl rfl rfl (by decide) rfl rfl (ty103.ext (hE.trans hS6.ext) h0_) (of_decide_eq_true hk7) (by decide) rfl rfl (fun A10 k11 w12 hS13 => ?_)
  refine RW.run ttok 1 rfl ?_
  refine RW.nil ?_
  refine WP.ret ?_
  cases hm
  exact ⟨_, .cons (.tmp rfl) .nil, A10, k11, rfl, hS13⟩

theorem enters235 : Enters Try.prog 235 := ⟨_, _, Try.func235, rfl, by kernel_rfl⟩
def m_spec_l21OwnCell (fuel : Nat) (x0 : D.Cell) : Option (D.Cell) := ((m_spec_l00Own fuel x0.Data).bind fun r16 => (if decide ((([] : (List D.Word)).length : Int) + (x0.Words.length : Int) ≤ 4294967296) = true then some (⟨x0.Kind, x0.Level, x0.Value, r16, (([] : (List D.Word)) ++ x0.Words)⟩ : D.Cell) else none))

set_option maxRecDepth 100000 in
theorem spec_l21OwnCell_ok {W w : World} (hE : Ext W w) {p0_ : Addr} {c0_ : List Value} {x0 : D.Cell} (h0_ : ty157.ro W c0_ x0) (g0_ : At W p0_ c0_) {fuel : Nat} {r : D.Cell} (hm : m_spec_l21OwnCell fuel x0 = some r) :
    Calls Try.prog 235 ⟨[.pointer (some p0_)]⟩ w (Ret fun v w8 => ∃ A0 k0 A1 k1, v = .agg ⟨[.int .i64 r.Kind, .int .i64 r.Level, .int .i64 r.Value, .slice A0 r.Data.length k0, .slice A1 r.Words.length k1]⟩ ∧ St w w8 [Own ty103 [.slice A0 r.Data.length k0] r.Data, Own ty155 [.slice A1 r.Words.length k1] r.Words]) := by
  obtain ⟨A1, k2, A4, k5, e7, h3, h6⟩ := ty157_open h0_; subst e7
  refine Calls.into Try.func235 rfl 27 rfl rfl _ rfl ?_
  unfold m_spec_l21OwnCell at hm
  have hS := St.start w
  refine WP.seq ?_
  refine WP.region ?_
  refine RW.new ttok hS rfl rfl rfl rfl (fun g10 w11 e12 hS13 => ?_)
  refine RW.nil ?_
  refine WP.seq ?_
  refine WP.drawnM 20971520 mixed 25 (by kernel_rfl) (by kernel_rfl) [([], 33554431), ([0], 33554430), ([1], 33554429), ([2], 33554427), ([], 33554431), ([4], 33554415), ([5], 33554399), ([6], 33554367), ([], 33554431), ([8], 33554175), ([9], 33553919), ([10], 33553407), ([], 33554431), ([12], 33550335), ([13], 33546239), ([14], 33538047), ([15], 33521663), ([], 33554431), ([], 33554431), ([18], 33292287), ([19], 33030143), ([20], 32505855), ([17, 21, 16], 31326207), ([3, 7, 11, 16, 22], 29292407), ([23, 22, 0, 1, 2, 3, 4, 5, 6, 7, 8, 9, 10, 11, 12, 13, 14, 15, 16, 17, 18, 19, 20, 21, 22, 23], 25165823)] (by kernel_rfl) hS13.ext (fun hsk14 => ?_)
  have hS15 := hS13.step (Ext.draw _)
  refine DM.run (fuel := 10) ttok hsk14 [0, 1, 2, 4, 5, 6, 8, 9, 10, 12, 13, 14, 18, 19, 20] 1865591 (by kernel_rfl) (by kernel_rfl) rfl ?_
  refine DM.weak [(2, .pointer (some ⟨g10, 0, none⟩)), (5, .pointer (some p0_)), (9, .pointer (some (p0_.add 1))), (13, .pointer (some (p0_.add 2))), (17, .pointer (some (p0_.add 3))), (23, .pointer (some (p0_.add 4)))] ⟨rfl, rfl, rfl, rfl, rfl, rfl, trivial⟩ ?_
  refine DM.quietV hsk14 3 1865599 (by kernel_rfl) (by kernel_rfl) rfl (by kernel_rfl) rfl (Quiet.load1 ttok rfl rfl rfl rfl (At.ext hE g0_) 0 rfl rfl) rfl rfl ?_
  refine DM.quietV hsk14 7 1865727 (by kernel_rfl) (by kernel_rfl) rfl (by kernel_rfl) rfl (Quiet.load1 ttok rfl rfl rfl rfl (At.ext hE g0_) 1 rfl rfl) rfl rfl ?_
  refine DM.quietV hsk14 11 1867775 (by kernel_rfl) (by kernel_rfl) rfl (by kernel_rfl) rfl (Quiet.load1 ttok rfl rfl rfl rfl (At.ext hE g0_) 2 rfl rfl) rfl rfl ?_
  refine DM.quietV hsk14 15 1900543 (by kernel_rfl) (by kernel_rfl) rfl (by kernel_rfl) rfl (Quiet.load1 ttok rfl rfl rfl rfl (At.ext hE g0_) 3 rfl rfl) rfl rfl ?_
  refine DM.load1 ttok hsk14 21 3997695 (by kernel_rfl) (by kernel_rfl) (by kernel_rfl) (by kernel_rfl) rfl (by kernel_rfl) rfl rfl rfl rfl rfl (At.ext (hE.trans hS13.ext) g0_) 4 rfl rfl rfl rfl ?_
  obtain ⟨r16, hx17, hm⟩ := bind_some hm
  by_cases hk31 : decide ((([] : (List D.Word)).length : Int) + (x0.Words.length : Int) ≤ 4294967296) = true
  case neg => rw [if_neg hk31] at hm; cases hm
  rw [if_pos hk31] at hm
  refine DM.all hsk14 [16, 17] (by kernel_rfl) (by simp) ?_
  intro i39 hi40
  simp only [List.mem_cons, List.not_mem_nil, or_false] at hi40
  rcases hi40 with rfl | rfl
  · skip
    refine LM.call hsk14 4063231 (by kernel_rfl) (by kernel_rfl) rfl rfl rfl rfl enters161 (spec_l00Own_ok (hE.trans hS15.ext) h3 hx17) (fun v41 w42 hR43 => ?_)
    obtain ⟨A44, k45, rfl, hR46⟩ := hR43
    refine ⟨hR46.ext, ?_⟩
    have hS47 := hS15.join hR46
    refine DM.one hsk14 17 (by kernel_rfl) (LM.newSlice0 (U := ty77) ttok hS47 hsk14 4194303 (by kernel_rfl) (by kernel_rfl) rfl rfl rfl rfl rfl rfl rfl rfl (fun A48 k49 w50 e51 hS52 => ?_))
    have hS53 := hS52.bring 0 rfl
    refine DM.one hsk14 22 (by kernel_rfl) (LM.appendRo ttok (Flat.map (Flat.pair Flat.int (Flat.pair Flat.int Flat.unit))) hS53 hsk14 8388607 (by kernel_rfl) (by kernel_rfl) rfl rfl rfl rfl rfl rfl rfl (by decide) rfl rfl (ty155.ext (hE.trans hS53.ext) h6) (of_decide_eq_true hk31) (by decide) rfl rfl (fun A54 k55 w56 hS57 => ?_))
    refine DM.quietP hsk14 23 16777215 (by kernel_rfl) (by kernel_rfl) rfl (by kernel_rfl) rfl (fun _ => Quiet.build ttok rfl rfl rfl rfl rfl) rfl rfl ?_
    have hS58 := hS57.bring 2 rfl
    refine DM.one hsk14 24 (by kernel_rfl) (LM.store ttok (A := []) hS58 hsk14 33554431 (by kernel_rfl) (by kernel_rfl) rfl rfl rfl rfl rfl rfl 0 rfl rfl rfl rfl rfl (fun w59 hS60 => ?_))
    refine DM.done hsk14 (by kernel_rfl) ?_
    refine WP.ret ?_
    cases hm
    exact ⟨_, .cons (ResIs.agg ttok rfl rfl rfl ((hS60.bring 0 rfl).box) rfl) .nil, A44, k45, A54, k55, rfl, (((hS60.bring 1 rfl).bring 2 rfl).taken 2)⟩
  · skip
    refine LM.newSlice0 (U := ty77) ttok hS15 hsk14 4128767 (by kernel_rfl) (by kernel_rfl) rfl rfl rfl rfl rfl rfl rfl rfl (fun A61 k62 w63 e65 hS66 => ?_)
    refine DM.one hsk14 16 (by kernel_rfl) (LM.call hsk14 4194303 (by kernel_rfl) (by kernel_rfl) rfl rfl rfl rfl enters161 (spec_l00Own_ok (hE.trans hS66.ext) h3 hx17) (fun v67 w68 hR69 => ?_))
    obtain ⟨A70, k71, rfl, hR72⟩ := hR69
    refine ⟨hR72.ext, ?_⟩
    have hS73 := hS66.join hR72
    have hS74 := hS73.bring 1 rfl
    refine DM.one hsk14 22 (by kernel_rfl) (LM.appendRo ttok (Flat.map (Flat.pair Flat.int (Flat.pair Flat.int Flat.unit))) hS74 hsk14 8388607 (by kernel_rfl) (by kernel_rfl) rfl rfl rfl rfl rfl rfl rfl (by decide) rfl rfl (ty155.ext (hE.trans hS74.ext) h6) (of_decide_eq_true hk31) (by decide) rfl rfl (fun A75 k76 w77 hS78 => ?_))
    refine DM.quietP hsk14 23 16777215 (by kernel_rfl) (by kernel_rfl) rfl (by kernel_rfl) rfl (fun _ => Quiet.build ttok rfl rfl rfl rfl rfl) rfl rfl ?_
    have hS79 := hS78.bring 2 rfl
    refine DM.one hsk14 24 (by kernel_rfl) (LM.store ttok (A := []) hS79 hsk14 33554431 (by kernel_rfl) (by kernel_rfl) rfl rfl rfl rfl rfl rfl 0 rfl rfl rfl rfl rfl (fun w80 hS81 => ?_))
    refine DM.done hsk14 (by kernel_rfl) ?_
    refine WP.ret ?_
    cases hm
    exact ⟨_, .cons (ResIs.agg ttok rfl rfl rfl ((hS81.bring 0 rfl).box) rfl) .nil, A70, k71, A75, k76, rfl, (((hS81.bring 1 rfl).bring 2 rfl).taken 2)⟩

theorem enters153 : Enters Try.prog 153 := ⟨_, _, Try.func153, rfl, by kernel_rfl⟩
def m_spec_l21Own_j2 (fuel : Nat) (t14 : ((List D.Cell) × Int × Int × Int × (List D.Pair))) (t24 : (List D.Cell)) : Option D.Memory := some (⟨t24, t14.2.1, (⟨t14.2.2.1, t14.2.2.2.1⟩ : D.Word), t14.2.2.2.2⟩ : D.Memory)
def m_spec_l21Own_b1 (fuel : Nat) (x0 : D.Memory) (s23 : Int × (List D.Cell)) : Option (Rd (Int × (List D.Cell)) ((List D.Cell)) (D.Memory)) := (if (decide (s23.1 < (x0.Cells.length : Int))) = true then ((idx x0.Cells s23.1).bind fun x47 => ((m_spec_l21OwnCell fuel x47).bind fun r60 => (if decide ((s23.2.length : Int) + (([r60] : (List D.Cell)).length : Int) ≤ 4294967296) = true then some (.next (w64 (s23.1 + 1), (s23.2 ++ ([r60] : (List D.Cell))))) else none))) else some (.brk s23.2))
def m_spec_l21Own_j1 (fuel : Nat) (x0 : D.Memory) (t14 : ((List D.Cell) × Int × Int × Int × (List D.Pair))) : Option D.Memory := ((iter (m_spec_l21Own_b1 fuel x0) fuel (0, t14.1)).bind fun o => aft o (m_spec_l21Own_j2 fuel t14))
def m_spec_l21Own (fuel : Nat) (x0 : D.Memory) : Option (D.Memory) := (if decide ((([] : (List D.Pair)).length : Int) + (x0.Redexes.length : Int) ≤ 4294967296) = true then m_spec_l21Own_j1 fuel x0 ([], x0.Free, x0.Root.Tag, x0.Root.At, (([] : (List D.Pair)) ++ x0.Redexes)) else none)

set_option maxRecDepth 100000 in
theorem spec_l21Own_ok {W w : World} (hE : Ext W w) {p0_ : Addr} {c0_ : List Value} {x0 : D.Memory} (h0_ : ty80.ro W c0_ x0) (g0_ : At W p0_ c0_) {fuel : Nat} {r : D.Memory} (hm : m_spec_l21Own fuel x0 = some r) :
    Calls Try.prog 153 ⟨[.pointer (some p0_)]⟩ w (Ret fun v w8 => ∃ A0 k0 A1 k1, v = .agg ⟨[.slice A0 r.Cells.length k0, .int .i64 r.Free, .int .i64 r.Root.Tag, .int .i64 r.Root.At, .slice A1 r.Redexes.length k1]⟩ ∧ St w w8 [Own ty76 [.slice A0 r.Cells.length k0] r.Cells, Own ty78 [.slice A1 r.Redexes.length k1] r.Redexes]) := by
  obtain ⟨A1, k2, A4, k5, e7, h3, h6⟩ := ty80_open h0_; subst e7
  refine Calls.into Try.func153 rfl 42 rfl rfl _ rfl ?_
  unfold m_spec_l21Own at hm
  have hS := St.start w
  refine WP.seq ?_
  refine WP.region ?_
  refine RW.new ttok hS rfl rfl rfl rfl (fun g10 w11 e12 hS13 => ?_)
  refine RW.nil ?_
  refine WP.seq ?_
  refine WP.cut (fun (t14 : ((List D.Cell) × Int × Int × Int × (List D.Pair))) F w9 => ∃ g15 A16 k17 A18 k19, m_spec_l21Own_j1 fuel x0 t14 = some r ∧ St w w9 [Box g15 [.slice A16 t14.1.length k17, .int .i64 t14.2.1, .int .i64 t14.2.2.1, .int .i64 t14.2.2.2.1, .slice A18 t14.2.2.2.2.length k19] 80, Own ty76 [.slice A16 t14.1.length k17] t14.1, Own ty78 [.slice A18 t14.2.2.2.2.length k19] t14.2.2.2.2, Box g10 [.slice none 0 0, .int .i64 0, .int .i64 0, .int .i64 0, .slice none 0 0] 80] ∧ F = [(0, .pointer (some p0_)), (2, .pointer (some ⟨g10, 0, none⟩)), (3, .pointer (some ⟨g15, 0, none⟩))]) ?_ ?_
  · skip
    rintro t14 F w21 ⟨g15, A16, k17, A18, k19, hm, hS20, rfl⟩
    unfold m_spec_l21Own_j1 at hm
    refine WP.seq ?_
    refine WP.seq ?_
    refine WP.region ?_
    refine RW.run ttok 1 rfl ?_
    refine RW.nil ?_
    obtain ⟨o33, hl34, hm⟩ := bind_some hm
    refine WP.cut (fun (t24 : (List D.Cell)) F w9 => ∃ A30 k31, o33 = .inl t24 ∧ St w w9 [Box g15 [.slice A30 t24.length k31, .int .i64 t14.2.1, .int .i64 t14.2.2.1, .int .i64 t14.2.2.2.1, .slice A18 t14.2.2.2.2.length k19] 80, Own ty76 [.slice A30 t24.length k31] t24, Own ty78 [.slice A18 t14.2.2.2.2.length k19] t14.2.2.2.2, Box g10 [.slice none 0 0, .int .i64 0, .int .i64 0, .int .i64 0, .slice none 0 0] 80] ∧ F = [(2, .pointer (some ⟨g10, 0, none⟩)), (3, .pointer (some ⟨g15, 0, none⟩))]) ?_ ?_
    · skip
      rintro t24 F w32 ⟨A30, k31, ho36, hS35, rfl⟩
      subst ho36
      rw [aft_inl] at hm
      unfold m_spec_l21Own_j2 at hm
      refine WP.seq ?_
      refine WP.region ?_
      refine RW.loadN ttok rfl rfl rfl rfl rfl ((hS35.bring 0 rfl).box) rfl rfl rfl ?_
      have hS37 := hS35.bring 3 rfl
      refine RW.store ttok (A := []) hS37 rfl rfl rfl rfl rfl 0 rfl rfl rfl rfl rfl (fun w38 hS39 => ?_)
      refine RW.nil ?_
      refine WP.ret ?_
      cases hm
      exact ⟨_, .cons (ResIs.agg ttok rfl rfl rfl ((hS39.bring 0 rfl).box) rfl) .nil, A30, k31, A18, k19, rfl, (((hS39.bring 3 rfl).bring 3 rfl).taken 2)⟩
    · skip
      refine WP.block ?_
      refine WP.weak [(0, .pointer (some p0_)), (2, .pointer (some ⟨g10, 0, none⟩)), (3, .pointer (some ⟨g15, 0, none⟩)), (4, .int .i64 0)] ⟨rfl, rfl, rfl, rfl, trivial⟩ ?_
      refine WP.iter (fun (s23 : Int × (List D.Cell)) F w9 => ∃ A28 k29, St w w9 [Box g15 [.slice A28 s23.2.length k29, .int .i64 t14.2.1, .int .i64 t14.2.2.1, .int .i64 t14.2.2.2.1, .slice A18 t14.2.2.2.2.length k19] 80, Own ty76 [.slice A28 s23.2.length k29] s23.2, Own ty78 [.slice A18 t14.2.2.2.2.length k19] t14.2.2.2.2, Box g10 [.slice none 0 0, .int .i64 0, .int .i64 0, .int .i64 0, .slice none 0 0] 80] ∧ F = [(0, .pointer (some p0_)), (2, .pointer (some ⟨g10, 0, none⟩)), (3, .pointer (some ⟨g15, 0, none⟩)), (4, .int .i64 s23.1)]) _ hl34 ⟨A16, k17, hS20, rfl⟩ ?_
      rintro s23 F w44 _ o42 ⟨A28, k29, hS43, rfl⟩ hb40 ho41
      unfold m_spec_l21Own_b1 at hb40
      refine WP.seq ?_
      refine WP.seq ?_
      refine WP.region ?_
      refine RW.run ttok 4 rfl ?_
      refine RW.load1 ttok rfl rfl rfl rfl rfl (At.ext (hE.trans hS43.ext) g0_) 0 rfl rfl rfl rfl ?_
      refine RW.run ttok 2 rfl ?_
      refine RW.nil ?_
      refine WP.cond (decide (s23.1 < (x0.Cells.length : Int))) rfl (fun hc => ?_) (fun hc => ?_)
      · skip
        rw [if_pos hc] at hb40
        refine WP.skip ?_
        refine WP.seq ?_
        refine WP.block ?_
        refine WP.drawnM 5120 mixed 13 (by kernel_rfl) (by kernel_rfl) [([], 8191), ([0], 8190), ([], 8191), ([2], 8187), ([3], 8183), ([4], 8175), ([], 8191), ([5, 6], 8095), ([7], 8063), ([8], 7935), ([1, 9, 8], 7677), ([0, 1, 2, 3, 4, 5, 6, 7, 8, 9, 10], 8191), ([11, 10, 10, 0, 1, 2, 3, 4, 5, 6, 7, 8, 9, 10], 5119)] (by kernel_rfl) hS43.ext (fun hsk45 => ?_)
        have hS46 := hS43.step (Ext.draw _)
        refine DM.run (fuel := 8) ttok hsk45 [0, 2, 3, 4, 6] 93 (by kernel_rfl) (by kernel_rfl) rfl ?_
        refine DM.weak [(0, .pointer (some p0_)), (2, .pointer (some ⟨g10, 0, none⟩)), (3, .pointer (some ⟨g15, 0, none⟩)), (4, .int .i64 s23.1), (29, .pointer (some ⟨g15, 0, none⟩)), (33, .pointer (some p0_)), (35, .int .i64 s23.1)] ⟨rfl, rfl, rfl, rfl, rfl, rfl, rfl, trivial⟩ ?_
        refine DM.load1 ttok hsk45 1 95 (by kernel_rfl) (by kernel_rfl) (by kernel_rfl) (by kernel_rfl) rfl (by kernel_rfl) rfl rfl rfl rfl rfl ((hS43.bring 0 rfl).box) 0 rfl rfl rfl rfl ?_
        refine DM.quietV hsk45 5 127 (by kernel_rfl) (by kernel_rfl) rfl (by kernel_rfl) rfl (Quiet.load1 ttok rfl rfl rfl rfl (At.ext hE g0_) 0 rfl rfl) rfl rfl ?_
        obtain ⟨x47, hx48, hb40⟩ := bind_some hb40
        refine DM.idxV ttok hE hsk45 7 255 (by kernel_rfl) (by kernel_rfl) rfl (by kernel_rfl) rfl rfl rfl rfl rfl rfl (by decide) rfl rfl h3 (idx_some hx48).1 (idx_some hx48).2 rfl rfl (fun p49 es50 ha51 hr52 => ?_)
        obtain ⟨A53, k54, A56, k57, e59, h55, h58⟩ := ty157_open hr52; subst e59
        obtain ⟨r60, hx61, hb40⟩ := bind_some hb40
        refine DM.one hsk45 8 (by kernel_rfl) (LM.call hsk45 511 (by kernel_rfl) (by kernel_rfl) rfl rfl rfl rfl enters235 (spec_l21OwnCell_ok (hE.trans hS46.ext) hr52 ha51 hx61) (fun v62 w63 hR65 => ?_))
        obtain ⟨A66, k67, A68, k69, rfl, hR70⟩ := hR65
        refine ⟨hR70.ext, ?_⟩
        have hS71 := hS46.join hR70
        have hS72 := St.noEl ty157 hS71
        have hS73 := hS72.bring 2 rfl
        have hS74 := hS73.bring 2 rfl
        have hS75 := ty157_shutS (c := r60) (B := _) hS74
        have hS76 := St.consEl hS75
        refine DM.one hsk45 9 (by kernel_rfl) (LM.newSlice (U := ty157) (els := [.int .i64 r60.Kind, .int .i64 r60.Level, .int .i64 r60.Value, .slice A66 r60.Data.length k67, .slice A68 r60.Words.length k69]) (ys := [r60]) ttok hS76 hsk45 1023 (by kernel_rfl) (by kernel_rfl) rfl rfl rfl rfl rfl rfl rfl rfl rfl rfl rfl rfl rfl (fun A77 k78 w79 e80 hS81 => ?_))
        have hS82 := hS81.bring 2 rfl
        have hS83 := hS82.bring 1 rfl
        by_cases hk84 : decide ((s23.2.length : Int) + (([r60] : (List D.Cell)).length : Int) ≤ 4294967296) = true
        case neg => rw [if_neg hk84] at hb40; cases hb40
        rw [if_pos hk84] at hb40
        refine DM.one hsk45 10 (by kernel_rfl) (LM.appendOwn ttok hS83 hsk45 2047 (by kernel_rfl) (by kernel_rfl) rfl rfl rfl rfl rfl rfl rfl (by decide) rfl rfl (of_decide_eq_true hk84) (by decide) rfl rfl (fun A85 k86 w87 hS88 => ?_))
        refine DM.run (fuel := 1) ttok hsk45 [11] 4095 (by kernel_rfl) (by kernel_rfl) rfl ?_
        refine DM.weak [(0, .pointer (some p0_)), (2, .pointer (some ⟨g10, 0, none⟩)), (3, .pointer (some ⟨g15, 0, none⟩)), (4, .int .i64 s23.1), (39, .slice A85 (s23.2 ++ ([r60] : (List D.Cell))).length k86), (40, .pointer (some ⟨g15, 0, none⟩))] ⟨rfl, rfl, rfl, rfl, rfl, rfl, trivial⟩ ?_
        have hS89 := hS88.bring 1 rfl
        refine DM.one hsk45 12 (by kernel_rfl) (LM.store ttok (A := []) hS89 hsk45 8191 (by kernel_rfl) (by kernel_rfl) rfl rfl rfl rfl rfl rfl 0 rfl rfl rfl rfl rfl (fun w90 hS91 => ?_))
        refine DM.done hsk45 (by kernel_rfl) ?_
        refine WP.region ?_
        refine RW.run ttok 3 rfl ?_
        refine RW.nil ?_
        cases hb40
        exact ⟨_, [(0, .pointer (some p0_)), (2, .pointer (some ⟨g10, 0, none⟩)), (3, .pointer (some ⟨g15, 0, none⟩)), (4, .int .i64 (w64 (s23.1 + 1)))], ⟨rfl, rfl, rfl, rfl, trivial⟩, rfl, A85, k86, hS91, rfl⟩
      · skip
        rw [if_neg (not_t hc)] at hb40
        refine WP.exit ?_
        cases hb40
        exact ⟨_, [(2, .pointer (some ⟨g10, 0, none⟩)), (3, .pointer (some ⟨g15, 0, none⟩))], ⟨rfl, rfl, trivial⟩, A28, k29, ho41, hS43, rfl⟩
  · skip
    refine WP.drawnM 73728 mixed 17 (by kernel_rfl) (by kernel_rfl) [([], 131071), ([0], 131070), ([1], 131069), ([2], 131067), ([], 131071), ([4], 131055), ([5], 131039), ([6], 131007), ([], 131071), ([], 131071), ([9], 130559), ([10], 130047), ([11], 129023), ([8, 12], 126719), ([3, 7, 13], 122743), ([], 131071), ([15, 14, 13, 0, 1, 2, 3, 4, 5, 6, 7, 8, 9, 10, 11, 12, 13, 14, 15], 81919)] (by kernel_rfl) hS13.ext (fun hsk92 => ?_)
    have hS93 := hS13.step (Ext.draw _)
    refine DM.run (fuel := 8) ttok hsk92 [0, 1, 2, 4, 5, 6, 9, 10, 11] 3703 (by kernel_rfl) (by kernel_rfl) rfl ?_
    refine DM.weak [(0, .pointer (some p0_)), (2, .pointer (some ⟨g10, 0, none⟩)), (7, .pointer (some (p0_.add 1))), (11, .pointer (some (p0_.add 2))), (16, .pointer (some (p0_.add 4)))] ⟨rfl, rfl, rfl, rfl, rfl, trivial⟩ ?_
    refine DM.quietV hsk92 3 3711 (by kernel_rfl) (by kernel_rfl) rfl (by kernel_rfl) rfl (Quiet.load1 ttok rfl rfl rfl rfl (At.ext hE g0_) 1 rfl rfl) rfl rfl ?_
    refine DM.quietV hsk92 7 3839 (by kernel_rfl) (by kernel_rfl) rfl (by kernel_rfl) rfl (Quiet.loadN ttok rfl rfl rfl rfl (At.sub (At.ext hE g0_) 2 2) rfl) rfl rfl ?_
    refine DM.load1 ttok hsk92 12 7935 (by kernel_rfl) (by kernel_rfl) (by kernel_rfl) (by kernel_rfl) rfl (by kernel_rfl) rfl rfl rfl rfl rfl (At.ext (hE.trans hS13.ext) g0_) 4 rfl rfl rfl rfl ?_
    by_cases hk100 : decide ((([] : (List D.Pair)).length : Int) + (x0.Redexes.length : Int) ≤ 4294967296) = true
    case neg => rw [if_neg hk100] at hm; cases hm
    rw [if_pos hk100] at hm
    refine DM.all hsk92 [8, 15] (by kernel_rfl) (by simp) ?_
    intro i112 hi113
    simp only [List.mem_cons, List.not_mem_nil, or_false] at hi113
    rcases hi113 with rfl | rfl
    · skip
      refine LM.newSlice0 (U := ty139) ttok hS93 hsk92 8191 (by kernel_rfl) (by kernel_rfl) rfl rfl rfl rfl rfl rfl rfl rfl (fun A114 k115 w116 e117 hS118 => ?_)
      refine DM.all hsk92 [13, 15] (by kernel_rfl) (by simp) ?_
      intro i119 hi120
      simp only [List.mem_cons, List.not_mem_nil, or_false] at hi120
      rcases hi120 with rfl | rfl
      · skip
        have hS121 := hS118.bring 0 rfl
        refine LM.appendRo ttok (Flat.map (Flat.pair Flat.int (Flat.pair Flat.int Flat.unit))) hS121 hsk92 16383 (by kernel_rfl) (by kernel_rfl) rfl rfl rfl rfl rfl rfl rfl (by decide) rfl rfl (ty78.ext (hE.trans hS121.ext) h6) (of_decide_eq_true hk100) (by decide) rfl rfl (fun A122 k123 w124 hS125 => ?_)
        refine DM.quietP hsk92 14 32767 (by kernel_rfl) (by kernel_rfl) rfl (by kernel_rfl) rfl (fun _ => Quiet.build ttok rfl rfl rfl rfl rfl) rfl rfl ?_
        refine DM.one hsk92 15 (by kernel_rfl) (LM.new ttok hsk92 hS125 65535 (by kernel_rfl) (by kernel_rfl) rfl rfl rfl rfl rfl (fun g126 w127 e128 hS129 => ?_))
        have hS130 := hS129.bring 0 rfl
        refine DM.one hsk92 16 (by kernel_rfl) (LM.store ttok (A := []) hS130 hsk92 131071 (by kernel_rfl) (by kernel_rfl) rfl rfl rfl rfl rfl rfl 0 rfl rfl rfl rfl rfl (fun w131 hS132 => ?_))
        refine DM.done hsk92 (by kernel_rfl) ?_
        have hS133 := hS132.nilSl ty157 157
        exact ⟨([], x0.Free, x0.Root.Tag, x0.Root.At, (([] : (List D.Pair)) ++ x0.Redexes)), [(0, .pointer (some p0_)), (2, .pointer (some ⟨g10, 0, none⟩)), (3, .pointer (some ⟨g126, 0, none⟩))], ⟨rfl, rfl, rfl, trivial⟩, g126, none, 0, A122, k123, hm, ((hS133.bring 0 rfl).bring 1 rfl), rfl⟩
      · skip
        refine LM.new ttok hsk92 hS118 40959 (by kernel_rfl) (by kernel_rfl) rfl rfl rfl rfl rfl (fun g134 w135 e136 hS137 => ?_)
        have hS138 := hS137.bring 1 rfl
        refine DM.one hsk92 13 (by kernel_rfl) (LM.appendRo ttok (Flat.map (Flat.pair Flat.int (Flat.pair Flat.int Flat.unit))) hS138 hsk92 49151 (by kernel_rfl) (by kernel_rfl) rfl rfl rfl rfl rfl rfl rfl (by decide) rfl rfl (ty78.ext (hE.trans hS138.ext) h6) (of_decide_eq_true hk100) (by decide) rfl rfl (fun A139 k140 w141 hS142 => ?_))
        refine DM.quietP hsk92 14 65535 (by kernel_rfl) (by kernel_rfl) rfl (by kernel_rfl) rfl (fun _ => Quiet.build ttok rfl rfl rfl rfl rfl) rfl rfl ?_
        have hS143 := hS142.bring 1 rfl
        refine DM.one hsk92 16 (by kernel_rfl) (LM.store ttok (A := []) hS143 hsk92 131071 (by kernel_rfl) (by kernel_rfl) rfl rfl rfl rfl rfl rfl 0 rfl rfl rfl rfl rfl (fun w144 hS145 => ?_))
        refine DM.done hsk92 (by kernel_rfl) ?_
        have hS146 := hS145.nilSl ty157 157
        exact ⟨([], x0.Free, x0.Root.Tag, x0.Root.At, (([] : (List D.Pair)) ++ x0.Redexes)), [(0, .pointer (some p0_)), (2, .pointer (some ⟨g10, 0, none⟩)), (3, .pointer (some ⟨g134, 0, none⟩))], ⟨rfl, rfl, rfl, trivial⟩, g134, none, 0, A139, k140, hm, ((hS146.bring 0 rfl).bring 1 rfl), rfl⟩
    · skip
      refine LM.new ttok hsk92 hS93 40703 (by kernel_rfl) (by kernel_rfl) rfl rfl rfl rfl rfl (fun g147 w148 e149 hS150 => ?_)
      refine DM.one hsk92 8 (by kernel_rfl) (LM.newSlice0 (U := ty139) ttok hS150 hsk92 40959 (by kernel_rfl) (by kernel_rfl) rfl rfl rfl rfl rfl rfl rfl rfl (fun A151 k152 w153 e154 hS155 => ?_))
      have hS156 := hS155.bring 0 rfl
      refine DM.one hsk92 13 (by kernel_rfl) (LM.appendRo ttok (Flat.map (Flat.pair Flat.int (Flat.pair Flat.int Flat.unit))) hS156 hsk92 49151 (by kernel_rfl) (by kernel_rfl) rfl rfl rfl rfl rfl rfl rfl (by decide) rfl rfl (ty78.ext (hE.trans hS156.ext) h6) (of_decide_eq_true hk100) (by decide) rfl rfl (fun A157 k158 w159 hS160 => ?_))
      refine DM.quietP hsk92 14 65535 (by kernel_rfl) (by kernel_rfl) rfl (by kernel_rfl) rfl (fun _ => Quiet.build ttok rfl rfl rfl rfl rfl) rfl rfl ?_
      have hS161 := hS160.bring 1 rfl
      refine DM.one hsk92 16 (by kernel_rfl) (LM.store ttok (A := []) hS161 hsk92 131071 (by kernel_rfl) (by kernel_rfl) rfl rfl rfl rfl rfl rfl 0 rfl rfl rfl rfl rfl (fun w162 hS163 => ?_))
      refine DM.done hsk92 (by kernel_rfl) ?_
      have hS164 := hS163.nilSl ty157 157
      exact ⟨([], x0.Free, x0.Root.Tag, x0.Root.At, (([] : (List D.Pair)) ++ x0.Redexes)), [(0, .pointer (some p0_)), (2, .pointer (some ⟨g10, 0, none⟩)), (3, .pointer (some ⟨g147, 0, none⟩))], ⟨rfl, rfl, rfl, trivial⟩, g147, none, 0, A157, k158, hm, ((hS164.bring 0 rfl).bring 1 rfl), rfl⟩

theorem enters155 : Enters Try.prog 155 := ⟨_, _, Try.func155, rfl, by kernel_rfl⟩
def m_spec_l21Release (fuel : Nat) (x0 : D.Memory) (x1 : Int) : Option (D.Memory) := (if decide (0 ≤ x1 ∧ x1.toNat < x0.Cells.length) = true then some (⟨(x0.Cells.set x1.toNat (⟨0, 0, x0.Free, [], []⟩ : D.Cell)), x1, (⟨x0.Root.Tag, x0.Root.At⟩ : D.Word), x0.Redexes⟩ : D.Memory) else none)

set_option maxRecDepth 100000 in
theorem spec_l21Release_ok {W w : World} {RR : List Res} {g0_ : Nat} {x0 : D.Memory} {A0_0 : Option Addr} {k0_0 : Nat} {A0_4 : Option Addr} {k0_4 : Nat} {x1 : Int} (hS : St W w (Box g0_ [.slice A0_0 x0.Cells.length k0_0, .int .i64 x0.Free, .int .i64 x0.Root.Tag, .int .i64 x0.Root.At, .slice A0_4 x0.Redexes.length k0_4] 80 :: Own ty76 [.slice A0_0 x0.Cells.length k0_0] x0.Cells :: Own ty78 [.slice A0_4 x0.Redexes.length k0_4] x0.Redexes :: RR)) {fuel : Nat} {r : D.Memory} (hm : m_spec_l21Release fuel x0 x1 = some r) :
    Calls Try.prog 155 ⟨[.pointer (some ⟨g0_, 0, none⟩), .int .i64 x1]⟩ w (Ret fun v w8 => ∃ A0 k0 A1 k1, v = .tuple ⟨[]⟩ ∧ St W w8 (Box g0_ [.slice A0 r.Cells.length k0, .int .i64 r.Free, .int .i64 r.Root.Tag, .int .i64 r.Root.At, .slice A1 r.Redexes.length k1] 80 :: Own ty76 [.slice A0 r.Cells.length k0] r.Cells :: Own ty78 [.slice A1 r.Redexes.length k1] r.Redexes :: RR)) := by
  refine Calls.into Try.func155 rfl 19 rfl rfl _ rfl ?_
  unfold m_spec_l21Release at hm
  refine WP.seq ?_
  refine WP.drawnM 2048 mixed 12 (by kernel_rfl) (by kernel_rfl) [([], 4095), ([0], 4094), ([1], 4093), ([2], 4091), ([], 4095), ([], 4095), ([5], 4063), ([6], 4031), ([7], 3967), ([8], 3839), ([3, 4, 0, 1, 2, 3, 4, 5, 6, 7, 8, 9], 4071), ([10, 9, 0, 1, 2, 3, 4, 5, 6, 7, 8, 9], 2559)] (by kernel_rfl) hS.ext (fun hsk1 => ?_)
  have hS2 := hS.step (Ext.draw _)
  refine DM.run (fuel := 5) ttok hsk1 [0, 1, 2, 4, 5, 6, 7] 247 (by kernel_rfl) (by kernel_rfl) rfl ?_
  refine DM.load1 ttok hsk1 3 255 (by kernel_rfl) (by kernel_rfl) (by kernel_rfl) (by kernel_rfl) rfl (by kernel_rfl) rfl rfl rfl rfl rfl ((hS.bring 0 rfl).box) 0 rfl rfl rfl rfl ?_
  refine DM.load1 ttok hsk1 8 511 (by kernel_rfl) (by kernel_rfl) (by kernel_rfl) (by kernel_rfl) rfl (by kernel_rfl) rfl rfl rfl rfl rfl ((hS.bring 0 rfl).box) 1 rfl rfl rfl rfl ?_
  refine DM.quietP hsk1 9 1023 (by kernel_rfl) (by kernel_rfl) rfl (by kernel_rfl) rfl (fun _ => Quiet.build ttok rfl rfl rfl rfl rfl) rfl rfl ?_
  have hS3 := hS2.bring 1 rfl
  by_cases hk4 : decide (0 ≤ x1 ∧ x1.toNat < x0.Cells.length) = true
  case neg => rw [if_neg hk4] at hm; cases hm
  rw [if_pos hk4] at hm
  have hb5 := of_decide_eq_true hk4
  refine DM.idxOwnN ttok hS3 hsk1 10 2047 (by kernel_rfl) (by kernel_rfl) rfl (by kernel_rfl) rfl rfl rfl rfl rfl rfl rfl rfl hb5.1 hb5.2 rfl rfl (fun q6 hq7 => ?_)
  have hS10 := hS2.nilSl ty77 77
  have hS11 := hS10.nilSl tInt 2
  have hS12 := ty157_shutS (c := (⟨0, 0, x0.Free, [], []⟩ : D.Cell)) (B := _) hS11
  have hS13 := hS12.bring 2 rfl
  refine DM.one hsk1 11 (by kernel_rfl) (LM.storeElN ttok hS13 hsk1 4095 (by kernel_rfl) (by kernel_rfl) rfl rfl rfl rfl rfl rfl rfl hb5.2 hq7 rfl rfl (fun w14 hS15 => ?_))
  refine DM.done hsk1 (by kernel_rfl) ?_
  refine WP.region ?_
  refine RW.run ttok 4 rfl ?_
  have hS16 := hS15.bring 1 rfl
  refine RW.store ttok (A := []) hS16 rfl rfl rfl rfl rfl 1 rfl rfl rfl rfl rfl (fun w17 hS18 => ?_)
  refine RW.nil ?_
  cases hm
  have hn19 := (hS18.bring 1 rfl).lenEq
  have hS20 := (hS18.bring 1 rfl).reLen hn19
  have hS21 := (hS20.bring 1 rfl).reBox (cs' := [.slice A0_0 (x0.Cells.set x1.toNat (⟨0, 0, x0.Free, [], []⟩ : D.Cell)).length k0_0, .int .i64 x1, .int .i64 x0.Root.Tag, .int .i64 x0.Root.At, .slice A0_4 x0.Redexes.length k0_4]) (by show ([.slice A0_0 x0.Cells.length k0_0, .int .i64 x1, .int .i64 x0.Root.Tag, .int .i64 x0.Root.At, .slice A0_4 x0.Redexes.length k0_4] : List Value) = [.slice A0_0 (x0.Cells.set x1.toNat (⟨0, 0, x0.Free, [], []⟩ : D.Cell)).length k0_0, .int .i64 x1, .int .i64 x0.Root.Tag, .int .i64 x0.Root.At, .slice A0_4 x0.Redexes.length k0_4]; first | (simp only [hn19]; done) | (simp only [hn19]; rfl))
  exact ⟨_, .nil, A0_0, k0_0, A0_4, k0_4, rfl, hS21⟩

theorem enters92 : Enters Try.prog 92 := ⟨_, _, Try.func92, rfl, by kernel_rfl⟩
def m_spec_l21Tidy_j2 (fuel : Nat) (t51 : Int × Int × Int × (List D.Cell) × (List D.Pair)) : Option D.Memory := some (⟨t51.2.2.2.1, t51.1, (⟨t51.2.1, t51.2.2.1⟩ : D.Word), t51.2.2.2.2⟩ : D.Memory)
def m_spec_l21Tidy_j4 (fuel : Nat) (s50 : Int × Int × Int × Int × (List D.Cell) × (List D.Pair)) (t87 : Int × Int × Int × (List D.Cell) × (List D.Pair)) : Option (Rd (Int × Int × Int × Int × (List D.Cell) × (List D.Pair)) (Int × Int × Int × (List D.Cell) × (List D.Pair)) (D.Memory)) := some (.next (w64 (s50.1 + 1), t87.1, t87.2.1, t87.2.2.1, t87.2.2.2.1, t87.2.2.2.2))
def m_spec_l21Tidy_j3 (fuel : Nat) (s50 : Int × Int × Int × Int × (List D.Cell) × (List D.Pair)) (t82 : Bool) : Option (Rd (Int × Int × Int × Int × (List D.Cell) × (List D.Pair)) (Int × Int × Int × (List D.Cell) × (List D.Pair)) (D.Memory)) := (if t82 = true then ((m_spec_l21Release fuel (⟨s50.2.2.2.2.1, s50.2.1, (⟨s50.2.2.1, s50.2.2.2.1⟩ : D.Word), s50.2.2.2.2.2⟩ : D.Memory) s50.1).bind fun r95 => m_spec_l21Tidy_j4 fuel s50 (r95.Free, r95.Root.Tag, r95.Root.At, r95.Cells, r95.Redexes)) else m_spec_l21Tidy_j4 fuel s50 (s50.2.1, s50.2.2.1, s50.2.2.2.1, s50.2.2.2.2.1, s50.2.2.2.2.2))
def m_spec_l21Tidy_b2 (fuel : Nat) (x0 : D.Memory) (s50 : Int × Int × Int × Int × (List D.Cell) × (List D.Pair)) : Option (Rd (Int × Int × Int × Int × (List D.Cell) × (List D.Pair)) (Int × Int × Int × (List D.Cell) × (List D.Pair)) (D.Memory)) := (if (decide (s50.1 < (x0.Cells.length : Int))) = true then ((idx x0.Cells s50.1).bind fun x105 => (if (x105.Kind == 13) = true then ((idx x0.Cells s50.1).bind fun x119 => m_spec_l21Tidy_j3 fuel s50 (decide ((x119.Words.length : Int) > 0))) else m_spec_l21Tidy_j3 fuel s50 false)) else some (.brk (s50.2.1, s50.2.2.1, s50.2.2.2.1, s50.2.2.2.2.1, s50.2.2.2.2.2)))
def m_spec_l21Tidy_j1 (fuel : Nat) (x0 : D.Memory) (r14 : D.Memory) (r32 : D.Word × Bool) (t43 : (List D.Cell)) : Option D.Memory := ((iter (m_spec_l21Tidy_b2 fuel x0) fuel (0, r14.Free, r32.1.Tag, r32.1.At, t43, r14.Redexes)).bind fun o => aft o (m_spec_l21Tidy_j2 fuel))
def m_spec_l21Tidy_j5 (fuel : Nat) (s42 : Int × (List D.Cell)) (t138 : (List D.Cell)) : Option (Rd (Int × (List D.Cell)) ((List D.Cell)) (D.Memory)) := some (.next (w64 (s42.1 + 1), t138))
def m_spec_l21Tidy_b3 (fuel : Nat) (x0 : D.Memory) (s42 : Int × (List D.Cell)) (s137 : Int × (List D.Cell)) : Option (Rd (Int × (List D.Cell)) ((List D.Cell)) (Rd (Int × (List D.Cell)) ((List D.Cell)) (D.Memory))) := ((idx x0.Cells s42.1).bind fun x150 => (if (decide (s137.1 < (x150.Words.length : Int))) = true then ((idx s137.2 s42.1).bind fun x166 => ((idx x0.Cells s42.1).bind fun x179 => ((idx x179.Words s137.1).bind fun x192 => ((m_spec_l21Resolve fuel x0 x192).bind fun r199 => (if decide (0 ≤ s137.1 ∧ s137.1.toNat < x166.Words.length) = true then some (.next (w64 (s137.1 + 1), (s137.2.set s42.1.toNat (⟨x166.Kind, x166.Level, x166.Value, x166.Data, (x166.Words.set s137.1.toNat r199.1)⟩ : D.Cell)))) else none))))) else some (.brk s137.2)))
def m_spec_l21Tidy_b1 (fuel : Nat) (x0 : D.Memory) (s42 : Int × (List D.Cell)) : Option (Rd (Int × (List D.Cell)) ((List D.Cell)) (D.Memory)) := (if (decide (s42.1 < (x0.Cells.length : Int))) = true then ((iter (m_spec_l21Tidy_b3 fuel x0 s42) fuel (0, s42.2)).bind fun o => aft o (m_spec_l21Tidy_j5 fuel s42)) else some (.brk s42.2))
def m_spec_l21Tidy (fuel : Nat) (x0 : D.Memory) : Option (D.Memory) := ((m_spec_l21Own fuel x0).bind fun r14 => ((m_spec_l21Resolve fuel x0 x0.Root).bind fun r32 => ((iter (m_spec_l21Tidy_b1 fuel x0) fuel (0, r14.Cells)).bind fun o => aft o (m_spec_l21Tidy_j1 fuel x0 r14 r32))))

set_option maxRecDepth 100000 in
theorem spec_l21Tidy_ok {W w : World} (hE : Ext W w) {p0_ : Addr} {c0_ : List Value} {x0 : D.Memory} (h0_ : ty80.ro W c0_ x0) (g0_ : At W p0_ c0_) {fuel : Nat} {r : D.Memory} (hm : m_spec_l21Tidy fuel x0 = some r) :
    Calls Try.prog 92 ⟨[.pointer (some p0_)]⟩ w (Ret fun v w8 => ∃ A0 k0 A1 k1, v = .agg ⟨[.slice A0 r.Cells.length k0, .int .i64 r.Free, .int .i64 r.Root.Tag, .int .i64 r.Root.At, .slice A1 r.Redexes.length k1]⟩ ∧ St w w8 [Own ty76 [.slice A0 r.Cells.length k0] r.Cells, Own ty78 [.slice A1 r.Redexes.length k1] r.Redexes]) := by
  obtain ⟨A1, k2, A4, k5, e7, h3, h6⟩ := ty80_open h0_; subst e7
  refine Calls.into Try.func92 rfl 98 rfl rfl _ rfl ?_
  unfold m_spec_l21Tidy at hm
  have hS := St.start w
  refine WP.seq ?_
  refine WP.region ?_
  refine RW.new ttok hS rfl rfl rfl rfl (fun g10 w11 e12 hS13 => ?_)
  refine RW.nil ?_
  refine WP.seq ?_
  refine WP.region ?_
  refine RW.run ttok 1 rfl ?_
  obtain ⟨r14, hx15, hm⟩ := bind_some hm
  refine RW.call rfl rfl rfl enters153 (spec_l21Own_ok (hE.trans hS13.ext) h0_ g0_ hx15) (fun v16 w17 hR18 => ?_)
  obtain ⟨A19, k20, A21, k22, rfl, hR23⟩ := hR18
  have hS24 := hS13.join hR23
  refine RW.new ttok hS24 rfl rfl rfl rfl (fun g25 w26 e27 hS28 => ?_)
  have hS29 := hS28.bring 0 rfl
  refine RW.store ttok (A := []) hS29 rfl rfl rfl rfl rfl 0 rfl rfl rfl rfl rfl (fun w30 hS31 => ?_)
  refine RW.nil ?_
  refine WP.seq ?_
  refine WP.region ?_
  refine RW.run ttok 4 rfl ?_
  refine RW.loadN ttok rfl rfl rfl rfl rfl (At.sub (At.ext (hE.trans hS31.ext) g0_) 2 2) rfl rfl rfl ?_
  obtain ⟨r32, hx33, hm⟩ := bind_some hm
  refine RW.call rfl rfl rfl enters154 (spec_l21Resolve_ok (hE.trans hS31.ext) h0_ g0_ (ty77_shut x0.Root) hx33) (fun v34 w35 hR36 => ?_)
  obtain ⟨rfl, hR37⟩ := hR36
  have hS38 := hS31.join hR37
  refine RW.run ttok 4 rfl ?_
  have hS39 := hS38.bring 0 rfl
  refine RW.store ttok (A := []) hS39 rfl rfl rfl rfl rfl 2 rfl rfl rfl rfl rfl (fun w40 hS41 => ?_)
  refine RW.nil ?_
  refine WP.seq ?_
  refine WP.seq ?_
  refine WP.region ?_
  refine RW.run ttok 1 rfl ?_
  refine RW.nil ?_
  obtain ⟨o46, hl47, hm⟩ := bind_some hm
  refine WP.cut (fun (t43 : (List D.Cell)) F w9 => o46 = .inl t43 ∧ St w w9 [Box g25 [.slice A19 r14.Cells.length k20, .int .i64 r14.Free, .int .i64 r32.1.Tag, .int .i64 r32.1.At, .slice A21 r14.Redexes.length k22] 80, Own ty76 [.slice A19 r14.Cells.length k20] t43, Own ty78 [.slice A21 r14.Redexes.length k22] r14.Redexes, Box g10 [.slice none 0 0, .int .i64 0, .int .i64 0, .int .i64 0, .slice none 0 0] 80] ∧ F = [(0, .pointer (some p0_)), (2, .pointer (some ⟨g10, 0, none⟩)), (3, .pointer (some ⟨g25, 0, none⟩))]) ?_ ?_
  · skip
    rintro t43 F w45 ⟨ho49, hS48, rfl⟩
    subst ho49
    rw [aft_inl] at hm
    unfold m_spec_l21Tidy_j1 at hm
    refine WP.seq ?_
    refine WP.seq ?_
    refine WP.region ?_
    refine RW.run ttok 1 rfl ?_
    refine RW.nil ?_
    obtain ⟨o67, hl68, hm⟩ := bind_some hm
    refine WP.cut (fun (t51 : Int × Int × Int × (List D.Cell) × (List D.Pair)) F w9 => ∃ A61 k62 A63 k65, o67 = .inl t51 ∧ St w w9 [Box g25 [.slice A61 t51.2.2.2.1.length k62, .int .i64 t51.1, .int .i64 t51.2.1, .int .i64 t51.2.2.1, .slice A63 t51.2.2.2.2.length k65] 80, Own ty76 [.slice A61 t51.2.2.2.1.length k62] t51.2.2.2.1, Own ty78 [.slice A63 t51.2.2.2.2.length k65] t51.2.2.2.2, Box g10 [.slice none 0 0, .int .i64 0, .int .i64 0, .int .i64 0, .slice none 0 0] 80] ∧ F = [(2, .pointer (some ⟨g10, 0, none⟩)), (3, .pointer (some ⟨g25, 0, none⟩))]) ?_ ?_
    · skip
      rintro t51 F w66 ⟨A61, k62, A63, k65, ho70, hS69, rfl⟩
      subst ho70
      rw [aft_inl] at hm
      unfold m_spec_l21Tidy_j2 at hm
      refine WP.seq ?_
      refine WP.region ?_
      refine RW.loadN ttok rfl rfl rfl rfl rfl ((hS69.bring 0 rfl).box) rfl rfl rfl ?_
      have hS71 := hS69.bring 3 rfl
      refine RW.store ttok (A := []) hS71 rfl rfl rfl rfl rfl 0 rfl rfl rfl rfl rfl (fun w72 hS73 => ?_)
      refine RW.nil ?_
      refine WP.ret ?_
      cases hm
      exact ⟨_, .cons (ResIs.agg ttok rfl rfl rfl ((hS73.bring 0 rfl).box) rfl) .nil, A61, k62, A63, k65, rfl, (((hS73.bring 3 rfl).bring 3 rfl).taken 2)⟩
    · skip
      refine WP.block ?_
      have hn74 := (hS48.bring 1 rfl).lenEq
      have hS75 := (hS48.bring 1 rfl).reLen hn74
      have hS76 := (hS75.bring 1 rfl).reBox (cs' := [.slice A19 t43.length k20, .int .i64 r14.Free, .int .i64 r32.1.Tag, .int .i64 r32.1.At, .slice A21 r14.Redexes.length k22]) (by show ([.slice A19 r14.Cells.length k20, .int .i64 r14.Free, .int .i64 r32.1.Tag, .int .i64 r32.1.At, .slice A21 r14.Redexes.length k22] : List Value) = [.slice A19 t43.length k20, .int .i64 r14.Free, .int .i64 r32.1.Tag, .int .i64 r32.1.At, .slice A21 r14.Redexes.length k22]; first | (simp only [hn74]; done) | (simp only [hn74]; rfl))
      refine WP.weak [(0, .pointer (some p0_)), (2, .pointer (some ⟨g10, 0, none⟩)), (3, .pointer (some ⟨g25, 0, none⟩)), (6, .int .i64 0)] ⟨rfl, rfl, rfl, rfl, trivial⟩ ?_
      refine WP.iter (fun (s50 : Int × Int × Int × Int × (List D.Cell) × (List D.Pair)) F w9 => ∃ A57 k58 A59 k60, St w w9 [Box g25 [.slice A57 s50.2.2.2.2.1.length k58, .int .i64 s50.2.1, .int .i64 s50.2.2.1, .int .i64 s50.2.2.2.1, .slice A59 s50.2.2.2.2.2.length k60] 80, Own ty76 [.slice A57 s50.2.2.2.2.1.length k58] s50.2.2.2.2.1, Own ty78 [.slice A59 s50.2.2.2.2.2.length k60] s50.2.2.2.2.2, Box g10 [.slice none 0 0, .int .i64 0, .int .i64 0, .int .i64 0, .slice none 0 0] 80] ∧ F = [(0, .pointer (some p0_)), (2, .pointer (some ⟨g10, 0, none⟩)), (3, .pointer (some ⟨g25, 0, none⟩)), (6, .int .i64 s50.1)]) _ hl68 ⟨A19, k20, A21, k22, hS76, rfl⟩ ?_
      rintro s50 F w81 _ o79 ⟨A57, k58, A59, k60, hS80, rfl⟩ hb77 ho78
      unfold m_spec_l21Tidy_b2 at hb77
      refine WP.seq ?_
      refine WP.seq ?_
      refine WP.region ?_
      refine RW.run ttok 4 rfl ?_
      refine RW.load1 ttok rfl rfl rfl rfl rfl (At.ext (hE.trans hS80.ext) g0_) 0 rfl rfl rfl rfl ?_
      refine RW.run ttok 2 rfl ?_
      refine RW.nil ?_
      refine WP.cond (decide (s50.1 < (x0.Cells.length : Int))) rfl (fun hc => ?_) (fun hc => ?_)
      · skip
        rw [if_pos hc] at hb77
        refine WP.skip ?_
        refine WP.seq ?_
        refine WP.block ?_
        refine WP.seq ?_
        refine WP.cut (fun (t82 : Bool) F w9 => m_spec_l21Tidy_j3 fuel s50 t82 = some o79 ∧ Ext w81 w9 ∧ St w w9 [Box g25 [.slice A57 s50.2.2.2.2.1.length k58, .int .i64 s50.2.1, .int .i64 s50.2.2.1, .int .i64 s50.2.2.2.1, .slice A59 s50.2.2.2.2.2.length k60] 80, Own ty76 [.slice A57 s50.2.2.2.2.1.length k58] s50.2.2.2.2.1, Own ty78 [.slice A59 s50.2.2.2.2.2.length k60] s50.2.2.2.2.2, Box g10 [.slice none 0 0, .int .i64 0, .int .i64 0, .int .i64 0, .slice none 0 0] 80] ∧ F = [(0, .pointer (some p0_)), (2, .pointer (some ⟨g10, 0, none⟩)), (3, .pointer (some ⟨g25, 0, none⟩)), (6, .int .i64 s50.1), (94, .bool t82)]) ?_ ?_
        · skip
          rintro t82 F w85 ⟨hb77, hE83, hS84, rfl⟩
          unfold m_spec_l21Tidy_j3 at hb77
          refine WP.cut (fun (t87 : Int × Int × Int × (List D.Cell) × (List D.Pair)) F w9 => ∃ A88 k89 A90 k91, m_spec_l21Tidy_j4 fuel s50 t87 = some o79 ∧ St w w9 [Box g25 [.slice A88 t87.2.2.2.1.length k89, .int .i64 t87.1, .int .i64 t87.2.1, .int .i64 t87.2.2.1, .slice A90 t87.2.2.2.2.length k91] 80, Own ty76 [.slice A88 t87.2.2.2.1.length k89] t87.2.2.2.1, Own ty78 [.slice A90 t87.2.2.2.2.length k91] t87.2.2.2.2, Box g10 [.slice none 0 0, .int .i64 0, .int .i64 0, .int .i64 0, .slice none 0 0] 80] ∧ F = [(0, .pointer (some p0_)), (2, .pointer (some ⟨g10, 0, none⟩)), (3, .pointer (some ⟨g25, 0, none⟩)), (6, .int .i64 s50.1)]) ?_ ?_
          · skip
            rintro t87 F w93 ⟨A88, k89, A90, k91, hb77, hS92, rfl⟩
            unfold m_spec_l21Tidy_j4 at hb77
            refine WP.region ?_
            refine RW.run ttok 3 rfl ?_
            refine RW.nil ?_
            cases hb77
            exact ⟨_, [(0, .pointer (some p0_)), (2, .pointer (some ⟨g10, 0, none⟩)), (3, .pointer (some ⟨g25, 0, none⟩)), (6, .int .i64 (w64 (s50.1 + 1)))], ⟨rfl, rfl, rfl, rfl, trivial⟩, rfl, A88, k89, A90, k91, hS92, rfl⟩
          · skip
            refine WP.cond t82 rfl (fun hc => ?_) (fun hc => ?_)
            · skip
              rw [if_pos hc] at hb77
              refine WP.region ?_
              refine RW.run ttok 1 rfl ?_
              obtain ⟨r95, hx96, hb77⟩ := bind_some hb77
              refine RW.call rfl rfl rfl enters155 (spec_l21Release_ok (W := w) (RR := _) (x0 := (⟨s50.2.2.2.2.1, s50.2.1, (⟨s50.2.2.1, s50.2.2.2.1⟩ : D.Word), s50.2.2.2.2.2⟩ : D.Memory)) (x1 := s50.1) hS84  hx96) (fun v97 w98 hR99 => ?_)
              obtain ⟨A100, k101, A102, k103, rfl, hS104⟩ := hR99
              refine RW.nil ?_
              exact ⟨(r95.Free, r95.Root.Tag, r95.Root.At, r95.Cells, r95.Redexes), [(0, .pointer (some p0_)), (2, .pointer (some ⟨g10, 0, none⟩)), (3, .pointer (some ⟨g25, 0, none⟩)), (6, .int .i64 s50.1)], ⟨rfl, rfl, rfl, rfl, trivial⟩, A100, k101, A102, k103, hb77, hS104, rfl⟩
            · skip
              rw [if_neg (not_t hc)] at hb77
              refine WP.skip ?_
              exact ⟨(s50.2.1, s50.2.2.1, s50.2.2.2.1, s50.2.2.2.2.1, s50.2.2.2.2.2), [(0, .pointer (some p0_)), (2, .pointer (some ⟨g10, 0, none⟩)), (3, .pointer (some ⟨g25, 0, none⟩)), (6, .int .i64 s50.1)], ⟨rfl, rfl, rfl, rfl, trivial⟩, A57, k58, A59, k60, hb77, hS84, rfl⟩
        · skip
          refine WP.region ?_
          refine RW.run ttok 3 rfl ?_
          refine RW.load1 ttok rfl rfl rfl rfl rfl (At.ext (hE.trans hS80.ext) g0_) 0 rfl rfl rfl rfl ?_
          refine RW.run ttok 1 rfl ?_
          obtain ⟨x105, hx106, hb77⟩ := bind_some hb77
          refine RW.idx ttok (hE.trans hS80.ext) rfl rfl rfl rfl rfl rfl (by decide) rfl rfl h3 (idx_some hx106).1 (idx_some hx106).2 rfl rfl (fun p107 es108 ha109 hr110 => ?_)
          obtain ⟨A111, k112, A114, k115, e117, h113, h116⟩ := ty157_open hr110; subst e117
          refine RW.run ttok 1 rfl ?_
          refine RW.load1 ttok rfl rfl rfl rfl rfl (At.ext (hE.trans hS80.ext) ha109) 0 rfl rfl rfl rfl ?_
          refine RW.run ttok 2 rfl ?_
          by_cases hg118 : (x105.Kind == 13) = true
          · skip
            rw [if_pos hg118] at hb77
            refine RW.know 83 rfl (congrArg Value.bool hg118) ?_
            refine RW.run ttok 3 rfl ?_
            refine RW.load1 ttok rfl rfl rfl rfl rfl (At.ext (hE.trans hS80.ext) g0_) 0 rfl rfl rfl rfl ?_
            refine RW.run ttok 1 rfl ?_
            obtain ⟨x119, hx120, hb77⟩ := bind_some hb77
            refine RW.idx ttok (hE.trans hS80.ext) rfl rfl rfl rfl rfl rfl (by decide) rfl rfl h3 (idx_some hx120).1 (idx_some hx120).2 rfl rfl (fun p121 es122 ha123 hr124 => ?_)
            obtain ⟨A125, k126, A128, k129, e131, h127, h130⟩ := ty157_open hr124; subst e131
            refine RW.run ttok 1 rfl ?_
            refine RW.load1 ttok rfl rfl rfl rfl rfl (At.ext (hE.trans hS80.ext) ha123) 4 rfl rfl rfl rfl ?_
            refine RW.run ttok 3 rfl ?_
            refine RW.nil ?_
            exact ⟨decide ((x119.Words.length : Int) > 0), [(0, .pointer (some p0_)), (2, .pointer (some ⟨g10, 0, none⟩)), (3, .pointer (some ⟨g25, 0, none⟩)), (6, .int .i64 s50.1), (94, .bool (decide ((x119.Words.length : Int) > 0)))], ⟨rfl, rfl, rfl, rfl, rfl, trivial⟩, hb77, (Ext.refl _), hS80, rfl⟩
          · skip
            rw [if_neg hg118] at hb77
            refine RW.know 83 rfl (congrArg Value.bool (Bool.eq_false_iff.2 hg118)) ?_
            refine RW.run ttok 11 rfl ?_
            refine RW.nil ?_
            exact ⟨false, [(0, .pointer (some p0_)), (2, .pointer (some ⟨g10, 0, none⟩)), (3, .pointer (some ⟨g25, 0, none⟩)), (6, .int .i64 s50.1), (94, .bool false)], ⟨rfl, rfl, rfl, rfl, rfl, trivial⟩, hb77, (Ext.refl _), hS80, rfl⟩
      · skip
        rw [if_neg (not_t hc)] at hb77
        refine WP.exit ?_
        cases hb77
        exact ⟨_, [(2, .pointer (some ⟨g10, 0, none⟩)), (3, .pointer (some ⟨g25, 0, none⟩))], ⟨rfl, rfl, trivial⟩, A57, k58, A59, k60, ho78, hS80, rfl⟩
  · skip
    refine WP.block ?_
    refine WP.weak [(0, .pointer (some p0_)), (2, .pointer (some ⟨g10, 0, none⟩)), (3, .pointer (some ⟨g25, 0, none⟩)), (4, .int .i64 0)] ⟨rfl, rfl, rfl, rfl, trivial⟩ ?_
    refine WP.iter (fun (s42 : Int × (List D.Cell)) F w9 => St w w9 [Box g25 [.slice A19 r14.Cells.length k20, .int .i64 r14.Free, .int .i64 r32.1.Tag, .int .i64 r32.1.At, .slice A21 r14.Redexes.length k22] 80, Own ty76 [.slice A19 r14.Cells.length k20] s42.2, Own ty78 [.slice A21 r14.Redexes.length k22] r14.Redexes, Box g10 [.slice none 0 0, .int .i64 0, .int .i64 0, .int .i64 0, .slice none 0 0] 80] ∧ F = [(0, .pointer (some p0_)), (2, .pointer (some ⟨g10, 0, none⟩)), (3, .pointer (some ⟨g25, 0, none⟩)), (4, .int .i64 s42.1)]) _ hl47 ⟨hS41, rfl⟩ ?_
    rintro s42 F w136 _ o134 ⟨hS135, rfl⟩ hb132 ho133
    unfold m_spec_l21Tidy_b1 at hb132
    refine WP.seq ?_
    refine WP.seq ?_
    refine WP.region ?_
    refine RW.run ttok 4 rfl ?_
    refine RW.load1 ttok rfl rfl rfl rfl rfl (At.ext (hE.trans hS135.ext) g0_) 0 rfl rfl rfl rfl ?_
    refine RW.run ttok 2 rfl ?_
    refine RW.nil ?_
    refine WP.cond (decide (s42.1 < (x0.Cells.length : Int))) rfl (fun hc => ?_) (fun hc => ?_)
    · skip
      rw [if_pos hc] at hb132
      refine WP.skip ?_
      refine WP.seq ?_
      refine WP.block ?_
      refine WP.seq ?_
      refine WP.region ?_
      refine RW.run ttok 1 rfl ?_
      refine RW.nil ?_
      obtain ⟨o141, hl142, hb132⟩ := bind_some hb132
      refine WP.cut (fun (t138 : (List D.Cell)) F w9 => o141 = .inl t138 ∧ St w w9 [Box g25 [.slice A19 r14.Cells.length k20, .int .i64 r14.Free, .int .i64 r32.1.Tag, .int .i64 r32.1.At, .slice A21 r14.Redexes.length k22] 80, Own ty76 [.slice A19 r14.Cells.length k20] t138, Own ty78 [.slice A21 r14.Redexes.length k22] r14.Redexes, Box g10 [.slice none 0 0, .int .i64 0, .int .i64 0, .int .i64 0, .slice none 0 0] 80] ∧ F = [(0, .pointer (some p0_)), (2, .pointer (some ⟨g10, 0, none⟩)), (3, .pointer (some ⟨g25, 0, none⟩)), (4, .int .i64 s42.1)]) ?_ ?_
      · skip
        rintro t138 F w140 ⟨ho144, hS143, rfl⟩
        subst ho144
        rw [aft_inl] at hb132
        unfold m_spec_l21Tidy_j5 at hb132
        refine WP.region ?_
        refine RW.run ttok 3 rfl ?_
        refine RW.nil ?_
        cases hb132
        exact ⟨_, [(0, .pointer (some p0_)), (2, .pointer (some ⟨g10, 0, none⟩)), (3, .pointer (some ⟨g25, 0, none⟩)), (4, .int .i64 (w64 (s42.1 + 1)))], ⟨rfl, rfl, rfl, rfl, trivial⟩, rfl, hS143, rfl⟩
      · skip
        refine WP.block ?_
        refine WP.weak [(0, .pointer (some p0_)), (2, .pointer (some ⟨g10, 0, none⟩)), (3, .pointer (some ⟨g25, 0, none⟩)), (4, .int .i64 s42.1), (5, .int .i64 0)] ⟨rfl, rfl, rfl, rfl, rfl, trivial⟩ ?_
        refine WP.iter (fun (s137 : Int × (List D.Cell)) F w9 => St w w9 [Box g25 [.slice A19 r14.Cells.length k20, .int .i64 r14.Free, .int .i64 r32.1.Tag, .int .i64 r32.1.At, .slice A21 r14.Redexes.length k22] 80, Own ty76 [.slice A19 r14.Cells.length k20] s137.2, Own ty78 [.slice A21 r14.Redexes.length k22] r14.Redexes, Box g10 [.slice none 0 0, .int .i64 0, .int .i64 0, .int .i64 0, .slice none 0 0] 80] ∧ F = [(0, .pointer (some p0_)), (2, .pointer (some ⟨g10, 0, none⟩)), (3, .pointer (some ⟨g25, 0, none⟩)), (4, .int .i64 s42.1), (5, .int .i64 s137.1)]) _ hl142 ⟨hS135, rfl⟩ ?_
        rintro s137 F w149 _ o147 ⟨hS148, rfl⟩ hb145 ho146
        unfold m_spec_l21Tidy_b3 at hb145
        refine WP.seq ?_
        refine WP.seq ?_
        refine WP.region ?_
        refine RW.run ttok 4 rfl ?_
        refine RW.load1 ttok rfl rfl rfl rfl rfl (At.ext (hE.trans hS148.ext) g0_) 0 rfl rfl rfl rfl ?_
        refine RW.run ttok 1 rfl ?_
        obtain ⟨x150, hx151, hb145⟩ := bind_some hb145
        refine RW.idx ttok (hE.trans hS148.ext) rfl rfl rfl rfl rfl rfl (by decide) rfl rfl h3 (idx_some hx151).1 (idx_some hx151).2 rfl rfl (fun p152 es153 ha154 hr155 => ?_)
        obtain ⟨A156, k157, A159, k160, e162, h158, h161⟩ := ty157_open hr155; subst e162
        refine RW.run ttok 1 rfl ?_
        refine RW.load1 ttok rfl rfl rfl rfl rfl (At.ext (hE.trans hS148.ext) ha154) 4 rfl rfl rfl rfl ?_
        refine RW.run ttok 2 rfl ?_
        refine RW.nil ?_
        refine WP.cond (decide (s137.1 < (x150.Words.length : Int))) rfl (fun hc => ?_) (fun hc => ?_)
        · skip
          rw [if_pos hc] at hb145
          refine WP.skip ?_
          refine WP.seq ?_
          refine WP.block ?_
          refine WP.drawnM 16777216 mixed 25 (by kernel_rfl) (by kernel_rfl) [([], 33554431), ([0], 33554430), ([], 33554431), ([1, 2], 33554425), ([3], 33554423), ([4], 33554415), ([], 33554431), ([], 33554431), ([], 33554431), ([8], 33554175), ([9], 33553919), ([10], 33553407), ([], 33554431), ([11, 12], 33548287), ([13], 33546239), ([14], 33538047), ([], 33554431), ([15, 16], 33456127), ([17], 33423359), ([7, 18], 33292159), ([19], 33030143), ([20], 32505855), ([20], 32505855), ([5, 6, 0, 1, 2, 3, 4, 5, 6, 7, 8, 9, 10, 11, 12, 13, 14, 15, 16, 17, 18, 19, 20, 21], 33554335), ([23, 21, 19, 0, 1, 2, 3, 4, 5, 6, 7, 8, 9, 10, 11, 12, 13, 14, 15, 16, 17, 18, 19, 20, 21], 23068671)] (by kernel_rfl) hS148.ext (fun hsk163 => ?_)
          have hS164 := hS148.step (Ext.draw _)
          refine DM.run (fuel := 16) ttok hsk163 [0, 2, 6, 7, 8, 9, 10, 12, 16] 71621 (by kernel_rfl) (by kernel_rfl) rfl ?_
          refine DM.weak [(0, .pointer (some p0_)), (2, .pointer (some ⟨g10, 0, none⟩)), (3, .pointer (some ⟨g25, 0, none⟩)), (4, .int .i64 s42.1), (5, .int .i64 s137.1), (42, .pointer (some ⟨g25, 0, none⟩)), (44, .int .i64 s42.1), (48, .int .i64 s137.1), (49, .pointer (some p0_)), (52, .pointer (some p0_)), (54, .int .i64 s42.1), (58, .int .i64 s137.1)] ⟨rfl, rfl, rfl, rfl, rfl, rfl, rfl, rfl, rfl, rfl, rfl, rfl, trivial⟩ ?_
          refine DM.load1 ttok hsk163 1 71623 (by kernel_rfl) (by kernel_rfl) (by kernel_rfl) (by kernel_rfl) rfl (by kernel_rfl) rfl rfl rfl rfl rfl ((hS148.bring 0 rfl).box) 0 rfl rfl rfl rfl ?_
          have hS165 := hS148.bring 1 rfl
          obtain ⟨x166, hx167, hb145⟩ := bind_some hb145
          refine DM.focus ttok hS165 hsk163 3 71631 (by kernel_rfl) (by kernel_rfl) rfl (by kernel_rfl) rfl rfl rfl rfl rfl rfl rfl rfl (idx_some hx167).1 (idx_some hx167).2 rfl rfl (fun q168 es169 hq170 hS171 => ?_)
          obtain ⟨A174, k175, A176, k177, e173, hS172⟩ := ty157_openS (hS171.bring 1 rfl); subst e173
          have hS178 := hS172.step (Ext.draw _)
          refine DM.run (fuel := 13) ttok hsk163 [4] 71647 (by kernel_rfl) (by kernel_rfl) rfl ?_
          refine DM.load1 ttok hsk163 5 71679 (by kernel_rfl) (by kernel_rfl) (by kernel_rfl) (by kernel_rfl) rfl (by kernel_rfl) rfl rfl rfl rfl rfl ((hS172.bring 2 rfl).hole_atN hq170) 4 rfl rfl rfl rfl ?_
          refine DM.load1 ttok hsk163 11 73727 (by kernel_rfl) (by kernel_rfl) (by kernel_rfl) (by kernel_rfl) rfl (by kernel_rfl) rfl rfl rfl rfl rfl (At.ext (hE.trans hS172.ext) g0_) 0 rfl rfl rfl rfl ?_
          obtain ⟨x179, hx180, hb145⟩ := bind_some hb145
          refine DM.idx ttok (hE.trans hS172.ext) hsk163 13 81919 (by kernel_rfl) (by kernel_rfl) (by kernel_rfl) (by kernel_rfl) rfl (by kernel_rfl) rfl rfl rfl rfl rfl rfl (by decide) rfl rfl h3 (idx_some hx180).1 (idx_some hx180).2 rfl rfl (fun p181 es182 ha183 hr184 => ?_)
          obtain ⟨A185, k186, A188, k189, e191, h187, h190⟩ := ty157_open hr184; subst e191
          refine DM.run (fuel := 9) ttok hsk163 [14] 98303 (by kernel_rfl) (by kernel_rfl) rfl ?_
          refine DM.weak [(0, .pointer (some p0_)), (2, .pointer (some ⟨g10, 0, none⟩)), (3, .pointer (some ⟨g25, 0, none⟩)), (4, .int .i64 s42.1), (5, .int .i64 s137.1), (47, .slice A176 x166.Words.length k177), (48, .int .i64 s137.1), (49, .pointer (some p0_)), (56, .pointer (some (p181.add 4))), (58, .int .i64 s137.1)] ⟨rfl, rfl, rfl, rfl, rfl, rfl, rfl, rfl, rfl, rfl, trivial⟩ ?_
          refine DM.load1 ttok hsk163 15 131071 (by kernel_rfl) (by kernel_rfl) (by kernel_rfl) (by kernel_rfl) rfl (by kernel_rfl) rfl rfl rfl rfl rfl (At.ext (hE.trans hS172.ext) ha183) 4 rfl rfl rfl rfl ?_
          obtain ⟨x192, hx193, hb145⟩ := bind_some hb145
          refine DM.idx ttok (hE.trans hS172.ext) hsk163 17 262143 (by kernel_rfl) (by kernel_rfl) (by kernel_rfl) (by kernel_rfl) rfl (by kernel_rfl) rfl rfl rfl rfl rfl rfl (by decide) rfl rfl h190 (idx_some hx193).1 (idx_some hx193).2 rfl rfl (fun p194 es195 ha196 hr197 => ?_)
          have e198 := ty77_open hr197; subst e198
          refine DM.loadN ttok hsk163 18 524287 (by kernel_rfl) (by kernel_rfl) (by kernel_rfl) (by kernel_rfl) rfl (by kernel_rfl) rfl rfl rfl rfl rfl (At.ext (hE.trans hS172.ext) ha196) rfl rfl rfl ?_
          obtain ⟨r199, hx200, hb145⟩ := bind_some hb145
          refine DM.one hsk163 19 (by kernel_rfl) (LM.call hsk163 1048575 (by kernel_rfl) (by kernel_rfl) rfl rfl rfl rfl enters154 (spec_l21Resolve_ok (hE.trans hS178.ext) h0_ g0_ hr197 hx200) (fun v201 w202 hR203 => ?_))
          obtain ⟨rfl, hR204⟩ := hR203
          refine ⟨hR204.ext, ?_⟩
          have hS205 := hS178.join hR204
          refine DM.run (fuel := 2) ttok hsk163 [20, 21, 22] 8388607 (by kernel_rfl) (by kernel_rfl) rfl ?_
          refine DM.weak [(0, .pointer (some p0_)), (2, .pointer (some ⟨g10, 0, none⟩)), (3, .pointer (some ⟨g25, 0, none⟩)), (4, .int .i64 s42.1), (5, .int .i64 s137.1), (47, .slice A176 x166.Words.length k177), (48, .int .i64 s137.1), (62, .agg ⟨[.int .i64 r199.1.Tag, .int .i64 r199.1.At]⟩)] ⟨rfl, rfl, rfl, rfl, rfl, rfl, rfl, rfl, trivial⟩ ?_
          have hS206 := hS205.bring 1 rfl
          by_cases hk207 : decide (0 ≤ s137.1 ∧ s137.1.toNat < x166.Words.length) = true
          case neg => rw [if_neg hk207] at hb145; cases hb145
          rw [if_pos hk207] at hb145
          have hb208 := of_decide_eq_true hk207
          refine DM.idxOwnN ttok hS206 hsk163 23 16777215 (by kernel_rfl) (by kernel_rfl) rfl (by kernel_rfl) rfl rfl rfl rfl rfl rfl rfl rfl hb208.1 hb208.2 rfl rfl (fun q209 hq210 => ?_)
          have hS211 := ty77_shutS (c := r199.1) (B := _) hS205
          have hS212 := hS211.bring 2 rfl
          refine DM.one hsk163 24 (by kernel_rfl) (LM.storeElN ttok hS212 hsk163 33554431 (by kernel_rfl) (by kernel_rfl) rfl rfl rfl rfl rfl rfl rfl hb208.2 hq210 rfl rfl (fun w213 hS214 => ?_))
          refine DM.done hsk163 (by kernel_rfl) ?_
          refine WP.region ?_
          refine RW.run ttok 3 rfl ?_
          refine RW.nil ?_
          have hn215 := (hS214.bring 0 rfl).lenEq
          have hS216 := (hS214.bring 0 rfl).reLen hn215
          have hS217 := (hS216.bring 2 rfl).reHole (es' := [.int .i64 x166.Kind, .int .i64 x166.Level, .int .i64 x166.Value, .slice A174 x166.Data.length k175, .slice A176 (x166.Words.set s137.1.toNat r199.1).length k177]) (by show ([.int .i64 x166.Kind, .int .i64 x166.Level, .int .i64 x166.Value, .slice A174 x166.Data.length k175, .slice A176 x166.Words.length k177] : List Value) = [.int .i64 x166.Kind, .int .i64 x166.Level, .int .i64 x166.Value, .slice A174 x166.Data.length k175, .slice A176 (x166.Words.set s137.1.toNat r199.1).length k177]; first | (simp only [hn215]; done) | (simp only [hn215]; rfl))
          have h218 := (show ty155.ro _ [.slice A176 x166.Words.length k177] (x166.Words.set s137.1.toNat r199.1) from (Eq.symm hn215) ▸ ((hS217.bring 1 rfl).own))
          have hS219 := hS217.bring 1 rfl
          have hS220 := hS219.bring 2 rfl
          have hS221 := ty157_shutS (c := (⟨x166.Kind, x166.Level, x166.Value, x166.Data, (x166.Words.set s137.1.toNat r199.1)⟩ : D.Cell)) (B := _) hS220
          have hS222 := hS221.bring 1 rfl
          have hS223 := St.unfocusN hS222
          cases hb145
          exact ⟨_, [(0, .pointer (some p0_)), (2, .pointer (some ⟨g10, 0, none⟩)), (3, .pointer (some ⟨g25, 0, none⟩)), (4, .int .i64 s42.1), (5, .int .i64 (w64 (s137.1 + 1)))], ⟨rfl, rfl, rfl, rfl, rfl, trivial⟩, rfl, ((hS223.bring 0 rfl).bring 1 rfl), rfl⟩
        · skip
          rw [if_neg (not_t hc)] at hb145
          refine WP.exit ?_
          cases hb145
          exact ⟨_, [(0, .pointer (some p0_)), (2, .pointer (some ⟨g10, 0, none⟩)), (3, .pointer (some ⟨g25, 0, none⟩)), (4, .int .i64 s42.1)], ⟨rfl, rfl, rfl, rfl, trivial⟩, ho146, hS148, rfl⟩
    · skip
      rw [if_neg (not_t hc)] at hb132
      refine WP.exit ?_
      cases hb132
      exact ⟨_, [(0, .pointer (some p0_)), (2, .pointer (some ⟨g10, 0, none⟩)), (3, .pointer (some ⟨g25, 0, none⟩))], ⟨rfl, rfl, rfl, trivial⟩, ho133, hS135, rfl⟩

theorem enters40 : Enters Try.prog 40 := ⟨_, _, Try.func40, rfl, by kernel_rfl⟩
def m_spec_TidyMemory (fuel : Nat) (x0 : D.Memory) : Option (D.Memory × Int) := ((m_spec_l21Ok fuel x0).bind fun r18 => (if (!r18) = true then some ((⟨[], 0, (⟨0, 0⟩ : D.Word), []⟩ : D.Memory), 1) else ((m_spec_l21Tidy fuel x0).bind fun r30 => some ((⟨r30.Cells, r30.Free, (⟨r30.Root.Tag, r30.Root.At⟩ : D.Word), r30.Redexes⟩ : D.Memory), 0))))

set_option maxRecDepth 100000 in
theorem spec_TidyMemory_ok {W w : World} (hE : Ext W w) {c0_ : List Value} {x0 : D.Memory} (h0_ : ty80.ro W c0_ x0) {fuel : Nat} {r : D.Memory × Int} (hm : m_spec_TidyMemory fuel x0 = some r) :
    Calls Try.prog 40 ⟨[.agg ⟨c0_⟩]⟩ w (Ret fun v w8 => ∃ A0 k0 A1 k1, v = .tuple ⟨[.agg ⟨[.slice A0 r.1.Cells.length k0, .int .i64 r.1.Free, .int .i64 r.1.Root.Tag, .int .i64 r.1.Root.At, .slice A1 r.1.Redexes.length k1]⟩, .int .i64 r.2]⟩ ∧ St w w8 [Own ty76 [.slice A0 r.1.Cells.length k0] r.1.Cells, Own ty78 [.slice A1 r.1.Redexes.length k1] r.1.Redexes]) := by
  obtain ⟨A1, k2, A4, k5, e7, h3, h6⟩ := ty80_open h0_; subst e7
  refine Calls.into Try.func40 rfl 8 rfl rfl _ rfl ?_
  unfold m_spec_TidyMemory at hm
  have hS := St.start w
  refine WP.seq ?_
  refine WP.region ?_
  refine RW.new ttok hS rfl rfl rfl rfl (fun g10 w11 e12 hS13 => ?_)
  refine RW.new ttok hS13 rfl rfl rfl rfl (fun g14 w15 e16 hS17 => ?_)
  refine RW.run ttok 1 rfl ?_
  refine RW.nil ?_
  refine WP.seq ?_
  refine WP.seq ?_
  refine WP.region ?_
  obtain ⟨r18, hx19, hm⟩ := bind_some hm
  refine RW.call rfl rfl rfl enters91 (spec_l21Ok_ok (Ext.refl _) (ty80.ext (hE.trans hS17.ext) h0_) ((hS17.bring 1 rfl).box) hx19) (fun v20 w21 hR22 => ?_)
  obtain ⟨rfl, hR23⟩ := hR22
  have hS24 := hS17.join hR23
  refine RW.run ttok 1 rfl ?_
  refine RW.nil ?_
  refine WP.cond (!r18) rfl (fun hc => ?_) (fun hc => ?_)
  · skip
    rw [if_pos hc] at hm
    refine WP.seq ?_
    refine WP.region ?_
    refine RW.quiet rfl (Quiet.build ttok rfl rfl rfl rfl rfl) rfl rfl ?_
    have hS25 := hS24.bring 0 rfl
    refine RW.store ttok (A := []) hS25 rfl rfl rfl rfl rfl 0 rfl rfl rfl rfl rfl (fun w26 hS27 => ?_)
    refine RW.run ttok 1 rfl ?_
    refine RW.nil ?_
    refine WP.ret ?_
    cases hm
    have hS28 := hS27.nilSl ty157 157
    have hS29 := hS28.nilSl ty139 139
    exact ⟨_, .cons (ResIs.agg ttok rfl rfl rfl ((hS27.bring 0 rfl).box) rfl) (.cons (.tmp rfl) .nil), none, 0, none, 0, rfl, (((hS29.bring 0 rfl).bring 1 rfl).taken 2)⟩
  · skip
    rw [if_neg (not_t hc)] at hm
    refine WP.skip ?_
    refine WP.seq ?_
    refine WP.region ?_
    obtain ⟨r30, hx31, hm⟩ := bind_some hm
    refine RW.call rfl rfl rfl enters92 (spec_l21Tidy_ok (Ext.refl _) (ty80.ext (hE.trans hS24.ext) h0_) ((hS24.bring 1 rfl).box) hx31) (fun v32 w33 hR34 => ?_)
    obtain ⟨A35, k36, A37, k38, rfl, hR39⟩ := hR34
    have hS40 := hS24.join hR39
    have hS41 := hS40.bring 2 rfl
    refine RW.store ttok (A := []) hS41 rfl rfl rfl rfl rfl 0 rfl rfl rfl rfl rfl (fun w42 hS43 => ?_)
    refine RW.run ttok 1 rfl ?_
    refine RW.nil ?_
    refine WP.ret ?_
    cases hm
    exact ⟨_, .cons (ResIs.agg ttok rfl rfl rfl ((hS43.bring 0 rfl).box) rfl) (.cons (.tmp rfl) .nil), A35, k36, A37, k38, rfl, (((hS43.bring 2 rfl).bring 2 rfl).taken 2)⟩

theorem enters156 : Enters Try.prog 156 := ⟨_, _, Try.func156, rfl, by kernel_rfl⟩
def m_slices_Clone_impl_Pair_impl_Pair (fuel : Nat) (x0 : (List D.Pair)) : Option ((List D.Pair)) := (if decide ((([] : (List D.Pair)).length : Int) + (x0.length : Int) ≤ 4294967296) = true then some (([] : (List D.Pair)) ++ x0) else none)

set_option maxRecDepth 100000 in
theorem slices_Clone_impl_Pair_impl_Pair_ok {W w : World} (hE : Ext W w) {A0_ : Option Addr} {k0_ : Nat} {x0 : (List D.Pair)} (h0_ : ty78.ro W [.slice A0_ x0.length k0_] x0) {fuel : Nat} {r : (List D.Pair)} (hm : m_slices_Clone_impl_Pair_impl_Pair fuel x0 = some r) :
    Calls Try.prog 156 ⟨[.slice A0_ x0.length k0_]⟩ w (Ret fun v w8 => ∃ A0 k0, v = .slice A0 r.length k0 ∧ St w w8 [Own ty78 [.slice A0 r.length k0] r]) := by
  refine Calls.into Try.func156 rfl 8 rfl rfl _ rfl ?_
  unfold m_slices_Clone_impl_Pair_impl_Pair at hm
  have hS := St.start w
  refine WP.seq ?_
  refine WP.region ?_
  refine RW.run ttok 1 rfl ?_
  refine RW.nil ?_
  refine WP.seq ?_
  refine WP.seq ?_
  refine WP.region ?_
  refine RW.run ttok 1 rfl ?_
  refine RW.quiet rfl (Quiet.nilEq ttok rfl rfl rfl rfl rfl) rfl rfl ?_
  refine RW.nil ?_
  cases A0_ with
  | none =>
    have e := sl_none (by decide) h0_
    subst e
    refine WP.cond true rfl (fun _ => ?_) (fun hc => by cases hc)
    refine WP.seq ?_
    refine WP.region ?_
    refine RW.run ttok 1 rfl ?_
    refine RW.nil ?_
    refine WP.ret ?_
    have hr : r = [] := by simpa using hm.symm
    subst hr
    exact ⟨_, .cons (.tmp rfl) .nil, none, 0, rfl, hS.nilSl ty139 139⟩
  | some p =>
    refine WP.cond false rfl (fun hc => by cases hc) (fun _ => ?_)
    refine WP.skip ?_
    refine WP.seq ?_
    refine WP.region ?_
    refine RW.newSlice0 (U := ty139) ttok hS rfl rfl rfl rfl rfl rfl rfl (fun A1 k1 w1 e1 hS1 => ?_)
    refine RW.run ttok 1 rfl ?_
    by_cases hk : decide ((([] : (List D.Pair)).length : Int) + (x0.length : Int) ≤ 4294967296) = true
    case neg => rw [if_neg hk] at hm; cases hm
    rw [if_pos hk] at hm
    cases hm
    refine RW.appendRo ttok (Flat.map (Flat.pair Flat.int (Flat.pair Flat.int Flat.unit))) hS1 rfl rfl rfl rfl rfl rfl (by decide) rfl rfl (ty78.ext (hE.trans hS1.ext) h0_) (of_decide_eq_true hk) (by decide) rfl rfl (fun A2 k2 w2 hS2 => ?_)
    refine RW.run ttok 1 rfl ?_
    refine RW.nil ?_
    refine WP.ret ?_
    exact ⟨_, .cons (.tmp rfl) .nil, A2, k2, rfl, hS2⟩

theorem enters157 : Enters Try.prog 157 := ⟨_, _, Try.func157, rfl, by kernel_rfl⟩
def m_slices_Clone_int64_int64 (fuel : Nat) (x0 : (List Int)) : Option ((List Int)) := (if decide ((([] : (List Int)).length : Int) + (x0.length : Int) ≤ 4294967296) = true then some (([] : (List Int)) ++ x0) else none)

set_option maxRecDepth 100000 in
theorem slices_Clone_int64_int64_ok {W w : World} (hE : Ext W w) {A0_ : Option Addr} {k0_ : Nat} {x0 : (List Int)} (h0_ : ty103.ro W [.slice A0_ x0.length k0_] x0) {fuel : Nat} {r : (List Int)} (hm : m_slices_Clone_int64_int64 fuel x0 = some r) :
    Calls Try.prog 157 ⟨[.slice A0_ x0.length k0_]⟩ w (Ret fun v w8 => ∃ A0 k0, v = .slice A0 r.length k0 ∧ St w w8 [Own ty103 [.slice A0 r.length k0] r]) := by
  refine Calls.into Try.func157 rfl 8 rfl rfl _ rfl ?_
  unfold m_slices_Clone_int64_int64 at hm
  have hS := St.start w
  refine WP.seq ?_
  refine WP.region ?_
  refine RW.run ttok 1 rfl ?_
  refine RW.nil ?_
  refine WP.seq ?_
  refine WP.seq ?_
  refine WP.region ?_
  refine RW.run ttok 1 rfl ?_
  refine RW.quiet rfl (Quiet.nilEq ttok rfl rfl rfl rfl rfl) rfl rfl ?_
  refine RW.nil ?_
  cases A0_ with
  | none =>
    have e := sl_none (by decide) h0_
    subst e
    refine WP.cond true rfl (fun _ => ?_) (fun hc => by cases hc)
    refine WP.seq ?_
    refine WP.region ?_
    refine RW.run ttok 1 rfl ?_
    refine RW.nil ?_
    refine WP.ret ?_
    have hr : r = [] := by simpa using hm.symm
    subst hr
    exact ⟨_, .cons (.tmp rfl) .nil, none, 0, rfl, hS.nilSl tInt 2⟩
  | some p =>
    refine WP.cond false rfl (fun hc => by cases hc) (fun _ => ?_)
    refine WP.skip ?_
    refine WP.seq ?_
    refine WP.region ?_
    refine RW.newSlice0 (U := tInt) ttok hS rfl rfl rfl rfl rfl rfl rfl (fun A1 k1 w1 e1 hS1 => ?_)
    refine RW.run ttok 1 rfl ?_
    by_cases hk : decide ((([] : (List Int)).length : Int) + (x0.length : Int) ≤ 4294967296) = true
    case neg => rw [if_neg hk] at hm; cases hm
    rw [if_pos hk] at hm
    cases hm
    refine RW.appendRo ttok Flat.int hS1 rfl rfl rfl rfl rfl rfl (by decide) rfl rfl (ty103.ext (hE.trans hS1.ext) h0_) (of_decide_eq_true hk) (by decide) rfl rfl (fun A2 k2 w2 hS2 => ?_)
    refine RW.run ttok 1 rfl ?_
    refine RW.nil ?_
    refine WP.ret ?_
    exact ⟨_, .cons (.tmp rfl) .nil, A2, k2, rfl, hS2⟩

theorem enters158 : Enters Try.prog 158 := ⟨_, _, Try.func158, rfl, by kernel_rfl⟩
def m_slices_Clone_impl_Word_impl_Word (fuel : Nat) (x0 : (List D.Word)) : Option ((List D.Word)) := (if decide ((([] : (List D.Word)).length : Int) + (x0.length : Int) ≤ 4294967296) = true then some (([] : (List D.Word)) ++ x0) else none)

set_option maxRecDepth 100000 in
theorem slices_Clone_impl_Word_impl_Word_ok {W w : World} (hE : Ext W w) {A0_ : Option Addr} {k0_ : Nat} {x0 : (List D.Word)} (h0_ : ty155.ro W [.slice A0_ x0.length k0_] x0) {fuel : Nat} {r : (List D.Word)} (hm : m_slices_Clone_impl_Word_impl_Word fuel x0 = some r) :
    Calls Try.prog 158 ⟨[.slice A0_ x0.length k0_]⟩ w (Ret fun v w8 => ∃ A0 k0, v = .slice A0 r.length k0 ∧ St w w8 [Own ty155 [.slice A0 r.length k0] r]) := by
  refine Calls.into Try.func158 rfl 8 rfl rfl _ rfl ?_
  unfold m_slices_Clone_impl_Word_impl_Word at hm
  have hS := St.start w
  refine WP.seq ?_
  refine WP.region ?_
  refine RW.run ttok 1 rfl ?_
  refine RW.nil ?_
  refine WP.seq ?_
  refine WP.seq ?_
  refine WP.region ?_
  refine RW.run ttok 1 rfl ?_
  refine RW.quiet rfl (Quiet.nilEq ttok rfl rfl rfl rfl rfl) rfl rfl ?_
  refine RW.nil ?_
  cases A0_ with
  | none =>
    have e := sl_none (by decide) h0_
    subst e
    refine WP.cond true rfl (fun _ => ?_) (fun hc => by cases hc)
    refine WP.seq ?_
    refine WP.region ?_
    refine RW.run ttok 1 rfl ?_
    refine RW.nil ?_
    refine WP.ret ?_
    have hr : r = [] := by simpa using hm.symm
    subst hr
    exact ⟨_, .cons (.tmp rfl) .nil, none, 0, rfl, hS.nilSl ty77 77⟩
  | some p =>
    refine WP.cond false rfl (fun hc => by cases hc) (fun _ => ?_)
    refine WP.skip ?_
    refine WP.seq ?_
    refine WP.region ?_
    refine RW.newSlice0 (U := ty77) ttok hS rfl rfl rfl rfl rfl rfl rfl (fun A1 k1 w1 e1 hS1 => ?_)
    refine RW.run ttok 1 rfl ?_
    by_cases hk : decide ((([] : (List D.Word)).length : Int) + (x0.length : Int) ≤ 4294967296) = true
    case neg => rw [if_neg hk] at hm; cases hm
    rw [if_pos hk] at hm
    cases hm
    refine RW.appendRo ttok (Flat.map (Flat.pair Flat.int (Flat.pair Flat.int Flat.unit))) hS1 rfl rfl rfl rfl rfl rfl (by decide) rfl rfl (ty155.ext (hE.trans hS1.ext) h0_) (of_decide_eq_true hk) (by decide) rfl rfl (fun A2 k2 w2 hS2 => ?_)
    refine RW.run ttok 1 rfl ?_
    refine RW.nil ?_
    refine WP.ret ?_
    exact ⟨_, .cons (.tmp rfl) .nil, A2, k2, rfl, hS2⟩

theorem enters93 : Enters Try.prog 93 := ⟨_, _, Try.func93, rfl, by kernel_rfl⟩
def m_impl_copyMemory_j2 (fuel : Nat) (t18 : ((List D.Cell) × Int × Int × Int × (List D.Pair))) (t28 : (List D.Cell)) : Option D.Memory := some (⟨t28, t18.2.1, (⟨t18.2.2.1, t18.2.2.2.1⟩ : D.Word), t18.2.2.2.2⟩ : D.Memory)
def m_impl_copyMemory_b1 (fuel : Nat) (x0 : D.Memory) (s27 : Int × (List D.Cell)) : Option (Rd (Int × (List D.Cell)) ((List D.Cell)) (D.Memory)) := (if (decide (s27.1 < (x0.Cells.length : Int))) = true then ((idx x0.Cells s27.1).bind fun x49 => ((m_slices_Clone_int64_int64 fuel x49.Data).bind fun r72 => ((m_slices_Clone_impl_Word_impl_Word fuel x49.Words).bind fun r81 => (if decide ((s27.2.length : Int) + (([(⟨x49.Kind, x49.Level, x49.Value, r72, r81⟩ : D.Cell)] : (List D.Cell)).length : Int) ≤ 4294967296) = true then some (.next (w64 (s27.1 + 1), (s27.2 ++ ([(⟨x49.Kind, x49.Level, x49.Value, r72, r81⟩ : D.Cell)] : (List D.Cell))))) else none)))) else some (.brk s27.2))
def m_impl_copyMemory_j1 (fuel : Nat) (x0 : D.Memory) (t18 : ((List D.Cell) × Int × Int × Int × (List D.Pair))) : Option D.Memory := ((iter (m_impl_copyMemory_b1 fuel x0) fuel (0, t18.1)).bind fun o => aft o (m_impl_copyMemory_j2 fuel t18))
def m_impl_copyMemory (fuel : Nat) (x0 : D.Memory) : Option (D.Memory) := (if decide (0 ≤ (x0.Cells.length : Int) ∧ (x0.Cells.length : Int) ≤ 4294967296) = true then ((m_slices_Clone_impl_Pair_impl_Pair fuel x0.Redexes).bind fun r125 => m_impl_copyMemory_j1 fuel x0 (([] : (List D.Cell)), x0.Free, x0.Root.Tag, x0.Root.At, r125)) else none)

set_option maxRecDepth 100000 in
theorem impl_copyMemory_ok {W w : World} (hE : Ext W w) {c0_ : List Value} {x0 : D.Memory} (h0_ : ty80.ro W c0_ x0) {fuel : Nat} {r : D.Memory} (hm : m_impl_copyMemory fuel x0 = some r) :
    Calls Try.prog 93 ⟨[.agg ⟨c0_⟩]⟩ w (Ret fun v w8 => ∃ A0 k0 A1 k1, v = .agg ⟨[.slice A0 r.Cells.length k0, .int .i64 r.Free, .int .i64 r.Root.Tag, .int .i64 r.Root.At, .slice A1 r.Redexes.length k1]⟩ ∧ St w w8 [Own ty76 [.slice A0 r.Cells.length k0] r.Cells, Own ty78 [.slice A1 r.Redexes.length k1] r.Redexes]) := by
  obtain ⟨A1, k2, A4, k5, e7, h3, h6⟩ := ty80_open h0_; subst e7
  refine Calls.into Try.func93 rfl 41 rfl rfl _ rfl ?_
  unfold m_impl_copyMemory at hm
  have hS := St.start w
  refine WP.seq ?_
  refine WP.region ?_
  refine RW.new ttok hS rfl rfl rfl rfl (fun g10 w11 e12 hS13 => ?_)
  refine RW.new ttok hS13 rfl rfl rfl rfl (fun g14 w15 e16 hS17 => ?_)
  refine RW.nil ?_
  refine WP.seq ?_
  refine WP.cut (fun (t18 : ((List D.Cell) × Int × Int × Int × (List D.Pair))) F w9 => ∃ g19 A20 k21 A22 k23, m_impl_copyMemory_j1 fuel x0 t18 = some r ∧ St w w9 [Box g19 [.slice A20 t18.1.length k21, .int .i64 t18.2.1, .int .i64 t18.2.2.1, .int .i64 t18.2.2.2.1, .slice A22 t18.2.2.2.2.length k23] 80, Own ty76 [.slice A20 t18.1.length k21] t18.1, Own ty78 [.slice A22 t18.2.2.2.2.length k23] t18.2.2.2.2, Box g14 [.slice none 0 0, .int .i64 0, .int .i64 0, .int .i64 0, .slice none 0 0] 80, Box g10 [.slice A1 x0.Cells.length k2, .int .i64 x0.Free, .int .i64 x0.Root.Tag, .int .i64 x0.Root.At, .slice A4 x0.Redexes.length k5] 80] ∧ F = [(1, .pointer (some ⟨g10, 0, none⟩)), (2, .pointer (some ⟨g14, 0, none⟩)), (3, .pointer (some ⟨g19, 0, none⟩))]) ?_ ?_
  · skip
    rintro t18 F w25 ⟨g19, A20, k21, A22, k23, hm, hS24, rfl⟩
    unfold m_impl_copyMemory_j1 at hm
    refine WP.seq ?_
    refine WP.seq ?_
    refine WP.region ?_
    refine RW.run ttok 1 rfl ?_
    refine RW.load1 ttok rfl rfl rfl rfl rfl ((hS24.bring 4 rfl).box) 0 rfl rfl rfl rfl ?_
    refine RW.run ttok 2 rfl ?_
    refine RW.nil ?_
    obtain ⟨o37, hl38, hm⟩ := bind_some hm
    refine WP.cut (fun (t28 : (List D.Cell)) F w9 => ∃ A34 k35, o37 = .inl t28 ∧ St w w9 [Box g19 [.slice A34 t28.length k35, .int .i64 t18.2.1, .int .i64 t18.2.2.1, .int .i64 t18.2.2.2.1, .slice A22 t18.2.2.2.2.length k23] 80, Own ty76 [.slice A34 t28.length k35] t28, Own ty78 [.slice A22 t18.2.2.2.2.length k23] t18.2.2.2.2, Box g14 [.slice none 0 0, .int .i64 0, .int .i64 0, .int .i64 0, .slice none 0 0] 80, Box g10 [.slice A1 x0.Cells.length k2, .int .i64 x0.Free, .int .i64 x0.Root.Tag, .int .i64 x0.Root.At, .slice A4 x0.Redexes.length k5] 80] ∧ F = [(2, .pointer (some ⟨g14, 0, none⟩)), (3, .pointer (some ⟨g19, 0, none⟩))]) ?_ ?_
    · skip
      rintro t28 F w36 ⟨A34, k35, ho40, hS39, rfl⟩
      subst ho40
      rw [aft_inl] at hm
      unfold m_impl_copyMemory_j2 at hm
      refine WP.seq ?_
      refine WP.region ?_
      refine RW.loadN ttok rfl rfl rfl rfl rfl ((hS39.bring 0 rfl).box) rfl rfl rfl ?_
      have hS41 := hS39.bring 3 rfl
      refine RW.store ttok (A := []) hS41 rfl rfl rfl rfl rfl 0 rfl rfl rfl rfl rfl (fun w42 hS43 => ?_)
      refine RW.nil ?_
      refine WP.ret ?_
      cases hm
      exact ⟨_, .cons (ResIs.agg ttok rfl rfl rfl ((hS43.bring 0 rfl).box) rfl) .nil, A34, k35, A22, k23, rfl, (((hS43.bring 3 rfl).bring 3 rfl).taken 2)⟩
    · skip
      refine WP.block ?_
      refine WP.weak [(2, .pointer (some ⟨g14, 0, none⟩)), (3, .pointer (some ⟨g19, 0, none⟩)), (19, .slice A1 x0.Cells.length k2), (20, .int .i64 (x0.Cells.length : Int)), (21, .int .i64 0)] ⟨rfl, rfl, rfl, rfl, rfl, trivial⟩ ?_
      refine WP.iter (fun (s27 : Int × (List D.Cell)) F w9 => ∃ A32 k33, St w w9 [Box g19 [.slice A32 s27.2.length k33, .int .i64 t18.2.1, .int .i64 t18.2.2.1, .int .i64 t18.2.2.2.1, .slice A22 t18.2.2.2.2.length k23] 80, Own ty76 [.slice A32 s27.2.length k33] s27.2, Own ty78 [.slice A22 t18.2.2.2.2.length k23] t18.2.2.2.2, Box g14 [.slice none 0 0, .int .i64 0, .int .i64 0, .int .i64 0, .slice none 0 0] 80, Box g10 [.slice A1 x0.Cells.length k2, .int .i64 x0.Free, .int .i64 x0.Root.Tag, .int .i64 x0.Root.At, .slice A4 x0.Redexes.length k5] 80] ∧ F = [(2, .pointer (some ⟨g14, 0, none⟩)), (3, .pointer (some ⟨g19, 0, none⟩)), (19, .slice A1 x0.Cells.length k2), (20, .int .i64 (x0.Cells.length : Int)), (21, .int .i64 s27.1)]) _ hl38 ⟨A20, k21, hS24, rfl⟩ ?_
      rintro s27 F w48 _ o46 ⟨A32, k33, hS47, rfl⟩ hb44 ho45
      unfold m_impl_copyMemory_b1 at hb44
      refine WP.seq ?_
      refine WP.region ?_
      refine RW.run ttok 1 rfl ?_
      refine RW.nil ?_
      refine WP.seq ?_
      refine WP.cond (decide (s27.1 < (x0.Cells.length : Int))) rfl (fun hc => ?_) (fun hc => ?_)
      · skip
        rw [if_pos hc] at hb44
        refine WP.skip ?_
        refine WP.seq ?_
        refine WP.block ?_
        refine WP.seq ?_
        refine WP.region ?_
        obtain ⟨x49, hx50, hb44⟩ := bind_some hb44
        refine RW.idx ttok (hE.trans hS47.ext) rfl rfl rfl rfl rfl rfl (by decide) rfl rfl h3 (idx_some hx50).1 (idx_some hx50).2 rfl rfl (fun p51 es52 ha53 hr54 => ?_)
        obtain ⟨A55, k56, A58, k59, e61, h57, h60⟩ := ty157_open hr54; subst e61
        refine RW.loadN ttok rfl rfl rfl rfl rfl (At.ext (hE.trans hS47.ext) ha53) rfl rfl rfl ?_
        refine RW.new ttok hS47 rfl rfl rfl rfl (fun g62 w63 e65 hS66 => ?_)
        have hS67 := hS66.bring 0 rfl
        refine RW.store ttok (A := []) hS67 rfl rfl rfl rfl rfl 0 rfl rfl rfl rfl rfl (fun w68 hS69 => ?_)
        refine RW.nil ?_
        refine WP.seq ?_
        refine WP.drawnM 640 mixed 10 (by kernel_rfl) (by kernel_rfl) [([], 1023), ([0], 1022), ([1], 1021), ([], 1023), ([3], 1015), ([4, 2], 1007), ([0, 1, 2, 3, 4], 1023), ([6, 2, 5, 0, 1, 2, 3, 4], 955), ([0, 1, 2, 3, 4, 5, 6, 7], 1023), ([8, 5, 7, 0, 1, 2, 3, 4, 5, 6, 7], 735)] (by kernel_rfl) hS69.ext (fun hsk70 => ?_)
        have hS71 := hS69.step (Ext.draw _)
        refine DM.run (fuel := 8) ttok hsk70 [0, 3] 9 (by kernel_rfl) (by kernel_rfl) rfl ?_
        refine DM.load1 ttok hsk70 1 11 (by kernel_rfl) (by kernel_rfl) (by kernel_rfl) (by kernel_rfl) rfl (by kernel_rfl) rfl rfl rfl rfl rfl ((hS69.bring 0 rfl).box) 3 rfl rfl rfl rfl ?_
        refine DM.load1 ttok hsk70 4 27 (by kernel_rfl) (by kernel_rfl) (by kernel_rfl) (by kernel_rfl) rfl (by kernel_rfl) rfl rfl rfl rfl rfl ((hS69.bring 0 rfl).box) 4 rfl rfl rfl rfl ?_
        obtain ⟨r72, hx73, hb44⟩ := bind_some hb44
        refine DM.one hsk70 2 (by kernel_rfl) (LM.call hsk70 31 (by kernel_rfl) (by kernel_rfl) rfl rfl rfl rfl enters157 (slices_Clone_int64_int64_ok (hE.trans hS71.ext) h57 hx73) (fun v74 w75 hR76 => ?_))
        obtain ⟨A77, k78, rfl, hR79⟩ := hR76
        refine ⟨hR79.ext, ?_⟩
        have hS80 := hS71.join hR79
        refine DM.run (fuel := 4) ttok hsk70 [6] 95 (by kernel_rfl) (by kernel_rfl) rfl ?_
        refine DM.weak [(2, .pointer (some ⟨g14, 0, none⟩)), (3, .pointer (some ⟨g19, 0, none⟩)), (5, .pointer (some ⟨g62, 0, none⟩)), (19, .slice A1 x0.Cells.length k2), (20, .int .i64 (x0.Cells.length : Int)), (21, .int .i64 s27.1), (27, .slice A77 r72.length k78), (29, .slice A58 x49.Words.length k59), (31, .pointer (some ⟨g62, 3, none⟩))] ⟨rfl, rfl, rfl, rfl, rfl, rfl, rfl, rfl, rfl, trivial⟩ ?_
        obtain ⟨r81, hx82, hb44⟩ := bind_some hb44
        refine DM.one hsk70 5 (by kernel_rfl) (LM.call hsk70 127 (by kernel_rfl) (by kernel_rfl) rfl rfl rfl rfl enters158 (slices_Clone_impl_Word_impl_Word_ok (hE.trans hS80.ext) h60 hx82) (fun v83 w84 hR85 => ?_))
        obtain ⟨A86, k87, rfl, hR88⟩ := hR85
        refine ⟨hR88.ext, ?_⟩
        have hS89 := hS80.join hR88
        have hS90 := hS89.bring 2 rfl
        refine DM.one hsk70 7 (by kernel_rfl) (LM.store ttok (A := []) hS90 hsk70 255 (by kernel_rfl) (by kernel_rfl) rfl rfl rfl rfl rfl rfl 3 rfl rfl rfl rfl rfl (fun w91 hS92 => ?_))
        refine DM.run (fuel := 1) ttok hsk70 [8] 511 (by kernel_rfl) (by kernel_rfl) rfl ?_
        have hS93 := hS92.bring 0 rfl
        refine DM.one hsk70 9 (by kernel_rfl) (LM.store ttok (A := []) hS93 hsk70 1023 (by kernel_rfl) (by kernel_rfl) rfl rfl rfl rfl rfl rfl 4 rfl rfl rfl rfl rfl (fun w94 hS95 => ?_))
        refine DM.done hsk70 (by kernel_rfl) ?_
        refine WP.region ?_
        refine RW.run ttok 1 rfl ?_
        refine RW.load1 ttok rfl rfl rfl rfl rfl ((hS95.bring 3 rfl).box) 0 rfl rfl rfl rfl ?_
        refine RW.loadN ttok rfl rfl rfl rfl rfl ((hS95.bring 0 rfl).box) rfl rfl rfl ?_
        have hS96 := St.noEl ty157 hS95
        have hS97 := hS96.bring 2 rfl
        have hS98 := hS97.bring 3 rfl
        have hS99 := ty157_shutS (c := (⟨x49.Kind, x49.Level, x49.Value, r72, r81⟩ : D.Cell)) (B := _) hS98
        have hS100 := St.consEl hS99
        refine RW.newSlice (U := ty157) (els := [.int .i64 x49.Kind, .int .i64 x49.Level, .int .i64 x49.Value, .slice A77 r72.length k78, .slice A86 r81.length k87]) (ys := [(⟨x49.Kind, x49.Level, x49.Value, r72, r81⟩ : D.Cell)]) ttok hS100 rfl rfl rfl rfl rfl rfl rfl rfl rfl rfl rfl rfl (fun A101 k102 w103 e104 hS105 => ?_)
        have hS106 := hS105.bring 3 rfl
        have hS107 := hS106.bring 1 rfl
        by_cases hk108 : decide ((s27.2.length : Int) + (([(⟨x49.Kind, x49.Level, x49.Value, r72, r81⟩ : D.Cell)] : (List D.Cell)).length : Int) ≤ 4294967296) = true
        case neg => rw [if_neg hk108] at hb44; cases hb44
        rw [if_pos hk108] at hb44
        refine RW.appendOwn ttok hS107 rfl rfl rfl rfl rfl rfl (by decide) rfl rfl (of_decide_eq_true hk108) (by decide) rfl rfl (fun A109 k110 w111 hS112 => ?_)
        refine RW.run ttok 1 rfl ?_
        have hS113 := hS112.bring 2 rfl
        refine RW.store ttok (A := []) hS113 rfl rfl rfl rfl rfl 0 rfl rfl rfl rfl rfl (fun w114 hS115 => ?_)
        refine RW.nil ?_
        refine WP.region ?_
        refine RW.run ttok 2 rfl ?_
        refine RW.nil ?_
        cases hb44
        exact ⟨_, [(2, .pointer (some ⟨g14, 0, none⟩)), (3, .pointer (some ⟨g19, 0, none⟩)), (19, .slice A1 x0.Cells.length k2), (20, .int .i64 (x0.Cells.length : Int)), (21, .int .i64 (w64 (s27.1 + 1)))], ⟨rfl, rfl, rfl, rfl, rfl, trivial⟩, rfl, A109, k110, (hS115.bring 2 rfl).drop, rfl⟩
      · skip
        rw [if_neg (not_t hc)] at hb44
        refine WP.exit ?_
        cases hb44
        exact ⟨_, [(2, .pointer (some ⟨g14, 0, none⟩)), (3, .pointer (some ⟨g19, 0, none⟩))], ⟨rfl, rfl, trivial⟩, A32, k33, ho45, hS47, rfl⟩
  · skip
    refine WP.drawnM 8192 mixed 14 (by kernel_rfl) (by kernel_rfl) [([], 16383), ([0], 16382), ([1], 16381), ([2], 16379), ([], 16383), ([4], 16367), ([], 16383), ([6], 16319), ([], 16383), ([8], 16127), ([9], 15871), ([3, 5, 7, 10], 15191), ([], 16383), ([12, 11, 10, 0, 1, 2, 3, 4, 5, 6, 7, 8, 9, 10, 11, 12], 10239)] (by kernel_rfl) hS17.ext (fun hsk116 => ?_)
    have hS117 := hS17.step (Ext.draw _)
    refine DM.run (fuel := 10) ttok hsk116 [0, 4, 6, 8] 337 (by kernel_rfl) (by kernel_rfl) rfl ?_
    refine DM.load1 ttok hsk116 1 339 (by kernel_rfl) (by kernel_rfl) (by kernel_rfl) (by kernel_rfl) rfl (by kernel_rfl) rfl rfl rfl rfl rfl ((hS17.bring 1 rfl).box) 0 rfl rfl rfl rfl ?_
    refine DM.run (fuel := 8) ttok hsk116 [2] 343 (by kernel_rfl) (by kernel_rfl) rfl ?_
    refine DM.load1 ttok hsk116 5 375 (by kernel_rfl) (by kernel_rfl) (by kernel_rfl) (by kernel_rfl) rfl (by kernel_rfl) rfl rfl rfl rfl rfl ((hS17.bring 1 rfl).box) 1 rfl rfl rfl rfl ?_
    refine DM.loadN ttok hsk116 7 503 (by kernel_rfl) (by kernel_rfl) (by kernel_rfl) (by kernel_rfl) rfl (by kernel_rfl) rfl rfl rfl rfl rfl (At.sub ((hS17.bring 1 rfl).box) 2 2) rfl rfl rfl ?_
    refine DM.load1 ttok hsk116 9 1015 (by kernel_rfl) (by kernel_rfl) (by kernel_rfl) (by kernel_rfl) rfl (by kernel_rfl) rfl rfl rfl rfl rfl ((hS17.bring 1 rfl).box) 4 rfl rfl rfl rfl ?_
    by_cases hk118 : decide (0 ≤ (x0.Cells.length : Int) ∧ (x0.Cells.length : Int) ≤ 4294967296) = true
    case neg => rw [if_neg hk118] at hm; cases hm
    rw [if_pos hk118] at hm
    obtain ⟨r125, hx126, hm⟩ := bind_some hm
    refine DM.all hsk116 [3, 10, 12] (by kernel_rfl) (by simp) ?_
    intro i141 hi142
    simp only [List.mem_cons, List.not_mem_nil, or_false] at hi142
    rcases hi142 with rfl | rfl | rfl
    · skip
      have hz148 := of_decide_eq_true hk118
      refine LM.makeCap (U := ty157) ttok hS117 hsk116 1023 (by kernel_rfl) (by kernel_rfl) rfl rfl rfl rfl rfl rfl rfl rfl rfl hz148.1 (by have := hz148.2; show _ * (72 : Int) ≤ _; omega) (by have := hz148.2; simp only [maxLen]; omega) rfl rfl (fun A143 k144 w145 e146 hS147 => ?_)
      refine DM.all hsk116 [10, 12] (by kernel_rfl) (by simp) ?_
      intro i149 hi150
      simp only [List.mem_cons, List.not_mem_nil, or_false] at hi150
      rcases hi150 with rfl | rfl
      · skip
        refine LM.call hsk116 2047 (by kernel_rfl) (by kernel_rfl) rfl rfl rfl rfl enters156 (slices_Clone_impl_Pair_impl_Pair_ok (hE.trans hS147.ext) h6 hx126) (fun v151 w152 hR153 => ?_)
        obtain ⟨A154, k155, rfl, hR156⟩ := hR153
        refine ⟨hR156.ext, ?_⟩
        have hS157 := hS147.join hR156
        refine DM.quietP hsk116 11 4095 (by kernel_rfl) (by kernel_rfl) rfl (by kernel_rfl) rfl (fun _ => Quiet.build ttok rfl rfl rfl rfl rfl) rfl rfl ?_
        refine DM.one hsk116 12 (by kernel_rfl) (LM.new ttok hsk116 hS157 8191 (by kernel_rfl) (by kernel_rfl) rfl rfl rfl rfl rfl (fun g158 w159 e160 hS161 => ?_))
        have hS162 := hS161.bring 0 rfl
        refine DM.one hsk116 13 (by kernel_rfl) (LM.store ttok (A := []) hS162 hsk116 16383 (by kernel_rfl) (by kernel_rfl) rfl rfl rfl rfl rfl rfl 0 rfl rfl rfl rfl rfl (fun w163 hS164 => ?_))
        refine DM.done hsk116 (by kernel_rfl) ?_
        exact ⟨(([] : (List D.Cell)), x0.Free, x0.Root.Tag, x0.Root.At, r125), [(1, .pointer (some ⟨g10, 0, none⟩)), (2, .pointer (some ⟨g14, 0, none⟩)), (3, .pointer (some ⟨g158, 0, none⟩))], ⟨rfl, rfl, rfl, trivial⟩, g158, A143, k144, A154, k155, hm, (((hS164.bring 1 rfl).bring 2 rfl).bring 2 rfl), rfl⟩
      · skip
        refine LM.new ttok hsk116 hS147 5119 (by kernel_rfl) (by kernel_rfl) rfl rfl rfl rfl rfl (fun g165 w166 e167 hS168 => ?_)
        refine DM.one hsk116 10 (by kernel_rfl) (LM.call hsk116 6143 (by kernel_rfl) (by kernel_rfl) rfl rfl rfl rfl enters156 (slices_Clone_impl_Pair_impl_Pair_ok (hE.trans hS168.ext) h6 hx126) (fun v169 w170 hR171 => ?_))
        obtain ⟨A172, k173, rfl, hR174⟩ := hR171
        refine ⟨hR174.ext, ?_⟩
        have hS175 := hS168.join hR174
        refine DM.quietP hsk116 11 8191 (by kernel_rfl) (by kernel_rfl) rfl (by kernel_rfl) rfl (fun _ => Quiet.build ttok rfl rfl rfl rfl rfl) rfl rfl ?_
        have hS176 := hS175.bring 1 rfl
        refine DM.one hsk116 13 (by kernel_rfl) (LM.store ttok (A := []) hS176 hsk116 16383 (by kernel_rfl) (by kernel_rfl) rfl rfl rfl rfl rfl rfl 0 rfl rfl rfl rfl rfl (fun w177 hS178 => ?_))
        refine DM.done hsk116 (by kernel_rfl) ?_
        exact ⟨(([] : (List D.Cell)), x0.Free, x0.Root.Tag, x0.Root.At, r125), [(1, .pointer (some ⟨g10, 0, none⟩)), (2, .pointer (some ⟨g14, 0, none⟩)), (3, .pointer (some ⟨g165, 0, none⟩))], ⟨rfl, rfl, rfl, trivial⟩, g165, A143, k144, A172, k173, hm, (((hS178.bring 1 rfl).bring 2 rfl).bring 2 rfl), rfl⟩
    · skip
      refine LM.call hsk116 2039 (by kernel_rfl) (by kernel_rfl) rfl rfl rfl rfl enters156 (slices_Clone_impl_Pair_impl_Pair_ok (hE.trans hS117.ext) h6 hx126) (fun v179 w180 hR181 => ?_)
      obtain ⟨A182, k183, rfl, hR184⟩ := hR181
      refine ⟨hR184.ext, ?_⟩
      have hS185 := hS117.join hR184
      refine DM.all hsk116 [3, 12] (by kernel_rfl) (by simp) ?_
      intro i186 hi187
      simp only [List.mem_cons, List.not_mem_nil, or_false] at hi187
      rcases hi187 with rfl | rfl
      · skip
        have hz193 := of_decide_eq_true hk118
        refine LM.makeCap (U := ty157) ttok hS185 hsk116 2047 (by kernel_rfl) (by kernel_rfl) rfl rfl rfl rfl rfl rfl rfl rfl rfl hz193.1 (by have := hz193.2; show _ * (72 : Int) ≤ _; omega) (by have := hz193.2; simp only [maxLen]; omega) rfl rfl (fun A188 k189 w190 e191 hS192 => ?_)
        refine DM.quietP hsk116 11 4095 (by kernel_rfl) (by kernel_rfl) rfl (by kernel_rfl) rfl (fun _ => Quiet.build ttok rfl rfl rfl rfl rfl) rfl rfl ?_
        refine DM.one hsk116 12 (by kernel_rfl) (LM.new ttok hsk116 hS192 8191 (by kernel_rfl) (by kernel_rfl) rfl rfl rfl rfl rfl (fun g194 w195 e196 hS197 => ?_))
        have hS198 := hS197.bring 0 rfl
        refine DM.one hsk116 13 (by kernel_rfl) (LM.store ttok (A := []) hS198 hsk116 16383 (by kernel_rfl) (by kernel_rfl) rfl rfl rfl rfl rfl rfl 0 rfl rfl rfl rfl rfl (fun w199 hS200 => ?_))
        refine DM.done hsk116 (by kernel_rfl) ?_
        exact ⟨(([] : (List D.Cell)), x0.Free, x0.Root.Tag, x0.Root.At, r125), [(1, .pointer (some ⟨g10, 0, none⟩)), (2, .pointer (some ⟨g14, 0, none⟩)), (3, .pointer (some ⟨g194, 0, none⟩))], ⟨rfl, rfl, rfl, trivial⟩, g194, A188, k189, A182, k183, hm, hS200, rfl⟩
      · skip
        refine LM.new ttok hsk116 hS185 6135 (by kernel_rfl) (by kernel_rfl) rfl rfl rfl rfl rfl (fun g201 w202 e203 hS204 => ?_)
        have hz210 := of_decide_eq_true hk118
        refine DM.one hsk116 3 (by kernel_rfl) (LM.makeCap (U := ty157) ttok hS204 hsk116 6143 (by kernel_rfl) (by kernel_rfl) rfl rfl rfl rfl rfl rfl rfl rfl rfl hz210.1 (by have := hz210.2; show _ * (72 : Int) ≤ _; omega) (by have := hz210.2; simp only [maxLen]; omega) rfl rfl (fun A205 k206 w207 e208 hS209 => ?_))
        refine DM.quietP hsk116 11 8191 (by kernel_rfl) (by kernel_rfl) rfl (by kernel_rfl) rfl (fun _ => Quiet.build ttok rfl rfl rfl rfl rfl) rfl rfl ?_
        have hS211 := hS209.bring 1 rfl
        refine DM.one hsk116 13 (by kernel_rfl) (LM.store ttok (A := []) hS211 hsk116 16383 (by kernel_rfl) (by kernel_rfl) rfl rfl rfl rfl rfl rfl 0 rfl rfl rfl rfl rfl (fun w212 hS213 => ?_))
        refine DM.done hsk116 (by kernel_rfl) ?_
        exact ⟨(([] : (List D.Cell)), x0.Free, x0.Root.Tag, x0.Root.At, r125), [(1, .pointer (some ⟨g10, 0, none⟩)), (2, .pointer (some ⟨g14, 0, none⟩)), (3, .pointer (some ⟨g201, 0, none⟩))], ⟨rfl, rfl, rfl, trivial⟩, g201, A205, k206, A182, k183, hm, hS213, rfl⟩
    · skip
      refine LM.new ttok hsk116 hS117 5111 (by kernel_rfl) (by kernel_rfl) rfl rfl rfl rfl rfl (fun g214 w215 e216 hS217 => ?_)
      refine DM.all hsk116 [3, 10] (by kernel_rfl) (by simp) ?_
      intro i218 hi219
      simp only [List.mem_cons, List.not_mem_nil, or_false] at hi219
      rcases hi219 with rfl | rfl
      · skip
        have hz225 := of_decide_eq_true hk118
        refine LM.makeCap (U := ty157) ttok hS217 hsk116 5119 (by kernel_rfl) (by kernel_rfl) rfl rfl rfl rfl rfl rfl rfl rfl rfl hz225.1 (by have := hz225.2; show _ * (72 : Int) ≤ _; omega) (by have := hz225.2; simp only [maxLen]; omega) rfl rfl (fun A220 k221 w222 e223 hS224 => ?_)
        refine DM.one hsk116 10 (by kernel_rfl) (LM.call hsk116 6143 (by kernel_rfl) (by kernel_rfl) rfl rfl rfl rfl enters156 (slices_Clone_impl_Pair_impl_Pair_ok (hE.trans hS224.ext) h6 hx126) (fun v226 w227 hR228 => ?_))
        obtain ⟨A229, k230, rfl, hR231⟩ := hR228
        refine ⟨hR231.ext, ?_⟩
        have hS232 := hS224.join hR231
        refine DM.quietP hsk116 11 8191 (by kernel_rfl) (by kernel_rfl) rfl (by kernel_rfl) rfl (fun _ => Quiet.build ttok rfl rfl rfl rfl rfl) rfl rfl ?_
        have hS233 := hS232.bring 2 rfl
        refine DM.one hsk116 13 (by kernel_rfl) (LM.store ttok (A := []) hS233 hsk116 16383 (by kernel_rfl) (by kernel_rfl) rfl rfl rfl rfl rfl rfl 0 rfl rfl rfl rfl rfl (fun w234 hS235 => ?_))
        refine DM.done hsk116 (by kernel_rfl) ?_
        exact ⟨(([] : (List D.Cell)), x0.Free, x0.Root.Tag, x0.Root.At, r125), [(1, .pointer (some ⟨g10, 0, none⟩)), (2, .pointer (some ⟨g14, 0, none⟩)), (3, .pointer (some ⟨g214, 0, none⟩))], ⟨rfl, rfl, rfl, trivial⟩, g214, A220, k221, A229, k230, hm, (((hS235.bring 1 rfl).bring 2 rfl).bring 2 rfl), rfl⟩
      · skip
        refine LM.call hsk116 6135 (by kernel_rfl) (by kernel_rfl) rfl rfl rfl rfl enters156 (slices_Clone_impl_Pair_impl_Pair_ok (hE.trans hS217.ext) h6 hx126) (fun v236 w237 hR238 => ?_)
        obtain ⟨A239, k240, rfl, hR241⟩ := hR238
        refine ⟨hR241.ext, ?_⟩
        have hS242 := hS217.join hR241
        have hz248 := of_decide_eq_true hk118
        refine DM.one hsk116 3 (by kernel_rfl) (LM.makeCap (U := ty157) ttok hS242 hsk116 6143 (by kernel_rfl) (by kernel_rfl) rfl rfl rfl rfl rfl rfl rfl rfl rfl hz248.1 (by have := hz248.2; show _ * (72 : Int) ≤ _; omega) (by have := hz248.2; simp only [maxLen]; omega) rfl rfl (fun A243 k244 w245 e246 hS247 => ?_))
        refine DM.quietP hsk116 11 8191 (by kernel_rfl) (by kernel_rfl) rfl (by kernel_rfl) rfl (fun _ => Quiet.build ttok rfl rfl rfl rfl rfl) rfl rfl ?_
        have hS249 := hS247.bring 2 rfl
        refine DM.one hsk116 13 (by kernel_rfl) (LM.store ttok (A := []) hS249 hsk116 16383 (by kernel_rfl) (by kernel_rfl) rfl rfl rfl rfl rfl rfl 0 rfl rfl rfl rfl rfl (fun w250 hS251 => ?_))
        refine DM.done hsk116 (by kernel_rfl) ?_
        exact ⟨(([] : (List D.Cell)), x0.Free, x0.Root.Tag, x0.Root.At, r125), [(1, .pointer (some ⟨g10, 0, none⟩)), (2, .pointer (some ⟨g14, 0, none⟩)), (3, .pointer (some ⟨g214, 0, none⟩))], ⟨rfl, rfl, rfl, trivial⟩, g214, A243, k244, A239, k240, hm, hS251, rfl⟩

theorem enters97 : Enters Try.prog 97 := ⟨_, _, Try.func97, rfl, by kernel_rfl⟩
def m_impl_Memory_release (fuel : Nat) (x0 : D.Memory) (x1 : Int) : Option (D.Memory) := (if decide (0 ≤ x1 ∧ x1.toNat < x0.Cells.length) = true then some (⟨(x0.Cells.set x1.toNat (⟨0, 0, x0.Free, [], []⟩ : D.Cell)), x1, (⟨x0.Root.Tag, x0.Root.At⟩ : D.Word), x0.Redexes⟩ : D.Memory) else none)

set_option maxRecDepth 100000 in
theorem impl_Memory_release_ok {W w : World} {RR : List Res} {g0_ : Nat} {x0 : D.Memory} {A0_0 : Option Addr} {k0_0 : Nat} {A0_4 : Option Addr} {k0_4 : Nat} {x1 : Int} (hS : St W w (Box g0_ [.slice A0_0 x0.Cells.length k0_0, .int .i64 x0.Free, .int .i64 x0.Root.Tag, .int .i64 x0.Root.At, .slice A0_4 x0.Redexes.length k0_4] 80 :: Own ty76 [.slice A0_0 x0.Cells.length k0_0] x0.Cells :: Own ty78 [.slice A0_4 x0.Redexes.length k0_4] x0.Redexes :: RR)) {fuel : Nat} {r : D.Memory} (hm : m_impl_Memory_release fuel x0 x1 = some r) :
    Calls Try.prog 97 ⟨[.pointer (some ⟨g0_, 0, none⟩), .int .i64 x1]⟩ w (Ret fun v w8 => ∃ A0 k0 A1 k1, v = .tuple ⟨[]⟩ ∧ St W w8 (Box g0_ [.slice A0 r.Cells.length k0, .int .i64 r.Free, .int .i64 r.Root.Tag, .int .i64 r.Root.At, .slice A1 r.Redexes.length k1] 80 :: Own ty76 [.slice A0 r.Cells.length k0] r.Cells :: Own ty78 [.slice A1 r.Redexes.length k1] r.Redexes :: RR)) := by
  refine Calls.into Try.func97 rfl 19 rfl rfl _ rfl ?_
  unfold m_impl_Memory_release at hm
  refine WP.seq ?_
  refine WP.drawnM 2048 mixed 12 (by kernel_rfl) (by kernel_rfl) [([], 4095), ([0], 4094), ([1], 4093), ([2], 4091), ([], 4095), ([], 4095), ([5], 4063), ([6], 4031), ([7], 3967), ([8], 3839), ([3, 4, 0, 1, 2, 3, 4, 5, 6, 7, 8, 9], 4071), ([10, 9, 0, 1, 2, 3, 4, 5, 6, 7, 8, 9], 2559)] (by kernel_rfl) hS.ext (fun hsk1 => ?_)
  have hS2 := hS.step (Ext.draw _)
  refine DM.run (fuel := 5) ttok hsk1 [0, 1, 2, 4, 5, 6, 7] 247 (by kernel_rfl) (by kernel_rfl) rfl ?_
  refine DM.load1 ttok hsk1 3 255 (by kernel_rfl) (by kernel_rfl) (by kernel_rfl) (by kernel_rfl) rfl (by kernel_rfl) rfl rfl rfl rfl rfl ((hS.bring 0 rfl).box) 0 rfl rfl rfl rfl ?_
  refine DM.load1 ttok hsk1 8 511 (by kernel_rfl) (by kernel_rfl) (by kernel_rfl) (by kernel_rfl) rfl (by kernel_rfl) rfl rfl rfl rfl rfl ((hS.bring 0 rfl).box) 1 rfl rfl rfl rfl ?_
  refine DM.quietP hsk1 9 1023 (by kernel_rfl) (by kernel_rfl) rfl (by kernel_rfl) rfl (fun _ => Quiet.build ttok rfl rfl rfl rfl rfl) rfl rfl ?_
  have hS3 := hS2.bring 1 rfl
  by_cases hk4 : decide (0 ≤ x1 ∧ x1.toNat < x0.Cells.length) = true
  case neg => rw [if_neg hk4] at hm; cases hm
  rw [if_pos hk4] at hm
  have hb5 := of_decide_eq_true hk4
  refine DM.idxOwnN ttok hS3 hsk1 10 2047 (by kernel_rfl) (by kernel_rfl) rfl (by kernel_rfl) rfl rfl rfl rfl rfl rfl rfl rfl hb5.1 hb5.2 rfl rfl (fun q6 hq7 => ?_)
  have hS10 := hS2.nilSl ty77 77
  have hS11 := hS10.nilSl tInt 2
  have hS12 := ty157_shutS (c := (⟨0, 0, x0.Free, [], []⟩ : D.Cell)) (B := _) hS11
  have hS13 := hS12.bring 2 rfl
  refine DM.one hsk1 11 (by kernel_rfl) (LM.storeElN ttok hS13 hsk1 4095 (by kernel_rfl) (by kernel_rfl) rfl rfl rfl rfl rfl rfl rfl hb5.2 hq7 rfl rfl (fun w14 hS15 => ?_))
  refine DM.done hsk1 (by kernel_rfl) ?_
  refine WP.region ?_
  refine RW.run ttok 4 rfl ?_
  have hS16 := hS15.bring 1 rfl
  refine RW.store ttok (A := []) hS16 rfl rfl rfl rfl rfl 1 rfl rfl rfl rfl rfl (fun w17 hS18 => ?_)
  refine RW.nil ?_
  cases hm
  have hn19 := (hS18.bring 1 rfl).lenEq
  have hS20 := (hS18.bring 1 rfl).reLen hn19
  have hS21 := (hS20.bring 1 rfl).reBox (cs' := [.slice A0_0 (x0.Cells.set x1.toNat (⟨0, 0, x0.Free, [], []⟩ : D.Cell)).length k0_0, .int .i64 x1, .int .i64 x0.Root.Tag, .int .i64 x0.Root.At, .slice A0_4 x0.Redexes.length k0_4]) (by show ([.slice A0_0 x0.Cells.length k0_0, .int .i64 x1, .int .i64 x0.Root.Tag, .int .i64 x0.Root.At, .slice A0_4 x0.Redexes.length k0_4] : List Value) = [.slice A0_0 (x0.Cells.set x1.toNat (⟨0, 0, x0.Free, [], []⟩ : D.Cell)).length k0_0, .int .i64 x1, .int .i64 x0.Root.Tag, .int .i64 x0.Root.At, .slice A0_4 x0.Redexes.length k0_4]; first | (simp only [hn19]; done) | (simp only [hn19]; rfl))
  exact ⟨_, .nil, A0_0, k0_0, A0_4, k0_4, rfl, hS21⟩

theorem enters41 : Enters Try.prog 41 := ⟨_, _, Try.func41, rfl, by kernel_rfl⟩
def m_impl_TidyMemory_j2 (fuel : Nat) (t68 : Int × Int × Int × (List D.Cell) × (List D.Pair)) : Option (D.Memory × Int) := some ((⟨t68.2.2.2.1, t68.1, (⟨t68.2.1, t68.2.2.1⟩ : D.Word), t68.2.2.2.2⟩ : D.Memory), 0)
def m_impl_TidyMemory_j4 (fuel : Nat) (s67 : Int × Int × Int × Int × (List D.Cell) × (List D.Pair)) (t123 : Int × Int × Int × (List D.Cell) × (List D.Pair)) : Option (Rd (Int × Int × Int × Int × (List D.Cell) × (List D.Pair)) (Int × Int × Int × (List D.Cell) × (List D.Pair)) (D.Memory × Int)) := some (.next (w64 (s67.1 + 1), t123.1, t123.2.1, t123.2.2.1, t123.2.2.2.1, t123.2.2.2.2))
def m_impl_TidyMemory_j3 (fuel : Nat) (s67 : Int × Int × Int × Int × (List D.Cell) × (List D.Pair)) (t118 : Bool) : Option (Rd (Int × Int × Int × Int × (List D.Cell) × (List D.Pair)) (Int × Int × Int × (List D.Cell) × (List D.Pair)) (D.Memory × Int)) := (if t118 = true then ((m_impl_Memory_release fuel (⟨s67.2.2.2.2.1, s67.2.1, (⟨s67.2.2.1, s67.2.2.2.1⟩ : D.Word), s67.2.2.2.2.2⟩ : D.Memory) s67.1).bind fun r131 => m_impl_TidyMemory_j4 fuel s67 (r131.Free, r131.Root.Tag, r131.Root.At, r131.Cells, r131.Redexes)) else m_impl_TidyMemory_j4 fuel s67 (s67.2.1, s67.2.2.1, s67.2.2.2.1, s67.2.2.2.2.1, s67.2.2.2.2.2))
def m_impl_TidyMemory_b2 (fuel : Nat) (x0 : D.Memory) (s67 : Int × Int × Int × Int × (List D.Cell) × (List D.Pair)) : Option (Rd (Int × Int × Int × Int × (List D.Cell) × (List D.Pair)) (Int × Int × Int × (List D.Cell) × (List D.Pair)) (D.Memory × Int)) := (if (decide (s67.1 < (x0.Cells.length : Int))) = true then ((idx x0.Cells s67.1).bind fun x98 => ((m_impl_Cell_isVariable fuel x98).bind fun r141 => (if r141 = true then m_impl_TidyMemory_j3 fuel s67 (decide ((x98.Words.length : Int) > 0)) else m_impl_TidyMemory_j3 fuel s67 false))) else some (.brk (s67.2.1, s67.2.2.1, s67.2.2.2.1, s67.2.2.2.2.1, s67.2.2.2.2.2)))
def m_impl_TidyMemory_j1 (fuel : Nat) (x0 : D.Memory) (r30 : D.Memory) (r48 : D.Word × Bool) (t59 : (List D.Cell)) : Option (D.Memory × Int) := ((iter (m_impl_TidyMemory_b2 fuel x0) fuel (0, r30.Free, r48.1.Tag, r48.1.At, t59, r30.Redexes)).bind fun o => aft o (m_impl_TidyMemory_j2 fuel))
def m_impl_TidyMemory_j5 (fuel : Nat) (s58 : Int × (List D.Cell)) (t181 : (List D.Cell)) : Option (Rd (Int × (List D.Cell)) ((List D.Cell)) (D.Memory × Int)) := some (.next (w64 (s58.1 + 1), t181))
def m_impl_TidyMemory_j6 (fuel : Nat) (s58 : Int × (List D.Cell)) (t186 : (List D.Cell)) : Option (Rd (Int × (List D.Cell)) ((List D.Cell)) (D.Memory × Int)) := m_impl_TidyMemory_j5 fuel s58 t186
def m_impl_TidyMemory_b3 (fuel : Nat) (x0 : D.Memory) (s58 : Int × (List D.Cell)) (x154 : D.Cell) (s185 : Int × (List D.Cell)) : Option (Rd (Int × (List D.Cell)) ((List D.Cell)) (Rd (Int × (List D.Cell)) ((List D.Cell)) (D.Memory × Int))) := (if (decide (s185.1 < (x154.Words.length : Int))) = true then ((idx x154.Words s185.1).bind fun x198 => ((idx s185.2 s58.1).bind fun x215 => ((m_impl_Memory_resolve fuel x0 x198).bind fun r228 => (if decide (0 ≤ s185.1 ∧ s185.1.toNat < x215.Words.length) = true then some (.next (w64 (s185.1 + 1), (s185.2.set s58.1.toNat (⟨x215.Kind, x215.Level, x215.Value, x215.Data, (x215.Words.set s185.1.toNat r228.1)⟩ : D.Cell)))) else none)))) else some (.brk s185.2))
def m_impl_TidyMemory_b1 (fuel : Nat) (x0 : D.Memory) (s58 : Int × (List D.Cell)) : Option (Rd (Int × (List D.Cell)) ((List D.Cell)) (D.Memory × Int)) := (if (decide (s58.1 < (x0.Cells.length : Int))) = true then ((idx x0.Cells s58.1).bind fun x154 => ((m_impl_Cell_isAgentCell fuel x154).bind fun r174 => (if r174 = true then ((iter (m_impl_TidyMemory_b3 fuel x0 s58 x154) fuel (0, s58.2)).bind fun o => aft o (m_impl_TidyMemory_j6 fuel s58)) else m_impl_TidyMemory_j5 fuel s58 s58.2))) else some (.brk s58.2))
def m_impl_TidyMemory (fuel : Nat) (x0 : D.Memory) : Option (D.Memory × Int) := ((m_impl_ValidMemory fuel x0).bind fun r18 => (if (!r18) = true then some ((⟨[], 0, (⟨0, 0⟩ : D.Word), []⟩ : D.Memory), 1) else ((m_impl_copyMemory fuel x0).bind fun r30 => ((m_impl_Memory_resolve fuel x0 x0.Root).bind fun r48 => ((iter (m_impl_TidyMemory_b1 fuel x0) fuel (0, r30.Cells)).bind fun o => aft o (m_impl_TidyMemory_j1 fuel x0 r30 r48))))))

set_option maxRecDepth 100000 in
theorem impl_TidyMemory_ok {W w : World} (hE : Ext W w) {c0_ : List Value} {x0 : D.Memory} (h0_ : ty80.ro W c0_ x0) {fuel : Nat} {r : D.Memory × Int} (hm : m_impl_TidyMemory fuel x0 = some r) :
    Calls Try.prog 41 ⟨[.agg ⟨c0_⟩]⟩ w (Ret fun v w8 => ∃ A0 k0 A1 k1, v = .tuple ⟨[.agg ⟨[.slice A0 r.1.Cells.length k0, .int .i64 r.1.Free, .int .i64 r.1.Root.Tag, .int .i64 r.1.Root.At, .slice A1 r.1.Redexes.length k1]⟩, .int .i64 r.2]⟩ ∧ St w w8 [Own ty76 [.slice A0 r.1.Cells.length k0] r.1.Cells, Own ty78 [.slice A1 r.1.Redexes.length k1] r.1.Redexes]) := by
  obtain ⟨A1, k2, A4, k5, e7, h3, h6⟩ := ty80_open h0_; subst e7
  refine Calls.into Try.func41 rfl 77 rfl rfl _ rfl ?_
  unfold m_impl_TidyMemory at hm
  have hS := St.start w
  refine WP.seq ?_
  refine WP.region ?_
  refine RW.new ttok hS rfl rfl rfl rfl (fun g10 w11 e12 hS13 => ?_)
  refine RW.new ttok hS13 rfl rfl rfl rfl (fun g14 w15 e16 hS17 => ?_)
  refine RW.run ttok 1 rfl ?_
  refine RW.nil ?_
  refine WP.seq ?_
  refine WP.seq ?_
  refine WP.region ?_
  refine RW.loadN ttok rfl rfl rfl rfl rfl ((hS17.bring 1 rfl).box) rfl rfl rfl ?_
  obtain ⟨r18, hx19, hm⟩ := bind_some hm
  refine RW.call rfl rfl rfl enters85 (impl_ValidMemory_ok (hE.trans hS17.ext) h0_ hx19) (fun v20 w21 hR22 => ?_)
  obtain ⟨rfl, hR23⟩ := hR22
  have hS24 := hS17.join hR23
  refine RW.run ttok 1 rfl ?_
  refine RW.nil ?_
  refine WP.cond (!r18) rfl (fun hc => ?_) (fun hc => ?_)
  · skip
    rw [if_pos hc] at hm
    refine WP.seq ?_
    refine WP.region ?_
    refine RW.quiet rfl (Quiet.build ttok rfl rfl rfl rfl rfl) rfl rfl ?_
    have hS25 := hS24.bring 0 rfl
    refine RW.store ttok (A := []) hS25 rfl rfl rfl rfl rfl 0 rfl rfl rfl rfl rfl (fun w26 hS27 => ?_)
    refine RW.run ttok 1 rfl ?_
    refine RW.nil ?_
    refine WP.ret ?_
    cases hm
    have hS28 := hS27.nilSl ty157 157
    have hS29 := hS28.nilSl ty139 139
    exact ⟨_, .cons (ResIs.agg ttok rfl rfl rfl ((hS27.bring 0 rfl).box) rfl) (.cons (.tmp rfl) .nil), none, 0, none, 0, rfl, (((hS29.bring 0 rfl).bring 1 rfl).taken 2)⟩
  · skip
    rw [if_neg (not_t hc)] at hm
    refine WP.skip ?_
    refine WP.seq ?_
    refine WP.region ?_
    refine RW.loadN ttok rfl rfl rfl rfl rfl ((hS24.bring 1 rfl).box) rfl rfl rfl ?_
    obtain ⟨r30, hx31, hm⟩ := bind_some hm
    refine RW.call rfl rfl rfl enters93 (impl_copyMemory_ok (hE.trans hS24.ext) h0_ hx31) (fun v32 w33 hR34 => ?_)
    obtain ⟨A35, k36, A37, k38, rfl, hR39⟩ := hR34
    have hS40 := hS24.join hR39
    refine RW.new ttok hS40 rfl rfl rfl rfl (fun g41 w42 e43 hS44 => ?_)
    have hS45 := hS44.bring 0 rfl
    refine RW.store ttok (A := []) hS45 rfl rfl rfl rfl rfl 0 rfl rfl rfl rfl rfl (fun w46 hS47 => ?_)
    refine RW.nil ?_
    refine WP.seq ?_
    refine WP.region ?_
    refine RW.run ttok 1 rfl ?_
    refine RW.loadN ttok rfl rfl rfl rfl rfl (At.sub ((hS47.bring 4 rfl).box) 2 2) rfl rfl rfl ?_
    obtain ⟨r48, hx49, hm⟩ := bind_some hm
    refine RW.call rfl rfl rfl enters94 (impl_Memory_resolve_ok (Ext.refl _) (ty80.ext (hE.trans hS47.ext) h0_) ((hS47.bring 4 rfl).box) (ty77_shut x0.Root) hx49) (fun v50 w51 hR52 => ?_)
    obtain ⟨rfl, hR53⟩ := hR52
    have hS54 := hS47.join hR53
    refine RW.run ttok 4 rfl ?_
    have hS55 := hS54.bring 0 rfl
    refine RW.store ttok (A := []) hS55 rfl rfl rfl rfl rfl 2 rfl rfl rfl rfl rfl (fun w56 hS57 => ?_)
    refine RW.nil ?_
    refine WP.seq ?_
    refine WP.seq ?_
    refine WP.region ?_
    refine RW.run ttok 1 rfl ?_
    refine RW.load1 ttok rfl rfl rfl rfl rfl ((hS57.bring 4 rfl).box) 0 rfl rfl rfl rfl ?_
    refine RW.run ttok 2 rfl ?_
    refine RW.nil ?_
    obtain ⟨o62, hl63, hm⟩ := bind_some hm
    refine WP.cut (fun (t59 : (List D.Cell)) F w9 => o62 = .inl t59 ∧ St w w9 [Box g41 [.slice A35 r30.Cells.length k36, .int .i64 r30.Free, .int .i64 r48.1.Tag, .int .i64 r48.1.At, .slice A37 r30.Redexes.length k38] 80, Own ty76 [.slice A35 r30.Cells.length k36] t59, Own ty78 [.slice A37 r30.Redexes.length k38] r30.Redexes, Box g14 [.slice none 0 0, .int .i64 0, .int .i64 0, .int .i64 0, .slice none 0 0] 80, Box g10 [.slice A1 x0.Cells.length k2, .int .i64 x0.Free, .int .i64 x0.Root.Tag, .int .i64 x0.Root.At, .slice A4 x0.Redexes.length k5] 80] ∧ F = [(1, .pointer (some ⟨g10, 0, none⟩)), (2, .pointer (some ⟨g14, 0, none⟩)), (4, .pointer (some ⟨g41, 0, none⟩))]) ?_ ?_
    · skip
      rintro t59 F w61 ⟨ho66, hS65, rfl⟩
      subst ho66
      rw [aft_inl] at hm
      unfold m_impl_TidyMemory_j1 at hm
      refine WP.seq ?_
      refine WP.seq ?_
      refine WP.region ?_
      refine RW.run ttok 1 rfl ?_
      refine RW.load1 ttok rfl rfl rfl rfl rfl ((hS65.bring 4 rfl).box) 0 rfl rfl rfl rfl ?_
      refine RW.run ttok 2 rfl ?_
      refine RW.nil ?_
      obtain ⟨o83, hl84, hm⟩ := bind_some hm
      refine WP.cut (fun (t68 : Int × Int × Int × (List D.Cell) × (List D.Pair)) F w9 => ∃ A78 k79 A80 k81, o83 = .inl t68 ∧ St w w9 [Box g41 [.slice A78 t68.2.2.2.1.length k79, .int .i64 t68.1, .int .i64 t68.2.1, .int .i64 t68.2.2.1, .slice A80 t68.2.2.2.2.length k81] 80, Own ty76 [.slice A78 t68.2.2.2.1.length k79] t68.2.2.2.1, Own ty78 [.slice A80 t68.2.2.2.2.length k81] t68.2.2.2.2, Box g14 [.slice none 0 0, .int .i64 0, .int .i64 0, .int .i64 0, .slice none 0 0] 80, Box g10 [.slice A1 x0.Cells.length k2, .int .i64 x0.Free, .int .i64 x0.Root.Tag, .int .i64 x0.Root.At, .slice A4 x0.Redexes.length k5] 80] ∧ F = [(2, .pointer (some ⟨g14, 0, none⟩)), (4, .pointer (some ⟨g41, 0, none⟩))]) ?_ ?_
      · skip
        rintro t68 F w82 ⟨A78, k79, A80, k81, ho86, hS85, rfl⟩
        subst ho86
        rw [aft_inl] at hm
        unfold m_impl_TidyMemory_j2 at hm
        refine WP.seq ?_
        refine WP.region ?_
        refine RW.loadN ttok rfl rfl rfl rfl rfl ((hS85.bring 0 rfl).box) rfl rfl rfl ?_
        have hS87 := hS85.bring 3 rfl
        refine RW.store ttok (A := []) hS87 rfl rfl rfl rfl rfl 0 rfl rfl rfl rfl rfl (fun w88 hS89 => ?_)
        refine RW.run ttok 1 rfl ?_
        refine RW.nil ?_
        refine WP.ret ?_
        cases hm
        exact ⟨_, .cons (ResIs.agg ttok rfl rfl rfl ((hS89.bring 0 rfl).box) rfl) (.cons (.tmp rfl) .nil), A78, k79, A80, k81, rfl, (((hS89.bring 3 rfl).bring 3 rfl).taken 2)⟩
      · skip
        refine WP.block ?_
        have hn90 := (hS65.bring 1 rfl).lenEq
        have hS91 := (hS65.bring 1 rfl).reLen hn90
        have hS92 := (hS91.bring 1 rfl).reBox (cs' := [.slice A35 t59.length k36, .int .i64 r30.Free, .int .i64 r48.1.Tag, .int .i64 r48.1.At, .slice A37 r30.Redexes.length k38]) (by show ([.slice A35 r30.Cells.length k36, .int .i64 r30.Free, .int .i64 r48.1.Tag, .int .i64 r48.1.At, .slice A37 r30.Redexes.length k38] : List Value) = [.slice A35 t59.length k36, .int .i64 r30.Free, .int .i64 r48.1.Tag, .int .i64 r48.1.At, .slice A37 r30.Redexes.length k38]; first | (simp only [hn90]; done) | (simp only [hn90]; rfl))
        refine WP.weak [(2, .pointer (some ⟨g14, 0, none⟩)), (4, .pointer (some ⟨g41, 0, none⟩)), (58, .slice A1 x0.Cells.length k2), (59, .int .i64 (x0.Cells.length : Int)), (60, .int .i64 0)] ⟨rfl, rfl, rfl, rfl, rfl, trivial⟩ ?_
        refine WP.iter (fun (s67 : Int × Int × Int × Int × (List D.Cell) × (List D.Pair)) F w9 => ∃ A74 k75 A76 k77, St w w9 [Box g41 [.slice A74 s67.2.2.2.2.1.length k75, .int .i64 s67.2.1, .int .i64 s67.2.2.1, .int .i64 s67.2.2.2.1, .slice A76 s67.2.2.2.2.2.length k77] 80, Own ty76 [.slice A74 s67.2.2.2.2.1.length k75] s67.2.2.2.2.1, Own ty78 [.slice A76 s67.2.2.2.2.2.length k77] s67.2.2.2.2.2, Box g14 [.slice none 0 0, .int .i64 0, .int .i64 0, .int .i64 0, .slice none 0 0] 80, Box g10 [.slice A1 x0.Cells.length k2, .int .i64 x0.Free, .int .i64 x0.Root.Tag, .int .i64 x0.Root.At, .slice A4 x0.Redexes.length k5] 80] ∧ F = [(2, .pointer (some ⟨g14, 0, none⟩)), (4, .pointer (some ⟨g41, 0, none⟩)), (58, .slice A1 x0.Cells.length k2), (59, .int .i64 (x0.Cells.length : Int)), (60, .int .i64 s67.1)]) _ hl84 ⟨A35, k36, A37, k38, hS92, rfl⟩ ?_
        rintro s67 F w97 _ o95 ⟨A74, k75, A76, k77, hS96, rfl⟩ hb93 ho94
        unfold m_impl_TidyMemory_b2 at hb93
        refine WP.seq ?_
        refine WP.region ?_
        refine RW.run ttok 1 rfl ?_
        refine RW.nil ?_
        refine WP.seq ?_
        refine WP.cond (decide (s67.1 < (x0.Cells.length : Int))) rfl (fun hc => ?_) (fun hc => ?_)
        · skip
          rw [if_pos hc] at hb93
          refine WP.skip ?_
          refine WP.seq ?_
          refine WP.block ?_
          refine WP.seq ?_
          refine WP.region ?_
          refine RW.run ttok 1 rfl ?_
          obtain ⟨x98, hx99, hb93⟩ := bind_some hb93
          refine RW.idx ttok (hE.trans hS96.ext) rfl rfl rfl rfl rfl rfl (by decide) rfl rfl h3 (idx_some hx99).1 (idx_some hx99).2 rfl rfl (fun p100 es101 ha102 hr103 => ?_)
          obtain ⟨A104, k105, A107, k108, e110, h106, h109⟩ := ty157_open hr103; subst e110
          refine RW.loadN ttok rfl rfl rfl rfl rfl (At.ext (hE.trans hS96.ext) ha102) rfl rfl rfl ?_
          refine RW.new ttok hS96 rfl rfl rfl rfl (fun g111 w112 e113 hS114 => ?_)
          refine RW.run ttok 1 rfl ?_
          have hS115 := hS114.bring 0 rfl
          refine RW.store ttok (A := []) hS115 rfl rfl rfl rfl rfl 0 rfl rfl rfl rfl rfl (fun w116 hS117 => ?_)
          refine RW.nil ?_
          refine WP.seq ?_
          refine WP.cut (fun (t118 : Bool) F w9 => m_impl_TidyMemory_j3 fuel s67 t118 = some o95 ∧ Ext w116 w9 ∧ St w w9 [Box g111 [.int .i64 x98.Kind, .int .i64 x98.Level, .int .i64 x98.Value, .slice A104 x98.Data.length k105, .slice A107 x98.Words.length k108] 157, Box g41 [.slice A74 s67.2.2.2.2.1.length k75, .int .i64 s67.2.1, .int .i64 s67.2.2.1, .int .i64 s67.2.2.2.1, .slice A76 s67.2.2.2.2.2.length k77] 80, Own ty76 [.slice A74 s67.2.2.2.2.1.length k75] s67.2.2.2.2.1, Own ty78 [.slice A76 s67.2.2.2.2.2.length k77] s67.2.2.2.2.2, Box g14 [.slice none 0 0, .int .i64 0, .int .i64 0, .int .i64 0, .slice none 0 0] 80, Box g10 [.slice A1 x0.Cells.length k2, .int .i64 x0.Free, .int .i64 x0.Root.Tag, .int .i64 x0.Root.At, .slice A4 x0.Redexes.length k5] 80] ∧ F = [(2, .pointer (some ⟨g14, 0, none⟩)), (4, .pointer (some ⟨g41, 0, none⟩)), (9, .int .i64 s67.1), (58, .slice A1 x0.Cells.length k2), (59, .int .i64 (x0.Cells.length : Int)), (60, .int .i64 s67.1), (72, .bool t118)]) ?_ ?_
          · skip
            rintro t118 F w121 ⟨hb93, hE119, hS120, rfl⟩
            unfold m_impl_TidyMemory_j3 at hb93
            refine WP.cut (fun (t123 : Int × Int × Int × (List D.Cell) × (List D.Pair)) F w9 => ∃ A124 k125 A126 k127, m_impl_TidyMemory_j4 fuel s67 t123 = some o95 ∧ St w w9 [Box g111 [.int .i64 x98.Kind, .int .i64 x98.Level, .int .i64 x98.Value, .slice A104 x98.Data.length k105, .slice A107 x98.Words.length k108] 157, Box g41 [.slice A124 t123.2.2.2.1.length k125, .int .i64 t123.1, .int .i64 t123.2.1, .int .i64 t123.2.2.1, .slice A126 t123.2.2.2.2.length k127] 80, Own ty76 [.slice A124 t123.2.2.2.1.length k125] t123.2.2.2.1, Own ty78 [.slice A126 t123.2.2.2.2.length k127] t123.2.2.2.2, Box g14 [.slice none 0 0, .int .i64 0, .int .i64 0, .int .i64 0, .slice none 0 0] 80, Box g10 [.slice A1 x0.Cells.length k2, .int .i64 x0.Free, .int .i64 x0.Root.Tag, .int .i64 x0.Root.At, .slice A4 x0.Redexes.length k5] 80] ∧ F = [(2, .pointer (some ⟨g14, 0, none⟩)), (4, .pointer (some ⟨g41, 0, none⟩)), (58, .slice A1 x0.Cells.length k2), (59, .int .i64 (x0.Cells.length : Int)), (60, .int .i64 s67.1)]) ?_ ?_
            · skip
              rintro t123 F w129 ⟨A124, k125, A126, k127, hb93, hS128, rfl⟩
              unfold m_impl_TidyMemory_j4 at hb93
              refine WP.region ?_
              refine RW.run ttok 2 rfl ?_
              refine RW.nil ?_
              cases hb93
              exact ⟨_, [(2, .pointer (some ⟨g14, 0, none⟩)), (4, .pointer (some ⟨g41, 0, none⟩)), (58, .slice A1 x0.Cells.length k2), (59, .int .i64 (x0.Cells.length : Int)), (60, .int .i64 (w64 (s67.1 + 1)))], ⟨rfl, rfl, rfl, rfl, rfl, trivial⟩, rfl, A124, k125, A126, k127, (hS128.bring 0 rfl).drop, rfl⟩
            · skip
              refine WP.cond t118 rfl (fun hc => ?_) (fun hc => ?_)
              · skip
                rw [if_pos hc] at hb93
                refine WP.region ?_
                refine RW.run ttok 1 rfl ?_
                obtain ⟨r131, hx132, hb93⟩ := bind_some hb93
                refine RW.call rfl rfl rfl enters97 (impl_Memory_release_ok (W := w) (RR := _) (x0 := (⟨s67.2.2.2.2.1, s67.2.1, (⟨s67.2.2.1, s67.2.2.2.1⟩ : D.Word), s67.2.2.2.2.2⟩ : D.Memory)) (x1 := s67.1) (((hS120.bring 3 rfl).bring 3 rfl).bring 3 rfl)  hx132) (fun v133 w134 hR135 => ?_)
                obtain ⟨A136, k137, A138, k139, rfl, hS140⟩ := hR135
                refine RW.nil ?_
                exact ⟨(r131.Free, r131.Root.Tag, r131.Root.At, r131.Cells, r131.Redexes), [(2, .pointer (some ⟨g14, 0, none⟩)), (4, .pointer (some ⟨g41, 0, none⟩)), (58, .slice A1 x0.Cells.length k2), (59, .int .i64 (x0.Cells.length : Int)), (60, .int .i64 s67.1)], ⟨rfl, rfl, rfl, rfl, rfl, trivial⟩, A136, k137, A138, k139, hb93, ((((hS140.bring 2 rfl).bring 2 rfl).bring 2 rfl).bring 3 rfl), rfl⟩
              · skip
                rw [if_neg (not_t hc)] at hb93
                refine WP.skip ?_
                exact ⟨(s67.2.1, s67.2.2.1, s67.2.2.2.1, s67.2.2.2.2.1, s67.2.2.2.2.2), [(2, .pointer (some ⟨g14, 0, none⟩)), (4, .pointer (some ⟨g41, 0, none⟩)), (58, .slice A1 x0.Cells.length k2), (59, .int .i64 (x0.Cells.length : Int)), (60, .int .i64 s67.1)], ⟨rfl, rfl, rfl, rfl, rfl, trivial⟩, A74, k75, A76, k77, hb93, hS120, rfl⟩
          · skip
            refine WP.region ?_
            refine RW.loadN ttok rfl rfl rfl rfl rfl ((hS117.bring 0 rfl).box) rfl rfl rfl ?_
            obtain ⟨r141, hx142, hb93⟩ := bind_some hb93
            refine RW.call rfl rfl rfl enters96 (impl_Cell_isVariable_ok (hE.trans hS117.ext) (ty157_shut x98 h106 h109) hx142) (fun v143 w144 hR145 => ?_)
            obtain ⟨rfl, hR146⟩ := hR145
            have hS147 := hS117.join hR146
            refine RW.run ttok 1 rfl ?_
            by_cases hg148 : r141 = true
            · skip
              rw [if_pos hg148] at hb93
              refine RW.know 67 rfl (congrArg Value.bool hg148) ?_
              refine RW.run ttok 1 rfl ?_
              refine RW.load1 ttok rfl rfl rfl rfl rfl ((hS147.bring 0 rfl).box) 4 rfl rfl rfl rfl ?_
              refine RW.run ttok 3 rfl ?_
              refine RW.nil ?_
              exact ⟨decide ((x98.Words.length : Int) > 0), [(2, .pointer (some ⟨g14, 0, none⟩)), (4, .pointer (some ⟨g41, 0, none⟩)), (9, .int .i64 s67.1), (58, .slice A1 x0.Cells.length k2), (59, .int .i64 (x0.Cells.length : Int)), (60, .int .i64 s67.1), (72, .bool (decide ((x98.Words.length : Int) > 0)))], ⟨rfl, rfl, rfl, rfl, rfl, rfl, rfl, trivial⟩, hb93, hR146.ext, hS147, rfl⟩
            · skip
              rw [if_neg hg148] at hb93
              refine RW.know 67 rfl (congrArg Value.bool (Bool.eq_false_iff.2 hg148)) ?_
              refine RW.run ttok 5 rfl ?_
              refine RW.nil ?_
              exact ⟨false, [(2, .pointer (some ⟨g14, 0, none⟩)), (4, .pointer (some ⟨g41, 0, none⟩)), (9, .int .i64 s67.1), (58, .slice A1 x0.Cells.length k2), (59, .int .i64 (x0.Cells.length : Int)), (60, .int .i64 s67.1), (72, .bool false)], ⟨rfl, rfl, rfl, rfl, rfl, rfl, rfl, trivial⟩, hb93, hR146.ext, hS147, rfl⟩
        · skip
          rw [if_neg (not_t hc)] at hb93
          refine WP.exit ?_
          cases hb93
          exact ⟨_, [(2, .pointer (some ⟨g14, 0, none⟩)), (4, .pointer (some ⟨g41, 0, none⟩))], ⟨rfl, rfl, trivial⟩, A74, k75, A76, k77, ho94, hS96, rfl⟩
    · skip
      refine WP.block ?_
      refine WP.weak [(1, .pointer (some ⟨g10, 0, none⟩)), (2, .pointer (some ⟨g14, 0, none⟩)), (4, .pointer (some ⟨g41, 0, none⟩)), (25, .slice A1 x0.Cells.length k2), (26, .int .i64 (x0.Cells.length : Int)), (27, .int .i64 0)] ⟨rfl, rfl, rfl, rfl, rfl, rfl, trivial⟩ ?_
      refine WP.iter (fun (s58 : Int × (List D.Cell)) F w9 => St w w9 [Box g41 [.slice A35 r30.Cells.length k36, .int .i64 r30.Free, .int .i64 r48.1.Tag, .int .i64 r48.1.At, .slice A37 r30.Redexes.length k38] 80, Own ty76 [.slice A35 r30.Cells.length k36] s58.2, Own ty78 [.slice A37 r30.Redexes.length k38] r30.Redexes, Box g14 [.slice none 0 0, .int .i64 0, .int .i64 0, .int .i64 0, .slice none 0 0] 80, Box g10 [.slice A1 x0.Cells.length k2, .int .i64 x0.Free, .int .i64 x0.Root.Tag, .int .i64 x0.Root.At, .slice A4 x0.Redexes.length k5] 80] ∧ F = [(1, .pointer (some ⟨g10, 0, none⟩)), (2, .pointer (some ⟨g14, 0, none⟩)), (4, .pointer (some ⟨g41, 0, none⟩)), (25, .slice A1 x0.Cells.length k2), (26, .int .i64 (x0.Cells.length : Int)), (27, .int .i64 s58.1)]) _ hl63 ⟨hS57, rfl⟩ ?_
      rintro s58 F w153 _ o151 ⟨hS152, rfl⟩ hb149 ho150
      unfold m_impl_TidyMemory_b1 at hb149
      refine WP.seq ?_
      refine WP.region ?_
      refine RW.run ttok 1 rfl ?_
      refine RW.nil ?_
      refine WP.seq ?_
      refine WP.cond (decide (s58.1 < (x0.Cells.length : Int))) rfl (fun hc => ?_) (fun hc => ?_)
      · skip
        rw [if_pos hc] at hb149
        refine WP.skip ?_
        refine WP.seq ?_
        refine WP.block ?_
        refine WP.seq ?_
        refine WP.region ?_
        refine RW.run ttok 1 rfl ?_
        obtain ⟨x154, hx155, hb149⟩ := bind_some hb149
        refine RW.idx ttok (hE.trans hS152.ext) rfl rfl rfl rfl rfl rfl (by decide) rfl rfl h3 (idx_some hx155).1 (idx_some hx155).2 rfl rfl (fun p156 es157 ha158 hr159 => ?_)
        obtain ⟨A160, k161, A163, k164, e166, h162, h165⟩ := ty157_open hr159; subst e166
        refine RW.loadN ttok rfl rfl rfl rfl rfl (At.ext (hE.trans hS152.ext) ha158) rfl rfl rfl ?_
        refine RW.new ttok hS152 rfl rfl rfl rfl (fun g167 w168 e169 hS170 => ?_)
        refine RW.run ttok 1 rfl ?_
        have hS171 := hS170.bring 0 rfl
        refine RW.store ttok (A := []) hS171 rfl rfl rfl rfl rfl 0 rfl rfl rfl rfl rfl (fun w172 hS173 => ?_)
        refine RW.nil ?_
        refine WP.seq ?_
        refine WP.region ?_
        refine RW.loadN ttok rfl rfl rfl rfl rfl ((hS173.bring 0 rfl).box) rfl rfl rfl ?_
        obtain ⟨r174, hx175, hb149⟩ := bind_some hb149
        refine RW.call rfl rfl rfl enters95 (impl_Cell_isAgentCell_ok (hE.trans hS173.ext) (ty157_shut x154 h162 h165) hx175) (fun v176 w177 hR178 => ?_)
        obtain ⟨rfl, hR179⟩ := hR178
        have hS180 := hS173.join hR179
        refine RW.nil ?_
        refine WP.cut (fun (t181 : (List D.Cell)) F w9 => m_impl_TidyMemory_j5 fuel s58 t181 = some o151 ∧ St w w9 [Box g167 [.int .i64 x154.Kind, .int .i64 x154.Level, .int .i64 x154.Value, .slice A160 x154.Data.length k161, .slice A163 x154.Words.length k164] 157, Box g41 [.slice A35 r30.Cells.length k36, .int .i64 r30.Free, .int .i64 r48.1.Tag, .int .i64 r48.1.At, .slice A37 r30.Redexes.length k38] 80, Own ty76 [.slice A35 r30.Cells.length k36] t181, Own ty78 [.slice A37 r30.Redexes.length k38] r30.Redexes, Box g14 [.slice none 0 0, .int .i64 0, .int .i64 0, .int .i64 0, .slice none 0 0] 80, Box g10 [.slice A1 x0.Cells.length k2, .int .i64 x0.Free, .int .i64 x0.Root.Tag, .int .i64 x0.Root.At, .slice A4 x0.Redexes.length k5] 80] ∧ F = [(1, .pointer (some ⟨g10, 0, none⟩)), (2, .pointer (some ⟨g14, 0, none⟩)), (4, .pointer (some ⟨g41, 0, none⟩)), (25, .slice A1 x0.Cells.length k2), (26, .int .i64 (x0.Cells.length : Int)), (27, .int .i64 s58.1)]) ?_ ?_
        · skip
          rintro t181 F w183 ⟨hb149, hS182, rfl⟩
          unfold m_impl_TidyMemory_j5 at hb149
          refine WP.region ?_
          refine RW.run ttok 2 rfl ?_
          refine RW.nil ?_
          cases hb149
          exact ⟨_, [(1, .pointer (some ⟨g10, 0, none⟩)), (2, .pointer (some ⟨g14, 0, none⟩)), (4, .pointer (some ⟨g41, 0, none⟩)), (25, .slice A1 x0.Cells.length k2), (26, .int .i64 (x0.Cells.length : Int)), (27, .int .i64 (w64 (s58.1 + 1)))], ⟨rfl, rfl, rfl, rfl, rfl, rfl, trivial⟩, rfl, (hS182.bring 0 rfl).drop, rfl⟩
        · skip
          refine WP.cond r174 rfl (fun hc => ?_) (fun hc => ?_)
          · skip
            rw [if_pos hc] at hb149
            refine WP.seq ?_
            refine WP.region ?_
            refine RW.run ttok 1 rfl ?_
            refine RW.load1 ttok rfl rfl rfl rfl rfl ((hS180.bring 0 rfl).box) 4 rfl rfl rfl rfl ?_
            refine RW.run ttok 2 rfl ?_
            refine RW.nil ?_
            obtain ⟨o189, hl190, hb149⟩ := bind_some hb149
            refine WP.cut (fun (t186 : (List D.Cell)) F w9 => o189 = .inl t186 ∧ St w w9 [Box g167 [.int .i64 x154.Kind, .int .i64 x154.Level, .int .i64 x154.Value, .slice A160 x154.Data.length k161, .slice A163 x154.Words.length k164] 157, Box g41 [.slice A35 r30.Cells.length k36, .int .i64 r30.Free, .int .i64 r48.1.Tag, .int .i64 r48.1.At, .slice A37 r30.Redexes.length k38] 80, Own ty76 [.slice A35 r30.Cells.length k36] t186, Own ty78 [.slice A37 r30.Redexes.length k38] r30.Redexes, Box g14 [.slice none 0 0, .int .i64 0, .int .i64 0, .int .i64 0, .slice none 0 0] 80, Box g10 [.slice A1 x0.Cells.length k2, .int .i64 x0.Free, .int .i64 x0.Root.Tag, .int .i64 x0.Root.At, .slice A4 x0.Redexes.length k5] 80] ∧ F = [(1, .pointer (some ⟨g10, 0, none⟩)), (2, .pointer (some ⟨g14, 0, none⟩)), (4, .pointer (some ⟨g41, 0, none⟩)), (25, .slice A1 x0.Cells.length k2), (26, .int .i64 (x0.Cells.length : Int)), (27, .int .i64 s58.1)]) ?_ ?_
            · skip
              rintro t186 F w188 ⟨ho192, hS191, rfl⟩
              subst ho192
              rw [aft_inl] at hb149
              unfold m_impl_TidyMemory_j6 at hb149
              exact ⟨t186, [(1, .pointer (some ⟨g10, 0, none⟩)), (2, .pointer (some ⟨g14, 0, none⟩)), (4, .pointer (some ⟨g41, 0, none⟩)), (25, .slice A1 x0.Cells.length k2), (26, .int .i64 (x0.Cells.length : Int)), (27, .int .i64 s58.1)], ⟨rfl, rfl, rfl, rfl, rfl, rfl, trivial⟩, hb149, hS191, rfl⟩
            · skip
              refine WP.block ?_
              refine WP.weak [(1, .pointer (some ⟨g10, 0, none⟩)), (2, .pointer (some ⟨g14, 0, none⟩)), (4, .pointer (some ⟨g41, 0, none⟩)), (5, .int .i64 s58.1), (25, .slice A1 x0.Cells.length k2), (26, .int .i64 (x0.Cells.length : Int)), (27, .int .i64 s58.1), (35, .slice A163 x154.Words.length k164), (36, .int .i64 (x154.Words.length : Int)), (37, .int .i64 0)] ⟨rfl, rfl, rfl, rfl, rfl, rfl, rfl, rfl, rfl, rfl, trivial⟩ ?_
              refine WP.iter (fun (s185 : Int × (List D.Cell)) F w9 => St w w9 [Box g167 [.int .i64 x154.Kind, .int .i64 x154.Level, .int .i64 x154.Value, .slice A160 x154.Data.length k161, .slice A163 x154.Words.length k164] 157, Box g41 [.slice A35 r30.Cells.length k36, .int .i64 r30.Free, .int .i64 r48.1.Tag, .int .i64 r48.1.At, .slice A37 r30.Redexes.length k38] 80, Own ty76 [.slice A35 r30.Cells.length k36] s185.2, Own ty78 [.slice A37 r30.Redexes.length k38] r30.Redexes, Box g14 [.slice none 0 0, .int .i64 0, .int .i64 0, .int .i64 0, .slice none 0 0] 80, Box g10 [.slice A1 x0.Cells.length k2, .int .i64 x0.Free, .int .i64 x0.Root.Tag, .int .i64 x0.Root.At, .slice A4 x0.Redexes.length k5] 80] ∧ F = [(1, .pointer (some ⟨g10, 0, none⟩)), (2, .pointer (some ⟨g14, 0, none⟩)), (4, .pointer (some ⟨g41, 0, none⟩)), (5, .int .i64 s58.1), (25, .slice A1 x0.Cells.length k2), (26, .int .i64 (x0.Cells.length : Int)), (27, .int .i64 s58.1), (35, .slice A163 x154.Words.length k164), (36, .int .i64 (x154.Words.length : Int)), (37, .int .i64 s185.1)]) _ hl190 ⟨hS180, rfl⟩ ?_
              rintro s185 F w197 _ o195 ⟨hS196, rfl⟩ hb193 ho194
              unfold m_impl_TidyMemory_b3 at hb193
              refine WP.seq ?_
              refine WP.region ?_
              refine RW.run ttok 1 rfl ?_
              refine RW.nil ?_
              refine WP.seq ?_
              refine WP.cond (decide (s185.1 < (x154.Words.length : Int))) rfl (fun hc => ?_) (fun hc => ?_)
              · skip
                rw [if_pos hc] at hb193
                refine WP.skip ?_
                refine WP.seq ?_
                refine WP.block ?_
                refine WP.seq ?_
                refine WP.region ?_
                refine RW.run ttok 1 rfl ?_
                obtain ⟨x198, hx199, hb193⟩ := bind_some hb193
                refine RW.idx ttok (hE.trans hS196.ext) rfl rfl rfl rfl rfl rfl (by decide) rfl rfl h165 (idx_some hx199).1 (idx_some hx199).2 rfl rfl (fun p200 es201 ha202 hr203 => ?_)
                have e204 := ty77_open hr203; subst e204
                refine RW.loadN ttok rfl rfl rfl rfl rfl (At.ext (hE.trans hS196.ext) ha202) rfl rfl rfl ?_
                refine RW.new ttok hS196 rfl rfl rfl rfl (fun g205 w206 e207 hS208 => ?_)
                refine RW.run ttok 1 rfl ?_
                have hS209 := hS208.bring 0 rfl
                refine RW.store ttok (A := []) hS209 rfl rfl rfl rfl rfl 0 rfl rfl rfl rfl rfl (fun w210 hS211 => ?_)
                refine RW.nil ?_
                refine WP.drawnM 8192 mixed 14 (by kernel_rfl) (by kernel_rfl) [([], 16383), ([0], 16382), ([], 16383), ([1, 2], 16377), ([3], 16375), ([4], 16367), ([], 16383), ([], 16383), ([7], 16255), ([8], 16127), ([9], 15871), ([9], 15871), ([5, 6, 0, 1, 2, 3, 4, 5, 6, 7, 8, 9, 10], 16287), ([12, 10, 8, 0, 1, 2, 3, 4, 5, 6, 7, 8, 9, 10], 11263)] (by kernel_rfl) hS211.ext (fun hsk212 => ?_)
                have hS213 := hS211.step (Ext.draw _)
                refine DM.run (fuel := 11) ttok hsk212 [0, 2, 6] 69 (by kernel_rfl) (by kernel_rfl) rfl ?_
                refine DM.load1 ttok hsk212 1 71 (by kernel_rfl) (by kernel_rfl) (by kernel_rfl) (by kernel_rfl) rfl (by kernel_rfl) rfl rfl rfl rfl rfl ((hS211.bring 2 rfl).box) 0 rfl rfl rfl rfl ?_
                have hS214 := hS211.bring 3 rfl
                obtain ⟨x215, hx216, hb193⟩ := bind_some hb193
                refine DM.focus ttok hS214 hsk212 3 79 (by kernel_rfl) (by kernel_rfl) rfl (by kernel_rfl) rfl rfl rfl rfl rfl rfl rfl rfl (idx_some hx216).1 (idx_some hx216).2 rfl rfl (fun q217 es218 hq219 hS220 => ?_)
                obtain ⟨A223, k224, A225, k226, e222, hS221⟩ := ty157_openS (hS220.bring 1 rfl); subst e222
                have hS227 := hS221.step (Ext.draw _)
                refine DM.run (fuel := 8) ttok hsk212 [4] 95 (by kernel_rfl) (by kernel_rfl) rfl ?_
                refine DM.weak [(1, .pointer (some ⟨g10, 0, none⟩)), (2, .pointer (some ⟨g14, 0, none⟩)), (4, .pointer (some ⟨g41, 0, none⟩)), (5, .int .i64 s58.1), (8, .pointer (some ⟨g205, 0, none⟩)), (25, .slice A1 x0.Cells.length k2), (26, .int .i64 (x0.Cells.length : Int)), (27, .int .i64 s58.1), (35, .slice A163 x154.Words.length k164), (36, .int .i64 (x154.Words.length : Int)), (37, .int .i64 s185.1), (47, .pointer (some (q217.add 4))), (49, .int .i64 s185.1)] ⟨rfl, rfl, rfl, rfl, rfl, rfl, rfl, rfl, rfl, rfl, rfl, rfl, rfl, trivial⟩ ?_
                refine DM.load1 ttok hsk212 5 127 (by kernel_rfl) (by kernel_rfl) (by kernel_rfl) (by kernel_rfl) rfl (by kernel_rfl) rfl rfl rfl rfl rfl ((hS221.bring 2 rfl).hole_atN hq219) 4 rfl rfl rfl rfl ?_
                refine DM.loadN ttok hsk212 7 255 (by kernel_rfl) (by kernel_rfl) (by kernel_rfl) (by kernel_rfl) rfl (by kernel_rfl) rfl rfl rfl rfl rfl ((hS221.bring 3 rfl).box) rfl rfl rfl ?_
                obtain ⟨r228, hx229, hb193⟩ := bind_some hb193
                refine DM.one hsk212 8 (by kernel_rfl) (LM.call hsk212 511 (by kernel_rfl) (by kernel_rfl) rfl rfl rfl rfl enters94 (impl_Memory_resolve_ok (Ext.refl _) (ty80.ext (hE.trans hS227.ext) h0_) ((hS227.bring 8 rfl).box) (ty77_shut x198) hx229) (fun v230 w231 hR232 => ?_))
                obtain ⟨rfl, hR233⟩ := hR232
                refine ⟨hR233.ext, ?_⟩
                have hS234 := hS227.join hR233
                refine DM.run (fuel := 2) ttok hsk212 [9, 10, 11] 4095 (by kernel_rfl) (by kernel_rfl) rfl ?_
                refine DM.weak [(1, .pointer (some ⟨g10, 0, none⟩)), (2, .pointer (some ⟨g14, 0, none⟩)), (4, .pointer (some ⟨g41, 0, none⟩)), (5, .int .i64 s58.1), (25, .slice A1 x0.Cells.length k2), (26, .int .i64 (x0.Cells.length : Int)), (27, .int .i64 s58.1), (35, .slice A163 x154.Words.length k164), (36, .int .i64 (x154.Words.length : Int)), (37, .int .i64 s185.1), (48, .slice A225 x215.Words.length k226), (49, .int .i64 s185.1), (52, .agg ⟨[.int .i64 r228.1.Tag, .int .i64 r228.1.At]⟩)] ⟨rfl, rfl, rfl, rfl, rfl, rfl, rfl, rfl, rfl, rfl, rfl, rfl, rfl, trivial⟩ ?_
                have hS235 := hS234.bring 1 rfl
                by_cases hk236 : decide (0 ≤ s185.1 ∧ s185.1.toNat < x215.Words.length) = true
                case neg => rw [if_neg hk236] at hb193; cases hb193
                rw [if_pos hk236] at hb193
                have hb237 := of_decide_eq_true hk236
                refine DM.idxOwnN ttok hS235 hsk212 12 8191 (by kernel_rfl) (by kernel_rfl) rfl (by kernel_rfl) rfl rfl rfl rfl rfl rfl rfl rfl hb237.1 hb237.2 rfl rfl (fun q238 hq239 => ?_)
                have hS240 := ty77_shutS (c := r228.1) (B := _) hS234
                have hS241 := hS240.bring 2 rfl
                refine DM.one hsk212 13 (by kernel_rfl) (LM.storeElN ttok hS241 hsk212 16383 (by kernel_rfl) (by kernel_rfl) rfl rfl rfl rfl rfl rfl rfl hb237.2 hq239 rfl rfl (fun w242 hS243 => ?_))
                refine DM.done hsk212 (by kernel_rfl) ?_
                refine WP.region ?_
                refine RW.run ttok 2 rfl ?_
                refine RW.nil ?_
                have hn244 := (hS243.bring 0 rfl).lenEq
                have hS245 := (hS243.bring 0 rfl).reLen hn244
                have hS246 := (hS245.bring 2 rfl).reHole (es' := [.int .i64 x215.Kind, .int .i64 x215.Level, .int .i64 x215.Value, .slice A223 x215.Data.length k224, .slice A225 (x215.Words.set s185.1.toNat r228.1).length k226]) (by show ([.int .i64 x215.Kind, .int .i64 x215.Level, .int .i64 x215.Value, .slice A223 x215.Data.length k224, .slice A225 x215.Words.length k226] : List Value) = [.int .i64 x215.Kind, .int .i64 x215.Level, .int .i64 x215.Value, .slice A223 x215.Data.length k224, .slice A225 (x215.Words.set s185.1.toNat r228.1).length k226]; first | (simp only [hn244]; done) | (simp only [hn244]; rfl))
                have h247 := (show ty155.ro _ [.slice A225 x215.Words.length k226] (x215.Words.set s185.1.toNat r228.1) from (Eq.symm hn244) ▸ ((hS246.bring 1 rfl).own))
                have hS248 := hS246.bring 1 rfl
                have hS249 := hS248.bring 2 rfl
                have hS250 := ty157_shutS (c := (⟨x215.Kind, x215.Level, x215.Value, x215.Data, (x215.Words.set s185.1.toNat r228.1)⟩ : D.Cell)) (B := _) hS249
                have hS251 := hS250.bring 1 rfl
                have hS252 := St.unfocusN hS251
                cases hb193
                exact ⟨_, [(1, .pointer (some ⟨g10, 0, none⟩)), (2, .pointer (some ⟨g14, 0, none⟩)), (4, .pointer (some ⟨g41, 0, none⟩)), (5, .int .i64 s58.1), (25, .slice A1 x0.Cells.length k2), (26, .int .i64 (x0.Cells.length : Int)), (27, .int .i64 s58.1), (35, .slice A163 x154.Words.length k164), (36, .int .i64 (x154.Words.length : Int)), (37, .int .i64 (w64 (s185.1 + 1)))], ⟨rfl, rfl, rfl, rfl, rfl, rfl, rfl, rfl, rfl, rfl, trivial⟩, rfl, ((((hS252.bring 1 rfl).drop.bring 0 rfl).bring 2 rfl).bring 2 rfl), rfl⟩
              · skip
                rw [if_neg (not_t hc)] at hb193
                refine WP.exit ?_
                cases hb193
                exact ⟨_, [(1, .pointer (some ⟨g10, 0, none⟩)), (2, .pointer (some ⟨g14, 0, none⟩)), (4, .pointer (some ⟨g41, 0, none⟩)), (25, .slice A1 x0.Cells.length k2), (26, .int .i64 (x0.Cells.length : Int)), (27, .int .i64 s58.1)], ⟨rfl, rfl, rfl, rfl, rfl, rfl, trivial⟩, ho194, hS196, rfl⟩
          · skip
            rw [if_neg (not_t hc)] at hb149
            refine WP.skip ?_
            exact ⟨s58.2, [(1, .pointer (some ⟨g10, 0, none⟩)), (2, .pointer (some ⟨g14, 0, none⟩)), (4, .pointer (some ⟨g41, 0, none⟩)), (25, .slice A1 x0.Cells.length k2), (26, .int .i64 (x0.Cells.length : Int)), (27, .int .i64 s58.1)], ⟨rfl, rfl, rfl, rfl, rfl, rfl, trivial⟩, hb149, hS180, rfl⟩
      · skip
        rw [if_neg (not_t hc)] at hb149
        refine WP.exit ?_
        cases hb149
        exact ⟨_, [(1, .pointer (some ⟨g10, 0, none⟩)), (2, .pointer (some ⟨g14, 0, none⟩)), (4, .pointer (some ⟨g41, 0, none⟩))], ⟨rfl, rfl, rfl, trivial⟩, ho150, hS152, rfl⟩

theorem enters127 : Enters Try.prog 127 := ⟨_, _, Try.func127, rfl, by kernel_rfl⟩
def m_laws_eqInt64S_j1 (fuel : Nat) (t2 : Unit) : Option Bool := some true
def m_laws_eqInt64S_b1 (fuel : Nat) (x0 : (List Int)) (x1 : (List Int)) (s1 : Int) : Option (Rd (Int) (Unit) (Bool)) := (if (decide (s1 < (x0.length : Int))) = true then ((idx x0 s1).bind fun x21 => ((idx x1 s1).bind fun x27 => (if (x21 != x27) = true then some (.ret false) else some (.next (w64 (s1 + 1)))))) else some (.brk ()))
def m_laws_eqInt64S (fuel : Nat) (x0 : (List Int)) (x1 : (List Int)) : Option (Bool) := (if ((x0.length : Int) != (x1.length : Int)) = true then some false else ((iter (m_laws_eqInt64S_b1 fuel x0 x1) fuel 0).bind fun o => aft o (m_laws_eqInt64S_j1 fuel)))

set_option maxRecDepth 100000 in
theorem laws_eqInt64S_ok {W w : World} (hE : Ext W w) {A0_ : Option Addr} {k0_ : Nat} {x0 : (List Int)} {A1_ : Option Addr} {k1_ : Nat} {x1 : (List Int)} (h0_ : ty103.ro W [.slice A0_ x0.length k0_] x0) (h1_ : ty103.ro W [.slice A1_ x1.length k1_] x1) {fuel : Nat} {r : Bool} (hm : m_laws_eqInt64S fuel x0 x1 = some r) :
    Calls Try.prog 127 ⟨[.slice A0_ x0.length k0_, .slice A1_ x1.length k1_]⟩ w (Ret fun v w8 => v = .bool r ∧ St w w8 []) := by
  refine Calls.into Try.func127 rfl 26 rfl rfl _ rfl ?_
  unfold m_laws_eqInt64S at hm
  have hS := St.start w
  refine WP.seq ?_
  refine WP.region ?_
  refine RW.run ttok 1 rfl ?_
  refine RW.nil ?_
  refine WP.seq ?_
  refine WP.seq ?_
  refine WP.region ?_
  refine RW.run ttok 5 rfl ?_
  refine RW.nil ?_
  refine WP.cond ((x0.length : Int) != (x1.length : Int)) rfl (fun hc => ?_) (fun hc => ?_)
  · skip
    rw [if_pos hc] at hm
    refine WP.seq ?_
    refine WP.region ?_
    refine RW.run ttok 1 rfl ?_
    refine RW.nil ?_
    refine WP.ret ?_
    cases hm
    exact ⟨_, .cons (.tmp rfl) .nil, rfl, hS⟩
  · skip
    rw [if_neg (not_t hc)] at hm
    refine WP.skip ?_
    refine WP.seq ?_
    refine WP.seq ?_
    refine WP.region ?_
    refine RW.run ttok 1 rfl ?_
    refine RW.nil ?_
    obtain ⟨o10, hl11, hm⟩ := bind_some hm
    refine WP.cut (fun (t2 : Unit) F w9 => o10 = .inl t2 ∧ Ext w w9 ∧ St w w9 [] ∧ F = []) ?_ ?_
    · skip
      rintro t2 F w7 ⟨ho13, hE6, hS12, rfl⟩
      subst ho13
      rw [aft_inl] at hm
      unfold m_laws_eqInt64S_j1 at hm
      refine WP.seq ?_
      refine WP.region ?_
      refine RW.run ttok 1 rfl ?_
      refine RW.nil ?_
      refine WP.ret ?_
      cases hm
      exact ⟨_, .cons (.tmp rfl) .nil, rfl, hS12⟩
    · skip
      refine WP.block ?_
      refine WP.weak [(0, .slice A0_ x0.length k0_), (1, .slice A1_ x1.length k1_), (5, .int .i64 0)] ⟨rfl, rfl, rfl, trivial⟩ ?_
      refine WP.iter (fun (s1 : Int) F w9 => Ext w w9 ∧ St w w9 [] ∧ F = [(0, .slice A0_ x0.length k0_), (1, .slice A1_ x1.length k1_), (5, .int .i64 s1)]) _ hl11 ⟨(Ext.refl _), hS, rfl⟩ ?_
      rintro s1 F w18 _ o16 ⟨hE5, hS17, rfl⟩ hb14 ho15
      unfold m_laws_eqInt64S_b1 at hb14
      refine WP.seq ?_
      refine WP.seq ?_
      refine WP.region ?_
      refine RW.run ttok 4 rfl ?_
      refine RW.nil ?_
      refine WP.cond (decide (s1 < (x0.length : Int))) rfl (fun hc => ?_) (fun hc => ?_)
      · skip
        rw [if_pos hc] at hb14
        refine WP.skip ?_
        refine WP.seq ?_
        refine WP.block ?_
        refine WP.seq ?_
        refine WP.drawnM 0 mixed 9 (by kernel_rfl) (by kernel_rfl) [([], 511), ([], 511), ([0, 1], 508), ([2], 507), ([], 511), ([], 511), ([4, 5], 463), ([6], 447), ([3, 7], 375)] (by kernel_rfl) hS17.ext (fun hsk19 => ?_)
        have hS20 := hS17.step (Ext.draw _)
        refine DM.run (fuel := 5) ttok hsk19 [0, 1, 4, 5] 51 (by kernel_rfl) (by kernel_rfl) rfl ?_
        obtain ⟨x21, hx22, hb14⟩ := bind_some hb14
        refine DM.idx ttok (hE.trans hS17.ext) hsk19 2 55 (by kernel_rfl) (by kernel_rfl) (by kernel_rfl) (by kernel_rfl) rfl (by kernel_rfl) rfl rfl rfl rfl rfl rfl (by decide) rfl rfl h0_ (idx_some hx22).1 (idx_some hx22).2 rfl rfl (fun p23 es24 ha25 hr26 => ?_)
        cases hr26
        refine DM.load1 ttok hsk19 3 63 (by kernel_rfl) (by kernel_rfl) (by kernel_rfl) (by kernel_rfl) rfl (by kernel_rfl) rfl rfl rfl rfl rfl (At.ext (hE.trans hS17.ext) ha25) 0 rfl rfl rfl rfl ?_
        obtain ⟨x27, hx28, hb14⟩ := bind_some hb14
        refine DM.idx ttok (hE.trans hS17.ext) hsk19 6 127 (by kernel_rfl) (by kernel_rfl) (by kernel_rfl) (by kernel_rfl) rfl (by kernel_rfl) rfl rfl rfl rfl rfl rfl (by decide) rfl rfl h1_ (idx_some hx28).1 (idx_some hx28).2 rfl rfl (fun p29 es30 ha31 hr32 => ?_)
        cases hr32
        refine DM.load1 ttok hsk19 7 255 (by kernel_rfl) (by kernel_rfl) (by kernel_rfl) (by kernel_rfl) rfl (by kernel_rfl) rfl rfl rfl rfl rfl (At.ext (hE.trans hS17.ext) ha31) 0 rfl rfl rfl rfl ?_
        refine DM.run (fuel := 0) ttok hsk19 [8] 511 (by kernel_rfl) (by kernel_rfl) rfl ?_
        refine DM.weak [(0, .slice A0_ x0.length k0_), (1, .slice A1_ x1.length k1_), (5, .int .i64 s1), (25, .bool (x21 != x27))] ⟨rfl, rfl, rfl, rfl, trivial⟩ ?_
        refine DM.done hsk19 (by kernel_rfl) ?_
        refine WP.cond (x21 != x27) rfl (fun hc => ?_) (fun hc => ?_)
        · skip
          rw [if_pos hc] at hb14
          refine WP.seq ?_
          refine WP.region ?_
          refine RW.run ttok 1 rfl ?_
          refine RW.nil ?_
          refine WP.ret ?_
          cases hb14
          cases ho15
          have hm : some _ = some _ := hm
          cases hm
          exact ⟨_, .cons (.tmp rfl) .nil, rfl, hS20⟩
        · skip
          rw [if_neg (not_t hc)] at hb14
          refine WP.skip ?_
          refine WP.region ?_
          refine RW.run ttok 3 rfl ?_
          refine RW.nil ?_
          cases hb14
          exact ⟨_, [(0, .slice A0_ x0.length k0_), (1, .slice A1_ x1.length k1_), (5, .int .i64 (w64 (s1 + 1)))], ⟨rfl, rfl, rfl, trivial⟩, rfl, (hE5.trans (Ext.draw _)), hS20, rfl⟩
      · skip
        rw [if_neg (not_t hc)] at hb14
        refine WP.exit ?_
        cases hb14
        exact ⟨_, [], trivial, ho15, hE5, hS17, rfl⟩

theorem enters89 : Enters Try.prog 89 := ⟨_, _, Try.func89, rfl, by kernel_rfl⟩
def m_laws_eqWord (fuel : Nat) (x0 : D.Word) (x1 : D.Word) : Option (Bool) := (if (x0.Tag != x1.Tag) = true then some false else (if (x0.At != x1.At) = true then some false else some true))

set_option maxRecDepth 100000 in
theorem laws_eqWord_ok {W w : World} (hE : Ext W w) {c0_ : List Value} {x0 : D.Word} {c1_ : List Value} {x1 : D.Word} (h0_ : ty77.ro W c0_ x0) (h1_ : ty77.ro W c1_ x1) {fuel : Nat} {r : Bool} (hm : m_laws_eqWord fuel x0 x1 = some r) :
    Calls Try.prog 89 ⟨[.agg ⟨c0_⟩, .agg ⟨c1_⟩]⟩ w (Ret fun v w8 => v = .bool r ∧ St w w8 []) := by
  have e1 := ty77_open h0_; subst e1
  have e2 := ty77_open h1_; subst e2
  refine Calls.into Try.func89 rfl 15 rfl rfl _ rfl ?_
  unfold m_laws_eqWord at hm
  have hS := St.start w
  refine WP.seq ?_
  refine WP.region ?_
  refine RW.new ttok hS rfl rfl rfl rfl (fun g3 w4 e5 hS6 => ?_)
  refine RW.new ttok hS6 rfl rfl rfl rfl (fun g7 w10 e11 hS12 => ?_)
  refine RW.run ttok 1 rfl ?_
  refine RW.nil ?_
  refine WP.seq ?_
  refine WP.seq ?_
  refine WP.region ?_
  refine RW.run ttok 1 rfl ?_
  refine RW.load1 ttok rfl rfl rfl rfl rfl ((hS12.bring 1 rfl).box) 0 rfl rfl rfl rfl ?_
  refine RW.run ttok 1 rfl ?_
  refine RW.load1 ttok rfl rfl rfl rfl rfl ((hS12.bring 0 rfl).box) 0 rfl rfl rfl rfl ?_
  refine RW.run ttok 1 rfl ?_
  refine RW.nil ?_
  refine WP.cond (x0.Tag != x1.Tag) rfl (fun hc => ?_) (fun hc => ?_)
  · skip
    rw [if_pos hc] at hm
    refine WP.seq ?_
    refine WP.region ?_
    refine RW.run ttok 1 rfl ?_
    refine RW.nil ?_
    refine WP.ret ?_
    cases hm
    exact ⟨_, .cons (.tmp rfl) .nil, rfl, (hS12.taken 0)⟩
  · skip
    rw [if_neg (not_t hc)] at hm
    refine WP.skip ?_
    refine WP.seq ?_
    refine WP.seq ?_
    refine WP.region ?_
    refine RW.run ttok 1 rfl ?_
    refine RW.load1 ttok rfl rfl rfl rfl rfl ((hS12.bring 1 rfl).box) 1 rfl rfl rfl rfl ?_
    refine RW.run ttok 1 rfl ?_
    refine RW.load1 ttok rfl rfl rfl rfl rfl ((hS12.bring 0 rfl).box) 1 rfl rfl rfl rfl ?_
    refine RW.run ttok 1 rfl ?_
    refine RW.nil ?_
    refine WP.cond (x0.At != x1.At) rfl (fun hc => ?_) (fun hc => ?_)
    · skip
      rw [if_pos hc] at hm
      refine WP.seq ?_
      refine WP.region ?_
      refine RW.run ttok 1 rfl ?_
      refine RW.nil ?_
      refine WP.ret ?_
      cases hm
      exact ⟨_, .cons (.tmp rfl) .nil, rfl, (hS12.taken 0)⟩
    · skip
      rw [if_neg (not_t hc)] at hm
      refine WP.skip ?_
      refine WP.seq ?_
      refine WP.region ?_
      refine RW.run ttok 1 rfl ?_
      refine RW.nil ?_
      refine WP.ret ?_
      cases hm
      exact ⟨_, .cons (.tmp rfl) .nil, rfl, (hS12.taken 0)⟩

theorem enters229 : Enters Try.prog 229 := ⟨_, _, Try.func229, rfl, by kernel_rfl⟩
def m_laws_eqWordS_j1 (fuel : Nat) (t2 : Unit) : Option Bool := some true
def m_laws_eqWordS_b1 (fuel : Nat) (x0 : (List D.Word)) (x1 : (List D.Word)) (s1 : Int) : Option (Rd (Int) (Unit) (Bool)) := (if (decide (s1 < (x0.length : Int))) = true then ((idx x0 s1).bind fun x21 => ((idx x1 s1).bind fun x28 => ((m_laws_eqWord fuel x21 x28).bind fun r35 => (if (!r35) = true then some (.ret false) else some (.next (w64 (s1 + 1))))))) else some (.brk ()))
def m_laws_eqWordS (fuel : Nat) (x0 : (List D.Word)) (x1 : (List D.Word)) : Option (Bool) := (if ((x0.length : Int) != (x1.length : Int)) = true then some false else ((iter (m_laws_eqWordS_b1 fuel x0 x1) fuel 0).bind fun o => aft o (m_laws_eqWordS_j1 fuel)))

set_option maxRecDepth 100000 in
theorem laws_eqWordS_ok {W w : World} (hE : Ext W w) {A0_ : Option Addr} {k0_ : Nat} {x0 : (List D.Word)} {A1_ : Option Addr} {k1_ : Nat} {x1 : (List D.Word)} (h0_ : ty155.ro W [.slice A0_ x0.length k0_] x0) (h1_ : ty155.ro W [.slice A1_ x1.length k1_] x1) {fuel : Nat} {r : Bool} (hm : m_laws_eqWordS fuel x0 x1 = some r) :
    Calls Try.prog 229 ⟨[.slice A0_ x0.length k0_, .slice A1_ x1.length k1_]⟩ w (Ret fun v w8 => v = .bool r ∧ St w w8 []) := by
  refine Calls.into Try.func229 rfl 27 rfl rfl _ rfl ?_
  unfold m_laws_eqWordS at hm
  have hS := St.start w
  refine WP.seq ?_
  refine WP.region ?_
  refine RW.run ttok 1 rfl ?_
  refine RW.nil ?_
  refine WP.seq ?_
  refine WP.seq ?_
  refine WP.region ?_
  refine RW.run ttok 5 rfl ?_
  refine RW.nil ?_
  refine WP.cond ((x0.length : Int) != (x1.length : Int)) rfl (fun hc => ?_) (fun hc => ?_)
  · skip
    rw [if_pos hc] at hm
    refine WP.seq ?_
    refine WP.region ?_
    refine RW.run ttok 1 rfl ?_
    refine RW.nil ?_
    refine WP.ret ?_
    cases hm
    exact ⟨_, .cons (.tmp rfl) .nil, rfl, hS⟩
  · skip
    rw [if_neg (not_t hc)] at hm
    refine WP.skip ?_
    refine WP.seq ?_
    refine WP.seq ?_
    refine WP.region ?_
    refine RW.run ttok 1 rfl ?_
    refine RW.nil ?_
    obtain ⟨o10, hl11, hm⟩ := bind_some hm
    refine WP.cut (fun (t2 : Unit) F w9 => o10 = .inl t2 ∧ Ext w w9 ∧ St w w9 [] ∧ F = []) ?_ ?_
    · skip
      rintro t2 F w7 ⟨ho13, hE6, hS12, rfl⟩
      subst ho13
      rw [aft_inl] at hm
      unfold m_laws_eqWordS_j1 at hm
      refine WP.seq ?_
      refine WP.region ?_
      refine RW.run ttok 1 rfl ?_
      refine RW.nil ?_
      refine WP.ret ?_
      cases hm
      exact ⟨_, .cons (.tmp rfl) .nil, rfl, hS12⟩
    · skip
      refine WP.block ?_
      refine WP.weak [(0, .slice A0_ x0.length k0_), (1, .slice A1_ x1.length k1_), (5, .int .i64 0)] ⟨rfl, rfl, rfl, trivial⟩ ?_
      refine WP.iter (fun (s1 : Int) F w9 => Ext w w9 ∧ St w w9 [] ∧ F = [(0, .slice A0_ x0.length k0_), (1, .slice A1_ x1.length k1_), (5, .int .i64 s1)]) _ hl11 ⟨(Ext.refl _), hS, rfl⟩ ?_
      rintro s1 F w18 _ o16 ⟨hE5, hS17, rfl⟩ hb14 ho15
      unfold m_laws_eqWordS_b1 at hb14
      refine WP.seq ?_
      refine WP.seq ?_
      refine WP.region ?_
      refine RW.run ttok 4 rfl ?_
      refine RW.nil ?_
      refine WP.cond (decide (s1 < (x0.length : Int))) rfl (fun hc => ?_) (fun hc => ?_)
      · skip
        rw [if_pos hc] at hb14
        refine WP.skip ?_
        refine WP.seq ?_
        refine WP.block ?_
        refine WP.seq ?_
        refine WP.drawnM 0 mixed 10 (by kernel_rfl) (by kernel_rfl) [([], 1023), ([], 1023), ([0, 1], 1020), ([2], 1019), ([], 1023), ([], 1023), ([4, 5], 975), ([6], 959), ([3, 7], 887), ([8], 767)] (by kernel_rfl) hS17.ext (fun hsk19 => ?_)
        have hS20 := hS17.step (Ext.draw _)
        refine DM.run (fuel := 6) ttok hsk19 [0, 1, 4, 5] 51 (by kernel_rfl) (by kernel_rfl) rfl ?_
        obtain ⟨x21, hx22, hb14⟩ := bind_some hb14
        refine DM.idx ttok (hE.trans hS17.ext) hsk19 2 55 (by kernel_rfl) (by kernel_rfl) (by kernel_rfl) (by kernel_rfl) rfl (by kernel_rfl) rfl rfl rfl rfl rfl rfl (by decide) rfl rfl h0_ (idx_some hx22).1 (idx_some hx22).2 rfl rfl (fun p23 es24 ha25 hr26 => ?_)
        have e27 := ty77_open hr26; subst e27
        refine DM.loadN ttok hsk19 3 63 (by kernel_rfl) (by kernel_rfl) (by kernel_rfl) (by kernel_rfl) rfl (by kernel_rfl) rfl rfl rfl rfl rfl (At.ext (hE.trans hS17.ext) ha25) rfl rfl rfl ?_
        obtain ⟨x28, hx29, hb14⟩ := bind_some hb14
        refine DM.idx ttok (hE.trans hS17.ext) hsk19 6 127 (by kernel_rfl) (by kernel_rfl) (by kernel_rfl) (by kernel_rfl) rfl (by kernel_rfl) rfl rfl rfl rfl rfl rfl (by decide) rfl rfl h1_ (idx_some hx29).1 (idx_some hx29).2 rfl rfl (fun p30 es31 ha32 hr33 => ?_)
        have e34 := ty77_open hr33; subst e34
        refine DM.loadN ttok hsk19 7 255 (by kernel_rfl) (by kernel_rfl) (by kernel_rfl) (by kernel_rfl) rfl (by kernel_rfl) rfl rfl rfl rfl rfl (At.ext (hE.trans hS17.ext) ha32) rfl rfl rfl ?_
        obtain ⟨r35, hx36, hb14⟩ := bind_some hb14
        refine DM.one hsk19 8 (by kernel_rfl) (LM.call hsk19 511 (by kernel_rfl) (by kernel_rfl) rfl rfl rfl rfl enters89 (laws_eqWord_ok (hE.trans hS20.ext) hr26 hr33 hx36) (fun v37 w38 hR39 => ?_))
        obtain ⟨rfl, hR40⟩ := hR39
        refine ⟨hR40.ext, ?_⟩
        have hS41 := hS20.join hR40
        refine DM.run (fuel := 0) ttok hsk19 [9] 1023 (by kernel_rfl) (by kernel_rfl) rfl ?_
        refine DM.weak [(0, .slice A0_ x0.length k0_), (1, .slice A1_ x1.length k1_), (5, .int .i64 s1), (26, .bool (!r35))] ⟨rfl, rfl, rfl, rfl, trivial⟩ ?_
        refine DM.done hsk19 (by kernel_rfl) ?_
        refine WP.cond (!r35) rfl (fun hc => ?_) (fun hc => ?_)
        · skip
          rw [if_pos hc] at hb14
          refine WP.seq ?_
          refine WP.region ?_
          refine RW.run ttok 1 rfl ?_
          refine RW.nil ?_
          refine WP.ret ?_
          cases hb14
          cases ho15
          have hm : some _ = some _ := hm
          cases hm
          exact ⟨_, .cons (.tmp rfl) .nil, rfl, hS41⟩
        · skip
          rw [if_neg (not_t hc)] at hb14
          refine WP.skip ?_
          refine WP.region ?_
          refine RW.run ttok 3 rfl ?_
          refine RW.nil ?_
          cases hb14
          exact ⟨_, [(0, .slice A0_ x0.length k0_), (1, .slice A1_ x1.length k1_), (5, .int .i64 (w64 (s1 + 1)))], ⟨rfl, rfl, rfl, trivial⟩, rfl, ((hE5.trans (Ext.draw _)).trans hR40.ext), hS41, rfl⟩
      · skip
        rw [if_neg (not_t hc)] at hb14
        refine WP.exit ?_
        cases hb14
        exact ⟨_, [], trivial, ho15, hE5, hS17, rfl⟩

theorem enters150 : Enters Try.prog 150 := ⟨_, _, Try.func150, rfl, by kernel_rfl⟩
def m_laws_eqCell (fuel : Nat) (x0 : D.Cell) (x1 : D.Cell) : Option (Bool) := (if (x0.Kind != x1.Kind) = true then some false else (if (x0.Level != x1.Level) = true then some false else (if (x0.Value != x1.Value) = true then some false else ((m_laws_eqInt64S fuel x0.Data x1.Data).bind fun r25 => (if (!r25) = true then some false else ((m_laws_eqWordS fuel x0.Words x1.Words).bind fun r32 => (if (!r32) = true then some false else some true)))))))

set_option maxRecDepth 100000 in
theorem laws_eqCell_ok {W w : World} (hE : Ext W w) {c0_ : List Value} {x0 : D.Cell} {c1_ : List Value} {x1 : D.Cell} (h0_ : ty157.ro W c0_ x0) (h1_ : ty157.ro W c1_ x1) {fuel : Nat} {r : Bool} (hm : m_laws_eqCell fuel x0 x1 = some r) :
    Calls Try.prog 150 ⟨[.agg ⟨c0_⟩, .agg ⟨c1_⟩]⟩ w (Ret fun v w8 => v = .bool r ∧ St w w8 []) := by
  obtain ⟨A1, k2, A4, k5, e7, h3, h6⟩ := ty157_open h0_; subst e7
  obtain ⟨A10, k11, A13, k14, e16, h12, h15⟩ := ty157_open h1_; subst e16
  refine Calls.into Try.func150 rfl 32 rfl rfl _ rfl ?_
  unfold m_laws_eqCell at hm
  have hS := St.start w
  refine WP.seq ?_
  refine WP.region ?_
  refine RW.new ttok hS rfl rfl rfl rfl (fun g17 w18 e19 hS20 => ?_)
  refine RW.new ttok hS20 rfl rfl rfl rfl (fun g21 w22 e23 hS24 => ?_)
  refine RW.run ttok 1 rfl ?_
  refine RW.nil ?_
  refine WP.seq ?_
  refine WP.seq ?_
  refine WP.region ?_
  refine RW.run ttok 1 rfl ?_
  refine RW.load1 ttok rfl rfl rfl rfl rfl ((hS24.bring 1 rfl).box) 0 rfl rfl rfl rfl ?_
  refine RW.run ttok 1 rfl ?_
  refine RW.load1 ttok rfl rfl rfl rfl rfl ((hS24.bring 0 rfl).box) 0 rfl rfl rfl rfl ?_
  refine RW.run ttok 1 rfl ?_
  refine RW.nil ?_
  refine WP.cond (x0.Kind != x1.Kind) rfl (fun hc => ?_) (fun hc => ?_)
  · skip
    rw [if_pos hc] at hm
    refine WP.seq ?_
    refine WP.region ?_
    refine RW.run ttok 1 rfl ?_
    refine RW.nil ?_
    refine WP.ret ?_
    cases hm
    exact ⟨_, .cons (.tmp rfl) .nil, rfl, (hS24.taken 0)⟩
  · skip
    rw [if_neg (not_t hc)] at hm
    refine WP.skip ?_
    refine WP.seq ?_
    refine WP.seq ?_
    refine WP.region ?_
    refine RW.run ttok 1 rfl ?_
    refine RW.load1 ttok rfl rfl rfl rfl rfl ((hS24.bring 1 rfl).box) 1 rfl rfl rfl rfl ?_
    refine RW.run ttok 1 rfl ?_
    refine RW.load1 ttok rfl rfl rfl rfl rfl ((hS24.bring 0 rfl).box) 1 rfl rfl rfl rfl ?_
    refine RW.run ttok 1 rfl ?_
    refine RW.nil ?_
    refine WP.cond (x0.Level != x1.Level) rfl (fun hc => ?_) (fun hc => ?_)
    · skip
      rw [if_pos hc] at hm
      refine WP.seq ?_
      refine WP.region ?_
      refine RW.run ttok 1 rfl ?_
      refine RW.nil ?_
      refine WP.ret ?_
      cases hm
      exact ⟨_, .cons (.tmp rfl) .nil, rfl, (hS24.taken 0)⟩
    · skip
      rw [if_neg (not_t hc)] at hm
      refine WP.skip ?_
      refine WP.seq ?_
      refine WP.seq ?_
      refine WP.region ?_
      refine RW.run ttok 1 rfl ?_
      refine RW.load1 ttok rfl rfl rfl rfl rfl ((hS24.bring 1 rfl).box) 2 rfl rfl rfl rfl ?_
      refine RW.run ttok 1 rfl ?_
      refine RW.load1 ttok rfl rfl rfl rfl rfl ((hS24.bring 0 rfl).box) 2 rfl rfl rfl rfl ?_
      refine RW.run ttok 1 rfl ?_
      refine RW.nil ?_
      refine WP.cond (x0.Value != x1.Value) rfl (fun hc => ?_) (fun hc => ?_)
      · skip
        rw [if_pos hc] at hm
        refine WP.seq ?_
        refine WP.region ?_
        refine RW.run ttok 1 rfl ?_
        refine RW.nil ?_
        refine WP.ret ?_
        cases hm
        exact ⟨_, .cons (.tmp rfl) .nil, rfl, (hS24.taken 0)⟩
      · skip
        rw [if_neg (not_t hc)] at hm
        refine WP.skip ?_
        refine WP.seq ?_
        refine WP.seq ?_
        refine WP.region ?_
        refine RW.run ttok 1 rfl ?_
        refine RW.load1 ttok rfl rfl rfl rfl rfl ((hS24.bring 1 rfl).box) 3 rfl rfl rfl rfl ?_
        refine RW.run ttok 1 rfl ?_
        refine RW.load1 ttok rfl rfl rfl rfl rfl ((hS24.bring 0 rfl).box) 3 rfl rfl rfl rfl ?_
        obtain ⟨r25, hx26, hm⟩ := bind_some hm
        refine RW.call rfl rfl rfl enters127 (laws_eqInt64S_ok (hE.trans hS24.ext) h3 h12 hx26) (fun v27 w28 hR29 => ?_)
        obtain ⟨rfl, hR30⟩ := hR29
        have hS31 := hS24.join hR30
        refine RW.run ttok 1 rfl ?_
        refine RW.nil ?_
        refine WP.cond (!r25) rfl (fun hc => ?_) (fun hc => ?_)
        · skip
          rw [if_pos hc] at hm
          refine WP.seq ?_
          refine WP.region ?_
          refine RW.run ttok 1 rfl ?_
          refine RW.nil ?_
          refine WP.ret ?_
          cases hm
          exact ⟨_, .cons (.tmp rfl) .nil, rfl, (hS31.taken 0)⟩
        · skip
          rw [if_neg (not_t hc)] at hm
          refine WP.skip ?_
          refine WP.seq ?_
          refine WP.seq ?_
          refine WP.region ?_
          refine RW.run ttok 1 rfl ?_
          refine RW.load1 ttok rfl rfl rfl rfl rfl ((hS31.bring 1 rfl).box) 4 rfl rfl rfl rfl ?_
          refine RW.run ttok 1 rfl ?_
          refine RW.load1 ttok rfl rfl rfl rfl rfl ((hS31.bring 0 rfl).box) 4 rfl rfl rfl rfl ?_
          obtain ⟨r32, hx33, hm⟩ := bind_some hm
          refine RW.call rfl rfl rfl enters229 (laws_eqWordS_ok (hE.trans hS31.ext) h6 h15 hx33) (fun v34 w35 hR36 => ?_)
          obtain ⟨rfl, hR37⟩ := hR36
          have hS38 := hS31.join hR37
          refine RW.run ttok 1 rfl ?_
          refine RW.nil ?_
          refine WP.cond (!r32) rfl (fun hc => ?_) (fun hc => ?_)
          · skip
            rw [if_pos hc] at hm
            refine WP.seq ?_
            refine WP.region ?_
            refine RW.run ttok 1 rfl ?_
            refine RW.nil ?_
            refine WP.ret ?_
            cases hm
            exact ⟨_, .cons (.tmp rfl) .nil, rfl, (hS38.taken 0)⟩
          · skip
            rw [if_neg (not_t hc)] at hm
            refine WP.skip ?_
            refine WP.seq ?_
            refine WP.region ?_
            refine RW.run ttok 1 rfl ?_
            refine RW.nil ?_
            refine WP.ret ?_
            cases hm
            exact ⟨_, .cons (.tmp rfl) .nil, rfl, (hS38.taken 0)⟩

theorem enters88 : Enters Try.prog 88 := ⟨_, _, Try.func88, rfl, by kernel_rfl⟩
def m_laws_eqCellS_j1 (fuel : Nat) (t2 : Unit) : Option Bool := some true
def m_laws_eqCellS_b1 (fuel : Nat) (x0 : (List D.Cell)) (x1 : (List D.Cell)) (s1 : Int) : Option (Rd (Int) (Unit) (Bool)) := (if (decide (s1 < (x0.length : Int))) = true then ((idx x0 s1).bind fun x21 => ((idx x1 s1).bind fun x34 => ((m_laws_eqCell fuel x21 x34).bind fun r47 => (if (!r47) = true then some (.ret false) else some (.next (w64 (s1 + 1))))))) else some (.brk ()))
def m_laws_eqCellS (fuel : Nat) (x0 : (List D.Cell)) (x1 : (List D.Cell)) : Option (Bool) := (if ((x0.length : Int) != (x1.length : Int)) = true then some false else ((iter (m_laws_eqCellS_b1 fuel x0 x1) fuel 0).bind fun o => aft o (m_laws_eqCellS_j1 fuel)))

set_option maxRecDepth 100000 in
theorem laws_eqCellS_ok {W w : World} (hE : Ext W w) {A0_ : Option Addr} {k0_ : Nat} {x0 : (List D.Cell)} {A1_ : Option Addr} {k1_ : Nat} {x1 : (List D.Cell)} (h0_ : ty76.ro W [.slice A0_ x0.length k0_] x0) (h1_ : ty76.ro W [.slice A1_ x1.length k1_] x1) {fuel : Nat} {r : Bool} (hm : m_laws_eqCellS fuel x0 x1 = some r) :
    Calls Try.prog 88 ⟨[.slice A0_ x0.length k0_, .slice A1_ x1.length k1_]⟩ w (Ret fun v w8 => v = .bool r ∧ St w w8 []) := by
  refine Calls.into Try.func88 rfl 27 rfl rfl _ rfl ?_
  unfold m_laws_eqCellS at hm
  have hS := St.start w
  refine WP.seq ?_
  refine WP.region ?_
  refine RW.run ttok 1 rfl ?_
  refine RW.nil ?_
  refine WP.seq ?_
  refine WP.seq ?_
  refine WP.region ?_
  refine RW.run ttok 5 rfl ?_
  refine RW.nil ?_
  refine WP.cond ((x0.length : Int) != (x1.length : Int)) rfl (fun hc => ?_) (fun hc => ?_)
  · skip
    rw [if_pos hc] at hm
    refine WP.seq ?_
    refine WP.region ?_
    refine RW.run ttok 1 rfl ?_
    refine RW.nil ?_
    refine WP.ret ?_
    cases hm
    exact ⟨_, .cons (.tmp rfl) .nil, rfl, hS⟩
  · skip
    rw [if_neg (not_t hc)] at hm
    refine WP.skip ?_
    refine WP.seq ?_
    refine WP.seq ?_
    refine WP.region ?_
    refine RW.run ttok 1 rfl ?_
    refine RW.nil ?_
    obtain ⟨o10, hl11, hm⟩ := bind_some hm
    refine WP.cut (fun (t2 : Unit) F w9 => o10 = .inl t2 ∧ Ext w w9 ∧ St w w9 [] ∧ F = []) ?_ ?_
    · skip
      rintro t2 F w7 ⟨ho13, hE6, hS12, rfl⟩
      subst ho13
      rw [aft_inl] at hm
      unfold m_laws_eqCellS_j1 at hm
      refine WP.seq ?_
      refine WP.region ?_
      refine RW.run ttok 1 rfl ?_
      refine RW.nil ?_
      refine WP.ret ?_
      cases hm
      exact ⟨_, .cons (.tmp rfl) .nil, rfl, hS12⟩
    · skip
      refine WP.block ?_
      refine WP.weak [(0, .slice A0_ x0.length k0_), (1, .slice A1_ x1.length k1_), (5, .int .i64 0)] ⟨rfl, rfl, rfl, trivial⟩ ?_
      refine WP.iter (fun (s1 : Int) F w9 => Ext w w9 ∧ St w w9 [] ∧ F = [(0, .slice A0_ x0.length k0_), (1, .slice A1_ x1.length k1_), (5, .int .i64 s1)]) _ hl11 ⟨(Ext.refl _), hS, rfl⟩ ?_
      rintro s1 F w18 _ o16 ⟨hE5, hS17, rfl⟩ hb14 ho15
      unfold m_laws_eqCellS_b1 at hb14
      refine WP.seq ?_
      refine WP.seq ?_
      refine WP.region ?_
      refine RW.run ttok 4 rfl ?_
      refine RW.nil ?_
      refine WP.cond (decide (s1 < (x0.length : Int))) rfl (fun hc => ?_) (fun hc => ?_)
      · skip
        rw [if_pos hc] at hb14
        refine WP.skip ?_
        refine WP.seq ?_
        refine WP.block ?_
        refine WP.seq ?_
        refine WP.drawnM 0 mixed 10 (by kernel_rfl) (by kernel_rfl) [([], 1023), ([], 1023), ([0, 1], 1020), ([2], 1019), ([], 1023), ([], 1023), ([4, 5], 975), ([6], 959), ([3, 7], 887), ([8], 767)] (by kernel_rfl) hS17.ext (fun hsk19 => ?_)
        have hS20 := hS17.step (Ext.draw _)
        refine DM.run (fuel := 6) ttok hsk19 [0, 1, 4, 5] 51 (by kernel_rfl) (by kernel_rfl) rfl ?_
        obtain ⟨x21, hx22, hb14⟩ := bind_some hb14
        refine DM.idx ttok (hE.trans hS17.ext) hsk19 2 55 (by kernel_rfl) (by kernel_rfl) (by kernel_rfl) (by kernel_rfl) rfl (by kernel_rfl) rfl rfl rfl rfl rfl rfl (by decide) rfl rfl h0_ (idx_some hx22).1 (idx_some hx22).2 rfl rfl (fun p23 es24 ha25 hr26 => ?_)
        obtain ⟨A27, k28, A30, k31, e33, h29, h32⟩ := ty157_open hr26; subst e33
        refine DM.loadN ttok hsk19 3 63 (by kernel_rfl) (by kernel_rfl) (by kernel_rfl) (by kernel_rfl) rfl (by kernel_rfl) rfl rfl rfl rfl rfl (At.ext (hE.trans hS17.ext) ha25) rfl rfl rfl ?_
        obtain ⟨x34, hx35, hb14⟩ := bind_some hb14
        refine DM.idx ttok (hE.trans hS17.ext) hsk19 6 127 (by kernel_rfl) (by kernel_rfl) (by kernel_rfl) (by kernel_rfl) rfl (by kernel_rfl) rfl rfl rfl rfl rfl rfl (by decide) rfl rfl h1_ (idx_some hx35).1 (idx_some hx35).2 rfl rfl (fun p36 es37 ha38 hr39 => ?_)
        obtain ⟨A40, k41, A43, k44, e46, h42, h45⟩ := ty157_open hr39; subst e46
        refine DM.loadN ttok hsk19 7 255 (by kernel_rfl) (by kernel_rfl) (by kernel_rfl) (by kernel_rfl) rfl (by kernel_rfl) rfl rfl rfl rfl rfl (At.ext (hE.trans hS17.ext) ha38) rfl rfl rfl ?_
        obtain ⟨r47, hx48, hb14⟩ := bind_some hb14
        refine DM.one hsk19 8 (by kernel_rfl) (LM.call hsk19 511 (by kernel_rfl) (by kernel_rfl) rfl rfl rfl rfl enters150 (laws_eqCell_ok (hE.trans hS20.ext) hr26 hr39 hx48) (fun v49 w50 hR51 => ?_))
        obtain ⟨rfl, hR52⟩ := hR51
        refine ⟨hR52.ext, ?_⟩
        have hS53 := hS20.join hR52
        refine DM.run (fuel := 0) ttok hsk19 [9] 1023 (by kernel_rfl) (by kernel_rfl) rfl ?_
        refine DM.weak [(0, .slice A0_ x0.length k0_), (1, .slice A1_ x1.length k1_), (5, .int .i64 s1), (26, .bool (!r47))] ⟨rfl, rfl, rfl, rfl, trivial⟩ ?_
        refine DM.done hsk19 (by kernel_rfl) ?_
        refine WP.cond (!r47) rfl (fun hc => ?_) (fun hc => ?_)
        · skip
          rw [if_pos hc] at hb14
          refine WP.seq ?_
          refine WP.region ?_
          refine RW.run ttok 1 rfl ?_
          refine RW.nil ?_
          refine WP.ret ?_
          cases hb14
          cases ho15
          have hm : some _ = some _ := hm
          cases hm
          exact ⟨_, .cons (.tmp rfl) .nil, rfl, hS53⟩
        · skip
          rw [if_neg (not_t hc)] at hb14
          refine WP.skip ?_
          refine WP.region ?_
          refine RW.run ttok 3 rfl ?_
          refine RW.nil ?_
          cases hb14
          exact ⟨_, [(0, .slice A0_ x0.length k0_), (1, .slice A1_ x1.length k1_), (5, .int .i64 (w64 (s1 + 1)))], ⟨rfl, rfl, rfl, trivial⟩, rfl, ((hE5.trans (Ext.draw _)).trans hR52.ext), hS53, rfl⟩
      · skip
        rw [if_neg (not_t hc)] at hb14
        refine WP.exit ?_
        cases hb14
        exact ⟨_, [], trivial, ho15, hE5, hS17, rfl⟩

theorem enters151 : Enters Try.prog 151 := ⟨_, _, Try.func151, rfl, by kernel_rfl⟩
def m_laws_eqPair (fuel : Nat) (x0 : D.Pair) (x1 : D.Pair) : Option (Bool) := (if (x0.A != x1.A) = true then some false else (if (x0.B != x1.B) = true then some false else some true))

set_option maxRecDepth 100000 in
theorem laws_eqPair_ok {W w : World} (hE : Ext W w) {c0_ : List Value} {x0 : D.Pair} {c1_ : List Value} {x1 : D.Pair} (h0_ : ty139.ro W c0_ x0) (h1_ : ty139.ro W c1_ x1) {fuel : Nat} {r : Bool} (hm : m_laws_eqPair fuel x0 x1 = some r) :
    Calls Try.prog 151 ⟨[.agg ⟨c0_⟩, .agg ⟨c1_⟩]⟩ w (Ret fun v w8 => v = .bool r ∧ St w w8 []) := by
  have e1 := ty139_open h0_; subst e1
  have e2 := ty139_open h1_; subst e2
  refine Calls.into Try.func151 rfl 15 rfl rfl _ rfl ?_
  unfold m_laws_eqPair at hm
  have hS := St.start w
  refine WP.seq ?_
  refine WP.region ?_
  refine RW.new ttok hS rfl rfl rfl rfl (fun g3 w4 e5 hS6 => ?_)
  refine RW.new ttok hS6 rfl rfl rfl rfl (fun g7 w10 e11 hS12 => ?_)
  refine RW.run ttok 1 rfl ?_
  refine RW.nil ?_
  refine WP.seq ?_
  refine WP.seq ?_
  refine WP.region ?_
  refine RW.run ttok 1 rfl ?_
  refine RW.load1 ttok rfl rfl rfl rfl rfl ((hS12.bring 1 rfl).box) 0 rfl rfl rfl rfl ?_
  refine RW.run ttok 1 rfl ?_
  refine RW.load1 ttok rfl rfl rfl rfl rfl ((hS12.bring 0 rfl).box) 0 rfl rfl rfl rfl ?_
  refine RW.run ttok 1 rfl ?_
  refine RW.nil ?_
  refine WP.cond (x0.A != x1.A) rfl (fun hc => ?_) (fun hc => ?_)
  · skip
    rw [if_pos hc] at hm
    refine WP.seq ?_
    refine WP.region ?_
    refine RW.run ttok 1 rfl ?_
    refine RW.nil ?_
    refine WP.ret ?_
    cases hm
    exact ⟨_, .cons (.tmp rfl) .nil, rfl, (hS12.taken 0)⟩
  · skip
    rw [if_neg (not_t hc)] at hm
    refine WP.skip ?_
    refine WP.seq ?_
    refine WP.seq ?_
    refine WP.region ?_
    refine RW.run ttok 1 rfl ?_
    refine RW.load1 ttok rfl rfl rfl rfl rfl ((hS12.bring 1 rfl).box) 1 rfl rfl rfl rfl ?_
    refine RW.run ttok 1 rfl ?_
    refine RW.load1 ttok rfl rfl rfl rfl rfl ((hS12.bring 0 rfl).box) 1 rfl rfl rfl rfl ?_
    refine RW.run ttok 1 rfl ?_
    refine RW.nil ?_
    refine WP.cond (x0.B != x1.B) rfl (fun hc => ?_) (fun hc => ?_)
    · skip
      rw [if_pos hc] at hm
      refine WP.seq ?_
      refine WP.region ?_
      refine RW.run ttok 1 rfl ?_
      refine RW.nil ?_
      refine WP.ret ?_
      cases hm
      exact ⟨_, .cons (.tmp rfl) .nil, rfl, (hS12.taken 0)⟩
    · skip
      rw [if_neg (not_t hc)] at hm
      refine WP.skip ?_
      refine WP.seq ?_
      refine WP.region ?_
      refine RW.run ttok 1 rfl ?_
      refine RW.nil ?_
      refine WP.ret ?_
      cases hm
      exact ⟨_, .cons (.tmp rfl) .nil, rfl, (hS12.taken 0)⟩

theorem enters90 : Enters Try.prog 90 := ⟨_, _, Try.func90, rfl, by kernel_rfl⟩
def m_laws_eqPairS_j1 (fuel : Nat) (t2 : Unit) : Option Bool := some true
def m_laws_eqPairS_b1 (fuel : Nat) (x0 : (List D.Pair)) (x1 : (List D.Pair)) (s1 : Int) : Option (Rd (Int) (Unit) (Bool)) := (if (decide (s1 < (x0.length : Int))) = true then ((idx x0 s1).bind fun x21 => ((idx x1 s1).bind fun x28 => ((m_laws_eqPair fuel x21 x28).bind fun r35 => (if (!r35) = true then some (.ret false) else some (.next (w64 (s1 + 1))))))) else some (.brk ()))
def m_laws_eqPairS (fuel : Nat) (x0 : (List D.Pair)) (x1 : (List D.Pair)) : Option (Bool) := (if ((x0.length : Int) != (x1.length : Int)) = true then some false else ((iter (m_laws_eqPairS_b1 fuel x0 x1) fuel 0).bind fun o => aft o (m_laws_eqPairS_j1 fuel)))

set_option maxRecDepth 100000 in
theorem laws_eqPairS_ok {W w : World} (hE : Ext W w) {A0_ : Option Addr} {k0_ : Nat} {x0 : (List D.Pair)} {A1_ : Option Addr} {k1_ : Nat} {x1 : (List D.Pair)} (h0_ : ty78.ro W [.slice A0_ x0.length k0_] x0) (h1_ : ty78.ro W [.slice A1_ x1.length k1_] x1) {fuel : Nat} {r : Bool} (hm : m_laws_eqPairS fuel x0 x1 = some r) :
    Calls Try.prog 90 ⟨[.slice A0_ x0.length k0_, .slice A1_ x1.length k1_]⟩ w (Ret fun v w8 => v = .bool r ∧ St w w8 []) := by
  refine Calls.into Try.func90 rfl 27 rfl rfl _ rfl ?_
  unfold m_laws_eqPairS at hm
  have hS := St.start w
  refine WP.seq ?_
  refine WP.region ?_
  refine RW.run ttok 1 rfl ?_
  refine RW.nil ?_
  refine WP.seq ?_
  refine WP.seq ?_
  refine WP.region ?_
  refine RW.run ttok 5 rfl ?_
  refine RW.nil ?_
  refine WP.cond ((x0.length : Int) != (x1.length : Int)) rfl (fun hc => ?_) (fun hc => ?_)
  · skip
    rw [if_pos hc] at hm
    refine WP.seq ?_
    refine WP.region ?_
    refine RW.run ttok 1 rfl ?_
    refine RW.nil ?_
    refine WP.ret ?_
    cases hm
    exact ⟨_, .cons (.tmp rfl) .nil, rfl, hS⟩
  · skip
    rw [if_neg (not_t hc)] at hm
    refine WP.skip ?_
    refine WP.seq ?_
    refine WP.seq ?_
    refine WP.region ?_
    refine RW.run ttok 1 rfl ?_
    refine RW.nil ?_
    obtain ⟨o10, hl11, hm⟩ := bind_some hm
    refine WP.cut (fun (t2 : Unit) F w9 => o10 = .inl t2 ∧ Ext w w9 ∧ St w w9 [] ∧ F = []) ?_ ?_
    · skip
      rintro t2 F w7 ⟨ho13, hE6, hS12, rfl⟩
      subst ho13
      rw [aft_inl] at hm
      unfold m_laws_eqPairS_j1 at hm
      refine WP.seq ?_
      refine WP.region ?_
      refine RW.run ttok 1 rfl ?_
      refine RW.nil ?_
      refine WP.ret ?_
      cases hm
      exact ⟨_, .cons (.tmp rfl) .nil, rfl, hS12⟩
    · skip
      refine WP.block ?_
      refine WP.weak [(0, .slice A0_ x0.length k0_), (1, .slice A1_ x1.length k1_), (5, .int .i64 0)] ⟨rfl, rfl, rfl, trivial⟩ ?_
      refine WP.iter (fun (s1 : Int) F w9 => Ext w w9 ∧ St w w9 [] ∧ F = [(0, .slice A0_ x0.length k0_), (1, .slice A1_ x1.length k1_), (5, .int .i64 s1)]) _ hl11 ⟨(Ext.refl _), hS, rfl⟩ ?_
      rintro s1 F w18 _ o16 ⟨hE5, hS17, rfl⟩ hb14 ho15
      unfold m_laws_eqPairS_b1 at hb14
      refine WP.seq ?_
      refine WP.seq ?_
      refine WP.region ?_
      refine RW.run ttok 4 rfl ?_
      refine RW.nil ?_
      refine WP.cond (decide (s1 < (x0.length : Int))) rfl (fun hc => ?_) (fun hc => ?_)
      · skip
        rw [if_pos hc] at hb14
        refine WP.skip ?_
        refine WP.seq ?_
        refine WP.block ?_
        refine WP.seq ?_
        refine WP.drawnM 0 mixed 10 (by kernel_rfl) (by kernel_rfl) [([], 1023), ([], 1023), ([0, 1], 1020), ([2], 1019), ([], 1023), ([], 1023), ([4, 5], 975), ([6], 959), ([3, 7], 887), ([8], 767)] (by kernel_rfl) hS17.ext (fun hsk19 => ?_)
        have hS20 := hS17.step (Ext.draw _)
        refine DM.run (fuel := 6) ttok hsk19 [0, 1, 4, 5] 51 (by kernel_rfl) (by kernel_rfl) rfl ?_
        obtain ⟨x21, hx22, hb14⟩ := bind_some hb14
        refine DM.idx ttok (hE.trans hS17.ext) hsk19 2 55 (by kernel_rfl) (by kernel_rfl) (by kernel_rfl) (by kernel_rfl) rfl (by kernel_rfl) rfl rfl rfl rfl rfl rfl (by decide) rfl rfl h0_ (idx_some hx22).1 (idx_some hx22).2 rfl rfl (fun p23 es24 ha25 hr26 => ?_)
        have e27 := ty139_open hr26; subst e27
        refine DM.loadN ttok hsk19 3 63 (by kernel_rfl) (by kernel_rfl) (by kernel_rfl) (by kernel_rfl) rfl (by kernel_rfl) rfl rfl rfl rfl rfl (At.ext (hE.trans hS17.ext) ha25) rfl rfl rfl ?_
        obtain ⟨x28, hx29, hb14⟩ := bind_some hb14
        refine DM.idx ttok (hE.trans hS17.ext) hsk19 6 127 (by kernel_rfl) (by kernel_rfl) (by kernel_rfl) (by kernel_rfl) rfl (by kernel_rfl) rfl rfl rfl rfl rfl rfl (by decide) rfl rfl h1_ (idx_some hx29).1 (idx_some hx29).2 rfl rfl (fun p30 es31 ha32 hr33 => ?_)
        have e34 := ty139_open hr33; subst e34
        refine DM.loadN ttok hsk19 7 255 (by kernel_rfl) (by kernel_rfl) (by kernel_rfl) (by kernel_rfl) rfl (by kernel_rfl) rfl rfl rfl rfl rfl (At.ext (hE.trans hS17.ext) ha32) rfl rfl rfl ?_
        obtain ⟨r35, hx36, hb14⟩ := bind_some hb14
        refine DM.one hsk19 8 (by kernel_rfl) (LM.call hsk19 511 (by kernel_rfl) (by kernel_rfl) rfl rfl rfl rfl enters151 (laws_eqPair_ok (hE.trans hS20.ext) hr26 hr33 hx36) (fun v37 w38 hR39 => ?_))
        obtain ⟨rfl, hR40⟩ := hR39
        refine ⟨hR40.ext, ?_⟩
        have hS41 := hS20.join hR40
        refine DM.run (fuel := 0) ttok hsk19 [9] 1023 (by kernel_rfl) (by kernel_rfl) rfl ?_
        refine DM.weak [(0, .slice A0_ x0.length k0_), (1, .slice A1_ x1.length k1_), (5, .int .i64 s1), (26, .bool (!r35))] ⟨rfl, rfl, rfl, rfl, trivial⟩ ?_
        refine DM.done hsk19 (by kernel_rfl) ?_
        refine WP.cond (!r35) rfl (fun hc => ?_) (fun hc => ?_)
        · skip
          rw [if_pos hc] at hb14
          refine WP.seq ?_
          refine WP.region ?_
          refine RW.run ttok 1 rfl ?_
          refine RW.nil ?_
          refine WP.ret ?_
          cases hb14
          cases ho15
          have hm : some _ = some _ := hm
          cases hm
          exact ⟨_, .cons (.tmp rfl) .nil, rfl, hS41⟩
        · skip
          rw [if_neg (not_t hc)] at hb14
          refine WP.skip ?_
          refine WP.region ?_
          refine RW.run ttok 3 rfl ?_
          refine RW.nil ?_
          cases hb14
          exact ⟨_, [(0, .slice A0_ x0.length k0_), (1, .slice A1_ x1.length k1_), (5, .int .i64 (w64 (s1 + 1)))], ⟨rfl, rfl, rfl, trivial⟩, rfl, ((hE5.trans (Ext.draw _)).trans hR40.ext), hS41, rfl⟩
      · skip
        rw [if_neg (not_t hc)] at hb14
        refine WP.exit ?_
        cases hb14
        exact ⟨_, [], trivial, ho15, hE5, hS17, rfl⟩

theorem enters39 : Enters Try.prog 39 := ⟨_, _, Try.func39, rfl, by kernel_rfl⟩
def m_laws_eqMemory (fuel : Nat) (x0 : D.Memory) (x1 : D.Memory) : Option (Bool) := ((m_laws_eqCellS fuel x0.Cells x1.Cells).bind fun r25 => (if (!r25) = true then some false else (if (x0.Free != x1.Free) = true then some false else ((m_laws_eqWord fuel x0.Root x1.Root).bind fun r32 => (if (!r32) = true then some false else ((m_laws_eqPairS fuel x0.Redexes x1.Redexes).bind fun r39 => (if (!r39) = true then some false else some true)))))))

set_option maxRecDepth 100000 in
theorem laws_eqMemory_ok {W w : World} (hE : Ext W w) {c0_ : List Value} {x0 : D.Memory} {c1_ : List Value} {x1 : D.Memory} (h0_ : ty80.ro W c0_ x0) (h1_ : ty80.ro W c1_ x1) {fuel : Nat} {r : Bool} (hm : m_laws_eqMemory fuel x0 x1 = some r) :
    Calls Try.prog 39 ⟨[.agg ⟨c0_⟩, .agg ⟨c1_⟩]⟩ w (Ret fun v w8 => v = .bool r ∧ St w w8 []) := by
  obtain ⟨A1, k2, A4, k5, e7, h3, h6⟩ := ty80_open h0_; subst e7
  obtain ⟨A10, k11, A13, k14, e16, h12, h15⟩ := ty80_open h1_; subst e16
  refine Calls.into Try.func39 rfl 28 rfl rfl _ rfl ?_
  unfold m_laws_eqMemory at hm
  have hS := St.start w
  refine WP.seq ?_
  refine WP.region ?_
  refine RW.new ttok hS rfl rfl rfl rfl (fun g17 w18 e19 hS20 => ?_)
  refine RW.new ttok hS20 rfl rfl rfl rfl (fun g21 w22 e23 hS24 => ?_)
  refine RW.run ttok 1 rfl ?_
  refine RW.nil ?_
  refine WP.seq ?_
  refine WP.seq ?_
  refine WP.region ?_
  refine RW.run ttok 1 rfl ?_
  refine RW.load1 ttok rfl rfl rfl rfl rfl ((hS24.bring 1 rfl).box) 0 rfl rfl rfl rfl ?_
  refine RW.run ttok 1 rfl ?_
  refine RW.load1 ttok rfl rfl rfl rfl rfl ((hS24.bring 0 rfl).box) 0 rfl rfl rfl rfl ?_
  obtain ⟨r25, hx26, hm⟩ := bind_some hm
  refine RW.call rfl rfl rfl enters88 (laws_eqCellS_ok (hE.trans hS24.ext) h3 h12 hx26) (fun v27 w28 hR29 => ?_)
  obtain ⟨rfl, hR30⟩ := hR29
  have hS31 := hS24.join hR30
  refine RW.run ttok 1 rfl ?_
  refine RW.nil ?_
  refine WP.cond (!r25) rfl (fun hc => ?_) (fun hc => ?_)
  · skip
    rw [if_pos hc] at hm
    refine WP.seq ?_
    refine WP.region ?_
    refine RW.run ttok 1 rfl ?_
    refine RW.nil ?_
    refine WP.ret ?_
    cases hm
    exact ⟨_, .cons (.tmp rfl) .nil, rfl, (hS31.taken 0)⟩
  · skip
    rw [if_neg (not_t hc)] at hm
    refine WP.skip ?_
    refine WP.seq ?_
    refine WP.seq ?_
    refine WP.region ?_
    refine RW.run ttok 1 rfl ?_
    refine RW.load1 ttok rfl rfl rfl rfl rfl ((hS31.bring 1 rfl).box) 1 rfl rfl rfl rfl ?_
    refine RW.run ttok 1 rfl ?_
    refine RW.load1 ttok rfl rfl rfl rfl rfl ((hS31.bring 0 rfl).box) 1 rfl rfl rfl rfl ?_
    refine RW.run ttok 1 rfl ?_
    refine RW.nil ?_
    refine WP.cond (x0.Free != x1.Free) rfl (fun hc => ?_) (fun hc => ?_)
    · skip
      rw [if_pos hc] at hm
      refine WP.seq ?_
      refine WP.region ?_
      refine RW.run ttok 1 rfl ?_
      refine RW.nil ?_
      refine WP.ret ?_
      cases hm
      exact ⟨_, .cons (.tmp rfl) .nil, rfl, (hS31.taken 0)⟩
    · skip
      rw [if_neg (not_t hc)] at hm
      refine WP.skip ?_
      refine WP.seq ?_
      refine WP.seq ?_
      refine WP.region ?_
      refine RW.run ttok 1 rfl ?_
      refine RW.loadN ttok rfl rfl rfl rfl rfl (At.sub ((hS31.bring 1 rfl).box) 2 2) rfl rfl rfl ?_
      refine RW.run ttok 1 rfl ?_
      refine RW.loadN ttok rfl rfl rfl rfl rfl (At.sub ((hS31.bring 0 rfl).box) 2 2) rfl rfl rfl ?_
      obtain ⟨r32, hx33, hm⟩ := bind_some hm
      refine RW.call rfl rfl rfl enters89 (laws_eqWord_ok (hE.trans hS31.ext) (ty77_shut x0.Root) (ty77_shut x1.Root) hx33) (fun v34 w35 hR36 => ?_)
      obtain ⟨rfl, hR37⟩ := hR36
      have hS38 := hS31.join hR37
      refine RW.run ttok 1 rfl ?_
      refine RW.nil ?_
      refine WP.cond (!r32) rfl (fun hc => ?_) (fun hc => ?_)
      · skip
        rw [if_pos hc] at hm
        refine WP.seq ?_
        refine WP.region ?_
        refine RW.run ttok 1 rfl ?_
        refine RW.nil ?_
        refine WP.ret ?_
        cases hm
        exact ⟨_, .cons (.tmp rfl) .nil, rfl, (hS38.taken 0)⟩
      · skip
        rw [if_neg (not_t hc)] at hm
        refine WP.skip ?_
        refine WP.seq ?_
        refine WP.seq ?_
        refine WP.region ?_
        refine RW.run ttok 1 rfl ?_
        refine RW.load1 ttok rfl rfl rfl rfl rfl ((hS38.bring 1 rfl).box) 4 rfl rfl rfl rfl ?_
        refine RW.run ttok 1 rfl ?_
        refine RW.load1 ttok rfl rfl rfl rfl rfl ((hS38.bring 0 rfl).box) 4 rfl rfl rfl rfl ?_
        obtain ⟨r39, hx40, hm⟩ := bind_some hm
        refine RW.call rfl rfl rfl enters90 (laws_eqPairS_ok (hE.trans hS38.ext) h6 h15 hx40) (fun v41 w42 hR43 => ?_)
        obtain ⟨rfl, hR44⟩ := hR43
        have hS45 := hS38.join hR44
        refine RW.run ttok 1 rfl ?_
        refine RW.nil ?_
        refine WP.cond (!r39) rfl (fun hc => ?_) (fun hc => ?_)
        · skip
          rw [if_pos hc] at hm
          refine WP.seq ?_
          refine WP.region ?_
          refine RW.run ttok 1 rfl ?_
          refine RW.nil ?_
          refine WP.ret ?_
          cases hm
          exact ⟨_, .cons (.tmp rfl) .nil, rfl, (hS45.taken 0)⟩
        · skip
          rw [if_neg (not_t hc)] at hm
          refine WP.skip ?_
          refine WP.seq ?_
          refine WP.region ?_
          refine RW.run ttok 1 rfl ?_
          refine RW.nil ?_
          refine WP.ret ?_
          cases hm
          exact ⟨_, .cons (.tmp rfl) .nil, rfl, (hS45.taken 0)⟩

theorem enters69 : Enters Try.prog 69 := ⟨_, _, Try.func69, rfl, by kernel_rfl⟩
def m_laws_markInt64S_j1 (fuel : Nat) (t2 : Int × (List Int)) : Option (Int × (List Int)) := some (t2.1, t2.2)
def m_laws_markInt64S_b1 (fuel : Nat) (x0 : (List Int)) (s1 : Int × Int × (List Int)) : Option (Rd (Int × Int × (List Int)) (Int × (List Int)) (Int × (List Int))) := (if (decide (s1.2.1 < (x0.length : Int))) = true then (if decide (0 ≤ s1.2.1 ∧ s1.2.1.toNat < s1.2.2.length) = true then some (.next (w64 (s1.1 + 1), w64 (s1.2.1 + 1), (s1.2.2.set s1.2.1.toNat s1.1))) else none) else some (.brk (s1.1, s1.2.2)))
def m_laws_markInt64S (fuel : Nat) (x0 : (List Int)) (x1 : Int) : Option (Int × (List Int)) := ((iter (m_laws_markInt64S_b1 fuel x0) fuel (x1, 0, x0)).bind fun o => aft o (m_laws_markInt64S_j1 fuel))

set_option maxRecDepth 100000 in
theorem laws_markInt64S_ok {W w : World} {RR : List Res} {A0_ : Option Addr} {k0_ : Nat} {x0 : (List Int)} {x1 : Int} (hS : St W w (Own ty103 [.slice A0_ x0.length k0_] x0 :: RR)) {fuel : Nat} {r : Int × (List Int)} (hm : m_laws_markInt64S fuel x0 x1 = some r) :
    Calls Try.prog 69 ⟨[.slice A0_ x0.length k0_, .int .i64 x1]⟩ w (Ret fun v w8 => v = .int .i64 r.1 ∧ St W w8 (Own ty103 [.slice A0_ x0.length k0_] r.2 :: RR)) := by
  refine Calls.into Try.func69 rfl 19 rfl rfl _ rfl ?_
  unfold m_laws_markInt64S at hm
  refine WP.seq ?_
  refine WP.region ?_
  refine RW.run ttok 1 rfl ?_
  refine RW.nil ?_
  refine WP.seq ?_
  refine WP.seq ?_
  refine WP.region ?_
  refine RW.run ttok 1 rfl ?_
  refine RW.nil ?_
  obtain ⟨o5, hl6, hm⟩ := bind_some hm
  refine WP.cut (fun (t2 : Int × (List Int)) F w9 => o5 = .inl t2 ∧ St W w9 (Own ty103 [.slice A0_ x0.length k0_] t2.2 :: RR) ∧ F = [(1, .int .i64 t2.1)]) ?_ ?_
  · skip
    rintro t2 F w4 ⟨ho10, hS7, rfl⟩
    subst ho10
    rw [aft_inl] at hm
    unfold m_laws_markInt64S_j1 at hm
    refine WP.seq ?_
    refine WP.region ?_
    refine RW.run ttok 2 rfl ?_
    refine RW.nil ?_
    refine WP.ret ?_
    cases hm
    exact ⟨_, .cons (.tmp rfl) .nil, rfl, hS7⟩
  · skip
    refine WP.block ?_
    refine WP.weak [(0, .slice A0_ x0.length k0_), (1, .int .i64 x1), (5, .int .i64 0)] ⟨rfl, rfl, rfl, trivial⟩ ?_
    refine WP.iter (fun (s1 : Int × Int × (List Int)) F w9 => St W w9 (Own ty103 [.slice A0_ x0.length k0_] s1.2.2 :: RR) ∧ F = [(0, .slice A0_ x0.length k0_), (1, .int .i64 s1.1), (5, .int .i64 s1.2.1)]) _ hl6 ⟨hS, rfl⟩ ?_
    rintro s1 F w15 _ o13 ⟨hS14, rfl⟩ hb11 ho12
    unfold m_laws_markInt64S_b1 at hb11
    refine WP.seq ?_
    refine WP.seq ?_
    refine WP.region ?_
    refine RW.run ttok 4 rfl ?_
    refine RW.nil ?_
    refine WP.cond (decide (s1.2.1 < (x0.length : Int))) rfl (fun hc => ?_) (fun hc => ?_)
    · skip
      rw [if_pos hc] at hb11
      refine WP.skip ?_
      refine WP.seq ?_
      refine WP.block ?_
      refine WP.seq ?_
      refine WP.region ?_
      refine RW.run ttok 3 rfl ?_
      have hS16 := hS14.bring 0 rfl
      by_cases hk17 : decide (0 ≤ s1.2.1 ∧ s1.2.1.toNat < s1.2.2.length) = true
      case neg => rw [if_neg hk17] at hb11; cases hb11
      rw [if_pos hk17] at hb11
      have hb18 := of_decide_eq_true hk17
      refine RW.idxOwnN ttok hS16 rfl rfl rfl rfl rfl rfl rfl rfl hb18.1 hb18.2 rfl rfl (fun q19 hq20 => ?_)
      have hS21 := hS16.flat (T := tInt) (cs := [.int .i64 s1.1]) (x := s1.1) ⟨rfl, rfl⟩
      have hS22 := hS21.bring 1 rfl
      refine RW.storeElN ttok hS22 rfl rfl rfl rfl rfl rfl hb18.2 hq20 rfl rfl (fun w23 hS24 => ?_)
      refine RW.nil ?_
      refine WP.region ?_
      refine RW.run ttok 3 rfl ?_
      refine RW.nil ?_
      refine WP.region ?_
      refine RW.run ttok 3 rfl ?_
      refine RW.nil ?_
      cases hb11
      exact ⟨_, [(0, .slice A0_ x0.length k0_), (1, .int .i64 (w64 (s1.1 + 1))), (5, .int .i64 (w64 (s1.2.1 + 1)))], ⟨rfl, rfl, rfl, trivial⟩, rfl, hS24, rfl⟩
    · skip
      rw [if_neg (not_t hc)] at hb11
      refine WP.exit ?_
      cases hb11
      exact ⟨_, [(1, .int .i64 s1.1)], ⟨rfl, trivial⟩, ho12, hS14, rfl⟩

theorem enters159 : Enters Try.prog 159 := ⟨_, _, Try.func159, rfl, by kernel_rfl⟩
def m_laws_markWordS_j1 (fuel : Nat) (t2 : Int × (List D.Word)) : Option (Int × (List D.Word)) := some (t2.1, t2.2)
def m_laws_markWordS_b1 (fuel : Nat) (x0 : (List D.Word)) (s1 : Int × Int × (List D.Word)) : Option (Rd (Int × Int × (List D.Word)) (Int × (List D.Word)) (Int × (List D.Word))) := (if (decide (s1.2.1 < (x0.length : Int))) = true then ((idx s1.2.2 s1.2.1).bind fun x17 => some (.next (w64 ((w64 (s1.1 + 1)) + 1), w64 (s1.2.1 + 1), (s1.2.2.set s1.2.1.toNat (⟨s1.1, w64 (s1.1 + 1)⟩ : D.Word))))) else some (.brk (s1.1, s1.2.2)))
def m_laws_markWordS (fuel : Nat) (x0 : (List D.Word)) (x1 : Int) : Option (Int × (List D.Word)) := ((iter (m_laws_markWordS_b1 fuel x0) fuel (x1, 0, x0)).bind fun o => aft o (m_laws_markWordS_j1 fuel))

set_option maxRecDepth 100000 in
theorem laws_markWordS_ok {W w : World} {RR : List Res} {A0_ : Option Addr} {k0_ : Nat} {x0 : (List D.Word)} {x1 : Int} (hS : St W w (Own ty155 [.slice A0_ x0.length k0_] x0 :: RR)) {fuel : Nat} {r : Int × (List D.Word)} (hm : m_laws_markWordS fuel x0 x1 = some r) :
    Calls Try.prog 159 ⟨[.slice A0_ x0.length k0_, .int .i64 x1]⟩ w (Ret fun v w8 => v = .int .i64 r.1 ∧ St W w8 (Own ty155 [.slice A0_ x0.length k0_] r.2 :: RR)) := by
  refine Calls.into Try.func159 rfl 27 rfl rfl _ rfl ?_
  unfold m_laws_markWordS at hm
  refine WP.seq ?_
  refine WP.region ?_
  refine RW.run ttok 1 rfl ?_
  refine RW.nil ?_
  refine WP.seq ?_
  refine WP.seq ?_
  refine WP.region ?_
  refine RW.run ttok 1 rfl ?_
  refine RW.nil ?_
  obtain ⟨o5, hl6, hm⟩ := bind_some hm
  refine WP.cut (fun (t2 : Int × (List D.Word)) F w9 => o5 = .inl t2 ∧ St W w9 (Own ty155 [.slice A0_ x0.length k0_] t2.2 :: RR) ∧ F = [(1, .int .i64 t2.1)]) ?_ ?_
  · skip
    rintro t2 F w4 ⟨ho10, hS7, rfl⟩
    subst ho10
    rw [aft_inl] at hm
    unfold m_laws_markWordS_j1 at hm
    refine WP.seq ?_
    refine WP.region ?_
    refine RW.run ttok 2 rfl ?_
    refine RW.nil ?_
    refine WP.ret ?_
    cases hm
    exact ⟨_, .cons (.tmp rfl) .nil, rfl, hS7⟩
  · skip
    refine WP.block ?_
    refine WP.weak [(0, .slice A0_ x0.length k0_), (1, .int .i64 x1), (5, .int .i64 0)] ⟨rfl, rfl, rfl, trivial⟩ ?_
    refine WP.iter (fun (s1 : Int × Int × (List D.Word)) F w9 => St W w9 (Own ty155 [.slice A0_ x0.length k0_] s1.2.2 :: RR) ∧ F = [(0, .slice A0_ x0.length k0_), (1, .int .i64 s1.1), (5, .int .i64 s1.2.1)]) _ hl6 ⟨hS, rfl⟩ ?_
    rintro s1 F w15 _ o13 ⟨hS14, rfl⟩ hb11 ho12
    unfold m_laws_markWordS_b1 at hb11
    refine WP.seq ?_
    refine WP.seq ?_
    refine WP.region ?_
    refine RW.run ttok 4 rfl ?_
    refine RW.nil ?_
    refine WP.cond (decide (s1.2.1 < (x0.length : Int))) rfl (fun hc => ?_) (fun hc => ?_)
    · skip
      rw [if_pos hc] at hb11
      refine WP.skip ?_
      refine WP.seq ?_
      refine WP.block ?_
      refine WP.seq ?_
      refine WP.region ?_
      refine RW.run ttok 3 rfl ?_
      have hS16 := hS14.bring 0 rfl
      obtain ⟨x17, hx18, hb11⟩ := bind_some hb11
      refine RW.focus ttok hS16 rfl rfl rfl rfl rfl rfl rfl rfl (idx_some hx18).1 (idx_some hx18).2 rfl rfl (fun q19 es20 hq21 hS22 => ?_)
      obtain ⟨e24, hS23⟩ := ty77_openS (hS22.bring 1 rfl); subst e24
      refine RW.run ttok 1 rfl ?_
      have hS25 := hS23.bring 0 rfl
      refine RW.storeHoleN ttok hS25 hq21 rfl rfl rfl rfl rfl 0 rfl rfl rfl rfl rfl (fun w26 hS27 => ?_)
      refine RW.nil ?_
      refine WP.seq ?_
      refine WP.region ?_
      refine RW.run ttok 3 rfl ?_
      refine RW.nil ?_
      refine WP.seq ?_
      refine WP.region ?_
      refine RW.run ttok 3 rfl ?_
      refine RW.idxAgain ttok (hS27.bring 0 rfl) rfl rfl rfl rfl rfl rfl rfl rfl (idx_some hx18).1 rfl rfl (fun q28 hq29 => ?_)
      refine RW.run ttok 1 rfl ?_
      have hS30 := hS27.bring 0 rfl
      refine RW.storeHoleN ttok hS30 hq29 rfl rfl rfl rfl rfl 1 rfl rfl rfl rfl rfl (fun w31 hS32 => ?_)
      refine RW.nil ?_
      refine WP.region ?_
      refine RW.run ttok 3 rfl ?_
      refine RW.nil ?_
      refine WP.region ?_
      refine RW.run ttok 3 rfl ?_
      refine RW.nil ?_
      have hS33 := ty77_shutS (c := (⟨s1.1, w64 (s1.1 + 1)⟩ : D.Word)) (B := _) hS32
      have hS34 := hS33.bring 1 rfl
      have hS35 := St.unfocusN hS34
      cases hb11
      exact ⟨_, [(0, .slice A0_ x0.length k0_), (1, .int .i64 (w64 ((w64 (s1.1 + 1)) + 1))), (5, .int .i64 (w64 (s1.2.1 + 1)))], ⟨rfl, rfl, rfl, trivial⟩, rfl, hS35, rfl⟩
    · skip
      rw [if_neg (not_t hc)] at hb11
      refine WP.exit ?_
      cases hb11
      exact ⟨_, [(1, .int .i64 s1.1)], ⟨rfl, trivial⟩, ho12, hS14, rfl⟩

end Go.E
