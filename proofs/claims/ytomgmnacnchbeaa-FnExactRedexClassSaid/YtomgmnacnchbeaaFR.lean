/- Models of functions and proofs that the code runs as they say (written by program). Conditions: the model gives a value. -/
import Derived.Test.YtomgmnacnchbeaaFVb
import Derived.Test.YtomgmnacnchbeaaMixed
namespace Go.E
open Go.RowKit Go.Proofs
set_option linter.unusedVariables false
set_option linter.unusedSimpArgs false
set_option maxHeartbeats 2000000

theorem enters120 : Enters Try.prog 120 := ⟨_, _, Try.func120, rfl, by kernel_rfl⟩
def m_laws_szInt64S (fuel : Nat) (x0 : (List Int)) (x1 : Int) : Option (Int) := (if (decide ((w64 (x1 - (x0.length : Int))) < 0)) = true then some (-1) else some (w64 (x1 - (x0.length : Int))))

set_option maxRecDepth 100000 in
theorem laws_szInt64S_ok {W w : World} (hE : Ext W w) {A0_ : Option Addr} {k0_ : Nat} {x0 : (List Int)} {x1 : Int} (h0_ : ty103.ro W [.slice A0_ x0.length k0_] x0) {fuel : Nat} {r : Int} (hm : m_laws_szInt64S fuel x0 x1 = some r) :
    Calls Try.prog 120 ⟨[.slice A0_ x0.length k0_, .int .i64 x1]⟩ w (Ret fun v w8 => v = .int .i64 r ∧ St w w8 []) := by
  refine Calls.into Try.func120 rfl 12 rfl rfl _ rfl ?_
  unfold m_laws_szInt64S at hm
  have hS := St.start w
  refine WP.seq ?_
  refine WP.region ?_
  refine RW.run ttok 1 rfl ?_
  refine RW.nil ?_
  refine WP.seq ?_
  refine WP.region ?_
  refine RW.run ttok 5 rfl ?_
  refine RW.nil ?_
  refine WP.seq ?_
  refine WP.seq ?_
  refine WP.region ?_
  refine RW.run ttok 2 rfl ?_
  refine RW.nil ?_
  refine WP.cond (decide ((w64 (x1 - (x0.length : Int))) < 0)) rfl (fun hc => ?_) (fun hc => ?_)
  · skip
    rw [if_pos hc] at hm
    refine WP.seq ?_
    refine WP.region ?_
    refine RW.run ttok 1 rfl ?_
    refine RW.nil ?_
    refine WP.ret ?_
    cases hm
    exact ⟨_, .cons (.tmp rfl) .nil, rfl, hS⟩
  · skip
    rw [if_neg (not_t hc)] at hm
    refine WP.skip ?_
    refine WP.seq ?_
    refine WP.region ?_
    refine RW.run ttok 2 rfl ?_
    refine RW.nil ?_
    refine WP.ret ?_
    cases hm
    exact ⟨_, .cons (.tmp rfl) .nil, rfl, hS⟩

theorem enters212 : Enters Try.prog 212 := ⟨_, _, Try.func212, rfl, by kernel_rfl⟩
def m_laws_szWordS (fuel : Nat) (x0 : (List D.Word)) (x1 : Int) : Option (Int) := (if (decide ((w64 (x1 - (x0.length : Int))) < 0)) = true then some (-1) else some (w64 (x1 - (x0.length : Int))))

set_option maxRecDepth 100000 in
theorem laws_szWordS_ok {W w : World} (hE : Ext W w) {A0_ : Option Addr} {k0_ : Nat} {x0 : (List D.Word)} {x1 : Int} (h0_ : ty208.ro W [.slice A0_ x0.length k0_] x0) {fuel : Nat} {r : Int} (hm : m_laws_szWordS fuel x0 x1 = some r) :
    Calls Try.prog 212 ⟨[.slice A0_ x0.length k0_, .int .i64 x1]⟩ w (Ret fun v w8 => v = .int .i64 r ∧ St w w8 []) := by
  refine Calls.into Try.func212 rfl 12 rfl rfl _ rfl ?_
  unfold m_laws_szWordS at hm
  have hS := St.start w
  refine WP.seq ?_
  refine WP.region ?_
  refine RW.run ttok 1 rfl ?_
  refine RW.nil ?_
  refine WP.seq ?_
  refine WP.region ?_
  refine RW.run ttok 5 rfl ?_
  refine RW.nil ?_
  refine WP.seq ?_
  refine WP.seq ?_
  refine WP.region ?_
  refine RW.run ttok 2 rfl ?_
  refine RW.nil ?_
  refine WP.cond (decide ((w64 (x1 - (x0.length : Int))) < 0)) rfl (fun hc => ?_) (fun hc => ?_)
  · skip
    rw [if_pos hc] at hm
    refine WP.seq ?_
    refine WP.region ?_
    refine RW.run ttok 1 rfl ?_
    refine RW.nil ?_
    refine WP.ret ?_
    cases hm
    exact ⟨_, .cons (.tmp rfl) .nil, rfl, hS⟩
  · skip
    rw [if_neg (not_t hc)] at hm
    refine WP.skip ?_
    refine WP.seq ?_
    refine WP.region ?_
    refine RW.run ttok 2 rfl ?_
    refine RW.nil ?_
    refine WP.ret ?_
    cases hm
    exact ⟨_, .cons (.tmp rfl) .nil, rfl, hS⟩

theorem enters142 : Enters Try.prog 142 := ⟨_, _, Try.func142, rfl, by kernel_rfl⟩
def m_laws_szCell (fuel : Nat) (x0 : D.Cell) (x1 : Int) : Option (Int) := ((m_laws_szInt64S fuel x0.Data x1).bind fun r14 => (if (decide (r14 < 0)) = true then some (-1) else ((m_laws_szWordS fuel x0.Words r14).bind fun r21 => (if (decide (r21 < 0)) = true then some (-1) else some r21))))

set_option maxRecDepth 100000 in
theorem laws_szCell_ok {W w : World} (hE : Ext W w) {c0_ : List Value} {x0 : D.Cell} {x1 : Int} (h0_ : ty210.ro W c0_ x0) {fuel : Nat} {r : Int} (hm : m_laws_szCell fuel x0 x1 = some r) :
    Calls Try.prog 142 ⟨[.agg ⟨c0_⟩, .int .i64 x1]⟩ w (Ret fun v w8 => v = .int .i64 r ∧ St w w8 []) := by
  obtain ⟨A1, k2, A4, k5, e7, h3, h6⟩ := ty210_open h0_; subst e7
  refine Calls.into Try.func142 rfl 18 rfl rfl _ rfl ?_
  unfold m_laws_szCell at hm
  have hS := St.start w
  refine WP.seq ?_
  refine WP.region ?_
  refine RW.new ttok hS rfl rfl rfl rfl (fun g10 w11 e12 hS13 => ?_)
  refine RW.run ttok 1 rfl ?_
  refine RW.nil ?_
  refine WP.seq ?_
  refine WP.region ?_
  refine RW.run ttok 1 rfl ?_
  refine RW.load1 ttok rfl rfl rfl rfl rfl ((hS13.bring 0 rfl).box) 3 rfl rfl rfl rfl ?_
  refine RW.run ttok 1 rfl ?_
  obtain ⟨r14, hx15, hm⟩ := bind_some hm
  refine RW.call rfl rfl rfl enters120 (laws_szInt64S_ok (hE.trans hS13.ext) h3 hx15) (fun v16 w17 hR18 => ?_)
  obtain ⟨rfl, hR19⟩ := hR18
  have hS20 := hS13.join hR19
  refine RW.run ttok 1 rfl ?_
  refine RW.nil ?_
  refine WP.seq ?_
  refine WP.seq ?_
  refine WP.region ?_
  refine RW.run ttok 2 rfl ?_
  refine RW.nil ?_
  refine WP.cond (decide (r14 < 0)) rfl (fun hc => ?_) (fun hc => ?_)
  · skip
    rw [if_pos hc] at hm
    refine WP.seq ?_
    refine WP.region ?_
    refine RW.run ttok 1 rfl ?_
    refine RW.nil ?_
    refine WP.ret ?_
    cases hm
    exact ⟨_, .cons (.tmp rfl) .nil, rfl, (hS20.taken 0)⟩
  · skip
    rw [if_neg (not_t hc)] at hm
    refine WP.skip ?_
    refine WP.seq ?_
    refine WP.region ?_
    refine RW.run ttok 1 rfl ?_
    refine RW.load1 ttok rfl rfl rfl rfl rfl ((hS20.bring 0 rfl).box) 4 rfl rfl rfl rfl ?_
    refine RW.run ttok 1 rfl ?_
    obtain ⟨r21, hx22, hm⟩ := bind_some hm
    refine RW.call rfl rfl rfl enters212 (laws_szWordS_ok (hE.trans hS20.ext) h6 hx22) (fun v23 w24 hR25 => ?_)
    obtain ⟨rfl, hR26⟩ := hR25
    have hS27 := hS20.join hR26
    refine RW.run ttok 1 rfl ?_
    refine RW.nil ?_
    refine WP.seq ?_
    refine WP.seq ?_
    refine WP.region ?_
    refine RW.run ttok 2 rfl ?_
    refine RW.nil ?_
    refine WP.cond (decide (r21 < 0)) rfl (fun hc => ?_) (fun hc => ?_)
    · skip
      rw [if_pos hc] at hm
      refine WP.seq ?_
      refine WP.region ?_
      refine RW.run ttok 1 rfl ?_
      refine RW.nil ?_
      refine WP.ret ?_
      cases hm
      exact ⟨_, .cons (.tmp rfl) .nil, rfl, (hS27.taken 0)⟩
    · skip
      rw [if_neg (not_t hc)] at hm
      refine WP.skip ?_
      refine WP.seq ?_
      refine WP.region ?_
      refine RW.run ttok 2 rfl ?_
      refine RW.nil ?_
      refine WP.ret ?_
      cases hm
      exact ⟨_, .cons (.tmp rfl) .nil, rfl, (hS27.taken 0)⟩

theorem enters78 : Enters Try.prog 78 := ⟨_, _, Try.func78, rfl, by kernel_rfl⟩
def m_laws_szCellS_j1 (fuel : Nat) (t2 : Int) : Option Int := some t2
def m_laws_szCellS_b1 (fuel : Nat) (x0 : (List D.Cell)) (s1 : Int × Int) : Option (Rd (Int × Int) (Int) (Int)) := (if (decide (s1.2 < (x0.length : Int))) = true then ((idx x0 s1.2).bind fun x19 => ((m_laws_szCell fuel x19 s1.1).bind fun r32 => (if (decide (r32 < 0)) = true then some (.ret (-1)) else some (.next (r32, w64 (s1.2 + 1)))))) else some (.brk s1.1))
def m_laws_szCellS (fuel : Nat) (x0 : (List D.Cell)) (x1 : Int) : Option (Int) := (if (decide ((w64 (x1 - (x0.length : Int))) < 0)) = true then some (-1) else ((iter (m_laws_szCellS_b1 fuel x0) fuel (w64 (x1 - (x0.length : Int)), 0)).bind fun o => aft o (m_laws_szCellS_j1 fuel)))

set_option maxRecDepth 100000 in
theorem laws_szCellS_ok {W w : World} (hE : Ext W w) {A0_ : Option Addr} {k0_ : Nat} {x0 : (List D.Cell)} {x1 : Int} (h0_ : ty68.ro W [.slice A0_ x0.length k0_] x0) {fuel : Nat} {r : Int} (hm : m_laws_szCellS fuel x0 x1 = some r) :
    Calls Try.prog 78 ⟨[.slice A0_ x0.length k0_, .int .i64 x1]⟩ w (Ret fun v w8 => v = .int .i64 r ∧ St w w8 []) := by
  refine Calls.into Try.func78 rfl 27 rfl rfl _ rfl ?_
  unfold m_laws_szCellS at hm
  have hS := St.start w
  refine WP.seq ?_
  refine WP.region ?_
  refine RW.run ttok 1 rfl ?_
  refine RW.nil ?_
  refine WP.seq ?_
  refine WP.region ?_
  refine RW.run ttok 5 rfl ?_
  refine RW.nil ?_
  refine WP.seq ?_
  refine WP.seq ?_
  refine WP.region ?_
  refine RW.run ttok 2 rfl ?_
  refine RW.nil ?_
  refine WP.cond (decide ((w64 (x1 - (x0.length : Int))) < 0)) rfl (fun hc => ?_) (fun hc => ?_)
  · skip
    rw [if_pos hc] at hm
    refine WP.seq ?_
    refine WP.region ?_
    refine RW.run ttok 1 rfl ?_
    refine RW.nil ?_
    refine WP.ret ?_
    cases hm
    exact ⟨_, .cons (.tmp rfl) .nil, rfl, hS⟩
  · skip
    rw [if_neg (not_t hc)] at hm
    refine WP.skip ?_
    refine WP.seq ?_
    refine WP.seq ?_
    refine WP.region ?_
    refine RW.run ttok 1 rfl ?_
    refine RW.nil ?_
    obtain ⟨o10, hl11, hm⟩ := bind_some hm
    refine WP.cut (fun (t2 : Int) F w9 => o10 = .inl t2 ∧ Ext w w9 ∧ St w w9 [] ∧ F = [(1, .int .i64 t2)]) ?_ ?_
    · skip
      rintro t2 F w7 ⟨ho13, hE6, hS12, rfl⟩
      subst ho13
      rw [aft_inl] at hm
      unfold m_laws_szCellS_j1 at hm
      refine WP.seq ?_
      refine WP.region ?_
      refine RW.run ttok 2 rfl ?_
      refine RW.nil ?_
      refine WP.ret ?_
      cases hm
      exact ⟨_, .cons (.tmp rfl) .nil, rfl, hS12⟩
    · skip
      refine WP.block ?_
      refine WP.weak [(0, .slice A0_ x0.length k0_), (1, .int .i64 (w64 (x1 - (x0.length : Int)))), (5, .int .i64 0)] ⟨rfl, rfl, rfl, trivial⟩ ?_
      refine WP.iter (fun (s1 : Int × Int) F w9 => Ext w w9 ∧ St w w9 [] ∧ F = [(0, .slice A0_ x0.length k0_), (1, .int .i64 s1.1), (5, .int .i64 s1.2)]) _ hl11 ⟨(Ext.refl _), hS, rfl⟩ ?_
      rintro s1 F w18 _ o16 ⟨hE5, hS17, rfl⟩ hb14 ho15
      unfold m_laws_szCellS_b1 at hb14
      refine WP.seq ?_
      refine WP.seq ?_
      refine WP.region ?_
      refine RW.run ttok 4 rfl ?_
      refine RW.nil ?_
      refine WP.cond (decide (s1.2 < (x0.length : Int))) rfl (fun hc => ?_) (fun hc => ?_)
      · skip
        rw [if_pos hc] at hb14
        refine WP.skip ?_
        refine WP.seq ?_
        refine WP.block ?_
        refine WP.seq ?_
        refine WP.region ?_
        refine RW.run ttok 2 rfl ?_
        obtain ⟨x19, hx20, hb14⟩ := bind_some hb14
        refine RW.idx ttok (hE.trans hS17.ext) rfl rfl rfl rfl rfl rfl (by decide) rfl rfl h0_ (idx_some hx20).1 (idx_some hx20).2 rfl rfl (fun p21 es22 ha23 hr24 => ?_)
        obtain ⟨A25, k26, A28, k29, e31, h27, h30⟩ := ty210_open hr24; subst e31
        refine RW.loadN ttok rfl rfl rfl rfl rfl (At.ext (hE.trans hS17.ext) ha23) rfl rfl rfl ?_
        refine RW.run ttok 1 rfl ?_
        obtain ⟨r32, hx33, hb14⟩ := bind_some hb14
        refine RW.call rfl rfl rfl enters142 (laws_szCell_ok (hE.trans hS17.ext) hr24 hx33) (fun v34 w35 hR36 => ?_)
        obtain ⟨rfl, hR37⟩ := hR36
        have hS38 := hS17.join hR37
        refine RW.run ttok 1 rfl ?_
        refine RW.nil ?_
        refine WP.seq ?_
        refine WP.region ?_
        refine RW.run ttok 2 rfl ?_
        refine RW.nil ?_
        refine WP.cond (decide (r32 < 0)) rfl (fun hc => ?_) (fun hc => ?_)
        · skip
          rw [if_pos hc] at hb14
          refine WP.seq ?_
          refine WP.region ?_
          refine RW.run ttok 1 rfl ?_
          refine RW.nil ?_
          refine WP.ret ?_
          cases hb14
          cases ho15
          have hm : some _ = some _ := hm
          cases hm
          exact ⟨_, .cons (.tmp rfl) .nil, rfl, hS38⟩
        · skip
          rw [if_neg (not_t hc)] at hb14
          refine WP.skip ?_
          refine WP.region ?_
          refine RW.run ttok 3 rfl ?_
          refine RW.nil ?_
          cases hb14
          exact ⟨_, [(0, .slice A0_ x0.length k0_), (1, .int .i64 r32), (5, .int .i64 (w64 (s1.2 + 1)))], ⟨rfl, rfl, rfl, trivial⟩, rfl, (hE5.trans hR37.ext), hS38, rfl⟩
      · skip
        rw [if_neg (not_t hc)] at hb14
        refine WP.exit ?_
        cases hb14
        exact ⟨_, [(1, .int .i64 s1.1)], ⟨rfl, trivial⟩, ho15, hE5, hS17, rfl⟩

theorem enters79 : Enters Try.prog 79 := ⟨_, _, Try.func79, rfl, by kernel_rfl⟩
def m_laws_szPairS (fuel : Nat) (x0 : (List D.Pair)) (x1 : Int) : Option (Int) := (if (decide ((w64 (x1 - (x0.length : Int))) < 0)) = true then some (-1) else some (w64 (x1 - (x0.length : Int))))

set_option maxRecDepth 100000 in
theorem laws_szPairS_ok {W w : World} (hE : Ext W w) {A0_ : Option Addr} {k0_ : Nat} {x0 : (List D.Pair)} {x1 : Int} (h0_ : ty71.ro W [.slice A0_ x0.length k0_] x0) {fuel : Nat} {r : Int} (hm : m_laws_szPairS fuel x0 x1 = some r) :
    Calls Try.prog 79 ⟨[.slice A0_ x0.length k0_, .int .i64 x1]⟩ w (Ret fun v w8 => v = .int .i64 r ∧ St w w8 []) := by
  refine Calls.into Try.func79 rfl 12 rfl rfl _ rfl ?_
  unfold m_laws_szPairS at hm
  have hS := St.start w
  refine WP.seq ?_
  refine WP.region ?_
  refine RW.run ttok 1 rfl ?_
  refine RW.nil ?_
  refine WP.seq ?_
  refine WP.region ?_
  refine RW.run ttok 5 rfl ?_
  refine RW.nil ?_
  refine WP.seq ?_
  refine WP.seq ?_
  refine WP.region ?_
  refine RW.run ttok 2 rfl ?_
  refine RW.nil ?_
  refine WP.cond (decide ((w64 (x1 - (x0.length : Int))) < 0)) rfl (fun hc => ?_) (fun hc => ?_)
  · skip
    rw [if_pos hc] at hm
    refine WP.seq ?_
    refine WP.region ?_
    refine RW.run ttok 1 rfl ?_
    refine RW.nil ?_
    refine WP.ret ?_
    cases hm
    exact ⟨_, .cons (.tmp rfl) .nil, rfl, hS⟩
  · skip
    rw [if_neg (not_t hc)] at hm
    refine WP.skip ?_
    refine WP.seq ?_
    refine WP.region ?_
    refine RW.run ttok 2 rfl ?_
    refine RW.nil ?_
    refine WP.ret ?_
    cases hm
    exact ⟨_, .cons (.tmp rfl) .nil, rfl, hS⟩

theorem enters35 : Enters Try.prog 35 := ⟨_, _, Try.func35, rfl, by kernel_rfl⟩
def m_laws_szMemory (fuel : Nat) (x0 : D.Memory) (x1 : Int) : Option (Int) := ((m_laws_szCellS fuel x0.Cells x1).bind fun r14 => (if (decide (r14 < 0)) = true then some (-1) else ((m_laws_szPairS fuel x0.Redexes r14).bind fun r21 => (if (decide (r21 < 0)) = true then some (-1) else some r21))))

set_option maxRecDepth 100000 in
theorem laws_szMemory_ok {W w : World} (hE : Ext W w) {c0_ : List Value} {x0 : D.Memory} {x1 : Int} (h0_ : ty73.ro W c0_ x0) {fuel : Nat} {r : Int} (hm : m_laws_szMemory fuel x0 x1 = some r) :
    Calls Try.prog 35 ⟨[.agg ⟨c0_⟩, .int .i64 x1]⟩ w (Ret fun v w8 => v = .int .i64 r ∧ St w w8 []) := by
  obtain ⟨A1, k2, A4, k5, e7, h3, h6⟩ := ty73_open h0_; subst e7
  refine Calls.into Try.func35 rfl 18 rfl rfl _ rfl ?_
  unfold m_laws_szMemory at hm
  have hS := St.start w
  refine WP.seq ?_
  refine WP.region ?_
  refine RW.new ttok hS rfl rfl rfl rfl (fun g10 w11 e12 hS13 => ?_)
  refine RW.run ttok 1 rfl ?_
  refine RW.nil ?_
  refine WP.seq ?_
  refine WP.region ?_
  refine RW.run ttok 1 rfl ?_
  refine RW.load1 ttok rfl rfl rfl rfl rfl ((hS13.bring 0 rfl).box) 0 rfl rfl rfl rfl ?_
  refine RW.run ttok 1 rfl ?_
  obtain ⟨r14, hx15, hm⟩ := bind_some hm
  refine RW.call rfl rfl rfl enters78 (laws_szCellS_ok (hE.trans hS13.ext) h3 hx15) (fun v16 w17 hR18 => ?_)
  obtain ⟨rfl, hR19⟩ := hR18
  have hS20 := hS13.join hR19
  refine RW.run ttok 1 rfl ?_
  refine RW.nil ?_
  refine WP.seq ?_
  refine WP.seq ?_
  refine WP.region ?_
  refine RW.run ttok 2 rfl ?_
  refine RW.nil ?_
  refine WP.cond (decide (r14 < 0)) rfl (fun hc => ?_) (fun hc => ?_)
  · skip
    rw [if_pos hc] at hm
    refine WP.seq ?_
    refine WP.region ?_
    refine RW.run ttok 1 rfl ?_
    refine RW.nil ?_
    refine WP.ret ?_
    cases hm
    exact ⟨_, .cons (.tmp rfl) .nil, rfl, (hS20.taken 0)⟩
  · skip
    rw [if_neg (not_t hc)] at hm
    refine WP.skip ?_
    refine WP.seq ?_
    refine WP.region ?_
    refine RW.run ttok 1 rfl ?_
    refine RW.load1 ttok rfl rfl rfl rfl rfl ((hS20.bring 0 rfl).box) 4 rfl rfl rfl rfl ?_
    refine RW.run ttok 1 rfl ?_
    obtain ⟨r21, hx22, hm⟩ := bind_some hm
    refine RW.call rfl rfl rfl enters79 (laws_szPairS_ok (hE.trans hS20.ext) h6 hx22) (fun v23 w24 hR25 => ?_)
    obtain ⟨rfl, hR26⟩ := hR25
    have hS27 := hS20.join hR26
    refine RW.run ttok 1 rfl ?_
    refine RW.nil ?_
    refine WP.seq ?_
    refine WP.seq ?_
    refine WP.region ?_
    refine RW.run ttok 2 rfl ?_
    refine RW.nil ?_
    refine WP.cond (decide (r21 < 0)) rfl (fun hc => ?_) (fun hc => ?_)
    · skip
      rw [if_pos hc] at hm
      refine WP.seq ?_
      refine WP.region ?_
      refine RW.run ttok 1 rfl ?_
      refine RW.nil ?_
      refine WP.ret ?_
      cases hm
      exact ⟨_, .cons (.tmp rfl) .nil, rfl, (hS27.taken 0)⟩
    · skip
      rw [if_neg (not_t hc)] at hm
      refine WP.skip ?_
      refine WP.seq ?_
      refine WP.region ?_
      refine RW.run ttok 2 rfl ?_
      refine RW.nil ?_
      refine WP.ret ?_
      cases hm
      exact ⟨_, .cons (.tmp rfl) .nil, rfl, (hS27.taken 0)⟩

theorem enters123 : Enters Try.prog 123 := ⟨_, _, Try.func123, rfl, by kernel_rfl⟩
def m_laws_toInt64S_j1 (fuel : Nat) (t11 : (List Int)) : Option (List Int) := some t11
def m_laws_toInt64S_b1 (fuel : Nat) (x0 : (List Int)) (s10 : Int × (List Int)) : Option (Rd (Int × (List Int)) ((List Int)) ((List Int))) := (if (decide (s10.1 < (x0.length : Int))) = true then ((idx x0 s10.1).bind fun x25 => (if decide (0 ≤ s10.1 ∧ s10.1.toNat < s10.2.length) = true then some (.next (w64 (s10.1 + 1), (s10.2.set s10.1.toNat x25))) else none)) else some (.brk s10.2))
def m_laws_toInt64S (fuel : Nat) (x0 : (List Int)) : Option ((List Int)) := (if decide (0 ≤ (x0.length : Int) ∧ (x0.length : Int) ≤ 4294967296) = true then ((iter (m_laws_toInt64S_b1 fuel x0) fuel (0, (List.replicate (x0.length : Int).toNat (0 : Int)))).bind fun o => aft o (m_laws_toInt64S_j1 fuel)) else none)

set_option maxRecDepth 100000 in
theorem laws_toInt64S_ok {W w : World} (hE : Ext W w) {A0_ : Option Addr} {k0_ : Nat} {x0 : (List Int)} (h0_ : ty103.ro W [.slice A0_ x0.length k0_] x0) {fuel : Nat} {r : (List Int)} (hm : m_laws_toInt64S fuel x0 = some r) :
    Calls Try.prog 123 ⟨[.slice A0_ x0.length k0_]⟩ w (Ret fun v w8 => ∃ A0 k0, v = .slice A0 r.length k0 ∧ St w w8 [Own ty103 [.slice A0 r.length k0] r]) := by
  refine Calls.into Try.func123 rfl 22 rfl rfl _ rfl ?_
  unfold m_laws_toInt64S at hm
  have hS := St.start w
  refine WP.seq ?_
  refine WP.region ?_
  refine RW.run ttok 1 rfl ?_
  refine RW.nil ?_
  refine WP.seq ?_
  refine WP.region ?_
  refine RW.run ttok 2 rfl ?_
  by_cases hk1 : decide (0 ≤ (x0.length : Int) ∧ (x0.length : Int) ≤ 4294967296) = true
  case neg => rw [if_neg hk1] at hm; cases hm
  rw [if_pos hk1] at hm
  have hz7 := of_decide_eq_true hk1
  refine RW.make (U := tInt) ttok (0 : Int) hS rfl rfl rfl rfl rfl rfl rfl rfl hz7.1 (by have := hz7.2; show _ * (8 : Int) ≤ _; omega) (by have := hz7.2; simp only [maxLen]; omega) (fun _ => ⟨rfl, rfl⟩) rfl rfl (fun A2 k3 w4 e5 hS6 => ?_)
  refine RW.run ttok 1 rfl ?_
  refine RW.nil ?_
  refine WP.seq ?_
  refine WP.seq ?_
  refine WP.region ?_
  refine RW.run ttok 1 rfl ?_
  refine RW.nil ?_
  obtain ⟨o14, hl15, hm⟩ := bind_some hm
  refine WP.cut (fun (t11 : (List Int)) F w9 => o14 = .inl t11 ∧ St w w9 [Own ty103 [.slice A2 (List.replicate (x0.length : Int).toNat (0 : Int)).length k3] t11] ∧ F = [(3, .slice A2 (List.replicate (x0.length : Int).toNat (0 : Int)).length k3)]) ?_ ?_
  · skip
    rintro t11 F w13 ⟨ho17, hS16, rfl⟩
    subst ho17
    rw [aft_inl] at hm
    unfold m_laws_toInt64S_j1 at hm
    refine WP.seq ?_
    refine WP.region ?_
    refine RW.run ttok 2 rfl ?_
    refine RW.nil ?_
    refine WP.ret ?_
    cases hm
    have hn18 := (hS16.bring 0 rfl).lenEq
    have hS19 := (hS16.bring 0 rfl).reLen hn18
    exact ⟨_, .cons (.tmp rfl) .nil, A2, k3, (by first | (simp only [hn18]; done) | (simp only [hn18]; rfl)), hS19⟩
  · skip
    refine WP.block ?_
    refine WP.weak [(0, .slice A0_ x0.length k0_), (3, .slice A2 (List.replicate (x0.length : Int).toNat (0 : Int)).length k3), (4, .int .i64 0)] ⟨rfl, rfl, rfl, trivial⟩ ?_
    refine WP.iter (fun (s10 : Int × (List Int)) F w9 => St w w9 [Own ty103 [.slice A2 (List.replicate (x0.length : Int).toNat (0 : Int)).length k3] s10.2] ∧ F = [(0, .slice A0_ x0.length k0_), (3, .slice A2 (List.replicate (x0.length : Int).toNat (0 : Int)).length k3), (4, .int .i64 s10.1)]) _ hl15 ⟨hS6, rfl⟩ ?_
    rintro s10 F w24 _ o22 ⟨hS23, rfl⟩ hb20 ho21
    unfold m_laws_toInt64S_b1 at hb20
    refine WP.seq ?_
    refine WP.seq ?_
    refine WP.region ?_
    refine RW.run ttok 4 rfl ?_
    refine RW.nil ?_
    refine WP.cond (decide (s10.1 < (x0.length : Int))) rfl (fun hc => ?_) (fun hc => ?_)
    · skip
      rw [if_pos hc] at hb20
      refine WP.skip ?_
      refine WP.seq ?_
      refine WP.block ?_
      refine WP.region ?_
      refine RW.run ttok 4 rfl ?_
      obtain ⟨x25, hx26, hb20⟩ := bind_some hb20
      refine RW.idx ttok (hE.trans hS23.ext) rfl rfl rfl rfl rfl rfl (by decide) rfl rfl h0_ (idx_some hx26).1 (idx_some hx26).2 rfl rfl (fun p27 es28 ha29 hr30 => ?_)
      cases hr30
      refine RW.load1 ttok rfl rfl rfl rfl rfl (At.ext (hE.trans hS23.ext) ha29) 0 rfl rfl rfl rfl ?_
      have hS31 := hS23.bring 0 rfl
      by_cases hk32 : decide (0 ≤ s10.1 ∧ s10.1.toNat < s10.2.length) = true
      case neg => rw [if_neg hk32] at hb20; cases hb20
      rw [if_pos hk32] at hb20
      have hb33 := of_decide_eq_true hk32
      refine RW.idxOwnN ttok hS31 rfl rfl rfl rfl rfl rfl rfl rfl hb33.1 hb33.2 rfl rfl (fun q34 hq35 => ?_)
      have hS36 := hS31.flat (T := tInt) (cs := [.int .i64 x25]) (x := x25) ⟨rfl, rfl⟩
      have hS37 := hS36.bring 1 rfl
      refine RW.storeElN ttok hS37 rfl rfl rfl rfl rfl rfl hb33.2 hq35 rfl rfl (fun w38 hS39 => ?_)
      refine RW.nil ?_
      refine WP.region ?_
      refine RW.run ttok 3 rfl ?_
      refine RW.nil ?_
      cases hb20
      exact ⟨_, [(0, .slice A0_ x0.length k0_), (3, .slice A2 (List.replicate (x0.length : Int).toNat (0 : Int)).length k3), (4, .int .i64 (w64 (s10.1 + 1)))], ⟨rfl, rfl, rfl, trivial⟩, rfl, hS39, rfl⟩
    · skip
      rw [if_neg (not_t hc)] at hb20
      refine WP.exit ?_
      cases hb20
      exact ⟨_, [(3, .slice A2 (List.replicate (x0.length : Int).toNat (0 : Int)).length k3)], ⟨rfl, trivial⟩, ho21, hS23, rfl⟩

theorem enters83 : Enters Try.prog 83 := ⟨_, _, Try.func83, rfl, by kernel_rfl⟩
def m_laws_toWord (fuel : Nat) (x0 : D.Word) : Option (D.Word) := some (⟨x0.Tag, x0.At⟩ : D.Word)

set_option maxRecDepth 100000 in
theorem laws_toWord_ok {W w : World} (hE : Ext W w) {c0_ : List Value} {x0 : D.Word} (h0_ : ty70.ro W c0_ x0) {fuel : Nat} {r : D.Word} (hm : m_laws_toWord fuel x0 = some r) :
    Calls Try.prog 83 ⟨[.agg ⟨c0_⟩]⟩ w (Ret fun v w8 => v = .agg ⟨[.int .i64 r.Tag, .int .i64 r.At]⟩ ∧ St w w8 []) := by
  have e1 := ty70_open h0_; subst e1
  refine Calls.into Try.func83 rfl 11 rfl rfl _ rfl ?_
  unfold m_laws_toWord at hm
  have hS := St.start w
  refine WP.seq ?_
  refine WP.region ?_
  refine RW.new ttok hS rfl rfl rfl rfl (fun g2 w3 e4 hS5 => ?_)
  refine RW.new ttok hS5 rfl rfl rfl rfl (fun g6 w7 e10 hS11 => ?_)
  refine RW.nil ?_
  refine WP.seq ?_
  refine WP.region ?_
  refine RW.new ttok hS11 rfl rfl rfl rfl (fun g12 w13 e14 hS15 => ?_)
  refine RW.nil ?_
  refine WP.seq ?_
  refine WP.region ?_
  refine RW.run ttok 1 rfl ?_
  refine RW.load1 ttok rfl rfl rfl rfl rfl ((hS15.bring 2 rfl).box) 0 rfl rfl rfl rfl ?_
  refine RW.run ttok 1 rfl ?_
  have hS16 := hS15.bring 0 rfl
  refine RW.store ttok (A := []) hS16 rfl rfl rfl rfl rfl 0 rfl rfl rfl rfl rfl (fun w17 hS18 => ?_)
  refine RW.nil ?_
  refine WP.seq ?_
  refine WP.region ?_
  refine RW.run ttok 1 rfl ?_
  refine RW.load1 ttok rfl rfl rfl rfl rfl ((hS18.bring 2 rfl).box) 1 rfl rfl rfl rfl ?_
  refine RW.run ttok 1 rfl ?_
  have hS19 := hS18.bring 0 rfl
  refine RW.store ttok (A := []) hS19 rfl rfl rfl rfl rfl 1 rfl rfl rfl rfl rfl (fun w20 hS21 => ?_)
  refine RW.nil ?_
  refine WP.seq ?_
  refine WP.region ?_
  refine RW.loadN ttok rfl rfl rfl rfl rfl ((hS21.bring 0 rfl).box) rfl rfl rfl ?_
  have hS22 := hS21.bring 1 rfl
  refine RW.store ttok (A := []) hS22 rfl rfl rfl rfl rfl 0 rfl rfl rfl rfl rfl (fun w23 hS24 => ?_)
  refine RW.nil ?_
  refine WP.ret ?_
  cases hm
  exact ⟨_, .cons (ResIs.agg ttok rfl rfl rfl ((hS24.bring 0 rfl).box) rfl) .nil, rfl, (hS24.taken 0)⟩

theorem enters214 : Enters Try.prog 214 := ⟨_, _, Try.func214, rfl, by kernel_rfl⟩
def m_laws_toWordS_j1 (fuel : Nat) (t11 : (List D.Word)) : Option (List D.Word) := some t11
def m_laws_toWordS_b1 (fuel : Nat) (x0 : (List D.Word)) (s10 : Int × (List D.Word)) : Option (Rd (Int × (List D.Word)) ((List D.Word)) ((List D.Word))) := (if (decide (s10.1 < (x0.length : Int))) = true then ((idx x0 s10.1).bind fun x25 => ((m_laws_toWord fuel x25).bind fun r32 => (if decide (0 ≤ s10.1 ∧ s10.1.toNat < s10.2.length) = true then some (.next (w64 (s10.1 + 1), (s10.2.set s10.1.toNat r32))) else none))) else some (.brk s10.2))
def m_laws_toWordS (fuel : Nat) (x0 : (List D.Word)) : Option ((List D.Word)) := (if decide (0 ≤ (x0.length : Int) ∧ (x0.length : Int) ≤ 4294967296) = true then ((iter (m_laws_toWordS_b1 fuel x0) fuel (0, (List.replicate (x0.length : Int).toNat (⟨(0 : Int), (0 : Int)⟩ : D.Word)))).bind fun o => aft o (m_laws_toWordS_j1 fuel)) else none)

set_option maxRecDepth 100000 in
theorem laws_toWordS_ok {W w : World} (hE : Ext W w) {A0_ : Option Addr} {k0_ : Nat} {x0 : (List D.Word)} (h0_ : ty208.ro W [.slice A0_ x0.length k0_] x0) {fuel : Nat} {r : (List D.Word)} (hm : m_laws_toWordS fuel x0 = some r) :
    Calls Try.prog 214 ⟨[.slice A0_ x0.length k0_]⟩ w (Ret fun v w8 => ∃ A0 k0, v = .slice A0 r.length k0 ∧ St w w8 [Own ty155 [.slice A0 r.length k0] r]) := by
  refine Calls.into Try.func214 rfl 23 rfl rfl _ rfl ?_
  unfold m_laws_toWordS at hm
  have hS := St.start w
  refine WP.seq ?_
  refine WP.region ?_
  refine RW.run ttok 1 rfl ?_
  refine RW.nil ?_
  refine WP.seq ?_
  refine WP.region ?_
  refine RW.run ttok 2 rfl ?_
  by_cases hk1 : decide (0 ≤ (x0.length : Int) ∧ (x0.length : Int) ≤ 4294967296) = true
  case neg => rw [if_neg hk1] at hm; cases hm
  rw [if_pos hk1] at hm
  have hz7 := of_decide_eq_true hk1
  refine RW.make (U := ty77) ttok (⟨(0 : Int), (0 : Int)⟩ : D.Word) hS rfl rfl rfl rfl rfl rfl rfl rfl hz7.1 (by have := hz7.2; show _ * (16 : Int) ≤ _; omega) (by have := hz7.2; simp only [maxLen]; omega) (fun _ => (ty77_ownI (c := (⟨(0 : Int), (0 : Int)⟩ : D.Word)) rfl)) rfl rfl (fun A2 k3 w4 e5 hS6 => ?_)
  refine RW.run ttok 1 rfl ?_
  refine RW.nil ?_
  refine WP.seq ?_
  refine WP.seq ?_
  refine WP.region ?_
  refine RW.run ttok 1 rfl ?_
  refine RW.nil ?_
  obtain ⟨o14, hl15, hm⟩ := bind_some hm
  refine WP.cut (fun (t11 : (List D.Word)) F w9 => o14 = .inl t11 ∧ St w w9 [Own ty155 [.slice A2 (List.replicate (x0.length : Int).toNat (⟨(0 : Int), (0 : Int)⟩ : D.Word)).length k3] t11] ∧ F = [(3, .slice A2 (List.replicate (x0.length : Int).toNat (⟨(0 : Int), (0 : Int)⟩ : D.Word)).length k3)]) ?_ ?_
  · skip
    rintro t11 F w13 ⟨ho17, hS16, rfl⟩
    subst ho17
    rw [aft_inl] at hm
    unfold m_laws_toWordS_j1 at hm
    refine WP.seq ?_
    refine WP.region ?_
    refine RW.run ttok 2 rfl ?_
    refine RW.nil ?_
    refine WP.ret ?_
    cases hm
    have hn18 := (hS16.bring 0 rfl).lenEq
    have hS19 := (hS16.bring 0 rfl).reLen hn18
    exact ⟨_, .cons (.tmp rfl) .nil, A2, k3, (by first | (simp only [hn18]; done) | (simp only [hn18]; rfl)), hS19⟩
  · skip
    refine WP.block ?_
    refine WP.weak [(0, .slice A0_ x0.length k0_), (3, .slice A2 (List.replicate (x0.length : Int).toNat (⟨(0 : Int), (0 : Int)⟩ : D.Word)).length k3), (4, .int .i64 0)] ⟨rfl, rfl, rfl, trivial⟩ ?_
    refine WP.iter (fun (s10 : Int × (List D.Word)) F w9 => St w w9 [Own ty155 [.slice A2 (List.replicate (x0.length : Int).toNat (⟨(0 : Int), (0 : Int)⟩ : D.Word)).length k3] s10.2] ∧ F = [(0, .slice A0_ x0.length k0_), (3, .slice A2 (List.replicate (x0.length : Int).toNat (⟨(0 : Int), (0 : Int)⟩ : D.Word)).length k3), (4, .int .i64 s10.1)]) _ hl15 ⟨hS6, rfl⟩ ?_
    rintro s10 F w24 _ o22 ⟨hS23, rfl⟩ hb20 ho21
    unfold m_laws_toWordS_b1 at hb20
    refine WP.seq ?_
    refine WP.seq ?_
    refine WP.region ?_
    refine RW.run ttok 4 rfl ?_
    refine RW.nil ?_
    refine WP.cond (decide (s10.1 < (x0.length : Int))) rfl (fun hc => ?_) (fun hc => ?_)
    · skip
      rw [if_pos hc] at hb20
      refine WP.skip ?_
      refine WP.seq ?_
      refine WP.block ?_
      refine WP.region ?_
      refine RW.run ttok 4 rfl ?_
      obtain ⟨x25, hx26, hb20⟩ := bind_some hb20
      refine RW.idx ttok (hE.trans hS23.ext) rfl rfl rfl rfl rfl rfl (by decide) rfl rfl h0_ (idx_some hx26).1 (idx_some hx26).2 rfl rfl (fun p27 es28 ha29 hr30 => ?_)
      have e31 := ty70_open hr30; subst e31
      refine RW.loadN ttok rfl rfl rfl rfl rfl (At.ext (hE.trans hS23.ext) ha29) rfl rfl rfl ?_
      obtain ⟨r32, hx33, hb20⟩ := bind_some hb20
      refine RW.call rfl rfl rfl enters83 (laws_toWord_ok (hE.trans hS23.ext) hr30 hx33) (fun v34 w35 hR36 => ?_)
      obtain ⟨rfl, hR37⟩ := hR36
      have hS38 := hS23.join hR37
      have hS39 := hS38.bring 0 rfl
      by_cases hk40 : decide (0 ≤ s10.1 ∧ s10.1.toNat < s10.2.length) = true
      case neg => rw [if_neg hk40] at hb20; cases hb20
      rw [if_pos hk40] at hb20
      have hb41 := of_decide_eq_true hk40
      refine RW.idxOwnN ttok hS39 rfl rfl rfl rfl rfl rfl rfl rfl hb41.1 hb41.2 rfl rfl (fun q42 hq43 => ?_)
      have hS44 := ty77_shutS (c := r32) (B := _) hS39
      have hS45 := hS44.bring 1 rfl
      refine RW.storeElN ttok hS45 rfl rfl rfl rfl rfl rfl hb41.2 hq43 rfl rfl (fun w46 hS47 => ?_)
      refine RW.nil ?_
      refine WP.region ?_
      refine RW.run ttok 3 rfl ?_
      refine RW.nil ?_
      cases hb20
      exact ⟨_, [(0, .slice A0_ x0.length k0_), (3, .slice A2 (List.replicate (x0.length : Int).toNat (⟨(0 : Int), (0 : Int)⟩ : D.Word)).length k3), (4, .int .i64 (w64 (s10.1 + 1)))], ⟨rfl, rfl, rfl, trivial⟩, rfl, hS47, rfl⟩
    · skip
      rw [if_neg (not_t hc)] at hb20
      refine WP.exit ?_
      cases hb20
      exact ⟨_, [(3, .slice A2 (List.replicate (x0.length : Int).toNat (⟨(0 : Int), (0 : Int)⟩ : D.Word)).length k3)], ⟨rfl, trivial⟩, ho21, hS23, rfl⟩

theorem enters145 : Enters Try.prog 145 := ⟨_, _, Try.func145, rfl, by kernel_rfl⟩
def m_laws_toCell (fuel : Nat) (x0 : D.Cell) : Option (D.Cell) := ((m_laws_toInt64S fuel x0.Data).bind fun r31 => ((m_laws_toWordS fuel x0.Words).bind fun r43 => some (⟨x0.Kind, x0.Level, x0.Value, r31, r43⟩ : D.Cell)))

set_option maxRecDepth 100000 in
theorem laws_toCell_ok {W w : World} (hE : Ext W w) {c0_ : List Value} {x0 : D.Cell} (h0_ : ty210.ro W c0_ x0) {fuel : Nat} {r : D.Cell} (hm : m_laws_toCell fuel x0 = some r) :
    Calls Try.prog 145 ⟨[.agg ⟨c0_⟩]⟩ w (Ret fun v w8 => ∃ A0 k0 A1 k1, v = .agg ⟨[.int .i64 r.Kind, .int .i64 r.Level, .int .i64 r.Value, .slice A0 r.Data.length k0, .slice A1 r.Words.length k1]⟩ ∧ St w w8 [Own ty103 [.slice A0 r.Data.length k0] r.Data, Own ty155 [.slice A1 r.Words.length k1] r.Words]) := by
  obtain ⟨A1, k2, A4, k5, e7, h3, h6⟩ := ty210_open h0_; subst e7
  refine Calls.into Try.func145 rfl 22 rfl rfl _ rfl ?_
  unfold m_laws_toCell at hm
  have hS := St.start w
  refine WP.seq ?_
  refine WP.region ?_
  refine RW.new ttok hS rfl rfl rfl rfl (fun g10 w11 e12 hS13 => ?_)
  refine RW.new ttok hS13 rfl rfl rfl rfl (fun g14 w15 e16 hS17 => ?_)
  refine RW.nil ?_
  refine WP.seq ?_
  refine WP.region ?_
  refine RW.new ttok hS17 rfl rfl rfl rfl (fun g18 w19 e20 hS21 => ?_)
  refine RW.nil ?_
  refine WP.seq ?_
  refine WP.region ?_
  refine RW.run ttok 1 rfl ?_
  refine RW.load1 ttok rfl rfl rfl rfl rfl ((hS21.bring 2 rfl).box) 0 rfl rfl rfl rfl ?_
  refine RW.run ttok 1 rfl ?_
  have hS22 := hS21.bring 0 rfl
  refine RW.store ttok (A := []) hS22 rfl rfl rfl rfl rfl 0 rfl rfl rfl rfl rfl (fun w23 hS24 => ?_)
  refine RW.nil ?_
  refine WP.seq ?_
  refine WP.region ?_
  refine RW.run ttok 1 rfl ?_
  refine RW.load1 ttok rfl rfl rfl rfl rfl ((hS24.bring 2 rfl).box) 1 rfl rfl rfl rfl ?_
  refine RW.run ttok 1 rfl ?_
  have hS25 := hS24.bring 0 rfl
  refine RW.store ttok (A := []) hS25 rfl rfl rfl rfl rfl 1 rfl rfl rfl rfl rfl (fun w26 hS27 => ?_)
  refine RW.nil ?_
  refine WP.seq ?_
  refine WP.region ?_
  refine RW.run ttok 1 rfl ?_
  refine RW.load1 ttok rfl rfl rfl rfl rfl ((hS27.bring 2 rfl).box) 2 rfl rfl rfl rfl ?_
  refine RW.run ttok 1 rfl ?_
  have hS28 := hS27.bring 0 rfl
  refine RW.store ttok (A := []) hS28 rfl rfl rfl rfl rfl 2 rfl rfl rfl rfl rfl (fun w29 hS30 => ?_)
  refine RW.nil ?_
  refine WP.seq ?_
  refine WP.region ?_
  refine RW.run ttok 1 rfl ?_
  refine RW.load1 ttok rfl rfl rfl rfl rfl ((hS30.bring 2 rfl).box) 3 rfl rfl rfl rfl ?_
  obtain ⟨r31, hx32, hm⟩ := bind_some hm
  refine RW.call rfl rfl rfl enters123 (laws_toInt64S_ok (hE.trans hS30.ext) h3 hx32) (fun v33 w34 hR35 => ?_)
  obtain ⟨A36, k37, rfl, hR38⟩ := hR35
  have hS39 := hS30.join hR38
  refine RW.run ttok 1 rfl ?_
  have hS40 := hS39.bring 1 rfl
  refine RW.store ttok (A := []) hS40 rfl rfl rfl rfl rfl 3 rfl rfl rfl rfl rfl (fun w41 hS42 => ?_)
  refine RW.nil ?_
  refine WP.seq ?_
  refine WP.region ?_
  refine RW.run ttok 1 rfl ?_
  refine RW.load1 ttok rfl rfl rfl rfl rfl ((hS42.bring 3 rfl).box) 4 rfl rfl rfl rfl ?_
  obtain ⟨r43, hx44, hm⟩ := bind_some hm
  refine RW.call rfl rfl rfl enters214 (laws_toWordS_ok (hE.trans hS42.ext) h6 hx44) (fun v45 w46 hR47 => ?_)
  obtain ⟨A48, k49, rfl, hR50⟩ := hR47
  have hS51 := hS42.join hR50
  refine RW.run ttok 1 rfl ?_
  have hS52 := hS51.bring 1 rfl
  refine RW.store ttok (A := []) hS52 rfl rfl rfl rfl rfl 4 rfl rfl rfl rfl rfl (fun w53 hS54 => ?_)
  refine RW.nil ?_
  refine WP.seq ?_
  refine WP.region ?_
  refine RW.loadN ttok rfl rfl rfl rfl rfl ((hS54.bring 0 rfl).box) rfl rfl rfl ?_
  have hS55 := hS54.bring 3 rfl
  refine RW.store ttok (A := []) hS55 rfl rfl rfl rfl rfl 0 rfl rfl rfl rfl rfl (fun w56 hS57 => ?_)
  refine RW.nil ?_
  refine WP.ret ?_
  cases hm
  exact ⟨_, .cons (ResIs.agg ttok rfl rfl rfl ((hS57.bring 0 rfl).box) rfl) .nil, A36, k37, A48, k49, rfl, (((hS57.bring 2 rfl).bring 3 rfl).taken 2)⟩

theorem enters82 : Enters Try.prog 82 := ⟨_, _, Try.func82, rfl, by kernel_rfl⟩
def m_laws_toCellS_j1 (fuel : Nat) (t11 : (List D.Cell)) : Option (List D.Cell) := some t11
def m_laws_toCellS_b1 (fuel : Nat) (x0 : (List D.Cell)) (s10 : Int × (List D.Cell)) : Option (Rd (Int × (List D.Cell)) ((List D.Cell)) ((List D.Cell))) := (if (decide (s10.1 < (x0.length : Int))) = true then ((idx x0 s10.1).bind fun x25 => ((m_laws_toCell fuel x25).bind fun r38 => (if decide (0 ≤ s10.1 ∧ s10.1.toNat < s10.2.length) = true then some (.next (w64 (s10.1 + 1), (s10.2.set s10.1.toNat r38))) else none))) else some (.brk s10.2))
def m_laws_toCellS (fuel : Nat) (x0 : (List D.Cell)) : Option ((List D.Cell)) := (if decide (0 ≤ (x0.length : Int) ∧ (x0.length : Int) ≤ 4294967296) = true then ((iter (m_laws_toCellS_b1 fuel x0) fuel (0, (List.replicate (x0.length : Int).toNat (⟨(0 : Int), (0 : Int), (0 : Int), ([] : (List Int)), ([] : (List D.Word))⟩ : D.Cell)))).bind fun o => aft o (m_laws_toCellS_j1 fuel)) else none)

set_option maxRecDepth 100000 in
theorem laws_toCellS_ok {W w : World} (hE : Ext W w) {A0_ : Option Addr} {k0_ : Nat} {x0 : (List D.Cell)} (h0_ : ty68.ro W [.slice A0_ x0.length k0_] x0) {fuel : Nat} {r : (List D.Cell)} (hm : m_laws_toCellS fuel x0 = some r) :
    Calls Try.prog 82 ⟨[.slice A0_ x0.length k0_]⟩ w (Ret fun v w8 => ∃ A0 k0, v = .slice A0 r.length k0 ∧ St w w8 [Own ty76 [.slice A0 r.length k0] r]) := by
  refine Calls.into Try.func82 rfl 23 rfl rfl _ rfl ?_
  unfold m_laws_toCellS at hm
  have hS := St.start w
  refine WP.seq ?_
  refine WP.region ?_
  refine RW.run ttok 1 rfl ?_
  refine RW.nil ?_
  refine WP.seq ?_
  refine WP.region ?_
  refine RW.run ttok 2 rfl ?_
  by_cases hk1 : decide (0 ≤ (x0.length : Int) ∧ (x0.length : Int) ≤ 4294967296) = true
  case neg => rw [if_neg hk1] at hm; cases hm
  rw [if_pos hk1] at hm
  have hz7 := of_decide_eq_true hk1
  refine RW.make (U := ty157) ttok (⟨(0 : Int), (0 : Int), (0 : Int), ([] : (List Int)), ([] : (List D.Word))⟩ : D.Cell) hS rfl rfl rfl rfl rfl rfl rfl rfl hz7.1 (by have := hz7.2; show _ * (72 : Int) ≤ _; omega) (by have := hz7.2; simp only [maxLen]; omega) (fun _ => (ty157_ownI (c := (⟨(0 : Int), (0 : Int), (0 : Int), ([] : (List Int)), ([] : (List D.Word))⟩ : D.Cell)) ⟨[], [], rfl, (slNilOwn tInt 2 _), ⟨[], [], rfl, (slNilOwn ty77 77 _), rfl⟩⟩)) rfl rfl (fun A2 k3 w4 e5 hS6 => ?_)
  refine RW.run ttok 1 rfl ?_
  refine RW.nil ?_
  refine WP.seq ?_
  refine WP.seq ?_
  refine WP.region ?_
  refine RW.run ttok 1 rfl ?_
  refine RW.nil ?_
  obtain ⟨o14, hl15, hm⟩ := bind_some hm
  refine WP.cut (fun (t11 : (List D.Cell)) F w9 => o14 = .inl t11 ∧ St w w9 [Own ty76 [.slice A2 (List.replicate (x0.length : Int).toNat (⟨(0 : Int), (0 : Int), (0 : Int), ([] : (List Int)), ([] : (List D.Word))⟩ : D.Cell)).length k3] t11] ∧ F = [(3, .slice A2 (List.replicate (x0.length : Int).toNat (⟨(0 : Int), (0 : Int), (0 : Int), ([] : (List Int)), ([] : (List D.Word))⟩ : D.Cell)).length k3)]) ?_ ?_
  · skip
    rintro t11 F w13 ⟨ho17, hS16, rfl⟩
    subst ho17
    rw [aft_inl] at hm
    unfold m_laws_toCellS_j1 at hm
    refine WP.seq ?_
    refine WP.region ?_
    refine RW.run ttok 2 rfl ?_
    refine RW.nil ?_
    refine WP.ret ?_
    cases hm
    have hn18 := (hS16.bring 0 rfl).lenEq
    have hS19 := (hS16.bring 0 rfl).reLen hn18
    exact ⟨_, .cons (.tmp rfl) .nil, A2, k3, (by first | (simp only [hn18]; done) | (simp only [hn18]; rfl)), hS19⟩
  · skip
    refine WP.block ?_
    refine WP.weak [(0, .slice A0_ x0.length k0_), (3, .slice A2 (List.replicate (x0.length : Int).toNat (⟨(0 : Int), (0 : Int), (0 : Int), ([] : (List Int)), ([] : (List D.Word))⟩ : D.Cell)).length k3), (4, .int .i64 0)] ⟨rfl, rfl, rfl, trivial⟩ ?_
    refine WP.iter (fun (s10 : Int × (List D.Cell)) F w9 => St w w9 [Own ty76 [.slice A2 (List.replicate (x0.length : Int).toNat (⟨(0 : Int), (0 : Int), (0 : Int), ([] : (List Int)), ([] : (List D.Word))⟩ : D.Cell)).length k3] s10.2] ∧ F = [(0, .slice A0_ x0.length k0_), (3, .slice A2 (List.replicate (x0.length : Int).toNat (⟨(0 : Int), (0 : Int), (0 : Int), ([] : (List Int)), ([] : (List D.Word))⟩ : D.Cell)).length k3), (4, .int .i64 s10.1)]) _ hl15 ⟨hS6, rfl⟩ ?_
    rintro s10 F w24 _ o22 ⟨hS23, rfl⟩ hb20 ho21
    unfold m_laws_toCellS_b1 at hb20
    refine WP.seq ?_
    refine WP.seq ?_
    refine WP.region ?_
    refine RW.run ttok 4 rfl ?_
    refine RW.nil ?_
    refine WP.cond (decide (s10.1 < (x0.length : Int))) rfl (fun hc => ?_) (fun hc => ?_)
    · skip
      rw [if_pos hc] at hb20
      refine WP.skip ?_
      refine WP.seq ?_
      refine WP.block ?_
      refine WP.region ?_
      refine RW.run ttok 4 rfl ?_
      obtain ⟨x25, hx26, hb20⟩ := bind_some hb20
      refine RW.idx ttok (hE.trans hS23.ext) rfl rfl rfl rfl rfl rfl (by decide) rfl rfl h0_ (idx_some hx26).1 (idx_some hx26).2 rfl rfl (fun p27 es28 ha29 hr30 => ?_)
      obtain ⟨A31, k32, A34, k35, e37, h33, h36⟩ := ty210_open hr30; subst e37
      refine RW.loadN ttok rfl rfl rfl rfl rfl (At.ext (hE.trans hS23.ext) ha29) rfl rfl rfl ?_
      obtain ⟨r38, hx39, hb20⟩ := bind_some hb20
      refine RW.call rfl rfl rfl enters145 (laws_toCell_ok (hE.trans hS23.ext) hr30 hx39) (fun v40 w41 hR42 => ?_)
      obtain ⟨A43, k44, A45, k46, rfl, hR47⟩ := hR42
      have hS48 := hS23.join hR47
      have hS49 := hS48.bring 2 rfl
      by_cases hk50 : decide (0 ≤ s10.1 ∧ s10.1.toNat < s10.2.length) = true
      case neg => rw [if_neg hk50] at hb20; cases hb20
      rw [if_pos hk50] at hb20
      have hb51 := of_decide_eq_true hk50
      refine RW.idxOwnN ttok hS49 rfl rfl rfl rfl rfl rfl rfl rfl hb51.1 hb51.2 rfl rfl (fun q52 hq53 => ?_)
      have hS54 := hS49.bring 2 rfl
      have hS55 := hS54.bring 2 rfl
      have hS56 := ty157_shutS (c := r38) (B := _) hS55
      have hS57 := hS56.bring 1 rfl
      refine RW.storeElN ttok hS57 rfl rfl rfl rfl rfl rfl hb51.2 hq53 rfl rfl (fun w58 hS59 => ?_)
      refine RW.nil ?_
      refine WP.region ?_
      refine RW.run ttok 3 rfl ?_
      refine RW.nil ?_
      cases hb20
      exact ⟨_, [(0, .slice A0_ x0.length k0_), (3, .slice A2 (List.replicate (x0.length : Int).toNat (⟨(0 : Int), (0 : Int), (0 : Int), ([] : (List Int)), ([] : (List D.Word))⟩ : D.Cell)).length k3), (4, .int .i64 (w64 (s10.1 + 1)))], ⟨rfl, rfl, rfl, trivial⟩, rfl, hS59, rfl⟩
    · skip
      rw [if_neg (not_t hc)] at hb20
      refine WP.exit ?_
      cases hb20
      exact ⟨_, [(3, .slice A2 (List.replicate (x0.length : Int).toNat (⟨(0 : Int), (0 : Int), (0 : Int), ([] : (List Int)), ([] : (List D.Word))⟩ : D.Cell)).length k3)], ⟨rfl, trivial⟩, ho21, hS23, rfl⟩

theorem enters146 : Enters Try.prog 146 := ⟨_, _, Try.func146, rfl, by kernel_rfl⟩
def m_laws_toPair (fuel : Nat) (x0 : D.Pair) : Option (D.Pair) := some (⟨x0.A, x0.B⟩ : D.Pair)

set_option maxRecDepth 100000 in
theorem laws_toPair_ok {W w : World} (hE : Ext W w) {c0_ : List Value} {x0 : D.Pair} (h0_ : ty216.ro W c0_ x0) {fuel : Nat} {r : D.Pair} (hm : m_laws_toPair fuel x0 = some r) :
    Calls Try.prog 146 ⟨[.agg ⟨c0_⟩]⟩ w (Ret fun v w8 => v = .agg ⟨[.int .i64 r.A, .int .i64 r.B]⟩ ∧ St w w8 []) := by
  have e1 := ty216_open h0_; subst e1
  refine Calls.into Try.func146 rfl 11 rfl rfl _ rfl ?_
  unfold m_laws_toPair at hm
  have hS := St.start w
  refine WP.seq ?_
  refine WP.region ?_
  refine RW.new ttok hS rfl rfl rfl rfl (fun g2 w3 e4 hS5 => ?_)
  refine RW.new ttok hS5 rfl rfl rfl rfl (fun g6 w7 e10 hS11 => ?_)
  refine RW.nil ?_
  refine WP.seq ?_
  refine WP.region ?_
  refine RW.new ttok hS11 rfl rfl rfl rfl (fun g12 w13 e14 hS15 => ?_)
  refine RW.nil ?_
  refine WP.seq ?_
  refine WP.region ?_
  refine RW.run ttok 1 rfl ?_
  refine RW.load1 ttok rfl rfl rfl rfl rfl ((hS15.bring 2 rfl).box) 0 rfl rfl rfl rfl ?_
  refine RW.run ttok 1 rfl ?_
  have hS16 := hS15.bring 0 rfl
  refine RW.store ttok (A := []) hS16 rfl rfl rfl rfl rfl 0 rfl rfl rfl rfl rfl (fun w17 hS18 => ?_)
  refine RW.nil ?_
  refine WP.seq ?_
  refine WP.region ?_
  refine RW.run ttok 1 rfl ?_
  refine RW.load1 ttok rfl rfl rfl rfl rfl ((hS18.bring 2 rfl).box) 1 rfl rfl rfl rfl ?_
  refine RW.run ttok 1 rfl ?_
  have hS19 := hS18.bring 0 rfl
  refine RW.store ttok (A := []) hS19 rfl rfl rfl rfl rfl 1 rfl rfl rfl rfl rfl (fun w20 hS21 => ?_)
  refine RW.nil ?_
  refine WP.seq ?_
  refine WP.region ?_
  refine RW.loadN ttok rfl rfl rfl rfl rfl ((hS21.bring 0 rfl).box) rfl rfl rfl ?_
  have hS22 := hS21.bring 1 rfl
  refine RW.store ttok (A := []) hS22 rfl rfl rfl rfl rfl 0 rfl rfl rfl rfl rfl (fun w23 hS24 => ?_)
  refine RW.nil ?_
  refine WP.ret ?_
  cases hm
  exact ⟨_, .cons (ResIs.agg ttok rfl rfl rfl ((hS24.bring 0 rfl).box) rfl) .nil, rfl, (hS24.taken 0)⟩

theorem enters84 : Enters Try.prog 84 := ⟨_, _, Try.func84, rfl, by kernel_rfl⟩
def m_laws_toPairS_j1 (fuel : Nat) (t11 : (List D.Pair)) : Option (List D.Pair) := some t11
def m_laws_toPairS_b1 (fuel : Nat) (x0 : (List D.Pair)) (s10 : Int × (List D.Pair)) : Option (Rd (Int × (List D.Pair)) ((List D.Pair)) ((List D.Pair))) := (if (decide (s10.1 < (x0.length : Int))) = true then ((idx x0 s10.1).bind fun x25 => ((m_laws_toPair fuel x25).bind fun r32 => (if decide (0 ≤ s10.1 ∧ s10.1.toNat < s10.2.length) = true then some (.next (w64 (s10.1 + 1), (s10.2.set s10.1.toNat r32))) else none))) else some (.brk s10.2))
def m_laws_toPairS (fuel : Nat) (x0 : (List D.Pair)) : Option ((List D.Pair)) := (if decide (0 ≤ (x0.length : Int) ∧ (x0.length : Int) ≤ 4294967296) = true then ((iter (m_laws_toPairS_b1 fuel x0) fuel (0, (List.replicate (x0.length : Int).toNat (⟨(0 : Int), (0 : Int)⟩ : D.Pair)))).bind fun o => aft o (m_laws_toPairS_j1 fuel)) else none)

set_option maxRecDepth 100000 in
theorem laws_toPairS_ok {W w : World} (hE : Ext W w) {A0_ : Option Addr} {k0_ : Nat} {x0 : (List D.Pair)} (h0_ : ty71.ro W [.slice A0_ x0.length k0_] x0) {fuel : Nat} {r : (List D.Pair)} (hm : m_laws_toPairS fuel x0 = some r) :
    Calls Try.prog 84 ⟨[.slice A0_ x0.length k0_]⟩ w (Ret fun v w8 => ∃ A0 k0, v = .slice A0 r.length k0 ∧ St w w8 [Own ty78 [.slice A0 r.length k0] r]) := by
  refine Calls.into Try.func84 rfl 23 rfl rfl _ rfl ?_
  unfold m_laws_toPairS at hm
  have hS := St.start w
  refine WP.seq ?_
  refine WP.region ?_
  refine RW.run ttok 1 rfl ?_
  refine RW.nil ?_
  refine WP.seq ?_
  refine WP.region ?_
  refine RW.run ttok 2 rfl ?_
  by_cases hk1 : decide (0 ≤ (x0.length : Int) ∧ (x0.length : Int) ≤ 4294967296) = true
  case neg => rw [if_neg hk1] at hm; cases hm
  rw [if_pos hk1] at hm
  have hz7 := of_decide_eq_true hk1
  refine RW.make (U := ty139) ttok (⟨(0 : Int), (0 : Int)⟩ : D.Pair) hS rfl rfl rfl rfl rfl rfl rfl rfl hz7.1 (by have := hz7.2; show _ * (16 : Int) ≤ _; omega) (by have := hz7.2; simp only [maxLen]; omega) (fun _ => (ty139_ownI (c := (⟨(0 : Int), (0 : Int)⟩ : D.Pair)) rfl)) rfl rfl (fun A2 k3 w4 e5 hS6 => ?_)
  refine RW.run ttok 1 rfl ?_
  refine RW.nil ?_
  refine WP.seq ?_
  refine WP.seq ?_
  refine WP.region ?_
  refine RW.run ttok 1 rfl ?_
  refine RW.nil ?_
  obtain ⟨o14, hl15, hm⟩ := bind_some hm
  refine WP.cut (fun (t11 : (List D.Pair)) F w9 => o14 = .inl t11 ∧ St w w9 [Own ty78 [.slice A2 (List.replicate (x0.length : Int).toNat (⟨(0 : Int), (0 : Int)⟩ : D.Pair)).length k3] t11] ∧ F = [(3, .slice A2 (List.replicate (x0.length : Int).toNat (⟨(0 : Int), (0 : Int)⟩ : D.Pair)).length k3)]) ?_ ?_
  · skip
    rintro t11 F w13 ⟨ho17, hS16, rfl⟩
    subst ho17
    rw [aft_inl] at hm
    unfold m_laws_toPairS_j1 at hm
    refine WP.seq ?_
    refine WP.region ?_
    refine RW.run ttok 2 rfl ?_
    refine RW.nil ?_
    refine WP.ret ?_
    cases hm
    have hn18 := (hS16.bring 0 rfl).lenEq
    have hS19 := (hS16.bring 0 rfl).reLen hn18
    exact ⟨_, .cons (.tmp rfl) .nil, A2, k3, (by first | (simp only [hn18]; done) | (simp only [hn18]; rfl)), hS19⟩
  · skip
    refine WP.block ?_
    refine WP.weak [(0, .slice A0_ x0.length k0_), (3, .slice A2 (List.replicate (x0.length : Int).toNat (⟨(0 : Int), (0 : Int)⟩ : D.Pair)).length k3), (4, .int .i64 0)] ⟨rfl, rfl, rfl, trivial⟩ ?_
    refine WP.iter (fun (s10 : Int × (List D.Pair)) F w9 => St w w9 [Own ty78 [.slice A2 (List.replicate (x0.length : Int).toNat (⟨(0 : Int), (0 : Int)⟩ : D.Pair)).length k3] s10.2] ∧ F = [(0, .slice A0_ x0.length k0_), (3, .slice A2 (List.replicate (x0.length : Int).toNat (⟨(0 : Int), (0 : Int)⟩ : D.Pair)).length k3), (4, .int .i64 s10.1)]) _ hl15 ⟨hS6, rfl⟩ ?_
    rintro s10 F w24 _ o22 ⟨hS23, rfl⟩ hb20 ho21
    unfold m_laws_toPairS_b1 at hb20
    refine WP.seq ?_
    refine WP.seq ?_
    refine WP.region ?_
    refine RW.run ttok 4 rfl ?_
    refine RW.nil ?_
    refine WP.cond (decide (s10.1 < (x0.length : Int))) rfl (fun hc => ?_) (fun hc => ?_)
    · skip
      rw [if_pos hc] at hb20
      refine WP.skip ?_
      refine WP.seq ?_
      refine WP.block ?_
      refine WP.region ?_
      refine RW.run ttok 4 rfl ?_
      obtain ⟨x25, hx26, hb20⟩ := bind_some hb20
      refine RW.idx ttok (hE.trans hS23.ext) rfl rfl rfl rfl rfl rfl (by decide) rfl rfl h0_ (idx_some hx26).1 (idx_some hx26).2 rfl rfl (fun p27 es28 ha29 hr30 => ?_)
      have e31 := ty216_open hr30; subst e31
      refine RW.loadN ttok rfl rfl rfl rfl rfl (At.ext (hE.trans hS23.ext) ha29) rfl rfl rfl ?_
      obtain ⟨r32, hx33, hb20⟩ := bind_some hb20
      refine RW.call rfl rfl rfl enters146 (laws_toPair_ok (hE.trans hS23.ext) hr30 hx33) (fun v34 w35 hR36 => ?_)
      obtain ⟨rfl, hR37⟩ := hR36
      have hS38 := hS23.join hR37
      have hS39 := hS38.bring 0 rfl
      by_cases hk40 : decide (0 ≤ s10.1 ∧ s10.1.toNat < s10.2.length) = true
      case neg => rw [if_neg hk40] at hb20; cases hb20
      rw [if_pos hk40] at hb20
      have hb41 := of_decide_eq_true hk40
      refine RW.idxOwnN ttok hS39 rfl rfl rfl rfl rfl rfl rfl rfl hb41.1 hb41.2 rfl rfl (fun q42 hq43 => ?_)
      have hS44 := ty139_shutS (c := r32) (B := _) hS39
      have hS45 := hS44.bring 1 rfl
      refine RW.storeElN ttok hS45 rfl rfl rfl rfl rfl rfl hb41.2 hq43 rfl rfl (fun w46 hS47 => ?_)
      refine RW.nil ?_
      refine WP.region ?_
      refine RW.run ttok 3 rfl ?_
      refine RW.nil ?_
      cases hb20
      exact ⟨_, [(0, .slice A0_ x0.length k0_), (3, .slice A2 (List.replicate (x0.length : Int).toNat (⟨(0 : Int), (0 : Int)⟩ : D.Pair)).length k3), (4, .int .i64 (w64 (s10.1 + 1)))], ⟨rfl, rfl, rfl, trivial⟩, rfl, hS47, rfl⟩
    · skip
      rw [if_neg (not_t hc)] at hb20
      refine WP.exit ?_
      cases hb20
      exact ⟨_, [(3, .slice A2 (List.replicate (x0.length : Int).toNat (⟨(0 : Int), (0 : Int)⟩ : D.Pair)).length k3)], ⟨rfl, trivial⟩, ho21, hS23, rfl⟩

theorem enters37 : Enters Try.prog 37 := ⟨_, _, Try.func37, rfl, by kernel_rfl⟩
def m_laws_toMemory (fuel : Nat) (x0 : D.Memory) : Option (D.Memory) := ((m_laws_toCellS fuel x0.Cells).bind fun r22 => ((m_laws_toWord fuel x0.Root).bind fun r37 => ((m_laws_toPairS fuel x0.Redexes).bind fun r47 => some (⟨r22, x0.Free, (⟨r37.Tag, r37.At⟩ : D.Word), r47⟩ : D.Memory))))

set_option maxRecDepth 100000 in
theorem laws_toMemory_ok {W w : World} (hE : Ext W w) {c0_ : List Value} {x0 : D.Memory} (h0_ : ty73.ro W c0_ x0) {fuel : Nat} {r : D.Memory} (hm : m_laws_toMemory fuel x0 = some r) :
    Calls Try.prog 37 ⟨[.agg ⟨c0_⟩]⟩ w (Ret fun v w8 => ∃ A0 k0 A1 k1, v = .agg ⟨[.slice A0 r.Cells.length k0, .int .i64 r.Free, .int .i64 r.Root.Tag, .int .i64 r.Root.At, .slice A1 r.Redexes.length k1]⟩ ∧ St w w8 [Own ty76 [.slice A0 r.Cells.length k0] r.Cells, Own ty78 [.slice A1 r.Redexes.length k1] r.Redexes]) := by
  obtain ⟨A1, k2, A4, k5, e7, h3, h6⟩ := ty73_open h0_; subst e7
  refine Calls.into Try.func37 rfl 20 rfl rfl _ rfl ?_
  unfold m_laws_toMemory at hm
  have hS := St.start w
  refine WP.seq ?_
  refine WP.region ?_
  refine RW.new ttok hS rfl rfl rfl rfl (fun g10 w11 e12 hS13 => ?_)
  refine RW.new ttok hS13 rfl rfl rfl rfl (fun g14 w15 e16 hS17 => ?_)
  refine RW.nil ?_
  refine WP.seq ?_
  refine WP.region ?_
  refine RW.new ttok hS17 rfl rfl rfl rfl (fun g18 w19 e20 hS21 => ?_)
  refine RW.nil ?_
  refine WP.seq ?_
  refine WP.region ?_
  refine RW.run ttok 1 rfl ?_
  refine RW.load1 ttok rfl rfl rfl rfl rfl ((hS21.bring 2 rfl).box) 0 rfl rfl rfl rfl ?_
  obtain ⟨r22, hx23, hm⟩ := bind_some hm
  refine RW.call rfl rfl rfl enters82 (laws_toCellS_ok (hE.trans hS21.ext) h3 hx23) (fun v24 w25 hR26 => ?_)
  obtain ⟨A27, k28, rfl, hR29⟩ := hR26
  have hS30 := hS21.join hR29
  refine RW.run ttok 1 rfl ?_
  have hS31 := hS30.bring 1 rfl
  refine RW.store ttok (A := []) hS31 rfl rfl rfl rfl rfl 0 rfl rfl rfl rfl rfl (fun w32 hS33 => ?_)
  refine RW.nil ?_
  refine WP.seq ?_
  refine WP.region ?_
  refine RW.run ttok 1 rfl ?_
  refine RW.load1 ttok rfl rfl rfl rfl rfl ((hS33.bring 3 rfl).box) 1 rfl rfl rfl rfl ?_
  refine RW.run ttok 1 rfl ?_
  have hS34 := hS33.bring 0 rfl
  refine RW.store ttok (A := []) hS34 rfl rfl rfl rfl rfl 1 rfl rfl rfl rfl rfl (fun w35 hS36 => ?_)
  refine RW.nil ?_
  refine WP.seq ?_
  refine WP.region ?_
  refine RW.run ttok 1 rfl ?_
  refine RW.loadN ttok rfl rfl rfl rfl rfl (At.sub ((hS36.bring 3 rfl).box) 2 2) rfl rfl rfl ?_
  obtain ⟨r37, hx38, hm⟩ := bind_some hm
  refine RW.call rfl rfl rfl enters83 (laws_toWord_ok (hE.trans hS36.ext) (ty70_shut x0.Root) hx38) (fun v39 w40 hR41 => ?_)
  obtain ⟨rfl, hR42⟩ := hR41
  have hS43 := hS36.join hR42
  refine RW.run ttok 1 rfl ?_
  have hS44 := hS43.bring 0 rfl
  refine RW.store ttok (A := []) hS44 rfl rfl rfl rfl rfl 2 rfl rfl rfl rfl rfl (fun w45 hS46 => ?_)
  refine RW.nil ?_
  refine WP.seq ?_
  refine WP.region ?_
  refine RW.run ttok 1 rfl ?_
  refine RW.load1 ttok rfl rfl rfl rfl rfl ((hS46.bring 3 rfl).box) 4 rfl rfl rfl rfl ?_
  obtain ⟨r47, hx48, hm⟩ := bind_some hm
  refine RW.call rfl rfl rfl enters84 (laws_toPairS_ok (hE.trans hS46.ext) h6 hx48) (fun v49 w50 hR51 => ?_)
  obtain ⟨A52, k53, rfl, hR54⟩ := hR51
  have hS55 := hS46.join hR54
  refine RW.run ttok 1 rfl ?_
  have hS56 := hS55.bring 1 rfl
  refine RW.store ttok (A := []) hS56 rfl rfl rfl rfl rfl 4 rfl rfl rfl rfl rfl (fun w57 hS58 => ?_)
  refine RW.nil ?_
  refine WP.seq ?_
  refine WP.region ?_
  refine RW.loadN ttok rfl rfl rfl rfl rfl ((hS58.bring 0 rfl).box) rfl rfl rfl ?_
  have hS59 := hS58.bring 3 rfl
  refine RW.store ttok (A := []) hS59 rfl rfl rfl rfl rfl 0 rfl rfl rfl rfl rfl (fun w60 hS61 => ?_)
  refine RW.nil ?_
  refine WP.ret ?_
  cases hm
  exact ⟨_, .cons (ResIs.agg ttok rfl rfl rfl ((hS61.bring 0 rfl).box) rfl) .nil, A27, k28, A52, k53, rfl, (((hS61.bring 2 rfl).bring 3 rfl).taken 2)⟩

theorem enters80 : Enters Try.prog 80 := ⟨_, _, Try.func80, rfl, by kernel_rfl⟩
def m_spec_l22Asked (fuel : Nat) (x0 : D.Memory) (x1 : Int) : Option (Int) := ((m_spec_l21Ok fuel x0).bind fun r10 => (if (!r10) = true then some 1 else ((m_spec_l00In fuel x1 0 (w64 ((x0.Redexes.length : Int) - 1))).bind fun r17 => (if (!r17) = true then some 2 else some 0))))

set_option maxRecDepth 100000 in
theorem spec_l22Asked_ok {W w : World} (hE : Ext W w) {p0_ : Addr} {c0_ : List Value} {x0 : D.Memory} {x1 : Int} (h0_ : ty80.ro W c0_ x0) (g0_ : At W p0_ c0_) {fuel : Nat} {r : Int} (hm : m_spec_l22Asked fuel x0 x1 = some r) :
    Calls Try.prog 80 ⟨[.pointer (some p0_), .int .i64 x1]⟩ w (Ret fun v w8 => v = .int .i64 r ∧ St w w8 []) := by
  obtain ⟨A1, k2, A4, k5, e7, h3, h6⟩ := ty80_open h0_; subst e7
  refine Calls.into Try.func80 rfl 17 rfl rfl _ rfl ?_
  unfold m_spec_l22Asked at hm
  have hS := St.start w
  refine WP.seq ?_
  refine WP.region ?_
  refine RW.run ttok 1 rfl ?_
  refine RW.nil ?_
  refine WP.seq ?_
  refine WP.seq ?_
  refine WP.region ?_
  refine RW.run ttok 1 rfl ?_
  obtain ⟨r10, hx11, hm⟩ := bind_some hm
  refine RW.call rfl rfl rfl enters91 (spec_l21Ok_ok (hE.trans hS.ext) h0_ g0_ hx11) (fun v12 w13 hR14 => ?_)
  obtain ⟨rfl, hR15⟩ := hR14
  have hS16 := hS.join hR15
  refine RW.run ttok 1 rfl ?_
  refine RW.nil ?_
  refine WP.cond (!r10) rfl (fun hc => ?_) (fun hc => ?_)
  · skip
    rw [if_pos hc] at hm
    refine WP.seq ?_
    refine WP.region ?_
    refine RW.run ttok 1 rfl ?_
    refine RW.nil ?_
    refine WP.ret ?_
    cases hm
    exact ⟨_, .cons (.tmp rfl) .nil, rfl, hS16⟩
  · skip
    rw [if_neg (not_t hc)] at hm
    refine WP.skip ?_
    refine WP.seq ?_
    refine WP.seq ?_
    refine WP.region ?_
    refine RW.run ttok 4 rfl ?_
    refine RW.load1 ttok rfl rfl rfl rfl rfl (At.ext (hE.trans hS16.ext) g0_) 4 rfl rfl rfl rfl ?_
    refine RW.run ttok 2 rfl ?_
    obtain ⟨r17, hx18, hm⟩ := bind_some hm
    refine RW.call rfl rfl rfl enters102 (spec_l00In_ok (hE.trans hS16.ext)  hx18) (fun v19 w20 hR21 => ?_)
    obtain ⟨rfl, hR22⟩ := hR21
    have hS23 := hS16.join hR22
    refine RW.run ttok 1 rfl ?_
    refine RW.nil ?_
    refine WP.cond (!r17) rfl (fun hc => ?_) (fun hc => ?_)
    · skip
      rw [if_pos hc] at hm
      refine WP.seq ?_
      refine WP.region ?_
      refine RW.run ttok 1 rfl ?_
      refine RW.nil ?_
      refine WP.ret ?_
      cases hm
      exact ⟨_, .cons (.tmp rfl) .nil, rfl, hS23⟩
    · skip
      rw [if_neg (not_t hc)] at hm
      refine WP.skip ?_
      refine WP.seq ?_
      refine WP.region ?_
      refine RW.run ttok 1 rfl ?_
      refine RW.nil ?_
      refine WP.ret ?_
      cases hm
      exact ⟨_, .cons (.tmp rfl) .nil, rfl, hS23⟩

theorem enters256 : Enters Try.prog 256 := ⟨_, _, Try.func256, rfl, by kernel_rfl⟩
def m_spec_l10Pair (fuel : Nat) (x0 : Int) (x1 : Int) (x2 : Int) (x3 : Int) : Option (Bool) := ((m_spec_l10Level fuel x0 x1).bind fun r1 => (if r1 = true then ((m_spec_l10Level fuel x2 x3).bind fun r11 => (if r11 = true then (if (x0 != 1) = true then some (x2 != 1) else some false) else some false)) else some false))

set_option maxRecDepth 100000 in
theorem spec_l10Pair_ok {W w : World} (hE : Ext W w) {x0 : Int} {x1 : Int} {x2 : Int} {x3 : Int}  {fuel : Nat} {r : Bool} (hm : m_spec_l10Pair fuel x0 x1 x2 x3 = some r) :
    Calls Try.prog 256 ⟨[.int .i64 x0, .int .i64 x1, .int .i64 x2, .int .i64 x3]⟩ w (Ret fun v w8 => v = .bool r ∧ St w w8 []) := by
  refine Calls.into Try.func256 rfl 25 rfl rfl _ rfl ?_
  unfold m_spec_l10Pair at hm
  have hS := St.start w
  refine WP.seq ?_
  refine WP.region ?_
  refine RW.run ttok 1 rfl ?_
  refine RW.nil ?_
  refine WP.seq ?_
  refine WP.region ?_
  refine RW.run ttok 2 rfl ?_
  obtain ⟨r1, hx2, hm⟩ := bind_some hm
  refine RW.call rfl rfl rfl enters173 (spec_l10Level_ok (hE.trans hS.ext)  hx2) (fun v3 w4 hR5 => ?_)
  obtain ⟨rfl, hR6⟩ := hR5
  have hS7 := hS.join hR6
  refine RW.run ttok 1 rfl ?_
  by_cases hg10 : r1 = true
  · skip
    rw [if_pos hg10] at hm
    refine RW.know 12 rfl (congrArg Value.bool hg10) ?_
    refine RW.run ttok 2 rfl ?_
    obtain ⟨r11, hx12, hm⟩ := bind_some hm
    refine RW.call rfl rfl rfl enters173 (spec_l10Level_ok (hE.trans hS7.ext)  hx12) (fun v13 w14 hR15 => ?_)
    obtain ⟨rfl, hR16⟩ := hR15
    have hS17 := hS7.join hR16
    refine RW.run ttok 2 rfl ?_
    by_cases hg18 : r11 = true
    · skip
      rw [if_pos hg18] at hm
      refine RW.know 17 rfl (congrArg Value.bool hg18) ?_
      refine RW.run ttok 4 rfl ?_
      by_cases hg19 : (x0 != 1) = true
      · skip
        rw [if_pos hg19] at hm
        refine RW.know 21 rfl (congrArg Value.bool hg19) ?_
        refine RW.run ttok 4 rfl ?_
        refine RW.nil ?_
        refine WP.ret ?_
        cases hm
        exact ⟨_, .cons (.tmp rfl) .nil, rfl, hS17⟩
      · skip
        rw [if_neg hg19] at hm
        refine RW.know 21 rfl (congrArg Value.bool (Bool.eq_false_iff.2 hg19)) ?_
        refine RW.run ttok 4 rfl ?_
        refine RW.nil ?_
        refine WP.ret ?_
        cases hm
        exact ⟨_, .cons (.tmp rfl) .nil, rfl, hS17⟩
    · skip
      rw [if_neg hg18] at hm
      refine RW.know 17 rfl (congrArg Value.bool (Bool.eq_false_iff.2 hg18)) ?_
      refine RW.run ttok 8 rfl ?_
      refine RW.nil ?_
      refine WP.ret ?_
      cases hm
      exact ⟨_, .cons (.tmp rfl) .nil, rfl, hS17⟩
  · skip
    rw [if_neg hg10] at hm
    refine RW.know 12 rfl (congrArg Value.bool (Bool.eq_false_iff.2 hg10)) ?_
    refine RW.run ttok 13 rfl ?_
    refine RW.nil ?_
    refine WP.ret ?_
    cases hm
    exact ⟨_, .cons (.tmp rfl) .nil, rfl, hS7⟩

theorem enters269 : Enters Try.prog 269 := ⟨_, _, Try.func269, rfl, by kernel_rfl⟩
def m_spec_Duplicates_j2 (fuel : Nat) (x0 : Int) (x1 : Int) (x2 : Int) (t6 : Bool) : Option Bool := (if t6 = true then some true else ((m_spec_HasLevel fuel x1).bind fun r13 => (if r13 = true then some (decide (x2 > x0)) else some false)))
def m_spec_Duplicates_j1 (fuel : Nat) (x0 : Int) (x1 : Int) (x2 : Int) (t1 : Bool) : Option Bool := (if t1 = true then some false else (if (x1 == 6) = true then m_spec_Duplicates_j2 fuel x0 x1 x2 true else m_spec_Duplicates_j2 fuel x0 x1 x2 (x1 == 12)))
def m_spec_Duplicates (fuel : Nat) (x0 : Int) (x1 : Int) (x2 : Int) : Option (Bool) := ((m_spec_l00In fuel x0 0 8).bind fun r22 => (if (!r22) = true then m_spec_Duplicates_j1 fuel x0 x1 x2 true else ((m_spec_l10Level fuel x1 x2).bind fun r30 => m_spec_Duplicates_j1 fuel x0 x1 x2 (!r30))))

set_option maxRecDepth 100000 in
theorem spec_Duplicates_ok {W w : World} (hE : Ext W w) {x0 : Int} {x1 : Int} {x2 : Int}  {fuel : Nat} {r : Bool} (hm : m_spec_Duplicates fuel x0 x1 x2 = some r) :
    Calls Try.prog 269 ⟨[.int .i64 x0, .int .i64 x1, .int .i64 x2]⟩ w (Ret fun v w8 => v = .bool r ∧ St w w8 []) := by
  refine Calls.into Try.func269 rfl 29 rfl rfl _ rfl ?_
  unfold m_spec_Duplicates at hm
  have hS := St.start w
  refine WP.seq ?_
  refine WP.region ?_
  refine RW.run ttok 1 rfl ?_
  refine RW.nil ?_
  refine WP.seq ?_
  refine WP.seq ?_
  refine WP.cut (fun (t1 : Bool) F w9 => m_spec_Duplicates_j1 fuel x0 x1 x2 t1 = some r ∧ Ext w w9 ∧ St w w9 [] ∧ F = [(0, .int .i64 x0), (1, .int .i64 x1), (2, .int .i64 x2), (15, .bool t1)]) ?_ ?_
  · skip
    rintro t1 F w4 ⟨hm, hE2, hS3, rfl⟩
    unfold m_spec_Duplicates_j1 at hm
    refine WP.cond t1 rfl (fun hc => ?_) (fun hc => ?_)
    · skip
      rw [if_pos hc] at hm
      refine WP.seq ?_
      refine WP.region ?_
      refine RW.run ttok 1 rfl ?_
      refine RW.nil ?_
      refine WP.ret ?_
      cases hm
      exact ⟨_, .cons (.tmp rfl) .nil, rfl, hS3⟩
    · skip
      rw [if_neg (not_t hc)] at hm
      refine WP.skip ?_
      refine WP.seq ?_
      refine WP.seq ?_
      refine WP.cut (fun (t6 : Bool) F w9 => m_spec_Duplicates_j2 fuel x0 x1 x2 t6 = some r ∧ Ext w4 w9 ∧ St w w9 [] ∧ F = [(0, .int .i64 x0), (1, .int .i64 x1), (2, .int .i64 x2), (21, .bool t6)]) ?_ ?_
      · skip
        rintro t6 F w11 ⟨hm, hE7, hS10, rfl⟩
        unfold m_spec_Duplicates_j2 at hm
        refine WP.cond t6 rfl (fun hc => ?_) (fun hc => ?_)
        · skip
          rw [if_pos hc] at hm
          refine WP.seq ?_
          refine WP.region ?_
          refine RW.run ttok 1 rfl ?_
          refine RW.nil ?_
          refine WP.ret ?_
          cases hm
          exact ⟨_, .cons (.tmp rfl) .nil, rfl, hS10⟩
        · skip
          rw [if_neg (not_t hc)] at hm
          refine WP.skip ?_
          refine WP.seq ?_
          refine WP.region ?_
          refine RW.run ttok 1 rfl ?_
          obtain ⟨r13, hx14, hm⟩ := bind_some hm
          refine RW.call rfl rfl rfl enters162 (spec_HasLevel_ok (hE.trans hS10.ext)  hx14) (fun v15 w16 hR17 => ?_)
          obtain ⟨rfl, hR18⟩ := hR17
          have hS19 := hS10.join hR18
          refine RW.run ttok 1 rfl ?_
          by_cases hg20 : r13 = true
          · skip
            rw [if_pos hg20] at hm
            refine RW.know 24 rfl (congrArg Value.bool hg20) ?_
            refine RW.run ttok 5 rfl ?_
            refine RW.nil ?_
            refine WP.ret ?_
            cases hm
            exact ⟨_, .cons (.tmp rfl) .nil, rfl, hS19⟩
          · skip
            rw [if_neg hg20] at hm
            refine RW.know 24 rfl (congrArg Value.bool (Bool.eq_false_iff.2 hg20)) ?_
            refine RW.run ttok 5 rfl ?_
            refine RW.nil ?_
            refine WP.ret ?_
            cases hm
            exact ⟨_, .cons (.tmp rfl) .nil, rfl, hS19⟩
      · skip
        refine WP.region ?_
        refine RW.run ttok 3 rfl ?_
        by_cases hg21 : (x1 == 6) = true
        · skip
          rw [if_pos hg21] at hm
          refine RW.know 18 rfl (congrArg Value.bool hg21) ?_
          refine RW.run ttok 3 rfl ?_
          refine RW.nil ?_
          exact ⟨true, [(0, .int .i64 x0), (1, .int .i64 x1), (2, .int .i64 x2), (21, .bool true)], ⟨rfl, rfl, rfl, rfl, trivial⟩, hm, (Ext.refl _), hS3, rfl⟩
        · skip
          rw [if_neg hg21] at hm
          refine RW.know 18 rfl (congrArg Value.bool (Bool.eq_false_iff.2 hg21)) ?_
          refine RW.run ttok 3 rfl ?_
          refine RW.nil ?_
          exact ⟨(x1 == 12), [(0, .int .i64 x0), (1, .int .i64 x1), (2, .int .i64 x2), (21, .bool (x1 == 12))], ⟨rfl, rfl, rfl, rfl, trivial⟩, hm, (Ext.refl _), hS3, rfl⟩
  · skip
    refine WP.region ?_
    refine RW.run ttok 1 rfl ?_
    obtain ⟨r22, hx23, hm⟩ := bind_some hm
    refine RW.call rfl rfl rfl enters102 (spec_l00In_ok (hE.trans hS.ext)  hx23) (fun v24 w25 hR26 => ?_)
    obtain ⟨rfl, hR27⟩ := hR26
    have hS28 := hS.join hR27
    refine RW.run ttok 2 rfl ?_
    by_cases hg29 : (!r22) = true
    · skip
      rw [if_pos hg29] at hm
      refine RW.know 10 rfl (congrArg Value.bool hg29) ?_
      refine RW.run ttok 5 rfl ?_
      refine RW.nil ?_
      exact ⟨true, [(0, .int .i64 x0), (1, .int .i64 x1), (2, .int .i64 x2), (15, .bool true)], ⟨rfl, rfl, rfl, rfl, trivial⟩, hm, hR27.ext, hS28, rfl⟩
    · skip
      rw [if_neg hg29] at hm
      refine RW.know 10 rfl (congrArg Value.bool (Bool.eq_false_iff.2 hg29)) ?_
      refine RW.run ttok 2 rfl ?_
      obtain ⟨r30, hx31, hm⟩ := bind_some hm
      refine RW.call rfl rfl rfl enters173 (spec_l10Level_ok (hE.trans hS28.ext)  hx31) (fun v32 w33 hR34 => ?_)
      obtain ⟨rfl, hR35⟩ := hR34
      have hS36 := hS28.join hR35
      refine RW.run ttok 2 rfl ?_
      refine RW.nil ?_
      exact ⟨!r30, [(0, .int .i64 x0), (1, .int .i64 x1), (2, .int .i64 x2), (15, .bool (!r30))], ⟨rfl, rfl, rfl, rfl, trivial⟩, hm, (hR27.ext.trans hR35.ext), hS36, rfl⟩

theorem enters270 : Enters Try.prog 270 := ⟨_, _, Try.func270, rfl, by kernel_rfl⟩
def m_spec_IsConsumer_j1 (fuel : Nat) (t1 : Bool) : Option Bool := (if t1 = true then some true else some false)
def m_spec_IsConsumer_j2 (fuel : Nat) (t6 : Bool) : Option Bool := m_spec_IsConsumer_j1 fuel t6
def m_spec_IsConsumer_j3 (fuel : Nat) (t13 : Bool) : Option Bool := m_spec_IsConsumer_j2 fuel t13
def m_spec_IsConsumer_j4 (fuel : Nat) (t18 : Bool) : Option Bool := m_spec_IsConsumer_j3 fuel t18
def m_spec_IsConsumer (fuel : Nat) (x0 : Int) : Option (Bool) := (if (x0 == 3) = true then m_spec_IsConsumer_j1 fuel (x0 == 3) else (if (x0 == 7) = true then m_spec_IsConsumer_j2 fuel (x0 == 7) else (if (x0 == 8) = true then m_spec_IsConsumer_j3 fuel (x0 == 8) else (if (x0 == 10) = true then m_spec_IsConsumer_j4 fuel (x0 == 10) else m_spec_IsConsumer_j4 fuel (x0 == 11)))))

set_option maxRecDepth 100000 in
theorem spec_IsConsumer_ok {W w : World} (hE : Ext W w) {x0 : Int}  {fuel : Nat} {r : Bool} (hm : m_spec_IsConsumer fuel x0 = some r) :
    Calls Try.prog 270 ⟨[.int .i64 x0]⟩ w (Ret fun v w8 => v = .bool r ∧ St w w8 []) := by
  refine Calls.into Try.func270 rfl 10 rfl rfl _ rfl ?_
  unfold m_spec_IsConsumer at hm
  have hS := St.start w
  refine WP.seq ?_
  refine WP.region ?_
  refine RW.run ttok 1 rfl ?_
  refine RW.nil ?_
  refine WP.seq ?_
  refine WP.seq ?_
  refine WP.region ?_
  refine RW.run ttok 1 rfl ?_
  refine RW.nil ?_
  refine WP.block ?_
  refine WP.seq ?_
  refine WP.seq ?_
  refine WP.region ?_
  refine RW.run ttok 2 rfl ?_
  refine RW.nil ?_
  refine WP.cut (fun (t1 : Bool) F w9 => m_spec_IsConsumer_j1 fuel t1 = some r ∧ Ext w w9 ∧ St w w9 [] ∧ F = [(4, .bool t1)]) ?_ ?_
  · skip
    rintro t1 F w4 ⟨hm, hE2, hS3, rfl⟩
    unfold m_spec_IsConsumer_j1 at hm
    refine WP.cond t1 rfl (fun hc => ?_) (fun hc => ?_)
    · skip
      rw [if_pos hc] at hm
      refine WP.seq ?_
      refine WP.region ?_
      refine RW.run ttok 1 rfl ?_
      refine RW.nil ?_
      refine WP.ret ?_
      cases hm
      exact ⟨_, .cons (.tmp rfl) .nil, rfl, hS3⟩
    · skip
      rw [if_neg (not_t hc)] at hm
      refine WP.skip ?_
      refine WP.seq ?_
      refine WP.region ?_
      refine RW.run ttok 1 rfl ?_
      refine RW.nil ?_
      refine WP.ret ?_
      cases hm
      exact ⟨_, .cons (.tmp rfl) .nil, rfl, hS3⟩
  · skip
    refine WP.cond (x0 == 3) rfl (fun hc => ?_) (fun hc => ?_)
    · skip
      rw [if_pos hc] at hm
      refine WP.skip ?_
      exact ⟨(x0 == 3), [(4, .bool (x0 == 3))], ⟨rfl, trivial⟩, hm, (Ext.refl _), hS, rfl⟩
    · skip
      rw [if_neg (not_t hc)] at hm
      refine WP.seq ?_
      refine WP.region ?_
      refine RW.run ttok 2 rfl ?_
      refine RW.nil ?_
      refine WP.cut (fun (t6 : Bool) F w9 => m_spec_IsConsumer_j2 fuel t6 = some r ∧ Ext w w9 ∧ St w w9 [] ∧ F = [(4, .bool t6)]) ?_ ?_
      · skip
        rintro t6 F w11 ⟨hm, hE7, hS10, rfl⟩
        unfold m_spec_IsConsumer_j2 at hm
        exact ⟨t6, [(4, .bool t6)], ⟨rfl, trivial⟩, hm, hE7, hS10, rfl⟩
      · skip
        refine WP.cond (x0 == 7) rfl (fun hc => ?_) (fun hc => ?_)
        · skip
          rw [if_pos hc] at hm
          refine WP.skip ?_
          exact ⟨(x0 == 7), [(4, .bool (x0 == 7))], ⟨rfl, trivial⟩, hm, (Ext.refl _), hS, rfl⟩
        · skip
          rw [if_neg (not_t hc)] at hm
          refine WP.seq ?_
          refine WP.region ?_
          refine RW.run ttok 2 rfl ?_
          refine RW.nil ?_
          refine WP.cut (fun (t13 : Bool) F w9 => m_spec_IsConsumer_j3 fuel t13 = some r ∧ Ext w w9 ∧ St w w9 [] ∧ F = [(4, .bool t13)]) ?_ ?_
          · skip
            rintro t13 F w16 ⟨hm, hE14, hS15, rfl⟩
            unfold m_spec_IsConsumer_j3 at hm
            exact ⟨t13, [(4, .bool t13)], ⟨rfl, trivial⟩, hm, hE14, hS15, rfl⟩
          · skip
            refine WP.cond (x0 == 8) rfl (fun hc => ?_) (fun hc => ?_)
            · skip
              rw [if_pos hc] at hm
              refine WP.skip ?_
              exact ⟨(x0 == 8), [(4, .bool (x0 == 8))], ⟨rfl, trivial⟩, hm, (Ext.refl _), hS, rfl⟩
            · skip
              rw [if_neg (not_t hc)] at hm
              refine WP.seq ?_
              refine WP.region ?_
              refine RW.run ttok 2 rfl ?_
              refine RW.nil ?_
              refine WP.cut (fun (t18 : Bool) F w9 => m_spec_IsConsumer_j4 fuel t18 = some r ∧ Ext w w9 ∧ St w w9 [] ∧ F = [(4, .bool t18)]) ?_ ?_
              · skip
                rintro t18 F w21 ⟨hm, hE19, hS20, rfl⟩
                unfold m_spec_IsConsumer_j4 at hm
                exact ⟨t18, [(4, .bool t18)], ⟨rfl, trivial⟩, hm, hE19, hS20, rfl⟩
              · skip
                refine WP.cond (x0 == 10) rfl (fun hc => ?_) (fun hc => ?_)
                · skip
                  rw [if_pos hc] at hm
                  refine WP.skip ?_
                  exact ⟨(x0 == 10), [(4, .bool (x0 == 10))], ⟨rfl, trivial⟩, hm, (Ext.refl _), hS, rfl⟩
                · skip
                  rw [if_neg (not_t hc)] at hm
                  refine WP.region ?_
                  refine RW.run ttok 2 rfl ?_
                  refine RW.nil ?_
                  exact ⟨(x0 == 11), [(4, .bool (x0 == 11))], ⟨rfl, trivial⟩, hm, (Ext.refl _), hS, rfl⟩

theorem enters257 : Enters Try.prog 257 := ⟨_, _, Try.func257, rfl, by kernel_rfl⟩
def m_spec_l10Rule_j1 (fuel : Nat) (x1 : Int) (x2 : Int) (x3 : Int) (t1 : Bool) : Option Int := (if t1 = true then some 2 else ((m_spec_Duplicates fuel x1 x2 x3).bind fun r6 => (if r6 = true then some 3 else some 0)))
def m_spec_l10Rule_j2 (fuel : Nat) (t16 : Bool) : Option Int := (if t16 = true then some 1 else some 0)
def m_spec_l10Rule_j3 (fuel : Nat) (x2 : Int) (t22 : Bool) : Option Int := (if t22 = true then some 5 else (if (x2 == 11) = true then some 6 else some 0))
def m_spec_l10Rule (fuel : Nat) (x0 : Int) (x1 : Int) (x2 : Int) (x3 : Int) : Option (Int) := (if (x0 == 5) = true then some 4 else (if (x0 == 4) = true then (if (x2 == 4) = true then m_spec_l10Rule_j1 fuel x1 x2 x3 (x1 == x3) else m_spec_l10Rule_j1 fuel x1 x2 x3 false) else (if (x0 == 2) = true then (if (x2 == 3) = true then m_spec_l10Rule_j2 fuel (x1 == x3) else m_spec_l10Rule_j2 fuel false) else (if (x0 == 6) = true then (if (x2 == 7) = true then m_spec_l10Rule_j3 fuel x2 (x2 == 7) else m_spec_l10Rule_j3 fuel x2 (x2 == 8)) else (if (x0 == 9) = true then (if (x2 == 10) = true then some 6 else some 0) else (if (x0 == 12) = true then ((m_spec_IsConsumer fuel x2).bind fun r27 => (if r27 = true then some 7 else some 0)) else some 0))))))

set_option maxRecDepth 100000 in
theorem spec_l10Rule_ok {W w : World} (hE : Ext W w) {x0 : Int} {x1 : Int} {x2 : Int} {x3 : Int}  {fuel : Nat} {r : Int} (hm : m_spec_l10Rule fuel x0 x1 x2 x3 = some r) :
    Calls Try.prog 257 ⟨[.int .i64 x0, .int .i64 x1, .int .i64 x2, .int .i64 x3]⟩ w (Ret fun v w8 => v = .int .i64 r ∧ St w w8 []) := by
  refine Calls.into Try.func257 rfl 50 rfl rfl _ rfl ?_
  unfold m_spec_l10Rule at hm
  have hS := St.start w
  refine WP.seq ?_
  refine WP.region ?_
  refine RW.run ttok 1 rfl ?_
  refine RW.nil ?_
  refine WP.seq ?_
  refine WP.seq ?_
  refine WP.region ?_
  refine RW.run ttok 1 rfl ?_
  refine RW.nil ?_
  refine WP.block ?_
  refine WP.seq ?_
  refine WP.region ?_
  refine RW.run ttok 2 rfl ?_
  refine RW.nil ?_
  refine WP.cond (x0 == 5) rfl (fun hc => ?_) (fun hc => ?_)
  · skip
    rw [if_pos hc] at hm
    refine WP.seq ?_
    refine WP.region ?_
    refine RW.run ttok 1 rfl ?_
    refine RW.nil ?_
    refine WP.ret ?_
    cases hm
    exact ⟨_, .cons (.tmp rfl) .nil, rfl, hS⟩
  · skip
    rw [if_neg (not_t hc)] at hm
    refine WP.seq ?_
    refine WP.region ?_
    refine RW.run ttok 2 rfl ?_
    refine RW.nil ?_
    refine WP.cond (x0 == 4) rfl (fun hc => ?_) (fun hc => ?_)
    · skip
      rw [if_pos hc] at hm
      refine WP.seq ?_
      refine WP.seq ?_
      refine WP.cut (fun (t1 : Bool) F w9 => m_spec_l10Rule_j1 fuel x1 x2 x3 t1 = some r ∧ Ext w w9 ∧ St w w9 [] ∧ F = [(1, .int .i64 x1), (2, .int .i64 x2), (3, .int .i64 x3), (20, .bool t1)]) ?_ ?_
      · skip
        rintro t1 F w4 ⟨hm, hE2, hS3, rfl⟩
        unfold m_spec_l10Rule_j1 at hm
        refine WP.cond t1 rfl (fun hc => ?_) (fun hc => ?_)
        · skip
          rw [if_pos hc] at hm
          refine WP.seq ?_
          refine WP.region ?_
          refine RW.run ttok 1 rfl ?_
          refine RW.nil ?_
          refine WP.ret ?_
          cases hm
          exact ⟨_, .cons (.tmp rfl) .nil, rfl, hS3⟩
        · skip
          rw [if_neg (not_t hc)] at hm
          refine WP.skip ?_
          refine WP.seq ?_
          refine WP.region ?_
          refine RW.run ttok 3 rfl ?_
          obtain ⟨r6, hx7, hm⟩ := bind_some hm
          refine RW.call rfl rfl rfl enters269 (spec_Duplicates_ok (hE.trans hS3.ext)  hx7) (fun v10 w11 hR12 => ?_)
          obtain ⟨rfl, hR13⟩ := hR12
          have hS14 := hS3.join hR13
          refine RW.nil ?_
          refine WP.cond r6 rfl (fun hc => ?_) (fun hc => ?_)
          · skip
            rw [if_pos hc] at hm
            refine WP.seq ?_
            refine WP.region ?_
            refine RW.run ttok 1 rfl ?_
            refine RW.nil ?_
            refine WP.ret ?_
            cases hm
            exact ⟨_, .cons (.tmp rfl) .nil, rfl, hS14⟩
          · skip
            rw [if_neg (not_t hc)] at hm
            refine WP.skip ?_
            refine WP.seq ?_
            refine WP.region ?_
            refine RW.run ttok 1 rfl ?_
            refine RW.nil ?_
            refine WP.ret ?_
            cases hm
            exact ⟨_, .cons (.tmp rfl) .nil, rfl, hS14⟩
      · skip
        refine WP.region ?_
        refine RW.run ttok 3 rfl ?_
        by_cases hg15 : (x2 == 4) = true
        · skip
          rw [if_pos hg15] at hm
          refine RW.know 16 rfl (congrArg Value.bool hg15) ?_
          refine RW.run ttok 4 rfl ?_
          refine RW.nil ?_
          exact ⟨(x1 == x3), [(1, .int .i64 x1), (2, .int .i64 x2), (3, .int .i64 x3), (20, .bool (x1 == x3))], ⟨rfl, rfl, rfl, rfl, trivial⟩, hm, (Ext.refl _), hS, rfl⟩
        · skip
          rw [if_neg hg15] at hm
          refine RW.know 16 rfl (congrArg Value.bool (Bool.eq_false_iff.2 hg15)) ?_
          refine RW.run ttok 4 rfl ?_
          refine RW.nil ?_
          exact ⟨false, [(1, .int .i64 x1), (2, .int .i64 x2), (3, .int .i64 x3), (20, .bool false)], ⟨rfl, rfl, rfl, rfl, trivial⟩, hm, (Ext.refl _), hS, rfl⟩
    · skip
      rw [if_neg (not_t hc)] at hm
      refine WP.seq ?_
      refine WP.region ?_
      refine RW.run ttok 2 rfl ?_
      refine RW.nil ?_
      refine WP.cond (x0 == 2) rfl (fun hc => ?_) (fun hc => ?_)
      · skip
        rw [if_pos hc] at hm
        refine WP.seq ?_
        refine WP.cut (fun (t16 : Bool) F w9 => m_spec_l10Rule_j2 fuel t16 = some r ∧ Ext w w9 ∧ St w w9 [] ∧ F = [(33, .bool t16)]) ?_ ?_
        · skip
          rintro t16 F w19 ⟨hm, hE17, hS18, rfl⟩
          unfold m_spec_l10Rule_j2 at hm
          refine WP.cond t16 rfl (fun hc => ?_) (fun hc => ?_)
          · skip
            rw [if_pos hc] at hm
            refine WP.seq ?_
            refine WP.region ?_
            refine RW.run ttok 1 rfl ?_
            refine RW.nil ?_
            refine WP.ret ?_
            cases hm
            exact ⟨_, .cons (.tmp rfl) .nil, rfl, hS18⟩
          · skip
            rw [if_neg (not_t hc)] at hm
            refine WP.skip ?_
            refine WP.seq ?_
            refine WP.region ?_
            refine RW.run ttok 1 rfl ?_
            refine RW.nil ?_
            refine WP.ret ?_
            cases hm
            exact ⟨_, .cons (.tmp rfl) .nil, rfl, hS18⟩
        · skip
          refine WP.region ?_
          refine RW.run ttok 3 rfl ?_
          by_cases hg21 : (x2 == 3) = true
          · skip
            rw [if_pos hg21] at hm
            refine RW.know 29 rfl (congrArg Value.bool hg21) ?_
            refine RW.run ttok 4 rfl ?_
            refine RW.nil ?_
            exact ⟨(x1 == x3), [(33, .bool (x1 == x3))], ⟨rfl, trivial⟩, hm, (Ext.refl _), hS, rfl⟩
          · skip
            rw [if_neg hg21] at hm
            refine RW.know 29 rfl (congrArg Value.bool (Bool.eq_false_iff.2 hg21)) ?_
            refine RW.run ttok 4 rfl ?_
            refine RW.nil ?_
            exact ⟨false, [(33, .bool false)], ⟨rfl, trivial⟩, hm, (Ext.refl _), hS, rfl⟩
      · skip
        rw [if_neg (not_t hc)] at hm
        refine WP.seq ?_
        refine WP.region ?_
        refine RW.run ttok 2 rfl ?_
        refine RW.nil ?_
        refine WP.cond (x0 == 6) rfl (fun hc => ?_) (fun hc => ?_)
        · skip
          rw [if_pos hc] at hm
          refine WP.seq ?_
          refine WP.region ?_
          refine RW.run ttok 1 rfl ?_
          refine RW.nil ?_
          refine WP.block ?_
          refine WP.seq ?_
          refine WP.seq ?_
          refine WP.region ?_
          refine RW.run ttok 2 rfl ?_
          refine RW.nil ?_
          refine WP.cut (fun (t22 : Bool) F w9 => m_spec_l10Rule_j3 fuel x2 t22 = some r ∧ Ext w w9 ∧ St w w9 [] ∧ F = [(36, .int .i64 x2), (37, .bool t22)]) ?_ ?_
          · skip
            rintro t22 F w25 ⟨hm, hE23, hS24, rfl⟩
            unfold m_spec_l10Rule_j3 at hm
            refine WP.cond t22 rfl (fun hc => ?_) (fun hc => ?_)
            · skip
              rw [if_pos hc] at hm
              refine WP.seq ?_
              refine WP.region ?_
              refine RW.run ttok 1 rfl ?_
              refine RW.nil ?_
              refine WP.ret ?_
              cases hm
              exact ⟨_, .cons (.tmp rfl) .nil, rfl, hS24⟩
            · skip
              rw [if_neg (not_t hc)] at hm
              refine WP.seq ?_
              refine WP.region ?_
              refine RW.run ttok 2 rfl ?_
              refine RW.nil ?_
              refine WP.cond (x2 == 11) rfl (fun hc => ?_) (fun hc => ?_)
              · skip
                rw [if_pos hc] at hm
                refine WP.seq ?_
                refine WP.region ?_
                refine RW.run ttok 1 rfl ?_
                refine RW.nil ?_
                refine WP.ret ?_
                cases hm
                exact ⟨_, .cons (.tmp rfl) .nil, rfl, hS24⟩
              · skip
                rw [if_neg (not_t hc)] at hm
                refine WP.skip ?_
                refine WP.seq ?_
                refine WP.region ?_
                refine RW.run ttok 1 rfl ?_
                refine RW.nil ?_
                refine WP.ret ?_
                cases hm
                exact ⟨_, .cons (.tmp rfl) .nil, rfl, hS24⟩
          · skip
            refine WP.cond (x2 == 7) rfl (fun hc => ?_) (fun hc => ?_)
            · skip
              rw [if_pos hc] at hm
              refine WP.skip ?_
              exact ⟨(x2 == 7), [(36, .int .i64 x2), (37, .bool (x2 == 7))], ⟨rfl, rfl, trivial⟩, hm, (Ext.refl _), hS, rfl⟩
            · skip
              rw [if_neg (not_t hc)] at hm
              refine WP.region ?_
              refine RW.run ttok 2 rfl ?_
              refine RW.nil ?_
              exact ⟨(x2 == 8), [(36, .int .i64 x2), (37, .bool (x2 == 8))], ⟨rfl, rfl, trivial⟩, hm, (Ext.refl _), hS, rfl⟩
        · skip
          rw [if_neg (not_t hc)] at hm
          refine WP.seq ?_
          refine WP.region ?_
          refine RW.run ttok 2 rfl ?_
          refine RW.nil ?_
          refine WP.cond (x0 == 9) rfl (fun hc => ?_) (fun hc => ?_)
          · skip
            rw [if_pos hc] at hm
            refine WP.seq ?_
            refine WP.region ?_
            refine RW.run ttok 2 rfl ?_
            refine RW.nil ?_
            refine WP.cond (x2 == 10) rfl (fun hc => ?_) (fun hc => ?_)
            · skip
              rw [if_pos hc] at hm
              refine WP.seq ?_
              refine WP.region ?_
              refine RW.run ttok 1 rfl ?_
              refine RW.nil ?_
              refine WP.ret ?_
              cases hm
              exact ⟨_, .cons (.tmp rfl) .nil, rfl, hS⟩
            · skip
              rw [if_neg (not_t hc)] at hm
              refine WP.skip ?_
              refine WP.seq ?_
              refine WP.region ?_
              refine RW.run ttok 1 rfl ?_
              refine RW.nil ?_
              refine WP.ret ?_
              cases hm
              exact ⟨_, .cons (.tmp rfl) .nil, rfl, hS⟩
          · skip
            rw [if_neg (not_t hc)] at hm
            refine WP.seq ?_
            refine WP.region ?_
            refine RW.run ttok 2 rfl ?_
            refine RW.nil ?_
            refine WP.cond (x0 == 12) rfl (fun hc => ?_) (fun hc => ?_)
            · skip
              rw [if_pos hc] at hm
              refine WP.seq ?_
              refine WP.region ?_
              refine RW.run ttok 1 rfl ?_
              obtain ⟨r27, hx28, hm⟩ := bind_some hm
              refine RW.call rfl rfl rfl enters270 (spec_IsConsumer_ok (hE.trans hS.ext)  hx28) (fun v29 w30 hR31 => ?_)
              obtain ⟨rfl, hR32⟩ := hR31
              have hS33 := hS.join hR32
              refine RW.nil ?_
              refine WP.cond r27 rfl (fun hc => ?_) (fun hc => ?_)
              · skip
                rw [if_pos hc] at hm
                refine WP.seq ?_
                refine WP.region ?_
                refine RW.run ttok 1 rfl ?_
                refine RW.nil ?_
                refine WP.ret ?_
                cases hm
                exact ⟨_, .cons (.tmp rfl) .nil, rfl, hS33⟩
              · skip
                rw [if_neg (not_t hc)] at hm
                refine WP.skip ?_
                refine WP.seq ?_
                refine WP.region ?_
                refine RW.run ttok 1 rfl ?_
                refine RW.nil ?_
                refine WP.ret ?_
                cases hm
                exact ⟨_, .cons (.tmp rfl) .nil, rfl, hS33⟩
            · skip
              rw [if_neg (not_t hc)] at hm
              refine WP.skip ?_
              refine WP.seq ?_
              refine WP.region ?_
              refine RW.run ttok 1 rfl ?_
              refine RW.nil ?_
              refine WP.ret ?_
              cases hm
              exact ⟨_, .cons (.tmp rfl) .nil, rfl, hS⟩

theorem enters213 : Enters Try.prog 213 := ⟨_, _, Try.func213, rfl, by kernel_rfl⟩
def m_spec_PairClass_j1 (fuel : Nat) (t17 : Int) : Option Int := (if (t17 == 0) = true then some 8 else some t17)
def m_spec_PairClass (fuel : Nat) (x0 : Int) (x1 : Int) (x2 : Int) (x3 : Int) : Option (Int) := ((m_spec_l10Pair fuel x0 x1 x2 x3).bind fun r1 => (if (!r1) = true then some 0 else ((m_spec_l10Rule fuel x0 x1 x2 x3).bind fun r10 => (if (r10 == 0) = true then ((m_spec_l10Rule fuel x2 x3 x0 x1).bind fun r22 => m_spec_PairClass_j1 fuel r22) else m_spec_PairClass_j1 fuel r10))))

set_option maxRecDepth 100000 in
theorem spec_PairClass_ok {W w : World} (hE : Ext W w) {x0 : Int} {x1 : Int} {x2 : Int} {x3 : Int}  {fuel : Nat} {r : Int} (hm : m_spec_PairClass fuel x0 x1 x2 x3 = some r) :
    Calls Try.prog 213 ⟨[.int .i64 x0, .int .i64 x1, .int .i64 x2, .int .i64 x3]⟩ w (Ret fun v w8 => v = .int .i64 r ∧ St w w8 []) := by
  refine Calls.into Try.func213 rfl 31 rfl rfl _ rfl ?_
  unfold m_spec_PairClass at hm
  have hS := St.start w
  refine WP.seq ?_
  refine WP.region ?_
  refine RW.run ttok 1 rfl ?_
  refine RW.nil ?_
  refine WP.seq ?_
  refine WP.seq ?_
  refine WP.region ?_
  refine RW.run ttok 4 rfl ?_
  obtain ⟨r1, hx2, hm⟩ := bind_some hm
  refine RW.call rfl rfl rfl enters256 (spec_l10Pair_ok (hE.trans hS.ext)  hx2) (fun v3 w4 hR5 => ?_)
  obtain ⟨rfl, hR6⟩ := hR5
  have hS7 := hS.join hR6
  refine RW.run ttok 1 rfl ?_
  refine RW.nil ?_
  refine WP.cond (!r1) rfl (fun hc => ?_) (fun hc => ?_)
  · skip
    rw [if_pos hc] at hm
    refine WP.seq ?_
    refine WP.region ?_
    refine RW.run ttok 1 rfl ?_
    refine RW.nil ?_
    refine WP.ret ?_
    cases hm
    exact ⟨_, .cons (.tmp rfl) .nil, rfl, hS7⟩
  · skip
    rw [if_neg (not_t hc)] at hm
    refine WP.skip ?_
    refine WP.seq ?_
    refine WP.region ?_
    refine RW.run ttok 4 rfl ?_
    obtain ⟨r10, hx11, hm⟩ := bind_some hm
    refine RW.call rfl rfl rfl enters257 (spec_l10Rule_ok (hE.trans hS7.ext)  hx11) (fun v12 w13 hR14 => ?_)
    obtain ⟨rfl, hR15⟩ := hR14
    have hS16 := hS7.join hR15
    refine RW.run ttok 1 rfl ?_
    refine RW.nil ?_
    refine WP.seq ?_
    refine WP.seq ?_
    refine WP.region ?_
    refine RW.run ttok 2 rfl ?_
    refine RW.nil ?_
    refine WP.cut (fun (t17 : Int) F w9 => m_spec_PairClass_j1 fuel t17 = some r ∧ Ext w13 w9 ∧ St w w9 [] ∧ F = [(9, .int .i64 t17)]) ?_ ?_
    · skip
      rintro t17 F w20 ⟨hm, hE18, hS19, rfl⟩
      unfold m_spec_PairClass_j1 at hm
      refine WP.seq ?_
      refine WP.seq ?_
      refine WP.region ?_
      refine RW.run ttok 2 rfl ?_
      refine RW.nil ?_
      refine WP.cond (t17 == 0) rfl (fun hc => ?_) (fun hc => ?_)
      · skip
        rw [if_pos hc] at hm
        refine WP.seq ?_
        refine WP.region ?_
        refine RW.run ttok 1 rfl ?_
        refine RW.nil ?_
        refine WP.ret ?_
        cases hm
        exact ⟨_, .cons (.tmp rfl) .nil, rfl, hS19⟩
      · skip
        rw [if_neg (not_t hc)] at hm
        refine WP.skip ?_
        refine WP.seq ?_
        refine WP.region ?_
        refine RW.run ttok 2 rfl ?_
        refine RW.nil ?_
        refine WP.ret ?_
        cases hm
        exact ⟨_, .cons (.tmp rfl) .nil, rfl, hS19⟩
    · skip
      refine WP.cond (r10 == 0) rfl (fun hc => ?_) (fun hc => ?_)
      · skip
        rw [if_pos hc] at hm
        refine WP.region ?_
        refine RW.run ttok 4 rfl ?_
        obtain ⟨r22, hx23, hm⟩ := bind_some hm
        refine RW.call rfl rfl rfl enters257 (spec_l10Rule_ok (hE.trans hS16.ext)  hx23) (fun v24 w25 hR26 => ?_)
        obtain ⟨rfl, hR27⟩ := hR26
        have hS28 := hS16.join hR27
        refine RW.run ttok 1 rfl ?_
        refine RW.nil ?_
        exact ⟨r22, [(9, .int .i64 r22)], ⟨rfl, trivial⟩, hm, hR27.ext, hS28, rfl⟩
      · skip
        rw [if_neg (not_t hc)] at hm
        refine WP.skip ?_
        exact ⟨r10, [(9, .int .i64 r10)], ⟨rfl, trivial⟩, hm, (Ext.refl _), hS16, rfl⟩

theorem enters144 : Enters Try.prog 144 := ⟨_, _, Try.func144, rfl, by kernel_rfl⟩
def m_spec_l13Class_j2 (fuel : Nat) (x0 : D.Agent) (x1 : D.Agent) (t22 : Bool) : Option Int := (if t22 = true then some 8 else ((m_spec_PairClass fuel x0.Kind x0.Level x1.Kind x1.Level).bind fun r29 => some r29))
def m_spec_l13Class_j1 (fuel : Nat) (x0 : D.Agent) (x1 : D.Agent) (t17 : Bool) : Option Int := (if t17 = true then some 8 else (if (x0.Kind == 10) = true then (if (x1.Kind == 9) = true then m_spec_l13Class_j2 fuel x0 x1 (decide (x1.Value ≥ (x0.Data.length : Int))) else m_spec_l13Class_j2 fuel x0 x1 false) else m_spec_l13Class_j2 fuel x0 x1 false))
def m_spec_l13Class (fuel : Nat) (x0 : D.Agent) (x1 : D.Agent) : Option (Int) := (if (x0.Kind == 9) = true then (if (x1.Kind == 10) = true then m_spec_l13Class_j1 fuel x0 x1 (decide (x0.Value ≥ (x1.Data.length : Int))) else m_spec_l13Class_j1 fuel x0 x1 false) else m_spec_l13Class_j1 fuel x0 x1 false)

set_option maxRecDepth 100000 in
theorem spec_l13Class_ok {W w : World} (hE : Ext W w) {p0_ : Addr} {c0_ : List Value} {x0 : D.Agent} {p1_ : Addr} {c1_ : List Value} {x1 : D.Agent} (h0_ : ty112.ro W c0_ x0) (g0_ : At W p0_ c0_) (h1_ : ty112.ro W c1_ x1) (g1_ : At W p1_ c1_) {fuel : Nat} {r : Int} (hm : m_spec_l13Class fuel x0 x1 = some r) :
    Calls Try.prog 144 ⟨[.pointer (some p0_), .pointer (some p1_)]⟩ w (Ret fun v w8 => v = .int .i64 r ∧ St w w8 []) := by
  obtain ⟨A1, k2, A4, k5, e7, h3, h6⟩ := ty112_open h0_; subst e7
  obtain ⟨A10, k11, A13, k14, e16, h12, h15⟩ := ty112_open h1_; subst e16
  refine Calls.into Try.func144 rfl 70 rfl rfl _ rfl ?_
  unfold m_spec_l13Class at hm
  have hS := St.start w
  refine WP.seq ?_
  refine WP.region ?_
  refine RW.run ttok 1 rfl ?_
  refine RW.nil ?_
  refine WP.seq ?_
  refine WP.seq ?_
  refine WP.cut (fun (t17 : Bool) F w9 => m_spec_l13Class_j1 fuel x0 x1 t17 = some r ∧ Ext w w9 ∧ St w w9 [] ∧ F = [(0, .pointer (some p0_)), (1, .pointer (some p1_)), (28, .bool t17)]) ?_ ?_
  · skip
    rintro t17 F w20 ⟨hm, hE18, hS19, rfl⟩
    unfold m_spec_l13Class_j1 at hm
    refine WP.cond t17 rfl (fun hc => ?_) (fun hc => ?_)
    · skip
      rw [if_pos hc] at hm
      refine WP.seq ?_
      refine WP.region ?_
      refine RW.run ttok 1 rfl ?_
      refine RW.nil ?_
      refine WP.ret ?_
      cases hm
      exact ⟨_, .cons (.tmp rfl) .nil, rfl, hS19⟩
    · skip
      rw [if_neg (not_t hc)] at hm
      refine WP.skip ?_
      refine WP.seq ?_
      refine WP.seq ?_
      refine WP.cut (fun (t22 : Bool) F w9 => m_spec_l13Class_j2 fuel x0 x1 t22 = some r ∧ Ext w20 w9 ∧ St w w9 [] ∧ F = [(0, .pointer (some p0_)), (1, .pointer (some p1_)), (52, .bool t22)]) ?_ ?_
      · skip
        rintro t22 F w25 ⟨hm, hE23, hS24, rfl⟩
        unfold m_spec_l13Class_j2 at hm
        refine WP.cond t22 rfl (fun hc => ?_) (fun hc => ?_)
        · skip
          rw [if_pos hc] at hm
          refine WP.seq ?_
          refine WP.region ?_
          refine RW.run ttok 1 rfl ?_
          refine RW.nil ?_
          refine WP.ret ?_
          cases hm
          exact ⟨_, .cons (.tmp rfl) .nil, rfl, hS24⟩
        · skip
          rw [if_neg (not_t hc)] at hm
          refine WP.skip ?_
          refine WP.seq ?_
          refine WP.drawnM 0 mixed 18 (by kernel_rfl) (by kernel_rfl) [([], 262143), ([0], 262142), ([1], 262141), ([2], 262139), ([], 262143), ([4], 262127), ([5], 262111), ([6], 262079), ([], 262143), ([8], 261887), ([9], 261631), ([10], 261119), ([], 262143), ([12], 258047), ([13], 253951), ([14], 245759), ([3, 7, 11, 15], 227191), ([16, 16, 0, 1, 2, 3, 4, 5, 6, 7, 8, 9, 10, 11, 12, 13, 14, 15, 16], 196607)] (by kernel_rfl) hS24.ext (fun hsk27 => ?_)
          have hS28 := hS24.step (Ext.draw _)
          refine DM.run (fuel := 6) ttok hsk27 [0, 1, 2, 4, 5, 6, 8, 9, 10, 12, 13, 14] 30583 (by kernel_rfl) (by kernel_rfl) rfl ?_
          refine DM.weak [(55, .pointer (some p0_)), (59, .pointer (some (p0_.add 1))), (63, .pointer (some p1_)), (67, .pointer (some (p1_.add 1)))] ⟨rfl, rfl, rfl, rfl, trivial⟩ ?_
          refine DM.load1 ttok hsk27 3 30591 (by kernel_rfl) (by kernel_rfl) (by kernel_rfl) (by kernel_rfl) rfl (by kernel_rfl) rfl rfl rfl rfl rfl (At.ext (hE.trans hS24.ext) g0_) 0 rfl rfl rfl rfl ?_
          refine DM.load1 ttok hsk27 7 30719 (by kernel_rfl) (by kernel_rfl) (by kernel_rfl) (by kernel_rfl) rfl (by kernel_rfl) rfl rfl rfl rfl rfl (At.ext (hE.trans hS24.ext) g0_) 1 rfl rfl rfl rfl ?_
          refine DM.load1 ttok hsk27 11 32767 (by kernel_rfl) (by kernel_rfl) (by kernel_rfl) (by kernel_rfl) rfl (by kernel_rfl) rfl rfl rfl rfl rfl (At.ext (hE.trans hS24.ext) g1_) 0 rfl rfl rfl rfl ?_
          refine DM.load1 ttok hsk27 15 65535 (by kernel_rfl) (by kernel_rfl) (by kernel_rfl) (by kernel_rfl) rfl (by kernel_rfl) rfl rfl rfl rfl rfl (At.ext (hE.trans hS24.ext) g1_) 1 rfl rfl rfl rfl ?_
          obtain ⟨r29, hx30, hm⟩ := bind_some hm
          refine DM.one hsk27 16 (by kernel_rfl) (LM.call hsk27 131071 (by kernel_rfl) (by kernel_rfl) rfl rfl rfl rfl enters213 (spec_PairClass_ok (hE.trans hS28.ext)  hx30) (fun v31 w32 hR33 => ?_))
          obtain ⟨rfl, hR34⟩ := hR33
          refine ⟨hR34.ext, ?_⟩
          have hS35 := hS28.join hR34
          refine DM.run (fuel := 0) ttok hsk27 [17] 262143 (by kernel_rfl) (by kernel_rfl) rfl ?_
          refine DM.weak [(4, .int .i64 r29)] ⟨rfl, trivial⟩ ?_
          refine DM.done hsk27 (by kernel_rfl) ?_
          refine WP.ret ?_
          cases hm
          exact ⟨_, .cons (.tmp rfl) .nil, rfl, hS35⟩
      · skip
        refine WP.drawnM 0 mixed 24 (by kernel_rfl) (by kernel_rfl) [([], 16777215), ([0], 16777214), ([1], 16777213), ([2], 16777211), ([3], 16777207), ([4], 16777199), ([5], 16777183), ([6, 5], 16777119), ([7, 5], 16777055), ([8, 5], 16776927), ([9, 5], 16776671), ([5, 10], 16776159), ([11, 5], 16775167), ([12], 16773119), ([13, 12], 16764927), ([14, 12], 16756735), ([15, 12], 16740351), ([12], 16773119), ([17, 12], 16642047), ([18, 12], 16510975), ([19, 12], 16248831), ([20, 12], 15724543), ([16, 21, 12], 14610431), ([12, 22], 12578815)] (by kernel_rfl) hS19.ext (fun hsk36 => ?_)
        have hS37 := hS19.step (Ext.draw _)
        refine DM.run (fuel := 21) ttok hsk36 [0, 1, 2] 7 (by kernel_rfl) (by kernel_rfl) rfl ?_
        refine DM.load1 ttok hsk36 3 15 (by kernel_rfl) (by kernel_rfl) (by kernel_rfl) (by kernel_rfl) rfl (by kernel_rfl) rfl rfl rfl rfl rfl (At.ext (hE.trans hS19.ext) g0_) 0 rfl rfl rfl rfl ?_
        refine DM.run (fuel := 18) ttok hsk36 [4, 5] 63 (by kernel_rfl) (by kernel_rfl) rfl ?_
        refine DM.weak [(0, .pointer (some p0_)), (1, .pointer (some p1_)), (34, .bool (x0.Kind == 10))] ⟨rfl, rfl, rfl, trivial⟩ ?_
        by_cases hg38 : (x0.Kind == 10) = true
        · skip
          rw [if_pos hg38] at hm
          refine DM.know 34 rfl (congrArg Value.bool hg38) ?_
          refine DM.run (fuel := 15) ttok hsk36 [6, 7, 8] 511 (by kernel_rfl) (by kernel_rfl) rfl ?_
          refine DM.load1 ttok hsk36 9 1023 (by kernel_rfl) (by kernel_rfl) (by kernel_rfl) (by kernel_rfl) rfl (by kernel_rfl) rfl rfl rfl rfl rfl (At.ext (hE.trans hS19.ext) g1_) 0 rfl rfl rfl rfl ?_
          refine DM.run (fuel := 11) ttok hsk36 [10, 11, 12] 8191 (by kernel_rfl) (by kernel_rfl) rfl ?_
          refine DM.weak [(0, .pointer (some p0_)), (1, .pointer (some p1_)), (41, .bool (x1.Kind == 9))] ⟨rfl, rfl, rfl, trivial⟩ ?_
          by_cases hg39 : (x1.Kind == 9) = true
          · skip
            rw [if_pos hg39] at hm
            refine DM.know 41 rfl (congrArg Value.bool hg39) ?_
            refine DM.run (fuel := 5) ttok hsk36 [13, 14, 15, 17, 18, 19] 983039 (by kernel_rfl) (by kernel_rfl) rfl ?_
            refine DM.load1 ttok hsk36 16 1048575 (by kernel_rfl) (by kernel_rfl) (by kernel_rfl) (by kernel_rfl) rfl (by kernel_rfl) rfl rfl rfl rfl rfl (At.ext (hE.trans hS19.ext) g1_) 2 rfl rfl rfl rfl ?_
            refine DM.load1 ttok hsk36 20 2097151 (by kernel_rfl) (by kernel_rfl) (by kernel_rfl) (by kernel_rfl) rfl (by kernel_rfl) rfl rfl rfl rfl rfl (At.ext (hE.trans hS19.ext) g0_) 3 rfl rfl rfl rfl ?_
            refine DM.run (fuel := 0) ttok hsk36 [21, 22, 23] 16777215 (by kernel_rfl) (by kernel_rfl) rfl ?_
            refine DM.weak [(0, .pointer (some p0_)), (1, .pointer (some p1_)), (52, .bool (decide (x1.Value ≥ (x0.Data.length : Int))))] ⟨rfl, rfl, rfl, trivial⟩ ?_
            refine DM.done hsk36 (by kernel_rfl) ?_
            exact ⟨decide (x1.Value ≥ (x0.Data.length : Int)), [(0, .pointer (some p0_)), (1, .pointer (some p1_)), (52, .bool (decide (x1.Value ≥ (x0.Data.length : Int))))], ⟨rfl, rfl, rfl, trivial⟩, hm, (Ext.draw _), hS37, rfl⟩
          · skip
            rw [if_neg hg39] at hm
            refine DM.know 41 rfl (congrArg Value.bool (Bool.eq_false_iff.2 hg39)) ?_
            refine DM.run (fuel := 0) ttok hsk36 [13, 14, 15, 16, 17, 18, 19, 20, 21, 22, 23] 16777215 (by kernel_rfl) (by kernel_rfl) rfl ?_
            refine DM.weak [(0, .pointer (some p0_)), (1, .pointer (some p1_)), (52, .bool false)] ⟨rfl, rfl, rfl, trivial⟩ ?_
            refine DM.done hsk36 (by kernel_rfl) ?_
            exact ⟨false, [(0, .pointer (some p0_)), (1, .pointer (some p1_)), (52, .bool false)], ⟨rfl, rfl, rfl, trivial⟩, hm, (Ext.draw _), hS37, rfl⟩
        · skip
          rw [if_neg hg38] at hm
          refine DM.know 34 rfl (congrArg Value.bool (Bool.eq_false_iff.2 hg38)) ?_
          refine DM.run (fuel := 0) ttok hsk36 [6, 7, 8, 9, 10, 11, 12, 13, 14, 15, 16, 17, 18, 19, 20, 21, 22, 23] 16777215 (by kernel_rfl) (by kernel_rfl) rfl ?_
          refine DM.weak [(0, .pointer (some p0_)), (1, .pointer (some p1_)), (52, .bool false)] ⟨rfl, rfl, rfl, trivial⟩ ?_
          refine DM.done hsk36 (by kernel_rfl) ?_
          exact ⟨false, [(0, .pointer (some p0_)), (1, .pointer (some p1_)), (52, .bool false)], ⟨rfl, rfl, rfl, trivial⟩, hm, (Ext.draw _), hS37, rfl⟩
  · skip
    refine WP.drawnM 0 mixed 24 (by kernel_rfl) (by kernel_rfl) [([], 16777215), ([0], 16777214), ([1], 16777213), ([2], 16777211), ([3], 16777207), ([4], 16777199), ([5], 16777183), ([6, 5], 16777119), ([7, 5], 16777055), ([8, 5], 16776927), ([9, 5], 16776671), ([5, 10], 16776159), ([11, 5], 16775167), ([12], 16773119), ([13, 12], 16764927), ([14, 12], 16756735), ([15, 12], 16740351), ([12], 16773119), ([17, 12], 16642047), ([18, 12], 16510975), ([19, 12], 16248831), ([20, 12], 15724543), ([16, 21, 12], 14610431), ([12, 22], 12578815)] (by kernel_rfl) hS.ext (fun hsk40 => ?_)
    have hS41 := hS.step (Ext.draw _)
    refine DM.run (fuel := 21) ttok hsk40 [0, 1, 2] 7 (by kernel_rfl) (by kernel_rfl) rfl ?_
    refine DM.load1 ttok hsk40 3 15 (by kernel_rfl) (by kernel_rfl) (by kernel_rfl) (by kernel_rfl) rfl (by kernel_rfl) rfl rfl rfl rfl rfl (At.ext (hE.trans hS.ext) g0_) 0 rfl rfl rfl rfl ?_
    refine DM.run (fuel := 18) ttok hsk40 [4, 5] 63 (by kernel_rfl) (by kernel_rfl) rfl ?_
    refine DM.weak [(0, .pointer (some p0_)), (1, .pointer (some p1_)), (10, .bool (x0.Kind == 9))] ⟨rfl, rfl, rfl, trivial⟩ ?_
    by_cases hg42 : (x0.Kind == 9) = true
    · skip
      rw [if_pos hg42] at hm
      refine DM.know 10 rfl (congrArg Value.bool hg42) ?_
      refine DM.run (fuel := 15) ttok hsk40 [6, 7, 8] 511 (by kernel_rfl) (by kernel_rfl) rfl ?_
      refine DM.load1 ttok hsk40 9 1023 (by kernel_rfl) (by kernel_rfl) (by kernel_rfl) (by kernel_rfl) rfl (by kernel_rfl) rfl rfl rfl rfl rfl (At.ext (hE.trans hS.ext) g1_) 0 rfl rfl rfl rfl ?_
      refine DM.run (fuel := 11) ttok hsk40 [10, 11, 12] 8191 (by kernel_rfl) (by kernel_rfl) rfl ?_
      refine DM.weak [(0, .pointer (some p0_)), (1, .pointer (some p1_)), (17, .bool (x1.Kind == 10))] ⟨rfl, rfl, rfl, trivial⟩ ?_
      by_cases hg43 : (x1.Kind == 10) = true
      · skip
        rw [if_pos hg43] at hm
        refine DM.know 17 rfl (congrArg Value.bool hg43) ?_
        refine DM.run (fuel := 5) ttok hsk40 [13, 14, 15, 17, 18, 19] 983039 (by kernel_rfl) (by kernel_rfl) rfl ?_
        refine DM.load1 ttok hsk40 16 1048575 (by kernel_rfl) (by kernel_rfl) (by kernel_rfl) (by kernel_rfl) rfl (by kernel_rfl) rfl rfl rfl rfl rfl (At.ext (hE.trans hS.ext) g0_) 2 rfl rfl rfl rfl ?_
        refine DM.load1 ttok hsk40 20 2097151 (by kernel_rfl) (by kernel_rfl) (by kernel_rfl) (by kernel_rfl) rfl (by kernel_rfl) rfl rfl rfl rfl rfl (At.ext (hE.trans hS.ext) g1_) 3 rfl rfl rfl rfl ?_
        refine DM.run (fuel := 0) ttok hsk40 [21, 22, 23] 16777215 (by kernel_rfl) (by kernel_rfl) rfl ?_
        refine DM.weak [(0, .pointer (some p0_)), (1, .pointer (some p1_)), (28, .bool (decide (x0.Value ≥ (x1.Data.length : Int))))] ⟨rfl, rfl, rfl, trivial⟩ ?_
        refine DM.done hsk40 (by kernel_rfl) ?_
        exact ⟨decide (x0.Value ≥ (x1.Data.length : Int)), [(0, .pointer (some p0_)), (1, .pointer (some p1_)), (28, .bool (decide (x0.Value ≥ (x1.Data.length : Int))))], ⟨rfl, rfl, rfl, trivial⟩, hm, (Ext.draw _), hS41, rfl⟩
      · skip
        rw [if_neg hg43] at hm
        refine DM.know 17 rfl (congrArg Value.bool (Bool.eq_false_iff.2 hg43)) ?_
        refine DM.run (fuel := 0) ttok hsk40 [13, 14, 15, 16, 17, 18, 19, 20, 21, 22, 23] 16777215 (by kernel_rfl) (by kernel_rfl) rfl ?_
        refine DM.weak [(0, .pointer (some p0_)), (1, .pointer (some p1_)), (28, .bool false)] ⟨rfl, rfl, rfl, trivial⟩ ?_
        refine DM.done hsk40 (by kernel_rfl) ?_
        exact ⟨false, [(0, .pointer (some p0_)), (1, .pointer (some p1_)), (28, .bool false)], ⟨rfl, rfl, rfl, trivial⟩, hm, (Ext.draw _), hS41, rfl⟩
    · skip
      rw [if_neg hg42] at hm
      refine DM.know 10 rfl (congrArg Value.bool (Bool.eq_false_iff.2 hg42)) ?_
      refine DM.run (fuel := 0) ttok hsk40 [6, 7, 8, 9, 10, 11, 12, 13, 14, 15, 16, 17, 18, 19, 20, 21, 22, 23] 16777215 (by kernel_rfl) (by kernel_rfl) rfl ?_
      refine DM.weak [(0, .pointer (some p0_)), (1, .pointer (some p1_)), (28, .bool false)] ⟨rfl, rfl, rfl, trivial⟩ ?_
      refine DM.done hsk40 (by kernel_rfl) ?_
      exact ⟨false, [(0, .pointer (some p0_)), (1, .pointer (some p1_)), (28, .bool false)], ⟨rfl, rfl, rfl, trivial⟩, hm, (Ext.draw _), hS41, rfl⟩

theorem enters81 : Enters Try.prog 81 := ⟨_, _, Try.func81, rfl, by kernel_rfl⟩
def m_spec_l22Class_j2 (fuel : Nat) (t15 : (Int × Int × Int × (List Int) × (List D.Port))) (t25 : (Int × Int × Int × (List Int) × (List D.Port))) : Option Int := ((m_spec_l13Class fuel (⟨t15.1, t15.2.1, t15.2.2.1, t15.2.2.2.1, t15.2.2.2.2⟩ : D.Agent) (⟨t25.1, t25.2.1, t25.2.2.1, t25.2.2.2.1, t25.2.2.2.2⟩ : D.Agent)).bind fun r35 => some r35)
def m_spec_l22Class_j1 (fuel : Nat) (x0 : D.Memory) (x1 : D.Pair) (t15 : (Int × Int × Int × (List Int) × (List D.Port))) : Option Int := ((idx x0.Cells x1.B).bind fun x44 => ((m_spec_l21Agent fuel x44).bind fun r57 => m_spec_l22Class_j2 fuel t15 (r57.Kind, r57.Level, r57.Value, r57.Data, r57.Ports)))
def m_spec_l22Class (fuel : Nat) (x0 : D.Memory) (x1 : D.Pair) : Option (Int) := ((idx x0.Cells x1.A).bind fun x115 => ((m_spec_l21Agent fuel x115).bind fun r128 => m_spec_l22Class_j1 fuel x0 x1 (r128.Kind, r128.Level, r128.Value, r128.Data, r128.Ports)))

set_option maxRecDepth 100000 in
theorem spec_l22Class_ok {W w : World} (hE : Ext W w) {p0_ : Addr} {c0_ : List Value} {x0 : D.Memory} {c1_ : List Value} {x1 : D.Pair} (h0_ : ty80.ro W c0_ x0) (g0_ : At W p0_ c0_) (h1_ : ty139.ro W c1_ x1) {fuel : Nat} {r : Int} (hm : m_spec_l22Class fuel x0 x1 = some r) :
    Calls Try.prog 81 ⟨[.pointer (some p0_), .agg ⟨c1_⟩]⟩ w (Ret fun v w8 => v = .int .i64 r ∧ St w w8 []) := by
  obtain ⟨A1, k2, A4, k5, e7, h3, h6⟩ := ty80_open h0_; subst e7
  have e10 := ty139_open h1_; subst e10
  refine Calls.into Try.func81 rfl 24 rfl rfl _ rfl ?_
  unfold m_spec_l22Class at hm
  have hS := St.start w
  refine WP.seq ?_
  refine WP.region ?_
  refine RW.new ttok hS rfl rfl rfl rfl (fun g11 w12 e13 hS14 => ?_)
  refine RW.run ttok 1 rfl ?_
  refine RW.nil ?_
  refine WP.seq ?_
  refine WP.cut (fun (t15 : (Int × Int × Int × (List Int) × (List D.Port))) F w9 => ∃ g16 A17 k18 A20 k21, m_spec_l22Class_j1 fuel x0 x1 t15 = some r ∧ ty103.ro W [.slice A17 t15.2.2.2.1.length k18] t15.2.2.2.1 ∧ St w w9 [Box g16 [.int .i64 t15.1, .int .i64 t15.2.1, .int .i64 t15.2.2.1, .slice A17 t15.2.2.2.1.length k18, .slice A20 t15.2.2.2.2.length k21] 112, Own ty110 [.slice A20 t15.2.2.2.2.length k21] t15.2.2.2.2, Box g11 [.int .i64 x1.A, .int .i64 x1.B] 139] ∧ F = [(0, .pointer (some p0_)), (3, .pointer (some ⟨g11, 0, none⟩)), (5, .pointer (some ⟨g16, 0, none⟩))]) ?_ ?_
  · skip
    rintro t15 F w23 ⟨g16, A17, k18, A20, k21, hm, h19, hS22, rfl⟩
    unfold m_spec_l22Class_j1 at hm
    refine WP.seq ?_
    refine WP.cut (fun (t25 : (Int × Int × Int × (List Int) × (List D.Port))) F w9 => ∃ g26 A27 k28 A30 k31, m_spec_l22Class_j2 fuel t15 t25 = some r ∧ ty103.ro W [.slice A27 t25.2.2.2.1.length k28] t25.2.2.2.1 ∧ St w w9 [Box g26 [.int .i64 t25.1, .int .i64 t25.2.1, .int .i64 t25.2.2.1, .slice A27 t25.2.2.2.1.length k28, .slice A30 t25.2.2.2.2.length k31] 112, Own ty110 [.slice A30 t25.2.2.2.2.length k31] t25.2.2.2.2, Box g16 [.int .i64 t15.1, .int .i64 t15.2.1, .int .i64 t15.2.2.1, .slice A17 t15.2.2.2.1.length k18, .slice A20 t15.2.2.2.2.length k21] 112, Own ty110 [.slice A20 t15.2.2.2.2.length k21] t15.2.2.2.2, Box g11 [.int .i64 x1.A, .int .i64 x1.B] 139] ∧ F = [(5, .pointer (some ⟨g16, 0, none⟩)), (6, .pointer (some ⟨g26, 0, none⟩))]) ?_ ?_
    · skip
      rintro t25 F w33 ⟨g26, A27, k28, A30, k31, hm, h29, hS32, rfl⟩
      unfold m_spec_l22Class_j2 at hm
      refine WP.seq ?_
      refine WP.region ?_
      obtain ⟨r35, hx36, hm⟩ := bind_some hm
      refine RW.call rfl rfl rfl enters144 (spec_l13Class_ok (Ext.refl _) (ty112_shut (⟨t15.1, t15.2.1, t15.2.2.1, t15.2.2.2.1, t15.2.2.2.2⟩ : D.Agent) (ty103.ext (hE.trans hS32.ext) h19) ((hS32.bring 3 rfl).own)) ((hS32.bring 2 rfl).box) (ty112_shut (⟨t25.1, t25.2.1, t25.2.2.1, t25.2.2.2.1, t25.2.2.2.2⟩ : D.Agent) (ty103.ext (hE.trans hS32.ext) h29) ((hS32.bring 1 rfl).own)) ((hS32.bring 0 rfl).box) hx36) (fun v37 w38 hR39 => ?_)
      obtain ⟨rfl, hR40⟩ := hR39
      have hS41 := hS32.join hR40
      refine RW.run ttok 1 rfl ?_
      refine RW.nil ?_
      refine WP.ret ?_
      cases hm
      exact ⟨_, .cons (.tmp rfl) .nil, rfl, (hS41.taken 0)⟩
    · skip
      refine WP.drawnM 512 mixed 10 (by kernel_rfl) (by kernel_rfl) [([], 1023), ([0], 1022), ([1], 1021), ([2], 1019), ([], 1023), ([4], 1007), ([3, 5], 983), ([6], 959), ([], 1023), ([8, 7, 7, 0, 1, 2, 3, 4, 5, 6, 7, 8], 639)] (by kernel_rfl) hS22.ext (fun hsk42 => ?_)
      have hS43 := hS22.step (Ext.draw _)
      refine DM.run (fuel := 6) ttok hsk42 [0, 1, 2, 4] 23 (by kernel_rfl) (by kernel_rfl) rfl ?_
      refine DM.load1 ttok hsk42 3 31 (by kernel_rfl) (by kernel_rfl) (by kernel_rfl) (by kernel_rfl) rfl (by kernel_rfl) rfl rfl rfl rfl rfl (At.ext (hE.trans hS22.ext) g0_) 0 rfl rfl rfl rfl ?_
      refine DM.load1 ttok hsk42 5 63 (by kernel_rfl) (by kernel_rfl) (by kernel_rfl) (by kernel_rfl) rfl (by kernel_rfl) rfl rfl rfl rfl rfl ((hS22.bring 2 rfl).box) 1 rfl rfl rfl rfl ?_
      obtain ⟨x44, hx45, hm⟩ := bind_some hm
      refine DM.idx ttok (hE.trans hS22.ext) hsk42 6 127 (by kernel_rfl) (by kernel_rfl) (by kernel_rfl) (by kernel_rfl) rfl (by kernel_rfl) rfl rfl rfl rfl rfl rfl (by decide) rfl rfl h3 (idx_some hx45).1 (idx_some hx45).2 rfl rfl (fun p46 es47 ha48 hr49 => ?_)
      obtain ⟨A50, k51, A53, k54, e56, h52, h55⟩ := ty157_open hr49; subst e56
      obtain ⟨r57, hx58, hm⟩ := bind_some hm
      refine DM.all hsk42 [7, 8] (by kernel_rfl) (by simp) ?_
      intro i77 hi78
      simp only [List.mem_cons, List.not_mem_nil, or_false] at hi78
      rcases hi78 with rfl | rfl
      · skip
        refine LM.call hsk42 255 (by kernel_rfl) (by kernel_rfl) rfl rfl rfl rfl enters143 (spec_l21Agent_ok (hE.trans hS43.ext) hr49 ha48 hx58) (fun v79 w80 hR81 => ?_)
        obtain ⟨A82, k83, A85, k86, rfl, hR87, h84⟩ := hR81
        refine ⟨hR87.ext, ?_⟩
        have hS88 := hS43.join hR87
        refine DM.one hsk42 8 (by kernel_rfl) (LM.new ttok hsk42 hS88 511 (by kernel_rfl) (by kernel_rfl) rfl rfl rfl rfl rfl (fun g89 w90 e91 hS92 => ?_))
        have hS93 := hS92.bring 0 rfl
        refine DM.one hsk42 9 (by kernel_rfl) (LM.store ttok (A := []) hS93 hsk42 1023 (by kernel_rfl) (by kernel_rfl) rfl rfl rfl rfl rfl rfl 0 rfl rfl rfl rfl rfl (fun w94 hS95 => ?_))
        refine DM.done hsk42 (by kernel_rfl) ?_
        exact ⟨(r57.Kind, r57.Level, r57.Value, r57.Data, r57.Ports), [(5, .pointer (some ⟨g16, 0, none⟩)), (6, .pointer (some ⟨g89, 0, none⟩))], ⟨rfl, rfl, trivial⟩, g89, A82, k83, A85, k86, hm, h84, hS95, rfl⟩
      · skip
        refine LM.new ttok hsk42 hS43 383 (by kernel_rfl) (by kernel_rfl) rfl rfl rfl rfl rfl (fun g96 w97 e98 hS99 => ?_)
        refine DM.one hsk42 7 (by kernel_rfl) (LM.call hsk42 511 (by kernel_rfl) (by kernel_rfl) rfl rfl rfl rfl enters143 (spec_l21Agent_ok (hE.trans hS99.ext) hr49 ha48 hx58) (fun v100 w101 hR102 => ?_))
        obtain ⟨A103, k104, A106, k107, rfl, hR108, h105⟩ := hR102
        refine ⟨hR108.ext, ?_⟩
        have hS109 := hS99.join hR108
        have hS110 := hS109.bring 1 rfl
        refine DM.one hsk42 9 (by kernel_rfl) (LM.store ttok (A := []) hS110 hsk42 1023 (by kernel_rfl) (by kernel_rfl) rfl rfl rfl rfl rfl rfl 0 rfl rfl rfl rfl rfl (fun w111 hS112 => ?_))
        refine DM.done hsk42 (by kernel_rfl) ?_
        exact ⟨(r57.Kind, r57.Level, r57.Value, r57.Data, r57.Ports), [(5, .pointer (some ⟨g16, 0, none⟩)), (6, .pointer (some ⟨g96, 0, none⟩))], ⟨rfl, rfl, trivial⟩, g96, A103, k104, A106, k107, hm, h105, hS112, rfl⟩
  · skip
    refine WP.drawnM 512 mixed 10 (by kernel_rfl) (by kernel_rfl) [([], 1023), ([0], 1022), ([1], 1021), ([2], 1019), ([], 1023), ([4], 1007), ([3, 5], 983), ([6], 959), ([], 1023), ([8, 7, 7, 0, 1, 2, 3, 4, 5, 6, 7, 8], 639)] (by kernel_rfl) hS14.ext (fun hsk113 => ?_)
    have hS114 := hS14.step (Ext.draw _)
    refine DM.run (fuel := 6) ttok hsk113 [0, 1, 2, 4] 23 (by kernel_rfl) (by kernel_rfl) rfl ?_
    refine DM.load1 ttok hsk113 3 31 (by kernel_rfl) (by kernel_rfl) (by kernel_rfl) (by kernel_rfl) rfl (by kernel_rfl) rfl rfl rfl rfl rfl (At.ext (hE.trans hS14.ext) g0_) 0 rfl rfl rfl rfl ?_
    refine DM.load1 ttok hsk113 5 63 (by kernel_rfl) (by kernel_rfl) (by kernel_rfl) (by kernel_rfl) rfl (by kernel_rfl) rfl rfl rfl rfl rfl ((hS14.bring 0 rfl).box) 0 rfl rfl rfl rfl ?_
    obtain ⟨x115, hx116, hm⟩ := bind_some hm
    refine DM.idx ttok (hE.trans hS14.ext) hsk113 6 127 (by kernel_rfl) (by kernel_rfl) (by kernel_rfl) (by kernel_rfl) rfl (by kernel_rfl) rfl rfl rfl rfl rfl rfl (by decide) rfl rfl h3 (idx_some hx116).1 (idx_some hx116).2 rfl rfl (fun p117 es118 ha119 hr120 => ?_)
    obtain ⟨A121, k122, A124, k125, e127, h123, h126⟩ := ty157_open hr120; subst e127
    obtain ⟨r128, hx129, hm⟩ := bind_some hm
    refine DM.all hsk113 [7, 8] (by kernel_rfl) (by simp) ?_
    intro i147 hi148
    simp only [List.mem_cons, List.not_mem_nil, or_false] at hi148
    rcases hi148 with rfl | rfl
    · skip
      refine LM.call hsk113 255 (by kernel_rfl) (by kernel_rfl) rfl rfl rfl rfl enters143 (spec_l21Agent_ok (hE.trans hS114.ext) hr120 ha119 hx129) (fun v149 w150 hR151 => ?_)
      obtain ⟨A152, k153, A155, k156, rfl, hR157, h154⟩ := hR151
      refine ⟨hR157.ext, ?_⟩
      have hS158 := hS114.join hR157
      refine DM.one hsk113 8 (by kernel_rfl) (LM.new ttok hsk113 hS158 511 (by kernel_rfl) (by kernel_rfl) rfl rfl rfl rfl rfl (fun g159 w160 e161 hS162 => ?_))
      have hS163 := hS162.bring 0 rfl
      refine DM.one hsk113 9 (by kernel_rfl) (LM.store ttok (A := []) hS163 hsk113 1023 (by kernel_rfl) (by kernel_rfl) rfl rfl rfl rfl rfl rfl 0 rfl rfl rfl rfl rfl (fun w164 hS165 => ?_))
      refine DM.done hsk113 (by kernel_rfl) ?_
      exact ⟨(r128.Kind, r128.Level, r128.Value, r128.Data, r128.Ports), [(0, .pointer (some p0_)), (3, .pointer (some ⟨g11, 0, none⟩)), (5, .pointer (some ⟨g159, 0, none⟩))], ⟨rfl, rfl, rfl, trivial⟩, g159, A152, k153, A155, k156, hm, h154, hS165, rfl⟩
    · skip
      refine LM.new ttok hsk113 hS114 383 (by kernel_rfl) (by kernel_rfl) rfl rfl rfl rfl rfl (fun g166 w167 e168 hS169 => ?_)
      refine DM.one hsk113 7 (by kernel_rfl) (LM.call hsk113 511 (by kernel_rfl) (by kernel_rfl) rfl rfl rfl rfl enters143 (spec_l21Agent_ok (hE.trans hS169.ext) hr120 ha119 hx129) (fun v170 w171 hR172 => ?_))
      obtain ⟨A173, k174, A176, k177, rfl, hR178, h175⟩ := hR172
      refine ⟨hR178.ext, ?_⟩
      have hS179 := hS169.join hR178
      have hS180 := hS179.bring 1 rfl
      refine DM.one hsk113 9 (by kernel_rfl) (LM.store ttok (A := []) hS180 hsk113 1023 (by kernel_rfl) (by kernel_rfl) rfl rfl rfl rfl rfl rfl 0 rfl rfl rfl rfl rfl (fun w181 hS182 => ?_))
      refine DM.done hsk113 (by kernel_rfl) ?_
      exact ⟨(r128.Kind, r128.Level, r128.Value, r128.Data, r128.Ports), [(0, .pointer (some p0_)), (3, .pointer (some ⟨g11, 0, none⟩)), (5, .pointer (some ⟨g166, 0, none⟩))], ⟨rfl, rfl, rfl, trivial⟩, g166, A173, k174, A176, k177, hm, h175, hS182, rfl⟩

theorem enters36 : Enters Try.prog 36 := ⟨_, _, Try.func36, rfl, by kernel_rfl⟩
def m_spec_RedexClass (fuel : Nat) (x0 : D.Memory) (x1 : Int) : Option (Int × Int) := ((m_spec_l22Asked fuel x0 x1).bind fun r14 => (if (r14 != 0) = true then some (0, r14) else ((idx x0.Redexes x1).bind fun x21 => ((m_spec_l22Class fuel x0 x21).bind fun r28 => some (r28, 0)))))

set_option maxRecDepth 100000 in
theorem spec_RedexClass_ok {W w : World} (hE : Ext W w) {c0_ : List Value} {x0 : D.Memory} {x1 : Int} (h0_ : ty80.ro W c0_ x0) {fuel : Nat} {r : Int × Int} (hm : m_spec_RedexClass fuel x0 x1 = some r) :
    Calls Try.prog 36 ⟨[.agg ⟨c0_⟩, .int .i64 x1]⟩ w (Ret fun v w8 => v = .tuple ⟨[.int .i64 r.1, .int .i64 r.2]⟩ ∧ St w w8 []) := by
  obtain ⟨A1, k2, A4, k5, e7, h3, h6⟩ := ty80_open h0_; subst e7
  refine Calls.into Try.func36 rfl 18 rfl rfl _ rfl ?_
  unfold m_spec_RedexClass at hm
  have hS := St.start w
  refine WP.seq ?_
  refine WP.region ?_
  refine RW.new ttok hS rfl rfl rfl rfl (fun g10 w11 e12 hS13 => ?_)
  refine RW.run ttok 2 rfl ?_
  refine RW.nil ?_
  refine WP.seq ?_
  refine WP.region ?_
  refine RW.run ttok 1 rfl ?_
  obtain ⟨r14, hx15, hm⟩ := bind_some hm
  refine RW.call rfl rfl rfl enters80 (spec_l22Asked_ok (Ext.refl _) (ty80.ext (hE.trans hS13.ext) h0_) ((hS13.bring 0 rfl).box) hx15) (fun v16 w17 hR18 => ?_)
  obtain ⟨rfl, hR19⟩ := hR18
  have hS20 := hS13.join hR19
  refine RW.run ttok 1 rfl ?_
  refine RW.nil ?_
  refine WP.seq ?_
  refine WP.seq ?_
  refine WP.region ?_
  refine RW.run ttok 2 rfl ?_
  refine RW.nil ?_
  refine WP.cond (r14 != 0) rfl (fun hc => ?_) (fun hc => ?_)
  · skip
    rw [if_pos hc] at hm
    refine WP.seq ?_
    refine WP.region ?_
    refine RW.run ttok 3 rfl ?_
    refine RW.nil ?_
    refine WP.ret ?_
    cases hm
    exact ⟨_, .cons (.tmp rfl) (.cons (.tmp rfl) .nil), rfl, (hS20.taken 0)⟩
  · skip
    rw [if_neg (not_t hc)] at hm
    refine WP.skip ?_
    refine WP.seq ?_
    refine WP.region ?_
    refine RW.run ttok 1 rfl ?_
    refine RW.load1 ttok rfl rfl rfl rfl rfl ((hS20.bring 0 rfl).box) 4 rfl rfl rfl rfl ?_
    refine RW.run ttok 1 rfl ?_
    obtain ⟨x21, hx22, hm⟩ := bind_some hm
    refine RW.idx ttok (hE.trans hS20.ext) rfl rfl rfl rfl rfl rfl (by decide) rfl rfl h6 (idx_some hx22).1 (idx_some hx22).2 rfl rfl (fun p23 es24 ha25 hr26 => ?_)
    have e27 := ty139_open hr26; subst e27
    refine RW.loadN ttok rfl rfl rfl rfl rfl (At.ext (hE.trans hS20.ext) ha25) rfl rfl rfl ?_
    obtain ⟨r28, hx29, hm⟩ := bind_some hm
    refine RW.call rfl rfl rfl enters81 (spec_l22Class_ok (Ext.refl _) (ty80.ext (hE.trans hS20.ext) h0_) ((hS20.bring 0 rfl).box) (ty139.ext (hE.trans hS20.ext) hr26) hx29) (fun v30 w31 hR32 => ?_)
    obtain ⟨rfl, hR33⟩ := hR32
    have hS34 := hS20.join hR33
    refine RW.run ttok 2 rfl ?_
    refine RW.nil ?_
    refine WP.ret ?_
    cases hm
    exact ⟨_, .cons (.tmp rfl) (.cons (.tmp rfl) .nil), rfl, (hS34.taken 0)⟩

theorem enters86 : Enters Try.prog 86 := ⟨_, _, Try.func86, rfl, by kernel_rfl⟩
def m_impl_Memory_hasRedex (fuel : Nat) (x0 : D.Memory) (x1 : Int) : Option (Bool) := (if (decide (x1 ≥ 0)) = true then some (decide (x1 < (x0.Redexes.length : Int))) else some false)

set_option maxRecDepth 100000 in
theorem impl_Memory_hasRedex_ok {W w : World} (hE : Ext W w) {p0_ : Addr} {c0_ : List Value} {x0 : D.Memory} {x1 : Int} (h0_ : ty80.ro W c0_ x0) (g0_ : At W p0_ c0_) {fuel : Nat} {r : Bool} (hm : m_impl_Memory_hasRedex fuel x0 x1 = some r) :
    Calls Try.prog 86 ⟨[.pointer (some p0_), .int .i64 x1]⟩ w (Ret fun v w8 => v = .bool r ∧ St w w8 []) := by
  obtain ⟨A1, k2, A4, k5, e7, h3, h6⟩ := ty80_open h0_; subst e7
  refine Calls.into Try.func86 rfl 16 rfl rfl _ rfl ?_
  unfold m_impl_Memory_hasRedex at hm
  have hS := St.start w
  refine WP.seq ?_
  refine WP.region ?_
  refine RW.run ttok 1 rfl ?_
  refine RW.nil ?_
  refine WP.seq ?_
  refine WP.region ?_
  refine RW.run ttok 3 rfl ?_
  by_cases hg10 : (decide (x1 ≥ 0)) = true
  · skip
    rw [if_pos hg10] at hm
    refine RW.know 7 rfl (congrArg Value.bool hg10) ?_
    refine RW.run ttok 4 rfl ?_
    refine RW.load1 ttok rfl rfl rfl rfl rfl (At.ext (hE.trans hS.ext) g0_) 4 rfl rfl rfl rfl ?_
    refine RW.run ttok 4 rfl ?_
    refine RW.nil ?_
    refine WP.ret ?_
    cases hm
    exact ⟨_, .cons (.tmp rfl) .nil, rfl, hS⟩
  · skip
    rw [if_neg hg10] at hm
    refine RW.know 7 rfl (congrArg Value.bool (Bool.eq_false_iff.2 hg10)) ?_
    refine RW.run ttok 9 rfl ?_
    refine RW.nil ?_
    refine WP.ret ?_
    cases hm
    exact ⟨_, .cons (.tmp rfl) .nil, rfl, hS⟩

theorem enters227 : Enters Try.prog 227 := ⟨_, _, Try.func227, rfl, by kernel_rfl⟩
def m_impl_Memory_agentOf (fuel : Nat) (x0 : D.Memory) (x1 : Int) : Option (D.Agent) := ((idx x0.Cells x1).bind fun x14 => (if decide (0 ≤ (w64 ((x14.Words.length : Int) + 1)) ∧ (w64 ((x14.Words.length : Int) + 1)) ≤ 4294967296) = true then some (⟨x14.Kind, x14.Level, x14.Value, x14.Data, (List.replicate (w64 ((x14.Words.length : Int) + 1)).toNat (⟨(0 : Int), (0 : Int)⟩ : D.Port))⟩ : D.Agent) else none))

set_option maxRecDepth 100000 in
theorem impl_Memory_agentOf_ok {W w : World} (hE : Ext W w) {p0_ : Addr} {c0_ : List Value} {x0 : D.Memory} {x1 : Int} (h0_ : ty80.ro W c0_ x0) (g0_ : At W p0_ c0_) {fuel : Nat} {r : D.Agent} (hm : m_impl_Memory_agentOf fuel x0 x1 = some r) :
    Calls Try.prog 227 ⟨[.pointer (some p0_), .int .i64 x1]⟩ w (Ret fun v w8 => ∃ A0 k0 A1 k1, v = .agg ⟨[.int .i64 r.Kind, .int .i64 r.Level, .int .i64 r.Value, .slice A0 r.Data.length k0, .slice A1 r.Ports.length k1]⟩ ∧ St w w8 [Own ty110 [.slice A1 r.Ports.length k1] r.Ports] ∧ ty103.ro W [.slice A0 r.Data.length k0] r.Data) := by
  obtain ⟨A1, k2, A4, k5, e7, h3, h6⟩ := ty80_open h0_; subst e7
  refine Calls.into Try.func227 rfl 27 rfl rfl _ rfl ?_
  unfold m_impl_Memory_agentOf at hm
  have hS := St.start w
  refine WP.seq ?_
  refine WP.region ?_
  refine RW.new ttok hS rfl rfl rfl rfl (fun g10 w11 e12 hS13 => ?_)
  refine RW.nil ?_
  refine WP.seq ?_
  refine WP.region ?_
  refine RW.run ttok 3 rfl ?_
  refine RW.load1 ttok rfl rfl rfl rfl rfl (At.ext (hE.trans hS13.ext) g0_) 0 rfl rfl rfl rfl ?_
  refine RW.run ttok 1 rfl ?_
  obtain ⟨x14, hx15, hm⟩ := bind_some hm
  refine RW.idx ttok (hE.trans hS13.ext) rfl rfl rfl rfl rfl rfl (by decide) rfl rfl h3 (idx_some hx15).1 (idx_some hx15).2 rfl rfl (fun p16 es17 ha18 hr19 => ?_)
  obtain ⟨A20, k21, A23, k24, e26, h22, h25⟩ := ty157_open hr19; subst e26
  refine RW.loadN ttok rfl rfl rfl rfl rfl (At.ext (hE.trans hS13.ext) ha18) rfl rfl rfl ?_
  refine RW.new ttok hS13 rfl rfl rfl rfl (fun g27 w28 e29 hS30 => ?_)
  have hS31 := hS30.bring 0 rfl
  refine RW.store ttok (A := []) hS31 rfl rfl rfl rfl rfl 0 rfl rfl rfl rfl rfl (fun w32 hS33 => ?_)
  refine RW.nil ?_
  refine WP.seq ?_
  refine WP.drawnM 16384 mixed 15 (by kernel_rfl) (by kernel_rfl) [([], 32767), ([0], 32766), ([], 32767), ([2], 32763), ([], 32767), ([4], 32751), ([], 32767), ([6], 32703), ([], 32767), ([8], 32511), ([9], 32255), ([10], 31743), ([11, 11], 30719), ([1, 3, 5, 7, 12], 28501), ([13, 0, 1, 2, 3, 4, 5, 6, 7, 8, 9, 10, 11, 12, 13], 24575)] (by kernel_rfl) hS33.ext (fun hsk34 => ?_)
  have hS35 := hS33.step (Ext.draw _)
  refine DM.run (fuel := 10) ttok hsk34 [0, 2, 4, 6, 8] 341 (by kernel_rfl) (by kernel_rfl) rfl ?_
  refine DM.weak [(4, .pointer (some ⟨g10, 0, none⟩)), (13, .pointer (some ⟨g27, 0, none⟩)), (15, .pointer (some ⟨g27, 1, none⟩)), (17, .pointer (some ⟨g27, 2, none⟩)), (19, .pointer (some ⟨g27, 3, none⟩)), (21, .pointer (some ⟨g27, 4, none⟩))] ⟨rfl, rfl, rfl, rfl, rfl, rfl, trivial⟩ ?_
  refine DM.load1 ttok hsk34 1 343 (by kernel_rfl) (by kernel_rfl) (by kernel_rfl) (by kernel_rfl) rfl (by kernel_rfl) rfl rfl rfl rfl rfl ((hS33.bring 0 rfl).box) 0 rfl rfl rfl rfl ?_
  refine DM.load1 ttok hsk34 3 351 (by kernel_rfl) (by kernel_rfl) (by kernel_rfl) (by kernel_rfl) rfl (by kernel_rfl) rfl rfl rfl rfl rfl ((hS33.bring 0 rfl).box) 1 rfl rfl rfl rfl ?_
  refine DM.load1 ttok hsk34 5 383 (by kernel_rfl) (by kernel_rfl) (by kernel_rfl) (by kernel_rfl) rfl (by kernel_rfl) rfl rfl rfl rfl rfl ((hS33.bring 0 rfl).box) 2 rfl rfl rfl rfl ?_
  refine DM.load1 ttok hsk34 7 511 (by kernel_rfl) (by kernel_rfl) (by kernel_rfl) (by kernel_rfl) rfl (by kernel_rfl) rfl rfl rfl rfl rfl ((hS33.bring 0 rfl).box) 3 rfl rfl rfl rfl ?_
  refine DM.load1 ttok hsk34 9 1023 (by kernel_rfl) (by kernel_rfl) (by kernel_rfl) (by kernel_rfl) rfl (by kernel_rfl) rfl rfl rfl rfl rfl ((hS33.bring 0 rfl).box) 4 rfl rfl rfl rfl ?_
  refine DM.run (fuel := 3) ttok hsk34 [10, 11] 4095 (by kernel_rfl) (by kernel_rfl) rfl ?_
  refine DM.weak [(4, .pointer (some ⟨g10, 0, none⟩)), (14, .int .i64 x14.Kind), (16, .int .i64 x14.Level), (18, .int .i64 x14.Value), (20, .slice A20 x14.Data.length k21), (24, .int .i64 (w64 ((x14.Words.length : Int) + 1)))] ⟨rfl, rfl, rfl, rfl, rfl, rfl, trivial⟩ ?_
  by_cases hk36 : decide (0 ≤ (w64 ((x14.Words.length : Int) + 1)) ∧ (w64 ((x14.Words.length : Int) + 1)) ≤ 4294967296) = true
  case neg => rw [if_neg hk36] at hm; cases hm
  rw [if_pos hk36] at hm
  have hz42 := of_decide_eq_true hk36
  refine DM.one hsk34 12 (by kernel_rfl) (LM.make (U := ty38) ttok (⟨(0 : Int), (0 : Int)⟩ : D.Port) hS35 hsk34 8191 (by kernel_rfl) (by kernel_rfl) rfl rfl rfl rfl rfl rfl rfl rfl rfl hz42.1 (by have := hz42.2; show _ * (16 : Int) ≤ _; omega) (by have := hz42.2; simp only [maxLen]; omega) (fun _ => (ty38_ownI (c := (⟨(0 : Int), (0 : Int)⟩ : D.Port)) rfl)) rfl rfl (fun A37 k38 w39 e40 hS41 => ?_))
  refine DM.quietP hsk34 13 16383 (by kernel_rfl) (by kernel_rfl) rfl (by kernel_rfl) rfl (fun _ => Quiet.build ttok rfl rfl rfl rfl rfl) rfl rfl ?_
  have hS43 := hS41.bring 2 rfl
  refine DM.one hsk34 14 (by kernel_rfl) (LM.store ttok (A := []) hS43 hsk34 32767 (by kernel_rfl) (by kernel_rfl) rfl rfl rfl rfl rfl rfl 0 rfl rfl rfl rfl rfl (fun w44 hS45 => ?_))
  refine DM.done hsk34 (by kernel_rfl) ?_
  refine WP.ret ?_
  cases hm
  exact ⟨_, .cons (ResIs.agg ttok rfl rfl rfl ((hS45.bring 0 rfl).box) rfl) .nil, A20, k21, A37, k38, rfl, ((hS45.bring 1 rfl).taken 1), h22⟩

theorem enters148 : Enters Try.prog 148 := ⟨_, _, Try.func148, rfl, by kernel_rfl⟩
def m_impl_Memory_redexNet (fuel : Nat) (x0 : D.Memory) (x1 : D.Pair) : Option (D.Net) := ((m_impl_Memory_agentOf fuel x0 x1.A).bind fun r21 => ((m_impl_Memory_agentOf fuel x0 x1.B).bind fun r33 => some (⟨([r21, r33] : (List D.Agent))⟩ : D.Net)))

set_option maxRecDepth 100000 in
theorem impl_Memory_redexNet_ok {W w : World} (hE : Ext W w) {p0_ : Addr} {c0_ : List Value} {x0 : D.Memory} {c1_ : List Value} {x1 : D.Pair} (h0_ : ty80.ro W c0_ x0) (g0_ : At W p0_ c0_) (h1_ : ty139.ro W c1_ x1) {fuel : Nat} {r : D.Net} (hm : m_impl_Memory_redexNet fuel x0 x1 = some r) :
    Calls Try.prog 148 ⟨[.pointer (some p0_), .agg ⟨c1_⟩]⟩ w (Ret fun v w8 => ∃ A0 k0, v = .agg ⟨[.slice A0 r.Agents.length k0]⟩ ∧ St w w8 [Own (ty28b1 W) [.slice A0 r.Agents.length k0] r.Agents]) := by
  obtain ⟨A1, k2, A4, k5, e7, h3, h6⟩ := ty80_open h0_; subst e7
  have e10 := ty139_open h1_; subst e10
  refine Calls.into Try.func148 rfl 15 rfl rfl _ rfl ?_
  unfold m_impl_Memory_redexNet at hm
  have hS := St.start w
  refine WP.seq ?_
  refine WP.region ?_
  refine RW.new ttok hS rfl rfl rfl rfl (fun g11 w12 e13 hS14 => ?_)
  refine RW.new ttok hS14 rfl rfl rfl rfl (fun g15 w16 e17 hS18 => ?_)
  refine RW.nil ?_
  refine WP.seq ?_
  refine WP.drawnM 1024 mixed 11 (by kernel_rfl) (by kernel_rfl) [([], 2047), ([], 2047), ([1], 2045), ([0, 2], 2042), ([], 2047), ([], 2047), ([5], 2015), ([4, 6, 3], 1967), ([3, 7], 1911), ([8], 1791), ([9, 7, 0, 1, 2, 3, 4, 5, 6, 7, 8, 9], 1535)] (by kernel_rfl) hS18.ext (fun hsk19 => ?_)
  have hS20 := hS18.step (Ext.draw _)
  refine DM.run (fuel := 7) ttok hsk19 [0, 1, 4, 5] 51 (by kernel_rfl) (by kernel_rfl) rfl ?_
  refine DM.load1 ttok hsk19 2 55 (by kernel_rfl) (by kernel_rfl) (by kernel_rfl) (by kernel_rfl) rfl (by kernel_rfl) rfl rfl rfl rfl rfl ((hS18.bring 1 rfl).box) 0 rfl rfl rfl rfl ?_
  refine DM.load1 ttok hsk19 6 119 (by kernel_rfl) (by kernel_rfl) (by kernel_rfl) (by kernel_rfl) rfl (by kernel_rfl) rfl rfl rfl rfl rfl ((hS18.bring 1 rfl).box) 1 rfl rfl rfl rfl ?_
  obtain ⟨r21, hx22, hm⟩ := bind_some hm
  refine DM.one hsk19 3 (by kernel_rfl) (LM.call hsk19 127 (by kernel_rfl) (by kernel_rfl) rfl rfl rfl rfl enters227 (impl_Memory_agentOf_ok (hE.trans hS20.ext) h0_ g0_ hx22) (fun v23 w24 hR25 => ?_))
  obtain ⟨A26, k27, A29, k30, rfl, hR31, h28⟩ := hR25
  refine ⟨hR31.ext, ?_⟩
  have hS32 := hS20.join hR31
  obtain ⟨r33, hx34, hm⟩ := bind_some hm
  refine DM.one hsk19 7 (by kernel_rfl) (LM.call hsk19 255 (by kernel_rfl) (by kernel_rfl) rfl rfl rfl rfl enters227 (impl_Memory_agentOf_ok (hE.trans hS32.ext) h0_ g0_ hx34) (fun v35 w36 hR37 => ?_))
  obtain ⟨A38, k39, A41, k42, rfl, hR43, h40⟩ := hR37
  refine ⟨hR43.ext, ?_⟩
  have hS44 := hS32.join hR43
  have hS45 := St.noEl (ty112b1 W) hS44
  have hS46 := hS45.bring 1 rfl
  have hS47 := St.bor (T := ty103) (x := r33.Data) hS46 h40
  have hS48 := ty112b1_shutS (W0 := W) (c := r33) (B := _) hS47
  have hS49 := St.consEl hS48
  have hS50 := hS49.bring 1 rfl
  have hS51 := St.bor (T := ty103) (x := r21.Data) hS50 h28
  have hS52 := ty112b1_shutS (W0 := W) (c := r21) (B := _) hS51
  have hS53 := St.consEl hS52
  refine DM.one hsk19 8 (by kernel_rfl) (LM.newSlice (U := (ty112b1 W)) (els := [.int .i64 r21.Kind, .int .i64 r21.Level, .int .i64 r21.Value, .slice A26 r21.Data.length k27, .slice A29 r21.Ports.length k30, .int .i64 r33.Kind, .int .i64 r33.Level, .int .i64 r33.Value, .slice A38 r33.Data.length k39, .slice A41 r33.Ports.length k42]) (ys := [r21, r33]) ttok hS53 hsk19 511 (by kernel_rfl) (by kernel_rfl) rfl rfl rfl rfl rfl rfl rfl rfl rfl rfl rfl rfl rfl (fun A54 k55 w56 e57 hS58 => ?_))
  refine DM.quietP hsk19 9 1023 (by kernel_rfl) (by kernel_rfl) rfl (by kernel_rfl) rfl (fun _ => Quiet.build ttok rfl rfl rfl rfl rfl) rfl rfl ?_
  have hS59 := hS58.bring 1 rfl
  refine DM.one hsk19 10 (by kernel_rfl) (LM.store ttok (A := []) hS59 hsk19 2047 (by kernel_rfl) (by kernel_rfl) rfl rfl rfl rfl rfl rfl 0 rfl rfl rfl rfl rfl (fun w60 hS61 => ?_))
  refine DM.done hsk19 (by kernel_rfl) ?_
  refine WP.ret ?_
  cases hm
  exact ⟨_, .cons (ResIs.agg ttok rfl rfl rfl ((hS61.bring 0 rfl).box) rfl) .nil, A54, k55, rfl, ((hS61.bring 1 rfl).taken 1)⟩

theorem enters271 : Enters Try.prog 271 := ⟨_, _, Try.func271, rfl, by kernel_rfl⟩
def m_impl_Duplicates_j1 (fuel : Nat) (x0 : Int) (x1 : Int) (x2 : Int) (t1 : Bool) : Option Bool := (if t1 = true then some false else (if (x1 == 6) = true then some true else (if (x1 == 12) = true then some true else ((m_impl_HasLevel fuel x1).bind fun r10 => (if r10 = true then some (decide (x2 > x0)) else some false)))))
def m_impl_Duplicates (fuel : Nat) (x0 : Int) (x1 : Int) (x2 : Int) : Option (Bool) := ((m_impl_isLevel fuel x0).bind fun r18 => (if (!r18) = true then m_impl_Duplicates_j1 fuel x0 x1 x2 true else ((m_impl_isAllowed fuel x1 x2).bind fun r26 => m_impl_Duplicates_j1 fuel x0 x1 x2 (!r26))))

set_option maxRecDepth 100000 in
theorem impl_Duplicates_ok {W w : World} (hE : Ext W w) {x0 : Int} {x1 : Int} {x2 : Int}  {fuel : Nat} {r : Bool} (hm : m_impl_Duplicates fuel x0 x1 x2 = some r) :
    Calls Try.prog 271 ⟨[.int .i64 x0, .int .i64 x1, .int .i64 x2]⟩ w (Ret fun v w8 => v = .bool r ∧ St w w8 []) := by
  refine Calls.into Try.func271 rfl 31 rfl rfl _ rfl ?_
  unfold m_impl_Duplicates at hm
  have hS := St.start w
  refine WP.seq ?_
  refine WP.region ?_
  refine RW.run ttok 1 rfl ?_
  refine RW.nil ?_
  refine WP.seq ?_
  refine WP.seq ?_
  refine WP.cut (fun (t1 : Bool) F w9 => m_impl_Duplicates_j1 fuel x0 x1 x2 t1 = some r ∧ Ext w w9 ∧ St w w9 [] ∧ F = [(0, .int .i64 x0), (1, .int .i64 x1), (2, .int .i64 x2), (15, .bool t1)]) ?_ ?_
  · skip
    rintro t1 F w4 ⟨hm, hE2, hS3, rfl⟩
    unfold m_impl_Duplicates_j1 at hm
    refine WP.cond t1 rfl (fun hc => ?_) (fun hc => ?_)
    · skip
      rw [if_pos hc] at hm
      refine WP.seq ?_
      refine WP.region ?_
      refine RW.run ttok 1 rfl ?_
      refine RW.nil ?_
      refine WP.ret ?_
      cases hm
      exact ⟨_, .cons (.tmp rfl) .nil, rfl, hS3⟩
    · skip
      rw [if_neg (not_t hc)] at hm
      refine WP.skip ?_
      refine WP.seq ?_
      refine WP.region ?_
      refine RW.run ttok 3 rfl ?_
      by_cases hg6 : (x1 == 6) = true
      · skip
        rw [if_pos hg6] at hm
        refine RW.know 18 rfl (congrArg Value.bool hg6) ?_
        refine RW.run ttok 13 rfl ?_
        refine RW.nil ?_
        refine WP.ret ?_
        cases hm
        exact ⟨_, .cons (.tmp rfl) .nil, rfl, hS3⟩
      · skip
        rw [if_neg hg6] at hm
        refine RW.know 18 rfl (congrArg Value.bool (Bool.eq_false_iff.2 hg6)) ?_
        refine RW.run ttok 4 rfl ?_
        by_cases hg7 : (x1 == 12) = true
        · skip
          rw [if_pos hg7] at hm
          refine RW.know 22 rfl (congrArg Value.bool hg7) ?_
          refine RW.run ttok 9 rfl ?_
          refine RW.nil ?_
          refine WP.ret ?_
          cases hm
          exact ⟨_, .cons (.tmp rfl) .nil, rfl, hS3⟩
        · skip
          rw [if_neg hg7] at hm
          refine RW.know 22 rfl (congrArg Value.bool (Bool.eq_false_iff.2 hg7)) ?_
          refine RW.run ttok 1 rfl ?_
          obtain ⟨r10, hx11, hm⟩ := bind_some hm
          refine RW.call rfl rfl rfl enters241 (impl_HasLevel_ok (hE.trans hS3.ext)  hx11) (fun v12 w13 hR14 => ?_)
          obtain ⟨rfl, hR15⟩ := hR14
          have hS16 := hS3.join hR15
          refine RW.run ttok 1 rfl ?_
          by_cases hg17 : r10 = true
          · skip
            rw [if_pos hg17] at hm
            refine RW.know 25 rfl (congrArg Value.bool hg17) ?_
            refine RW.run ttok 6 rfl ?_
            refine RW.nil ?_
            refine WP.ret ?_
            cases hm
            exact ⟨_, .cons (.tmp rfl) .nil, rfl, hS16⟩
          · skip
            rw [if_neg hg17] at hm
            refine RW.know 25 rfl (congrArg Value.bool (Bool.eq_false_iff.2 hg17)) ?_
            refine RW.run ttok 6 rfl ?_
            refine RW.nil ?_
            refine WP.ret ?_
            cases hm
            exact ⟨_, .cons (.tmp rfl) .nil, rfl, hS16⟩
  · skip
    refine WP.region ?_
    refine RW.run ttok 1 rfl ?_
    obtain ⟨r18, hx19, hm⟩ := bind_some hm
    refine RW.call rfl rfl rfl enters242 (impl_isLevel_ok (hE.trans hS.ext)  hx19) (fun v20 w21 hR22 => ?_)
    obtain ⟨rfl, hR23⟩ := hR22
    have hS24 := hS.join hR23
    refine RW.run ttok 2 rfl ?_
    by_cases hg25 : (!r18) = true
    · skip
      rw [if_pos hg25] at hm
      refine RW.know 10 rfl (congrArg Value.bool hg25) ?_
      refine RW.run ttok 5 rfl ?_
      refine RW.nil ?_
      exact ⟨true, [(0, .int .i64 x0), (1, .int .i64 x1), (2, .int .i64 x2), (15, .bool true)], ⟨rfl, rfl, rfl, rfl, trivial⟩, hm, hR23.ext, hS24, rfl⟩
    · skip
      rw [if_neg hg25] at hm
      refine RW.know 10 rfl (congrArg Value.bool (Bool.eq_false_iff.2 hg25)) ?_
      refine RW.run ttok 2 rfl ?_
      obtain ⟨r26, hx27, hm⟩ := bind_some hm
      refine RW.call rfl rfl rfl enters177 (impl_isAllowed_ok (hE.trans hS24.ext)  hx27) (fun v28 w29 hR30 => ?_)
      obtain ⟨rfl, hR31⟩ := hR30
      have hS32 := hS24.join hR31
      refine RW.run ttok 2 rfl ?_
      refine RW.nil ?_
      exact ⟨!r26, [(0, .int .i64 x0), (1, .int .i64 x1), (2, .int .i64 x2), (15, .bool (!r26))], ⟨rfl, rfl, rfl, rfl, trivial⟩, hm, (hR23.ext.trans hR31.ext), hS32, rfl⟩

theorem enters272 : Enters Try.prog 272 := ⟨_, _, Try.func272, rfl, by kernel_rfl⟩
def m_impl_IsConsumer (fuel : Nat) (x0 : Int) : Option (Bool) := (if (x0 == 3) = true then some true else (if (x0 == 7) = true then some true else (if (x0 == 8) = true then some true else (if (x0 == 10) = true then some true else some (x0 == 11)))))

set_option maxRecDepth 100000 in
theorem impl_IsConsumer_ok {W w : World} (hE : Ext W w) {x0 : Int}  {fuel : Nat} {r : Bool} (hm : m_impl_IsConsumer fuel x0 = some r) :
    Calls Try.prog 272 ⟨[.int .i64 x0]⟩ w (Ret fun v w8 => v = .bool r ∧ St w w8 []) := by
  refine Calls.into Try.func272 rfl 21 rfl rfl _ rfl ?_
  unfold m_impl_IsConsumer at hm
  have hS := St.start w
  refine WP.seq ?_
  refine WP.region ?_
  refine RW.run ttok 1 rfl ?_
  refine RW.nil ?_
  refine WP.seq ?_
  refine WP.region ?_
  refine RW.run ttok 3 rfl ?_
  by_cases hg1 : (x0 == 3) = true
  · skip
    rw [if_pos hg1] at hm
    refine RW.know 5 rfl (congrArg Value.bool hg1) ?_
    refine RW.run ttok 16 rfl ?_
    refine RW.nil ?_
    refine WP.ret ?_
    cases hm
    exact ⟨_, .cons (.tmp rfl) .nil, rfl, hS⟩
  · skip
    rw [if_neg hg1] at hm
    refine RW.know 5 rfl (congrArg Value.bool (Bool.eq_false_iff.2 hg1)) ?_
    refine RW.run ttok 4 rfl ?_
    by_cases hg2 : (x0 == 7) = true
    · skip
      rw [if_pos hg2] at hm
      refine RW.know 9 rfl (congrArg Value.bool hg2) ?_
      refine RW.run ttok 12 rfl ?_
      refine RW.nil ?_
      refine WP.ret ?_
      cases hm
      exact ⟨_, .cons (.tmp rfl) .nil, rfl, hS⟩
    · skip
      rw [if_neg hg2] at hm
      refine RW.know 9 rfl (congrArg Value.bool (Bool.eq_false_iff.2 hg2)) ?_
      refine RW.run ttok 4 rfl ?_
      by_cases hg3 : (x0 == 8) = true
      · skip
        rw [if_pos hg3] at hm
        refine RW.know 13 rfl (congrArg Value.bool hg3) ?_
        refine RW.run ttok 8 rfl ?_
        refine RW.nil ?_
        refine WP.ret ?_
        cases hm
        exact ⟨_, .cons (.tmp rfl) .nil, rfl, hS⟩
      · skip
        rw [if_neg hg3] at hm
        refine RW.know 13 rfl (congrArg Value.bool (Bool.eq_false_iff.2 hg3)) ?_
        refine RW.run ttok 4 rfl ?_
        by_cases hg4 : (x0 == 10) = true
        · skip
          rw [if_pos hg4] at hm
          refine RW.know 17 rfl (congrArg Value.bool hg4) ?_
          refine RW.run ttok 4 rfl ?_
          refine RW.nil ?_
          refine WP.ret ?_
          cases hm
          exact ⟨_, .cons (.tmp rfl) .nil, rfl, hS⟩
        · skip
          rw [if_neg hg4] at hm
          refine RW.know 17 rfl (congrArg Value.bool (Bool.eq_false_iff.2 hg4)) ?_
          refine RW.run ttok 4 rfl ?_
          refine RW.nil ?_
          refine WP.ret ?_
          cases hm
          exact ⟨_, .cons (.tmp rfl) .nil, rfl, hS⟩

theorem enters263 : Enters Try.prog 263 := ⟨_, _, Try.func263, rfl, by kernel_rfl⟩
def m_impl_classOf_j1 (fuel : Nat) (x1 : Int) (x2 : Int) (x3 : Int) (t1 : Bool) : Option Int := (if t1 = true then some 2 else ((m_impl_Duplicates fuel x1 x2 x3).bind fun r6 => (if r6 = true then some 3 else some 0)))
def m_impl_classOf_j2 (fuel : Nat) (t16 : Bool) : Option Int := (if t16 = true then some 1 else some 0)
def m_impl_classOf_j3 (fuel : Nat) (x2 : Int) (t22 : Bool) : Option Int := (if t22 = true then some 5 else (if (x2 == 11) = true then some 6 else some 0))
def m_impl_classOf (fuel : Nat) (x0 : Int) (x1 : Int) (x2 : Int) (x3 : Int) : Option (Int) := (if (x0 == 5) = true then some 4 else (if (x0 == 4) = true then (if (x2 == 4) = true then m_impl_classOf_j1 fuel x1 x2 x3 (x1 == x3) else m_impl_classOf_j1 fuel x1 x2 x3 false) else (if (x0 == 2) = true then (if (x2 == 3) = true then m_impl_classOf_j2 fuel (x1 == x3) else m_impl_classOf_j2 fuel false) else (if (x0 == 6) = true then (if (x2 == 7) = true then m_impl_classOf_j3 fuel x2 (x2 == 7) else m_impl_classOf_j3 fuel x2 (x2 == 8)) else (if (x0 == 9) = true then (if (x2 == 10) = true then some 6 else some 0) else (if (x0 == 12) = true then ((m_impl_IsConsumer fuel x2).bind fun r27 => (if r27 = true then some 7 else some 0)) else some 0))))))

set_option maxRecDepth 100000 in
theorem impl_classOf_ok {W w : World} (hE : Ext W w) {x0 : Int} {x1 : Int} {x2 : Int} {x3 : Int}  {fuel : Nat} {r : Int} (hm : m_impl_classOf fuel x0 x1 x2 x3 = some r) :
    Calls Try.prog 263 ⟨[.int .i64 x0, .int .i64 x1, .int .i64 x2, .int .i64 x3]⟩ w (Ret fun v w8 => v = .int .i64 r ∧ St w w8 []) := by
  refine Calls.into Try.func263 rfl 52 rfl rfl _ rfl ?_
  unfold m_impl_classOf at hm
  have hS := St.start w
  refine WP.seq ?_
  refine WP.region ?_
  refine RW.run ttok 1 rfl ?_
  refine RW.nil ?_
  refine WP.seq ?_
  refine WP.seq ?_
  refine WP.region ?_
  refine RW.run ttok 1 rfl ?_
  refine RW.nil ?_
  refine WP.block ?_
  refine WP.seq ?_
  refine WP.region ?_
  refine RW.run ttok 2 rfl ?_
  refine RW.nil ?_
  refine WP.cond (x0 == 5) rfl (fun hc => ?_) (fun hc => ?_)
  · skip
    rw [if_pos hc] at hm
    refine WP.seq ?_
    refine WP.region ?_
    refine RW.run ttok 1 rfl ?_
    refine RW.nil ?_
    refine WP.ret ?_
    cases hm
    exact ⟨_, .cons (.tmp rfl) .nil, rfl, hS⟩
  · skip
    rw [if_neg (not_t hc)] at hm
    refine WP.seq ?_
    refine WP.region ?_
    refine RW.run ttok 2 rfl ?_
    refine RW.nil ?_
    refine WP.cond (x0 == 4) rfl (fun hc => ?_) (fun hc => ?_)
    · skip
      rw [if_pos hc] at hm
      refine WP.block ?_
      refine WP.seq ?_
      refine WP.cut (fun (t1 : Bool) F w9 => m_impl_classOf_j1 fuel x1 x2 x3 t1 = some r ∧ Ext w w9 ∧ St w w9 [] ∧ F = [(1, .int .i64 x1), (2, .int .i64 x2), (3, .int .i64 x3), (14, .bool t1)]) ?_ ?_
      · skip
        rintro t1 F w4 ⟨hm, hE2, hS3, rfl⟩
        unfold m_impl_classOf_j1 at hm
        refine WP.cond t1 rfl (fun hc => ?_) (fun hc => ?_)
        · skip
          rw [if_pos hc] at hm
          refine WP.seq ?_
          refine WP.region ?_
          refine RW.run ttok 1 rfl ?_
          refine RW.nil ?_
          refine WP.ret ?_
          cases hm
          exact ⟨_, .cons (.tmp rfl) .nil, rfl, hS3⟩
        · skip
          rw [if_neg (not_t hc)] at hm
          refine WP.seq ?_
          refine WP.region ?_
          refine RW.run ttok 3 rfl ?_
          obtain ⟨r6, hx7, hm⟩ := bind_some hm
          refine RW.call rfl rfl rfl enters271 (impl_Duplicates_ok (hE.trans hS3.ext)  hx7) (fun v10 w11 hR12 => ?_)
          obtain ⟨rfl, hR13⟩ := hR12
          have hS14 := hS3.join hR13
          refine RW.run ttok 1 rfl ?_
          refine RW.nil ?_
          refine WP.cond r6 rfl (fun hc => ?_) (fun hc => ?_)
          · skip
            rw [if_pos hc] at hm
            refine WP.seq ?_
            refine WP.region ?_
            refine RW.run ttok 1 rfl ?_
            refine RW.nil ?_
            refine WP.ret ?_
            cases hm
            exact ⟨_, .cons (.tmp rfl) .nil, rfl, hS14⟩
          · skip
            rw [if_neg (not_t hc)] at hm
            refine WP.skip ?_
            refine WP.seq ?_
            refine WP.region ?_
            refine RW.run ttok 1 rfl ?_
            refine RW.nil ?_
            refine WP.ret ?_
            cases hm
            exact ⟨_, .cons (.tmp rfl) .nil, rfl, hS14⟩
      · skip
        refine WP.region ?_
        refine RW.run ttok 3 rfl ?_
        by_cases hg15 : (x2 == 4) = true
        · skip
          rw [if_pos hg15] at hm
          refine RW.know 17 rfl (congrArg Value.bool hg15) ?_
          refine RW.run ttok 5 rfl ?_
          refine RW.nil ?_
          exact ⟨(x1 == x3), [(1, .int .i64 x1), (2, .int .i64 x2), (3, .int .i64 x3), (14, .bool (x1 == x3))], ⟨rfl, rfl, rfl, rfl, trivial⟩, hm, (Ext.refl _), hS, rfl⟩
        · skip
          rw [if_neg hg15] at hm
          refine RW.know 17 rfl (congrArg Value.bool (Bool.eq_false_iff.2 hg15)) ?_
          refine RW.run ttok 5 rfl ?_
          refine RW.nil ?_
          exact ⟨false, [(1, .int .i64 x1), (2, .int .i64 x2), (3, .int .i64 x3), (14, .bool false)], ⟨rfl, rfl, rfl, rfl, trivial⟩, hm, (Ext.refl _), hS, rfl⟩
    · skip
      rw [if_neg (not_t hc)] at hm
      refine WP.seq ?_
      refine WP.region ?_
      refine RW.run ttok 2 rfl ?_
      refine RW.nil ?_
      refine WP.cond (x0 == 2) rfl (fun hc => ?_) (fun hc => ?_)
      · skip
        rw [if_pos hc] at hm
        refine WP.seq ?_
        refine WP.cut (fun (t16 : Bool) F w9 => m_impl_classOf_j2 fuel t16 = some r ∧ Ext w w9 ∧ St w w9 [] ∧ F = [(35, .bool t16)]) ?_ ?_
        · skip
          rintro t16 F w19 ⟨hm, hE17, hS18, rfl⟩
          unfold m_impl_classOf_j2 at hm
          refine WP.cond t16 rfl (fun hc => ?_) (fun hc => ?_)
          · skip
            rw [if_pos hc] at hm
            refine WP.seq ?_
            refine WP.region ?_
            refine RW.run ttok 1 rfl ?_
            refine RW.nil ?_
            refine WP.ret ?_
            cases hm
            exact ⟨_, .cons (.tmp rfl) .nil, rfl, hS18⟩
          · skip
            rw [if_neg (not_t hc)] at hm
            refine WP.skip ?_
            refine WP.seq ?_
            refine WP.region ?_
            refine RW.run ttok 1 rfl ?_
            refine RW.nil ?_
            refine WP.ret ?_
            cases hm
            exact ⟨_, .cons (.tmp rfl) .nil, rfl, hS18⟩
        · skip
          refine WP.region ?_
          refine RW.run ttok 3 rfl ?_
          by_cases hg21 : (x2 == 3) = true
          · skip
            rw [if_pos hg21] at hm
            refine RW.know 31 rfl (congrArg Value.bool hg21) ?_
            refine RW.run ttok 4 rfl ?_
            refine RW.nil ?_
            exact ⟨(x1 == x3), [(35, .bool (x1 == x3))], ⟨rfl, trivial⟩, hm, (Ext.refl _), hS, rfl⟩
          · skip
            rw [if_neg hg21] at hm
            refine RW.know 31 rfl (congrArg Value.bool (Bool.eq_false_iff.2 hg21)) ?_
            refine RW.run ttok 4 rfl ?_
            refine RW.nil ?_
            exact ⟨false, [(35, .bool false)], ⟨rfl, trivial⟩, hm, (Ext.refl _), hS, rfl⟩
      · skip
        rw [if_neg (not_t hc)] at hm
        refine WP.seq ?_
        refine WP.region ?_
        refine RW.run ttok 2 rfl ?_
        refine RW.nil ?_
        refine WP.cond (x0 == 6) rfl (fun hc => ?_) (fun hc => ?_)
        · skip
          rw [if_pos hc] at hm
          refine WP.seq ?_
          refine WP.region ?_
          refine RW.run ttok 1 rfl ?_
          refine RW.nil ?_
          refine WP.block ?_
          refine WP.seq ?_
          refine WP.seq ?_
          refine WP.region ?_
          refine RW.run ttok 2 rfl ?_
          refine RW.nil ?_
          refine WP.cut (fun (t22 : Bool) F w9 => m_impl_classOf_j3 fuel x2 t22 = some r ∧ Ext w w9 ∧ St w w9 [] ∧ F = [(38, .int .i64 x2), (39, .bool t22)]) ?_ ?_
          · skip
            rintro t22 F w25 ⟨hm, hE23, hS24, rfl⟩
            unfold m_impl_classOf_j3 at hm
            refine WP.cond t22 rfl (fun hc => ?_) (fun hc => ?_)
            · skip
              rw [if_pos hc] at hm
              refine WP.seq ?_
              refine WP.region ?_
              refine RW.run ttok 1 rfl ?_
              refine RW.nil ?_
              refine WP.ret ?_
              cases hm
              exact ⟨_, .cons (.tmp rfl) .nil, rfl, hS24⟩
            · skip
              rw [if_neg (not_t hc)] at hm
              refine WP.seq ?_
              refine WP.region ?_
              refine RW.run ttok 2 rfl ?_
              refine RW.nil ?_
              refine WP.cond (x2 == 11) rfl (fun hc => ?_) (fun hc => ?_)
              · skip
                rw [if_pos hc] at hm
                refine WP.seq ?_
                refine WP.region ?_
                refine RW.run ttok 1 rfl ?_
                refine RW.nil ?_
                refine WP.ret ?_
                cases hm
                exact ⟨_, .cons (.tmp rfl) .nil, rfl, hS24⟩
              · skip
                rw [if_neg (not_t hc)] at hm
                refine WP.skip ?_
                refine WP.seq ?_
                refine WP.region ?_
                refine RW.run ttok 1 rfl ?_
                refine RW.nil ?_
                refine WP.ret ?_
                cases hm
                exact ⟨_, .cons (.tmp rfl) .nil, rfl, hS24⟩
          · skip
            refine WP.cond (x2 == 7) rfl (fun hc => ?_) (fun hc => ?_)
            · skip
              rw [if_pos hc] at hm
              refine WP.skip ?_
              exact ⟨(x2 == 7), [(38, .int .i64 x2), (39, .bool (x2 == 7))], ⟨rfl, rfl, trivial⟩, hm, (Ext.refl _), hS, rfl⟩
            · skip
              rw [if_neg (not_t hc)] at hm
              refine WP.region ?_
              refine RW.run ttok 2 rfl ?_
              refine RW.nil ?_
              exact ⟨(x2 == 8), [(38, .int .i64 x2), (39, .bool (x2 == 8))], ⟨rfl, rfl, trivial⟩, hm, (Ext.refl _), hS, rfl⟩
        · skip
          rw [if_neg (not_t hc)] at hm
          refine WP.seq ?_
          refine WP.region ?_
          refine RW.run ttok 2 rfl ?_
          refine RW.nil ?_
          refine WP.cond (x0 == 9) rfl (fun hc => ?_) (fun hc => ?_)
          · skip
            rw [if_pos hc] at hm
            refine WP.seq ?_
            refine WP.region ?_
            refine RW.run ttok 2 rfl ?_
            refine RW.nil ?_
            refine WP.cond (x2 == 10) rfl (fun hc => ?_) (fun hc => ?_)
            · skip
              rw [if_pos hc] at hm
              refine WP.seq ?_
              refine WP.region ?_
              refine RW.run ttok 1 rfl ?_
              refine RW.nil ?_
              refine WP.ret ?_
              cases hm
              exact ⟨_, .cons (.tmp rfl) .nil, rfl, hS⟩
            · skip
              rw [if_neg (not_t hc)] at hm
              refine WP.skip ?_
              refine WP.seq ?_
              refine WP.region ?_
              refine RW.run ttok 1 rfl ?_
              refine RW.nil ?_
              refine WP.ret ?_
              cases hm
              exact ⟨_, .cons (.tmp rfl) .nil, rfl, hS⟩
          · skip
            rw [if_neg (not_t hc)] at hm
            refine WP.seq ?_
            refine WP.region ?_
            refine RW.run ttok 2 rfl ?_
            refine RW.nil ?_
            refine WP.cond (x0 == 12) rfl (fun hc => ?_) (fun hc => ?_)
            · skip
              rw [if_pos hc] at hm
              refine WP.seq ?_
              refine WP.region ?_
              refine RW.run ttok 1 rfl ?_
              obtain ⟨r27, hx28, hm⟩ := bind_some hm
              refine RW.call rfl rfl rfl enters272 (impl_IsConsumer_ok (hE.trans hS.ext)  hx28) (fun v29 w30 hR31 => ?_)
              obtain ⟨rfl, hR32⟩ := hR31
              have hS33 := hS.join hR32
              refine RW.nil ?_
              refine WP.cond r27 rfl (fun hc => ?_) (fun hc => ?_)
              · skip
                rw [if_pos hc] at hm
                refine WP.seq ?_
                refine WP.region ?_
                refine RW.run ttok 1 rfl ?_
                refine RW.nil ?_
                refine WP.ret ?_
                cases hm
                exact ⟨_, .cons (.tmp rfl) .nil, rfl, hS33⟩
              · skip
                rw [if_neg (not_t hc)] at hm
                refine WP.skip ?_
                refine WP.seq ?_
                refine WP.region ?_
                refine RW.run ttok 1 rfl ?_
                refine RW.nil ?_
                refine WP.ret ?_
                cases hm
                exact ⟨_, .cons (.tmp rfl) .nil, rfl, hS33⟩
            · skip
              rw [if_neg (not_t hc)] at hm
              refine WP.skip ?_
              refine WP.seq ?_
              refine WP.region ?_
              refine RW.run ttok 1 rfl ?_
              refine RW.nil ?_
              refine WP.ret ?_
              cases hm
              exact ⟨_, .cons (.tmp rfl) .nil, rfl, hS⟩

theorem enters228 : Enters Try.prog 228 := ⟨_, _, Try.func228, rfl, by kernel_rfl⟩
def m_impl_pairOf_j1 (fuel : Nat) (x0 : Int) (x1 : Int) (x2 : Int) (x3 : Int) (t1 : Bool) : Option (Int × Int) := (if t1 = true then some (0, 0) else ((m_impl_classOf fuel x0 x1 x2 x3).bind fun r6 => (if (r6 != 0) = true then some (r6, 1) else ((m_impl_classOf fuel x2 x3 x0 x1).bind fun r15 => (if (r15 != 0) = true then some (r15, 2) else some (8, 0))))))
def m_impl_pairOf (fuel : Nat) (x0 : Int) (x1 : Int) (x2 : Int) (x3 : Int) : Option (Int × Int) := (if (x0 == 1) = true then m_impl_pairOf_j1 fuel x0 x1 x2 x3 true else (if (x2 == 1) = true then m_impl_pairOf_j1 fuel x0 x1 x2 x3 true else ((m_impl_isAllowed fuel x0 x1).bind fun r24 => (if (!r24) = true then m_impl_pairOf_j1 fuel x0 x1 x2 x3 true else ((m_impl_isAllowed fuel x2 x3).bind fun r32 => m_impl_pairOf_j1 fuel x0 x1 x2 x3 (!r32))))))

set_option maxRecDepth 100000 in
theorem impl_pairOf_ok {W w : World} (hE : Ext W w) {x0 : Int} {x1 : Int} {x2 : Int} {x3 : Int}  {fuel : Nat} {r : Int × Int} (hm : m_impl_pairOf fuel x0 x1 x2 x3 = some r) :
    Calls Try.prog 228 ⟨[.int .i64 x0, .int .i64 x1, .int .i64 x2, .int .i64 x3]⟩ w (Ret fun v w8 => v = .tuple ⟨[.int .i64 r.1, .int .i64 r.2]⟩ ∧ St w w8 []) := by
  refine Calls.into Try.func228 rfl 46 rfl rfl _ rfl ?_
  unfold m_impl_pairOf at hm
  have hS := St.start w
  refine WP.seq ?_
  refine WP.region ?_
  refine RW.run ttok 2 rfl ?_
  refine RW.nil ?_
  refine WP.seq ?_
  refine WP.seq ?_
  refine WP.cut (fun (t1 : Bool) F w9 => m_impl_pairOf_j1 fuel x0 x1 x2 x3 t1 = some r ∧ Ext w w9 ∧ St w w9 [] ∧ F = [(0, .int .i64 x0), (1, .int .i64 x1), (2, .int .i64 x2), (3, .int .i64 x3), (29, .bool t1)]) ?_ ?_
  · skip
    rintro t1 F w4 ⟨hm, hE2, hS3, rfl⟩
    unfold m_impl_pairOf_j1 at hm
    refine WP.cond t1 rfl (fun hc => ?_) (fun hc => ?_)
    · skip
      rw [if_pos hc] at hm
      refine WP.seq ?_
      refine WP.region ?_
      refine RW.run ttok 2 rfl ?_
      refine RW.nil ?_
      refine WP.ret ?_
      cases hm
      exact ⟨_, .cons (.tmp rfl) (.cons (.tmp rfl) .nil), rfl, hS3⟩
    · skip
      rw [if_neg (not_t hc)] at hm
      refine WP.skip ?_
      refine WP.seq ?_
      refine WP.seq ?_
      refine WP.region ?_
      refine RW.run ttok 4 rfl ?_
      obtain ⟨r6, hx7, hm⟩ := bind_some hm
      refine RW.call rfl rfl rfl enters263 (impl_classOf_ok (hE.trans hS3.ext)  hx7) (fun v10 w11 hR12 => ?_)
      obtain ⟨rfl, hR13⟩ := hR12
      have hS14 := hS3.join hR13
      refine RW.run ttok 1 rfl ?_
      refine RW.nil ?_
      refine WP.seq ?_
      refine WP.region ?_
      refine RW.run ttok 2 rfl ?_
      refine RW.nil ?_
      refine WP.cond (r6 != 0) rfl (fun hc => ?_) (fun hc => ?_)
      · skip
        rw [if_pos hc] at hm
        refine WP.seq ?_
        refine WP.region ?_
        refine RW.run ttok 3 rfl ?_
        refine RW.nil ?_
        refine WP.ret ?_
        cases hm
        exact ⟨_, .cons (.tmp rfl) (.cons (.tmp rfl) .nil), rfl, hS14⟩
      · skip
        rw [if_neg (not_t hc)] at hm
        refine WP.skip ?_
        refine WP.seq ?_
        refine WP.seq ?_
        refine WP.region ?_
        refine RW.run ttok 4 rfl ?_
        obtain ⟨r15, hx16, hm⟩ := bind_some hm
        refine RW.call rfl rfl rfl enters263 (impl_classOf_ok (hE.trans hS14.ext)  hx16) (fun v17 w18 hR19 => ?_)
        obtain ⟨rfl, hR20⟩ := hR19
        have hS21 := hS14.join hR20
        refine RW.run ttok 1 rfl ?_
        refine RW.nil ?_
        refine WP.seq ?_
        refine WP.region ?_
        refine RW.run ttok 2 rfl ?_
        refine RW.nil ?_
        refine WP.cond (r15 != 0) rfl (fun hc => ?_) (fun hc => ?_)
        · skip
          rw [if_pos hc] at hm
          refine WP.seq ?_
          refine WP.region ?_
          refine RW.run ttok 3 rfl ?_
          refine RW.nil ?_
          refine WP.ret ?_
          cases hm
          exact ⟨_, .cons (.tmp rfl) (.cons (.tmp rfl) .nil), rfl, hS21⟩
        · skip
          rw [if_neg (not_t hc)] at hm
          refine WP.skip ?_
          refine WP.seq ?_
          refine WP.region ?_
          refine RW.run ttok 2 rfl ?_
          refine RW.nil ?_
          refine WP.ret ?_
          cases hm
          exact ⟨_, .cons (.tmp rfl) (.cons (.tmp rfl) .nil), rfl, hS21⟩
  · skip
    refine WP.region ?_
    refine RW.run ttok 3 rfl ?_
    by_cases hg22 : (x0 == 1) = true
    · skip
      rw [if_pos hg22] at hm
      refine RW.know 14 rfl (congrArg Value.bool hg22) ?_
      refine RW.run ttok 15 rfl ?_
      refine RW.nil ?_
      exact ⟨true, [(0, .int .i64 x0), (1, .int .i64 x1), (2, .int .i64 x2), (3, .int .i64 x3), (29, .bool true)], ⟨rfl, rfl, rfl, rfl, rfl, trivial⟩, hm, (Ext.refl _), hS, rfl⟩
    · skip
      rw [if_neg hg22] at hm
      refine RW.know 14 rfl (congrArg Value.bool (Bool.eq_false_iff.2 hg22)) ?_
      refine RW.run ttok 4 rfl ?_
      by_cases hg23 : (x2 == 1) = true
      · skip
        rw [if_pos hg23] at hm
        refine RW.know 18 rfl (congrArg Value.bool hg23) ?_
        refine RW.run ttok 11 rfl ?_
        refine RW.nil ?_
        exact ⟨true, [(0, .int .i64 x0), (1, .int .i64 x1), (2, .int .i64 x2), (3, .int .i64 x3), (29, .bool true)], ⟨rfl, rfl, rfl, rfl, rfl, trivial⟩, hm, (Ext.refl _), hS, rfl⟩
      · skip
        rw [if_neg hg23] at hm
        refine RW.know 18 rfl (congrArg Value.bool (Bool.eq_false_iff.2 hg23)) ?_
        refine RW.run ttok 2 rfl ?_
        obtain ⟨r24, hx25, hm⟩ := bind_some hm
        refine RW.call rfl rfl rfl enters177 (impl_isAllowed_ok (hE.trans hS.ext)  hx25) (fun v26 w27 hR28 => ?_)
        obtain ⟨rfl, hR29⟩ := hR28
        have hS30 := hS.join hR29
        refine RW.run ttok 3 rfl ?_
        by_cases hg31 : (!r24) = true
        · skip
          rw [if_pos hg31] at hm
          refine RW.know 24 rfl (congrArg Value.bool hg31) ?_
          refine RW.run ttok 5 rfl ?_
          refine RW.nil ?_
          exact ⟨true, [(0, .int .i64 x0), (1, .int .i64 x1), (2, .int .i64 x2), (3, .int .i64 x3), (29, .bool true)], ⟨rfl, rfl, rfl, rfl, rfl, trivial⟩, hm, hR29.ext, hS30, rfl⟩
        · skip
          rw [if_neg hg31] at hm
          refine RW.know 24 rfl (congrArg Value.bool (Bool.eq_false_iff.2 hg31)) ?_
          refine RW.run ttok 2 rfl ?_
          obtain ⟨r32, hx33, hm⟩ := bind_some hm
          refine RW.call rfl rfl rfl enters177 (impl_isAllowed_ok (hE.trans hS30.ext)  hx33) (fun v34 w35 hR36 => ?_)
          obtain ⟨rfl, hR37⟩ := hR36
          have hS38 := hS30.join hR37
          refine RW.run ttok 2 rfl ?_
          refine RW.nil ?_
          exact ⟨!r32, [(0, .int .i64 x0), (1, .int .i64 x1), (2, .int .i64 x2), (3, .int .i64 x3), (29, .bool (!r32))], ⟨rfl, rfl, rfl, rfl, rfl, trivial⟩, hm, (hR29.ext.trans hR37.ext), hS38, rfl⟩

theorem enters149 : Enters Try.prog 149 := ⟨_, _, Try.func149, rfl, by kernel_rfl⟩
def m_impl_Net_classOf_j3 (fuel : Nat) (r30 : Int × Int) (t53 : Bool) : Option (Int × Bool) := (if t53 = true then some (8, false) else some (r30.1, (r30.2 == 2)))
def m_impl_Net_classOf_j2 (fuel : Nat) (r30 : Int × Int) (t37 : Int × Int × Int × (List Int) × (List D.Port) × Int × Int × Int × (List Int) × (List D.Port)) : Option (Int × Bool) := (if (r30.1 == 6) = true then (if (t37.2.2.2.2.2.1 == 10) = true then m_impl_Net_classOf_j3 fuel r30 (decide (t37.2.2.1 ≥ (t37.2.2.2.2.2.2.2.2.1.length : Int))) else m_impl_Net_classOf_j3 fuel r30 false) else m_impl_Net_classOf_j3 fuel r30 false)
def m_impl_Net_classOf_j1 (fuel : Nat) (t12 : (Int × Int × Int × (List Int) × (List D.Port)) × (Int × Int × Int × (List Int) × (List D.Port))) : Option (Int × Bool) := ((m_impl_pairOf fuel t12.1.1 t12.1.2.1 t12.2.1 t12.2.2.1).bind fun r30 => (if (r30.2 == 2) = true then m_impl_Net_classOf_j2 fuel r30 (t12.2.1, t12.2.2.1, t12.2.2.2.1, t12.2.2.2.2.1, t12.2.2.2.2.2, t12.1.1, t12.1.2.1, t12.1.2.2.1, t12.1.2.2.2.1, t12.1.2.2.2.2) else m_impl_Net_classOf_j2 fuel r30 (t12.1.1, t12.1.2.1, t12.1.2.2.1, t12.1.2.2.2.1, t12.1.2.2.2.2, t12.2.1, t12.2.2.1, t12.2.2.2.1, t12.2.2.2.2.1, t12.2.2.2.2.2)))
def m_impl_Net_classOf (fuel : Nat) (x0 : D.Net) (x1 : D.Pair) : Option (Int × Bool) := ((idx x0.Agents x1.A).bind fun x69 => ((idx x0.Agents x1.B).bind fun x82 => m_impl_Net_classOf_j1 fuel ((x69.Kind, x69.Level, x69.Value, x69.Data, x69.Ports), (x82.Kind, x82.Level, x82.Value, x82.Data, x82.Ports))))

set_option maxRecDepth 100000 in
theorem impl_Net_classOf_ok {W w : World} (hE : Ext W w) {p0_ : Addr} {c0_ : List Value} {x0 : D.Net} {c1_ : List Value} {x1 : D.Pair} (h0_ : ty30.ro W c0_ x0) (g0_ : At W p0_ c0_) (h1_ : ty139.ro W c1_ x1) {fuel : Nat} {r : Int × Bool} (hm : m_impl_Net_classOf fuel x0 x1 = some r) :
    Calls Try.prog 149 ⟨[.pointer (some p0_), .agg ⟨c1_⟩]⟩ w (Ret fun v w8 => v = .tuple ⟨[.int .i64 r.1, .bool r.2]⟩ ∧ St w w8 []) := by
  obtain ⟨A1, k2, e4, h3⟩ := ty30_open h0_; subst e4
  have e5 := ty139_open h1_; subst e5
  refine Calls.into Try.func149 rfl 60 rfl rfl _ rfl ?_
  unfold m_impl_Net_classOf at hm
  have hS := St.start w
  refine WP.seq ?_
  refine WP.region ?_
  refine RW.new ttok hS rfl rfl rfl rfl (fun g6 w7 e10 hS11 => ?_)
  refine RW.run ttok 2 rfl ?_
  refine RW.nil ?_
  refine WP.seq ?_
  refine WP.cut (fun (t12 : (Int × Int × Int × (List Int) × (List D.Port)) × (Int × Int × Int × (List Int) × (List D.Port))) F w9 => ∃ g13 A14 k15 A17 k18 g20 A21 k22 A24 k25, m_impl_Net_classOf_j1 fuel t12 = some r ∧ ty103.ro W [.slice A14 t12.1.2.2.2.1.length k15] t12.1.2.2.2.1 ∧ ty110.ro W [.slice A17 t12.1.2.2.2.2.length k18] t12.1.2.2.2.2 ∧ ty103.ro W [.slice A21 t12.2.2.2.2.1.length k22] t12.2.2.2.2.1 ∧ ty110.ro W [.slice A24 t12.2.2.2.2.2.length k25] t12.2.2.2.2.2 ∧ St w w9 [Box g13 [.int .i64 t12.1.1, .int .i64 t12.1.2.1, .int .i64 t12.1.2.2.1, .slice A14 t12.1.2.2.2.1.length k15, .slice A17 t12.1.2.2.2.2.length k18] 112, Box g20 [.int .i64 t12.2.1, .int .i64 t12.2.2.1, .int .i64 t12.2.2.2.1, .slice A21 t12.2.2.2.2.1.length k22, .slice A24 t12.2.2.2.2.2.length k25] 112, Box g6 [.int .i64 x1.A, .int .i64 x1.B] 139] ∧ F = [(6, .pointer (some ⟨g13, 0, none⟩)), (7, .pointer (some ⟨g20, 0, none⟩))]) ?_ ?_
  · skip
    rintro t12 F w28 ⟨g13, A14, k15, A17, k18, g20, A21, k22, A24, k25, hm, h16, h19, h23, h26, hS27, rfl⟩
    unfold m_impl_Net_classOf_j1 at hm
    refine WP.seq ?_
    refine WP.region ?_
    refine RW.run ttok 1 rfl ?_
    refine RW.load1 ttok rfl rfl rfl rfl rfl ((hS27.bring 0 rfl).box) 0 rfl rfl rfl rfl ?_
    refine RW.run ttok 1 rfl ?_
    refine RW.load1 ttok rfl rfl rfl rfl rfl ((hS27.bring 0 rfl).box) 1 rfl rfl rfl rfl ?_
    refine RW.run ttok 1 rfl ?_
    refine RW.load1 ttok rfl rfl rfl rfl rfl ((hS27.bring 1 rfl).box) 0 rfl rfl rfl rfl ?_
    refine RW.run ttok 1 rfl ?_
    refine RW.load1 ttok rfl rfl rfl rfl rfl ((hS27.bring 1 rfl).box) 1 rfl rfl rfl rfl ?_
    obtain ⟨r30, hx31, hm⟩ := bind_some hm
    refine RW.call rfl rfl rfl enters228 (impl_pairOf_ok (hE.trans hS27.ext)  hx31) (fun v32 w33 hR34 => ?_)
    obtain ⟨rfl, hR35⟩ := hR34
    have hS36 := hS27.join hR35
    refine RW.run ttok 5 rfl ?_
    refine RW.nil ?_
    refine WP.seq ?_
    refine WP.seq ?_
    refine WP.region ?_
    refine RW.run ttok 2 rfl ?_
    refine RW.nil ?_
    refine WP.cut (fun (t37 : Int × Int × Int × (List Int) × (List D.Port) × Int × Int × Int × (List Int) × (List D.Port)) F w9 => ∃ A38 k39 A41 k42 A44 k45 A47 k48, m_impl_Net_classOf_j2 fuel r30 t37 = some r ∧ ty103.ro W [.slice A38 t37.2.2.2.1.length k39] t37.2.2.2.1 ∧ ty110.ro W [.slice A41 t37.2.2.2.2.1.length k42] t37.2.2.2.2.1 ∧ ty103.ro W [.slice A44 t37.2.2.2.2.2.2.2.2.1.length k45] t37.2.2.2.2.2.2.2.2.1 ∧ ty110.ro W [.slice A47 t37.2.2.2.2.2.2.2.2.2.length k48] t37.2.2.2.2.2.2.2.2.2 ∧ St w w9 [Box g13 [.int .i64 t37.1, .int .i64 t37.2.1, .int .i64 t37.2.2.1, .slice A38 t37.2.2.2.1.length k39, .slice A41 t37.2.2.2.2.1.length k42] 112, Box g20 [.int .i64 t37.2.2.2.2.2.1, .int .i64 t37.2.2.2.2.2.2.1, .int .i64 t37.2.2.2.2.2.2.2.1, .slice A44 t37.2.2.2.2.2.2.2.2.1.length k45, .slice A47 t37.2.2.2.2.2.2.2.2.2.length k48] 112, Box g6 [.int .i64 x1.A, .int .i64 x1.B] 139] ∧ F = [(6, .pointer (some ⟨g13, 0, none⟩)), (7, .pointer (some ⟨g20, 0, none⟩)), (8, .int .i64 r30.1), (9, .int .i64 r30.2)]) ?_ ?_
    · skip
      rintro t37 F w51 ⟨A38, k39, A41, k42, A44, k45, A47, k48, hm, h40, h43, h46, h49, hS50, rfl⟩
      unfold m_impl_Net_classOf_j2 at hm
      refine WP.seq ?_
      refine WP.seq ?_
      refine WP.cut (fun (t53 : Bool) F w9 => m_impl_Net_classOf_j3 fuel r30 t53 = some r ∧ Ext w51 w9 ∧ St w w9 [Box g13 [.int .i64 t37.1, .int .i64 t37.2.1, .int .i64 t37.2.2.1, .slice A38 t37.2.2.2.1.length k39, .slice A41 t37.2.2.2.2.1.length k42] 112, Box g20 [.int .i64 t37.2.2.2.2.2.1, .int .i64 t37.2.2.2.2.2.2.1, .int .i64 t37.2.2.2.2.2.2.2.1, .slice A44 t37.2.2.2.2.2.2.2.2.1.length k45, .slice A47 t37.2.2.2.2.2.2.2.2.2.length k48] 112, Box g6 [.int .i64 x1.A, .int .i64 x1.B] 139] ∧ F = [(8, .int .i64 r30.1), (9, .int .i64 r30.2), (56, .bool t53)]) ?_ ?_
      · skip
        rintro t53 F w56 ⟨hm, hE54, hS55, rfl⟩
        unfold m_impl_Net_classOf_j3 at hm
        refine WP.cond t53 rfl (fun hc => ?_) (fun hc => ?_)
        · skip
          rw [if_pos hc] at hm
          refine WP.seq ?_
          refine WP.region ?_
          refine RW.run ttok 2 rfl ?_
          refine RW.nil ?_
          refine WP.ret ?_
          cases hm
          exact ⟨_, .cons (.tmp rfl) (.cons (.tmp rfl) .nil), rfl, (hS55.taken 0)⟩
        · skip
          rw [if_neg (not_t hc)] at hm
          refine WP.skip ?_
          refine WP.seq ?_
          refine WP.region ?_
          refine RW.run ttok 5 rfl ?_
          refine RW.nil ?_
          refine WP.ret ?_
          cases hm
          exact ⟨_, .cons (.tmp rfl) (.cons (.tmp rfl) .nil), rfl, (hS55.taken 0)⟩
      · skip
        refine WP.region ?_
        refine RW.run ttok 3 rfl ?_
        by_cases hg58 : (r30.1 == 6) = true
        · skip
          rw [if_pos hg58] at hm
          refine RW.know 44 rfl (congrArg Value.bool hg58) ?_
          refine RW.run ttok 1 rfl ?_
          refine RW.load1 ttok rfl rfl rfl rfl rfl ((hS50.bring 1 rfl).box) 0 rfl rfl rfl rfl ?_
          refine RW.run ttok 3 rfl ?_
          by_cases hg59 : (t37.2.2.2.2.2.1 == 10) = true
          · skip
            rw [if_pos hg59] at hm
            refine RW.know 49 rfl (congrArg Value.bool hg59) ?_
            refine RW.run ttok 1 rfl ?_
            refine RW.load1 ttok rfl rfl rfl rfl rfl ((hS50.bring 0 rfl).box) 2 rfl rfl rfl rfl ?_
            refine RW.run ttok 1 rfl ?_
            refine RW.load1 ttok rfl rfl rfl rfl rfl ((hS50.bring 1 rfl).box) 3 rfl rfl rfl rfl ?_
            refine RW.run ttok 3 rfl ?_
            refine RW.nil ?_
            exact ⟨decide (t37.2.2.1 ≥ (t37.2.2.2.2.2.2.2.2.1.length : Int)), [(8, .int .i64 r30.1), (9, .int .i64 r30.2), (56, .bool (decide (t37.2.2.1 ≥ (t37.2.2.2.2.2.2.2.2.1.length : Int))))], ⟨rfl, rfl, rfl, trivial⟩, hm, (Ext.refl _), hS50, rfl⟩
          · skip
            rw [if_neg hg59] at hm
            refine RW.know 49 rfl (congrArg Value.bool (Bool.eq_false_iff.2 hg59)) ?_
            refine RW.run ttok 7 rfl ?_
            refine RW.nil ?_
            exact ⟨false, [(8, .int .i64 r30.1), (9, .int .i64 r30.2), (56, .bool false)], ⟨rfl, rfl, rfl, trivial⟩, hm, (Ext.refl _), hS50, rfl⟩
        · skip
          rw [if_neg hg58] at hm
          refine RW.know 44 rfl (congrArg Value.bool (Bool.eq_false_iff.2 hg58)) ?_
          refine RW.run ttok 12 rfl ?_
          refine RW.nil ?_
          exact ⟨false, [(8, .int .i64 r30.1), (9, .int .i64 r30.2), (56, .bool false)], ⟨rfl, rfl, rfl, trivial⟩, hm, (Ext.refl _), hS50, rfl⟩
    · skip
      refine WP.cond (r30.2 == 2) rfl (fun hc => ?_) (fun hc => ?_)
      · skip
        rw [if_pos hc] at hm
        refine WP.region ?_
        refine RW.loadN ttok rfl rfl rfl rfl rfl ((hS36.bring 1 rfl).box) rfl rfl rfl ?_
        refine RW.loadN ttok rfl rfl rfl rfl rfl ((hS36.bring 0 rfl).box) rfl rfl rfl ?_
        have hS60 := hS36.bring 0 rfl
        refine RW.store ttok (A := []) hS60 rfl rfl rfl rfl rfl 0 rfl rfl rfl rfl rfl (fun w61 hS62 => ?_)
        have hS63 := hS62.bring 1 rfl
        refine RW.store ttok (A := []) hS63 rfl rfl rfl rfl rfl 0 rfl rfl rfl rfl rfl (fun w65 hS66 => ?_)
        refine RW.nil ?_
        exact ⟨(t12.2.1, t12.2.2.1, t12.2.2.2.1, t12.2.2.2.2.1, t12.2.2.2.2.2, t12.1.1, t12.1.2.1, t12.1.2.2.1, t12.1.2.2.2.1, t12.1.2.2.2.2), [(6, .pointer (some ⟨g13, 0, none⟩)), (7, .pointer (some ⟨g20, 0, none⟩)), (8, .int .i64 r30.1), (9, .int .i64 r30.2)], ⟨rfl, rfl, rfl, rfl, trivial⟩, A21, k22, A24, k25, A14, k15, A17, k18, hm, h23, h26, h16, h19, ((hS66.bring 0 rfl).bring 1 rfl), rfl⟩
      · skip
        rw [if_neg (not_t hc)] at hm
        refine WP.skip ?_
        exact ⟨(t12.1.1, t12.1.2.1, t12.1.2.2.1, t12.1.2.2.2.1, t12.1.2.2.2.2, t12.2.1, t12.2.2.1, t12.2.2.2.1, t12.2.2.2.2.1, t12.2.2.2.2.2), [(6, .pointer (some ⟨g13, 0, none⟩)), (7, .pointer (some ⟨g20, 0, none⟩)), (8, .int .i64 r30.1), (9, .int .i64 r30.2)], ⟨rfl, rfl, rfl, rfl, trivial⟩, A14, k15, A17, k18, A21, k22, A24, k25, hm, h16, h19, h23, h26, hS36, rfl⟩
  · skip
    refine WP.drawnM 786432 mixed 20 (by kernel_rfl) (by kernel_rfl) [([], 1048575), ([0], 1048574), ([1], 1048573), ([2], 1048571), ([], 1048575), ([4], 1048559), ([3, 5], 1048535), ([6], 1048511), ([], 1048575), ([8], 1048319), ([9], 1048063), ([10], 1047551), ([], 1048575), ([12], 1044479), ([11, 13], 1038335), ([14], 1032191), ([], 1048575), ([], 1048575), ([16, 7, 0, 1, 2, 3, 4, 5, 6, 7, 16, 17], 982911), ([17, 15, 18, 0, 1, 2, 3, 4, 5, 6, 7, 8, 9, 10, 11, 12, 13, 14, 15, 16, 17, 18], 884735)] (by kernel_rfl) hS11.ext (fun hsk67 => ?_)
    have hS68 := hS11.step (Ext.draw _)
    refine DM.run (fuel := 12) ttok hsk67 [0, 1, 2, 4, 8, 9, 10, 12] 5911 (by kernel_rfl) (by kernel_rfl) rfl ?_
    refine DM.weak [(12, .pointer (some p0_)), (14, .pointer (some ⟨g6, 0, none⟩)), (20, .pointer (some p0_)), (22, .pointer (some ⟨g6, 1, none⟩))] ⟨rfl, rfl, rfl, rfl, trivial⟩ ?_
    refine DM.load1 ttok hsk67 3 5919 (by kernel_rfl) (by kernel_rfl) (by kernel_rfl) (by kernel_rfl) rfl (by kernel_rfl) rfl rfl rfl rfl rfl (At.ext (hE.trans hS11.ext) g0_) 0 rfl rfl rfl rfl ?_
    refine DM.load1 ttok hsk67 5 5951 (by kernel_rfl) (by kernel_rfl) (by kernel_rfl) (by kernel_rfl) rfl (by kernel_rfl) rfl rfl rfl rfl rfl ((hS11.bring 0 rfl).box) 0 rfl rfl rfl rfl ?_
    obtain ⟨x69, hx70, hm⟩ := bind_some hm
    refine DM.idx ttok (hE.trans hS11.ext) hsk67 6 6015 (by kernel_rfl) (by kernel_rfl) (by kernel_rfl) (by kernel_rfl) rfl (by kernel_rfl) rfl rfl rfl rfl rfl rfl (by decide) rfl rfl h3 (idx_some hx70).1 (idx_some hx70).2 rfl rfl (fun p71 es72 ha73 hr74 => ?_)
    obtain ⟨A75, k76, A78, k79, e81, h77, h80⟩ := ty112_open hr74; subst e81
    refine DM.loadN ttok hsk67 7 6143 (by kernel_rfl) (by kernel_rfl) (by kernel_rfl) (by kernel_rfl) rfl (by kernel_rfl) rfl rfl rfl rfl rfl (At.ext (hE.trans hS11.ext) ha73) rfl rfl rfl ?_
    refine DM.quietV hsk67 11 8191 (by kernel_rfl) (by kernel_rfl) rfl (by kernel_rfl) rfl (Quiet.load1 ttok rfl rfl rfl rfl (At.ext hE g0_) 0 rfl rfl) rfl rfl ?_
    obtain ⟨x82, hx83, hm⟩ := bind_some hm
    refine DM.all hsk67 [13, 16, 17] (by kernel_rfl) (by simp) ?_
    intro i109 hi110
    simp only [List.mem_cons, List.not_mem_nil, or_false] at hi110
    rcases hi110 with rfl | rfl | rfl
    · skip
      refine LM.quietL hsk67 16383 (by kernel_rfl) (by kernel_rfl) rfl rfl (Quiet.load1 ttok rfl rfl rfl rfl ((hS68.bring 0 rfl).box) 1 rfl rfl) rfl rfl ?_
      refine DM.idxV ttok hE hsk67 14 32767 (by kernel_rfl) (by kernel_rfl) rfl (by kernel_rfl) rfl rfl rfl rfl rfl rfl (by decide) rfl rfl h3 (idx_some hx83).1 (idx_some hx83).2 rfl rfl (fun p111 es112 ha113 hr114 => ?_)
      obtain ⟨A115, k116, A118, k119, e121, h117, h120⟩ := ty112_open hr114; subst e121
      refine DM.quietV hsk67 15 65535 (by kernel_rfl) (by kernel_rfl) rfl (by kernel_rfl) rfl (Quiet.loadN ttok rfl rfl rfl rfl (At.ext hE ha113) rfl) rfl rfl ?_
      refine DM.all hsk67 [16, 17] (by kernel_rfl) (by simp) ?_
      intro i122 hi123
      simp only [List.mem_cons, List.not_mem_nil, or_false] at hi123
      rcases hi123 with rfl | rfl
      · skip
        refine LM.new ttok hsk67 hS68 131071 (by kernel_rfl) (by kernel_rfl) rfl rfl rfl rfl rfl (fun g124 w125 e126 hS127 => ?_)
        refine DM.one hsk67 17 (by kernel_rfl) (LM.new ttok hsk67 hS127 262143 (by kernel_rfl) (by kernel_rfl) rfl rfl rfl rfl rfl (fun g128 w129 e130 hS131 => ?_))
        have hS132 := hS131.bring 1 rfl
        refine DM.one hsk67 18 (by kernel_rfl) (LM.store ttok (A := []) hS132 hsk67 524287 (by kernel_rfl) (by kernel_rfl) rfl rfl rfl rfl rfl rfl 0 rfl rfl rfl rfl rfl (fun w133 hS134 => ?_))
        have hS135 := hS134.bring 1 rfl
        refine DM.one hsk67 19 (by kernel_rfl) (LM.store ttok (A := []) hS135 hsk67 1048575 (by kernel_rfl) (by kernel_rfl) rfl rfl rfl rfl rfl rfl 0 rfl rfl rfl rfl rfl (fun w136 hS137 => ?_))
        refine DM.done hsk67 (by kernel_rfl) ?_
        exact ⟨((x69.Kind, x69.Level, x69.Value, x69.Data, x69.Ports), (x82.Kind, x82.Level, x82.Value, x82.Data, x82.Ports)), [(6, .pointer (some ⟨g124, 0, none⟩)), (7, .pointer (some ⟨g128, 0, none⟩))], ⟨rfl, rfl, trivial⟩, g124, A75, k76, A78, k79, g128, A115, k116, A118, k119, hm, h77, h80, h117, h120, ((hS137.bring 0 rfl).bring 1 rfl), rfl⟩
      · skip
        refine LM.new ttok hsk67 hS68 196607 (by kernel_rfl) (by kernel_rfl) rfl rfl rfl rfl rfl (fun g138 w139 e140 hS141 => ?_)
        refine DM.one hsk67 16 (by kernel_rfl) (LM.new ttok hsk67 hS141 262143 (by kernel_rfl) (by kernel_rfl) rfl rfl rfl rfl rfl (fun g142 w143 e144 hS145 => ?_))
        have hS146 := hS145.bring 0 rfl
        refine DM.one hsk67 18 (by kernel_rfl) (LM.store ttok (A := []) hS146 hsk67 524287 (by kernel_rfl) (by kernel_rfl) rfl rfl rfl rfl rfl rfl 0 rfl rfl rfl rfl rfl (fun w147 hS148 => ?_))
        have hS149 := hS148.bring 1 rfl
        refine DM.one hsk67 19 (by kernel_rfl) (LM.store ttok (A := []) hS149 hsk67 1048575 (by kernel_rfl) (by kernel_rfl) rfl rfl rfl rfl rfl rfl 0 rfl rfl rfl rfl rfl (fun w150 hS151 => ?_))
        refine DM.done hsk67 (by kernel_rfl) ?_
        exact ⟨((x69.Kind, x69.Level, x69.Value, x69.Data, x69.Ports), (x82.Kind, x82.Level, x82.Value, x82.Data, x82.Ports)), [(6, .pointer (some ⟨g142, 0, none⟩)), (7, .pointer (some ⟨g138, 0, none⟩))], ⟨rfl, rfl, trivial⟩, g142, A75, k76, A78, k79, g138, A115, k116, A118, k119, hm, h77, h80, h117, h120, ((hS151.bring 0 rfl).bring 1 rfl), rfl⟩
    · skip
      refine LM.new ttok hsk67 hS68 73727 (by kernel_rfl) (by kernel_rfl) rfl rfl rfl rfl rfl (fun g152 w153 e154 hS155 => ?_)
      refine DM.all hsk67 [13, 17] (by kernel_rfl) (by simp) ?_
      intro i156 hi157
      simp only [List.mem_cons, List.not_mem_nil, or_false] at hi157
      rcases hi157 with rfl | rfl
      · skip
        refine LM.quietL hsk67 81919 (by kernel_rfl) (by kernel_rfl) rfl rfl (Quiet.load1 ttok rfl rfl rfl rfl ((hS155.bring 1 rfl).box) 1 rfl rfl) rfl rfl ?_
        refine DM.idxV ttok hE hsk67 14 98303 (by kernel_rfl) (by kernel_rfl) rfl (by kernel_rfl) rfl rfl rfl rfl rfl rfl (by decide) rfl rfl h3 (idx_some hx83).1 (idx_some hx83).2 rfl rfl (fun p158 es159 ha160 hr161 => ?_)
        obtain ⟨A162, k163, A165, k166, e168, h164, h167⟩ := ty112_open hr161; subst e168
        refine DM.quietV hsk67 15 131071 (by kernel_rfl) (by kernel_rfl) rfl (by kernel_rfl) rfl (Quiet.loadN ttok rfl rfl rfl rfl (At.ext hE ha160) rfl) rfl rfl ?_
        refine DM.one hsk67 17 (by kernel_rfl) (LM.new ttok hsk67 hS155 262143 (by kernel_rfl) (by kernel_rfl) rfl rfl rfl rfl rfl (fun g169 w170 e171 hS172 => ?_))
        have hS173 := hS172.bring 1 rfl
        refine DM.one hsk67 18 (by kernel_rfl) (LM.store ttok (A := []) hS173 hsk67 524287 (by kernel_rfl) (by kernel_rfl) rfl rfl rfl rfl rfl rfl 0 rfl rfl rfl rfl rfl (fun w174 hS175 => ?_))
        have hS176 := hS175.bring 1 rfl
        refine DM.one hsk67 19 (by kernel_rfl) (LM.store ttok (A := []) hS176 hsk67 1048575 (by kernel_rfl) (by kernel_rfl) rfl rfl rfl rfl rfl rfl 0 rfl rfl rfl rfl rfl (fun w177 hS178 => ?_))
        refine DM.done hsk67 (by kernel_rfl) ?_
        exact ⟨((x69.Kind, x69.Level, x69.Value, x69.Data, x69.Ports), (x82.Kind, x82.Level, x82.Value, x82.Data, x82.Ports)), [(6, .pointer (some ⟨g152, 0, none⟩)), (7, .pointer (some ⟨g169, 0, none⟩))], ⟨rfl, rfl, trivial⟩, g152, A75, k76, A78, k79, g169, A162, k163, A165, k166, hm, h77, h80, h164, h167, ((hS178.bring 0 rfl).bring 1 rfl), rfl⟩
      · skip
        refine LM.new ttok hsk67 hS155 204799 (by kernel_rfl) (by kernel_rfl) rfl rfl rfl rfl rfl (fun g179 w180 e181 hS182 => ?_)
        refine DM.all hsk67 [13, 18] (by kernel_rfl) (by simp) ?_
        intro i183 hi184
        simp only [List.mem_cons, List.not_mem_nil, or_false] at hi184
        rcases hi184 with rfl | rfl
        · skip
          refine LM.quietL hsk67 212991 (by kernel_rfl) (by kernel_rfl) rfl rfl (Quiet.load1 ttok rfl rfl rfl rfl ((hS182.bring 2 rfl).box) 1 rfl rfl) rfl rfl ?_
          refine DM.idxV ttok hE hsk67 14 229375 (by kernel_rfl) (by kernel_rfl) rfl (by kernel_rfl) rfl rfl rfl rfl rfl rfl (by decide) rfl rfl h3 (idx_some hx83).1 (idx_some hx83).2 rfl rfl (fun p185 es186 ha187 hr188 => ?_)
          obtain ⟨A189, k190, A192, k193, e195, h191, h194⟩ := ty112_open hr188; subst e195
          refine DM.quietV hsk67 15 262143 (by kernel_rfl) (by kernel_rfl) rfl (by kernel_rfl) rfl (Quiet.loadN ttok rfl rfl rfl rfl (At.ext hE ha187) rfl) rfl rfl ?_
          have hS196 := hS182.bring 1 rfl
          refine DM.one hsk67 18 (by kernel_rfl) (LM.store ttok (A := []) hS196 hsk67 524287 (by kernel_rfl) (by kernel_rfl) rfl rfl rfl rfl rfl rfl 0 rfl rfl rfl rfl rfl (fun w197 hS198 => ?_))
          have hS199 := hS198.bring 1 rfl
          refine DM.one hsk67 19 (by kernel_rfl) (LM.store ttok (A := []) hS199 hsk67 1048575 (by kernel_rfl) (by kernel_rfl) rfl rfl rfl rfl rfl rfl 0 rfl rfl rfl rfl rfl (fun w200 hS201 => ?_))
          refine DM.done hsk67 (by kernel_rfl) ?_
          exact ⟨((x69.Kind, x69.Level, x69.Value, x69.Data, x69.Ports), (x82.Kind, x82.Level, x82.Value, x82.Data, x82.Ports)), [(6, .pointer (some ⟨g152, 0, none⟩)), (7, .pointer (some ⟨g179, 0, none⟩))], ⟨rfl, rfl, trivial⟩, g152, A75, k76, A78, k79, g179, A189, k190, A192, k193, hm, h77, h80, h191, h194, ((hS201.bring 0 rfl).bring 1 rfl), rfl⟩
        · skip
          have hS202 := hS182.bring 1 rfl
          refine LM.store ttok (A := []) hS202 hsk67 466943 (by kernel_rfl) (by kernel_rfl) rfl rfl rfl rfl rfl rfl 0 rfl rfl rfl rfl rfl (fun w203 hS204 => ?_)
          refine DM.one hsk67 13 (by kernel_rfl) (LM.quietL hsk67 475135 (by kernel_rfl) (by kernel_rfl) rfl rfl (Quiet.load1 ttok rfl rfl rfl rfl ((hS204.bring 2 rfl).box) 1 rfl rfl) rfl rfl ?_)
          refine DM.idxV ttok hE hsk67 14 491519 (by kernel_rfl) (by kernel_rfl) rfl (by kernel_rfl) rfl rfl rfl rfl rfl rfl (by decide) rfl rfl h3 (idx_some hx83).1 (idx_some hx83).2 rfl rfl (fun p205 es206 ha207 hr208 => ?_)
          obtain ⟨A209, k210, A212, k213, e215, h211, h214⟩ := ty112_open hr208; subst e215
          refine DM.quietV hsk67 15 524287 (by kernel_rfl) (by kernel_rfl) rfl (by kernel_rfl) rfl (Quiet.loadN ttok rfl rfl rfl rfl (At.ext hE ha207) rfl) rfl rfl ?_
          have hS216 := hS204.bring 1 rfl
          refine DM.one hsk67 19 (by kernel_rfl) (LM.store ttok (A := []) hS216 hsk67 1048575 (by kernel_rfl) (by kernel_rfl) rfl rfl rfl rfl rfl rfl 0 rfl rfl rfl rfl rfl (fun w217 hS218 => ?_))
          refine DM.done hsk67 (by kernel_rfl) ?_
          exact ⟨((x69.Kind, x69.Level, x69.Value, x69.Data, x69.Ports), (x82.Kind, x82.Level, x82.Value, x82.Data, x82.Ports)), [(6, .pointer (some ⟨g152, 0, none⟩)), (7, .pointer (some ⟨g179, 0, none⟩))], ⟨rfl, rfl, trivial⟩, g152, A75, k76, A78, k79, g179, A209, k210, A212, k213, hm, h77, h80, h211, h214, ((hS218.bring 0 rfl).bring 1 rfl), rfl⟩
    · skip
      refine LM.new ttok hsk67 hS68 139263 (by kernel_rfl) (by kernel_rfl) rfl rfl rfl rfl rfl (fun g219 w220 e221 hS222 => ?_)
      refine DM.all hsk67 [13, 16] (by kernel_rfl) (by simp) ?_
      intro i223 hi224
      simp only [List.mem_cons, List.not_mem_nil, or_false] at hi224
      rcases hi224 with rfl | rfl
      · skip
        refine LM.quietL hsk67 147455 (by kernel_rfl) (by kernel_rfl) rfl rfl (Quiet.load1 ttok rfl rfl rfl rfl ((hS222.bring 1 rfl).box) 1 rfl rfl) rfl rfl ?_
        refine DM.idxV ttok hE hsk67 14 163839 (by kernel_rfl) (by kernel_rfl) rfl (by kernel_rfl) rfl rfl rfl rfl rfl rfl (by decide) rfl rfl h3 (idx_some hx83).1 (idx_some hx83).2 rfl rfl (fun p225 es226 ha227 hr228 => ?_)
        obtain ⟨A229, k230, A232, k233, e235, h231, h234⟩ := ty112_open hr228; subst e235
        refine DM.quietV hsk67 15 196607 (by kernel_rfl) (by kernel_rfl) rfl (by kernel_rfl) rfl (Quiet.loadN ttok rfl rfl rfl rfl (At.ext hE ha227) rfl) rfl rfl ?_
        refine DM.one hsk67 16 (by kernel_rfl) (LM.new ttok hsk67 hS222 262143 (by kernel_rfl) (by kernel_rfl) rfl rfl rfl rfl rfl (fun g236 w237 e238 hS239 => ?_))
        have hS240 := hS239.bring 0 rfl
        refine DM.one hsk67 18 (by kernel_rfl) (LM.store ttok (A := []) hS240 hsk67 524287 (by kernel_rfl) (by kernel_rfl) rfl rfl rfl rfl rfl rfl 0 rfl rfl rfl rfl rfl (fun w241 hS242 => ?_))
        have hS243 := hS242.bring 1 rfl
        refine DM.one hsk67 19 (by kernel_rfl) (LM.store ttok (A := []) hS243 hsk67 1048575 (by kernel_rfl) (by kernel_rfl) rfl rfl rfl rfl rfl rfl 0 rfl rfl rfl rfl rfl (fun w244 hS245 => ?_))
        refine DM.done hsk67 (by kernel_rfl) ?_
        exact ⟨((x69.Kind, x69.Level, x69.Value, x69.Data, x69.Ports), (x82.Kind, x82.Level, x82.Value, x82.Data, x82.Ports)), [(6, .pointer (some ⟨g236, 0, none⟩)), (7, .pointer (some ⟨g219, 0, none⟩))], ⟨rfl, rfl, trivial⟩, g236, A75, k76, A78, k79, g219, A229, k230, A232, k233, hm, h77, h80, h231, h234, ((hS245.bring 0 rfl).bring 1 rfl), rfl⟩
      · skip
        refine LM.new ttok hsk67 hS222 204799 (by kernel_rfl) (by kernel_rfl) rfl rfl rfl rfl rfl (fun g246 w247 e248 hS249 => ?_)
        refine DM.all hsk67 [13, 18] (by kernel_rfl) (by simp) ?_
        intro i250 hi251
        simp only [List.mem_cons, List.not_mem_nil, or_false] at hi251
        rcases hi251 with rfl | rfl
        · skip
          refine LM.quietL hsk67 212991 (by kernel_rfl) (by kernel_rfl) rfl rfl (Quiet.load1 ttok rfl rfl rfl rfl ((hS249.bring 2 rfl).box) 1 rfl rfl) rfl rfl ?_
          refine DM.idxV ttok hE hsk67 14 229375 (by kernel_rfl) (by kernel_rfl) rfl (by kernel_rfl) rfl rfl rfl rfl rfl rfl (by decide) rfl rfl h3 (idx_some hx83).1 (idx_some hx83).2 rfl rfl (fun p252 es253 ha254 hr255 => ?_)
          obtain ⟨A256, k257, A259, k260, e262, h258, h261⟩ := ty112_open hr255; subst e262
          refine DM.quietV hsk67 15 262143 (by kernel_rfl) (by kernel_rfl) rfl (by kernel_rfl) rfl (Quiet.loadN ttok rfl rfl rfl rfl (At.ext hE ha254) rfl) rfl rfl ?_
          have hS263 := hS249.bring 0 rfl
          refine DM.one hsk67 18 (by kernel_rfl) (LM.store ttok (A := []) hS263 hsk67 524287 (by kernel_rfl) (by kernel_rfl) rfl rfl rfl rfl rfl rfl 0 rfl rfl rfl rfl rfl (fun w264 hS265 => ?_))
          have hS266 := hS265.bring 1 rfl
          refine DM.one hsk67 19 (by kernel_rfl) (LM.store ttok (A := []) hS266 hsk67 1048575 (by kernel_rfl) (by kernel_rfl) rfl rfl rfl rfl rfl rfl 0 rfl rfl rfl rfl rfl (fun w267 hS268 => ?_))
          refine DM.done hsk67 (by kernel_rfl) ?_
          exact ⟨((x69.Kind, x69.Level, x69.Value, x69.Data, x69.Ports), (x82.Kind, x82.Level, x82.Value, x82.Data, x82.Ports)), [(6, .pointer (some ⟨g246, 0, none⟩)), (7, .pointer (some ⟨g219, 0, none⟩))], ⟨rfl, rfl, trivial⟩, g246, A75, k76, A78, k79, g219, A256, k257, A259, k260, hm, h77, h80, h258, h261, ((hS268.bring 0 rfl).bring 1 rfl), rfl⟩
        · skip
          have hS269 := hS249.bring 0 rfl
          refine LM.store ttok (A := []) hS269 hsk67 466943 (by kernel_rfl) (by kernel_rfl) rfl rfl rfl rfl rfl rfl 0 rfl rfl rfl rfl rfl (fun w270 hS271 => ?_)
          refine DM.one hsk67 13 (by kernel_rfl) (LM.quietL hsk67 475135 (by kernel_rfl) (by kernel_rfl) rfl rfl (Quiet.load1 ttok rfl rfl rfl rfl ((hS271.bring 2 rfl).box) 1 rfl rfl) rfl rfl ?_)
          refine DM.idxV ttok hE hsk67 14 491519 (by kernel_rfl) (by kernel_rfl) rfl (by kernel_rfl) rfl rfl rfl rfl rfl rfl (by decide) rfl rfl h3 (idx_some hx83).1 (idx_some hx83).2 rfl rfl (fun p272 es273 ha274 hr275 => ?_)
          obtain ⟨A276, k277, A279, k280, e282, h278, h281⟩ := ty112_open hr275; subst e282
          refine DM.quietV hsk67 15 524287 (by kernel_rfl) (by kernel_rfl) rfl (by kernel_rfl) rfl (Quiet.loadN ttok rfl rfl rfl rfl (At.ext hE ha274) rfl) rfl rfl ?_
          have hS283 := hS271.bring 1 rfl
          refine DM.one hsk67 19 (by kernel_rfl) (LM.store ttok (A := []) hS283 hsk67 1048575 (by kernel_rfl) (by kernel_rfl) rfl rfl rfl rfl rfl rfl 0 rfl rfl rfl rfl rfl (fun w284 hS285 => ?_))
          refine DM.done hsk67 (by kernel_rfl) ?_
          exact ⟨((x69.Kind, x69.Level, x69.Value, x69.Data, x69.Ports), (x82.Kind, x82.Level, x82.Value, x82.Data, x82.Ports)), [(6, .pointer (some ⟨g246, 0, none⟩)), (7, .pointer (some ⟨g219, 0, none⟩))], ⟨rfl, rfl, trivial⟩, g246, A75, k76, A78, k79, g219, A276, k277, A279, k280, hm, h77, h80, h278, h281, ((hS285.bring 0 rfl).bring 1 rfl), rfl⟩

theorem enters87 : Enters Try.prog 87 := ⟨_, _, Try.func87, rfl, by kernel_rfl⟩
def m_impl_Memory_classAt (fuel : Nat) (x0 : D.Memory) (x1 : D.Pair) : Option (Int × Int × Int) := ((m_impl_Memory_redexNet fuel x0 x1).bind fun r15 => ((m_impl_Net_classOf fuel (⟨r15.Agents⟩ : D.Net) (⟨0, 1⟩ : D.Pair)).bind fun r31 => (if r31.2 = true then some (r31.1, x1.B, x1.A) else some (r31.1, x1.A, x1.B))))

set_option maxRecDepth 100000 in
theorem impl_Memory_classAt_ok {W w : World} (hE : Ext W w) {p0_ : Addr} {c0_ : List Value} {x0 : D.Memory} {c1_ : List Value} {x1 : D.Pair} (h0_ : ty80.ro W c0_ x0) (g0_ : At W p0_ c0_) (h1_ : ty139.ro W c1_ x1) {fuel : Nat} {r : Int × Int × Int} (hm : m_impl_Memory_classAt fuel x0 x1 = some r) :
    Calls Try.prog 87 ⟨[.pointer (some p0_), .agg ⟨c1_⟩]⟩ w (Ret fun v w8 => v = .tuple ⟨[.int .i64 r.1, .int .i64 r.2.1, .int .i64 r.2.2]⟩ ∧ St w w8 []) := by
  obtain ⟨A1, k2, A4, k5, e7, h3, h6⟩ := ty80_open h0_; subst e7
  have e10 := ty139_open h1_; subst e10
  refine Calls.into Try.func87 rfl 28 rfl rfl _ rfl ?_
  unfold m_impl_Memory_classAt at hm
  have hS := St.start w
  refine WP.seq ?_
  refine WP.region ?_
  refine RW.new ttok hS rfl rfl rfl rfl (fun g11 w12 e13 hS14 => ?_)
  refine RW.run ttok 3 rfl ?_
  refine RW.nil ?_
  refine WP.seq ?_
  refine WP.region ?_
  refine RW.run ttok 1 rfl ?_
  refine RW.loadN ttok rfl rfl rfl rfl rfl ((hS14.bring 0 rfl).box) rfl rfl rfl ?_
  obtain ⟨r15, hx16, hm⟩ := bind_some hm
  refine RW.call rfl rfl rfl enters148 (impl_Memory_redexNet_ok (hE.trans hS14.ext) h0_ g0_ h1_ hx16) (fun v17 w18 hR19 => ?_)
  obtain ⟨A20, k21, rfl, hR22⟩ := hR19
  have hS23 := hS14.join hR22
  refine RW.new ttok hS23 rfl rfl rfl rfl (fun g24 w25 e26 hS27 => ?_)
  have hS28 := hS27.bring 0 rfl
  refine RW.store ttok (A := []) hS28 rfl rfl rfl rfl rfl 0 rfl rfl rfl rfl rfl (fun w29 hS30 => ?_)
  refine RW.nil ?_
  refine WP.seq ?_
  refine WP.region ?_
  refine RW.quiet rfl (Quiet.build ttok rfl rfl rfl rfl rfl) rfl rfl ?_
  obtain ⟨r31, hx32, hm⟩ := bind_some hm
  refine RW.call rfl rfl rfl enters149 (impl_Net_classOf_ok (Ext.refl _) (ty30_shut (⟨r15.Agents⟩ : D.Net) (roOf ty28b1_ro (St.ownE (W0 := W) hE (hS30.bring 1 rfl)))) ((hS30.bring 0 rfl).box) (ty139_shut (⟨0, 1⟩ : D.Pair)) hx32) (fun v33 w34 hR35 => ?_)
  obtain ⟨rfl, hR36⟩ := hR35
  have hS37 := hS30.join hR36
  refine RW.run ttok 5 rfl ?_
  refine RW.nil ?_
  refine WP.seq ?_
  refine WP.seq ?_
  refine WP.region ?_
  refine RW.run ttok 1 rfl ?_
  refine RW.nil ?_
  refine WP.cond r31.2 rfl (fun hc => ?_) (fun hc => ?_)
  · skip
    rw [if_pos hc] at hm
    refine WP.seq ?_
    refine WP.drawnM 0 mixed 8 (by kernel_rfl) (by kernel_rfl) [([], 255), ([], 255), ([1], 253), ([], 255), ([3], 247), ([0, 0], 254), ([2, 5, 0, 1, 2, 5], 251), ([4, 6, 0, 1, 2, 3, 4, 5, 6], 239)] (by kernel_rfl) hS37.ext (fun hsk38 => ?_)
    have hS39 := hS37.step (Ext.draw _)
    refine DM.run (fuel := 4) ttok hsk38 [0, 1, 3, 5] 43 (by kernel_rfl) (by kernel_rfl) rfl ?_
    refine DM.weak [(4, .int .i64 r31.1), (5, .int .i64 0), (6, .int .i64 0), (19, .pointer (some ⟨g11, 1, none⟩)), (21, .pointer (some ⟨g11, 0, none⟩))] ⟨rfl, rfl, rfl, rfl, rfl, trivial⟩ ?_
    refine DM.load1 ttok hsk38 2 47 (by kernel_rfl) (by kernel_rfl) (by kernel_rfl) (by kernel_rfl) rfl (by kernel_rfl) rfl rfl rfl rfl rfl ((hS37.bring 2 rfl).box) 1 rfl rfl rfl rfl ?_
    refine DM.run (fuel := 2) ttok hsk38 [6] 111 (by kernel_rfl) (by kernel_rfl) rfl ?_
    refine DM.load1 ttok hsk38 4 127 (by kernel_rfl) (by kernel_rfl) (by kernel_rfl) (by kernel_rfl) rfl (by kernel_rfl) rfl rfl rfl rfl rfl ((hS37.bring 2 rfl).box) 0 rfl rfl rfl rfl ?_
    refine DM.run (fuel := 0) ttok hsk38 [7] 255 (by kernel_rfl) (by kernel_rfl) rfl ?_
    refine DM.done hsk38 (by kernel_rfl) ?_
    refine WP.ret ?_
    cases hm
    exact ⟨_, .cons (.tmp rfl) (.cons (.tmp rfl) (.cons (.tmp rfl) .nil)), rfl, (hS39.taken 0)⟩
  · skip
    rw [if_neg (not_t hc)] at hm
    refine WP.skip ?_
    refine WP.seq ?_
    refine WP.drawnM 0 mixed 8 (by kernel_rfl) (by kernel_rfl) [([], 255), ([], 255), ([1], 253), ([], 255), ([3], 247), ([0, 0], 254), ([2, 5, 0, 1, 2, 5], 251), ([4, 6, 0, 1, 2, 3, 4, 5, 6], 239)] (by kernel_rfl) hS37.ext (fun hsk40 => ?_)
    have hS41 := hS37.step (Ext.draw _)
    refine DM.run (fuel := 4) ttok hsk40 [0, 1, 3, 5] 43 (by kernel_rfl) (by kernel_rfl) rfl ?_
    refine DM.weak [(4, .int .i64 r31.1), (5, .int .i64 0), (6, .int .i64 0), (24, .pointer (some ⟨g11, 0, none⟩)), (26, .pointer (some ⟨g11, 1, none⟩))] ⟨rfl, rfl, rfl, rfl, rfl, trivial⟩ ?_
    refine DM.load1 ttok hsk40 2 47 (by kernel_rfl) (by kernel_rfl) (by kernel_rfl) (by kernel_rfl) rfl (by kernel_rfl) rfl rfl rfl rfl rfl ((hS37.bring 2 rfl).box) 0 rfl rfl rfl rfl ?_
    refine DM.run (fuel := 2) ttok hsk40 [6] 111 (by kernel_rfl) (by kernel_rfl) rfl ?_
    refine DM.load1 ttok hsk40 4 127 (by kernel_rfl) (by kernel_rfl) (by kernel_rfl) (by kernel_rfl) rfl (by kernel_rfl) rfl rfl rfl rfl rfl ((hS37.bring 2 rfl).box) 1 rfl rfl rfl rfl ?_
    refine DM.run (fuel := 0) ttok hsk40 [7] 255 (by kernel_rfl) (by kernel_rfl) rfl ?_
    refine DM.done hsk40 (by kernel_rfl) ?_
    refine WP.ret ?_
    cases hm
    exact ⟨_, .cons (.tmp rfl) (.cons (.tmp rfl) (.cons (.tmp rfl) .nil)), rfl, (hS41.taken 0)⟩

theorem enters38 : Enters Try.prog 38 := ⟨_, _, Try.func38, rfl, by kernel_rfl⟩
def m_impl_RedexClass (fuel : Nat) (x0 : D.Memory) (x1 : Int) : Option (Int × Int) := ((m_impl_ValidMemory fuel x0).bind fun r14 => (if (!r14) = true then some (0, 1) else ((m_impl_Memory_hasRedex fuel x0 x1).bind fun r21 => (if (!r21) = true then some (0, 2) else ((idx x0.Redexes x1).bind fun x28 => ((m_impl_Memory_classAt fuel x0 x28).bind fun r35 => some (r35.1, 0)))))))

set_option maxRecDepth 100000 in
theorem impl_RedexClass_ok {W w : World} (hE : Ext W w) {c0_ : List Value} {x0 : D.Memory} {x1 : Int} (h0_ : ty80.ro W c0_ x0) {fuel : Nat} {r : Int × Int} (hm : m_impl_RedexClass fuel x0 x1 = some r) :
    Calls Try.prog 38 ⟨[.agg ⟨c0_⟩, .int .i64 x1]⟩ w (Ret fun v w8 => v = .tuple ⟨[.int .i64 r.1, .int .i64 r.2]⟩ ∧ St w w8 []) := by
  obtain ⟨A1, k2, A4, k5, e7, h3, h6⟩ := ty80_open h0_; subst e7
  refine Calls.into Try.func38 rfl 28 rfl rfl _ rfl ?_
  unfold m_impl_RedexClass at hm
  have hS := St.start w
  refine WP.seq ?_
  refine WP.region ?_
  refine RW.new ttok hS rfl rfl rfl rfl (fun g10 w11 e12 hS13 => ?_)
  refine RW.run ttok 2 rfl ?_
  refine RW.nil ?_
  refine WP.seq ?_
  refine WP.block ?_
  refine WP.seq ?_
  refine WP.region ?_
  refine RW.loadN ttok rfl rfl rfl rfl rfl ((hS13.bring 0 rfl).box) rfl rfl rfl ?_
  obtain ⟨r14, hx15, hm⟩ := bind_some hm
  refine RW.call rfl rfl rfl enters85 (impl_ValidMemory_ok (hE.trans hS13.ext) h0_ hx15) (fun v16 w17 hR18 => ?_)
  obtain ⟨rfl, hR19⟩ := hR18
  have hS20 := hS13.join hR19
  refine RW.run ttok 2 rfl ?_
  refine RW.nil ?_
  refine WP.cond (!r14) rfl (fun hc => ?_) (fun hc => ?_)
  · skip
    rw [if_pos hc] at hm
    refine WP.seq ?_
    refine WP.region ?_
    refine RW.run ttok 2 rfl ?_
    refine RW.nil ?_
    refine WP.ret ?_
    cases hm
    exact ⟨_, .cons (.tmp rfl) (.cons (.tmp rfl) .nil), rfl, (hS20.taken 0)⟩
  · skip
    rw [if_neg (not_t hc)] at hm
    refine WP.seq ?_
    refine WP.region ?_
    refine RW.run ttok 1 rfl ?_
    obtain ⟨r21, hx22, hm⟩ := bind_some hm
    refine RW.call rfl rfl rfl enters86 (impl_Memory_hasRedex_ok (Ext.refl _) (ty80.ext (hE.trans hS20.ext) h0_) ((hS20.bring 0 rfl).box) hx22) (fun v23 w24 hR25 => ?_)
    obtain ⟨rfl, hR26⟩ := hR25
    have hS27 := hS20.join hR26
    refine RW.run ttok 2 rfl ?_
    refine RW.nil ?_
    refine WP.cond (!r21) rfl (fun hc => ?_) (fun hc => ?_)
    · skip
      rw [if_pos hc] at hm
      refine WP.seq ?_
      refine WP.region ?_
      refine RW.run ttok 2 rfl ?_
      refine RW.nil ?_
      refine WP.ret ?_
      cases hm
      exact ⟨_, .cons (.tmp rfl) (.cons (.tmp rfl) .nil), rfl, (hS27.taken 0)⟩
    · skip
      rw [if_neg (not_t hc)] at hm
      refine WP.skip ?_
      refine WP.seq ?_
      refine WP.region ?_
      refine RW.run ttok 1 rfl ?_
      refine RW.load1 ttok rfl rfl rfl rfl rfl ((hS27.bring 0 rfl).box) 4 rfl rfl rfl rfl ?_
      refine RW.run ttok 1 rfl ?_
      obtain ⟨x28, hx29, hm⟩ := bind_some hm
      refine RW.idx ttok (hE.trans hS27.ext) rfl rfl rfl rfl rfl rfl (by decide) rfl rfl h6 (idx_some hx29).1 (idx_some hx29).2 rfl rfl (fun p30 es31 ha32 hr33 => ?_)
      have e34 := ty139_open hr33; subst e34
      refine RW.loadN ttok rfl rfl rfl rfl rfl (At.ext (hE.trans hS27.ext) ha32) rfl rfl rfl ?_
      obtain ⟨r35, hx36, hm⟩ := bind_some hm
      refine RW.call rfl rfl rfl enters87 (impl_Memory_classAt_ok (Ext.refl _) (ty80.ext (hE.trans hS27.ext) h0_) ((hS27.bring 0 rfl).box) (ty139.ext (hE.trans hS27.ext) hr33) hx36) (fun v37 w38 hR39 => ?_)
      obtain ⟨rfl, hR40⟩ := hR39
      have hS41 := hS27.join hR40
      refine RW.run ttok 7 rfl ?_
      refine RW.nil ?_
      refine WP.seq ?_
      refine WP.region ?_
      refine RW.run ttok 3 rfl ?_
      refine RW.nil ?_
      refine WP.ret ?_
      cases hm
      exact ⟨_, .cons (.tmp rfl) (.cons (.tmp rfl) .nil), rfl, (hS41.taken 0)⟩

theorem enters127 : Enters Try.prog 127 := ⟨_, _, Try.func127, rfl, by kernel_rfl⟩
def m_laws_eqInt64S_j1 (fuel : Nat) (t2 : Unit) : Option Bool := some true
def m_laws_eqInt64S_b1 (fuel : Nat) (x0 : (List Int)) (x1 : (List Int)) (s1 : Int) : Option (Rd (Int) (Unit) (Bool)) := (if (decide (s1 < (x0.length : Int))) = true then ((idx x0 s1).bind fun x21 => ((idx x1 s1).bind fun x27 => (if (x21 != x27) = true then some (.ret false) else some (.next (w64 (s1 + 1)))))) else some (.brk ()))
def m_laws_eqInt64S (fuel : Nat) (x0 : (List Int)) (x1 : (List Int)) : Option (Bool) := (if ((x0.length : Int) != (x1.length : Int)) = true then some false else ((iter (m_laws_eqInt64S_b1 fuel x0 x1) fuel 0).bind fun o => aft o (m_laws_eqInt64S_j1 fuel)))

set_option maxRecDepth 100000 in
theorem laws_eqInt64S_ok {W w : World} (hE : Ext W w) {A0_ : Option Addr} {k0_ : Nat} {x0 : (List Int)} {A1_ : Option Addr} {k1_ : Nat} {x1 : (List Int)} (h0_ : ty103.ro W [.slice A0_ x0.length k0_] x0) (h1_ : ty103.ro W [.slice A1_ x1.length k1_] x1) {fuel : Nat} {r : Bool} (hm : m_laws_eqInt64S fuel x0 x1 = some r) :
    Calls Try.prog 127 ⟨[.slice A0_ x0.length k0_, .slice A1_ x1.length k1_]⟩ w (Ret fun v w8 => v = .bool r ∧ St w w8 []) := by
  refine Calls.into Try.func127 rfl 26 rfl rfl _ rfl ?_
  unfold m_laws_eqInt64S at hm
  have hS := St.start w
  refine WP.seq ?_
  refine WP.region ?_
  refine RW.run ttok 1 rfl ?_
  refine RW.nil ?_
  refine WP.seq ?_
  refine WP.seq ?_
  refine WP.region ?_
  refine RW.run ttok 5 rfl ?_
  refine RW.nil ?_
  refine WP.cond ((x0.length : Int) != (x1.length : Int)) rfl (fun hc => ?_) (fun hc => ?_)
  · skip
    rw [if_pos hc] at hm
    refine WP.seq ?_
    refine WP.region ?_
    refine RW.run ttok 1 rfl ?_
    refine RW.nil ?_
    refine WP.ret ?_
    cases hm
    exact ⟨_, .cons (.tmp rfl) .nil, rfl, hS⟩
  · skip
    rw [if_neg (not_t hc)] at hm
    refine WP.skip ?_
    refine WP.seq ?_
    refine WP.seq ?_
    refine WP.region ?_
    refine RW.run ttok 1 rfl ?_
    refine RW.nil ?_
    obtain ⟨o10, hl11, hm⟩ := bind_some hm
    refine WP.cut (fun (t2 : Unit) F w9 => o10 = .inl t2 ∧ Ext w w9 ∧ St w w9 [] ∧ F = []) ?_ ?_
    · skip
      rintro t2 F w7 ⟨ho13, hE6, hS12, rfl⟩
      subst ho13
      rw [aft_inl] at hm
      unfold m_laws_eqInt64S_j1 at hm
      refine WP.seq ?_
      refine WP.region ?_
      refine RW.run ttok 1 rfl ?_
      refine RW.nil ?_
      refine WP.ret ?_
      cases hm
      exact ⟨_, .cons (.tmp rfl) .nil, rfl, hS12⟩
    · skip
      refine WP.block ?_
      refine WP.weak [(0, .slice A0_ x0.length k0_), (1, .slice A1_ x1.length k1_), (5, .int .i64 0)] ⟨rfl, rfl, rfl, trivial⟩ ?_
      refine WP.iter (fun (s1 : Int) F w9 => Ext w w9 ∧ St w w9 [] ∧ F = [(0, .slice A0_ x0.length k0_), (1, .slice A1_ x1.length k1_), (5, .int .i64 s1)]) _ hl11 ⟨(Ext.refl _), hS, rfl⟩ ?_
      rintro s1 F w18 _ o16 ⟨hE5, hS17, rfl⟩ hb14 ho15
      unfold m_laws_eqInt64S_b1 at hb14
      refine WP.seq ?_
      refine WP.seq ?_
      refine WP.region ?_
      refine RW.run ttok 4 rfl ?_
      refine RW.nil ?_
      refine WP.cond (decide (s1 < (x0.length : Int))) rfl (fun hc => ?_) (fun hc => ?_)
      · skip
        rw [if_pos hc] at hb14
        refine WP.skip ?_
        refine WP.seq ?_
        refine WP.block ?_
        refine WP.seq ?_
        refine WP.drawnM 0 mixed 9 (by kernel_rfl) (by kernel_rfl) [([], 511), ([], 511), ([0, 1], 508), ([2], 507), ([], 511), ([], 511), ([4, 5], 463), ([6], 447), ([3, 7], 375)] (by kernel_rfl) hS17.ext (fun hsk19 => ?_)
        have hS20 := hS17.step (Ext.draw _)
        refine DM.run (fuel := 5) ttok hsk19 [0, 1, 4, 5] 51 (by kernel_rfl) (by kernel_rfl) rfl ?_
        obtain ⟨x21, hx22, hb14⟩ := bind_some hb14
        refine DM.idx ttok (hE.trans hS17.ext) hsk19 2 55 (by kernel_rfl) (by kernel_rfl) (by kernel_rfl) (by kernel_rfl) rfl (by kernel_rfl) rfl rfl rfl rfl rfl rfl (by decide) rfl rfl h0_ (idx_some hx22).1 (idx_some hx22).2 rfl rfl (fun p23 es24 ha25 hr26 => ?_)
        cases hr26
        refine DM.load1 ttok hsk19 3 63 (by kernel_rfl) (by kernel_rfl) (by kernel_rfl) (by kernel_rfl) rfl (by kernel_rfl) rfl rfl rfl rfl rfl (At.ext (hE.trans hS17.ext) ha25) 0 rfl rfl rfl rfl ?_
        obtain ⟨x27, hx28, hb14⟩ := bind_some hb14
        refine DM.idx ttok (hE.trans hS17.ext) hsk19 6 127 (by kernel_rfl) (by kernel_rfl) (by kernel_rfl) (by kernel_rfl) rfl (by kernel_rfl) rfl rfl rfl rfl rfl rfl (by decide) rfl rfl h1_ (idx_some hx28).1 (idx_some hx28).2 rfl rfl (fun p29 es30 ha31 hr32 => ?_)
        cases hr32
        refine DM.load1 ttok hsk19 7 255 (by kernel_rfl) (by kernel_rfl) (by kernel_rfl) (by kernel_rfl) rfl (by kernel_rfl) rfl rfl rfl rfl rfl (At.ext (hE.trans hS17.ext) ha31) 0 rfl rfl rfl rfl ?_
        refine DM.run (fuel := 0) ttok hsk19 [8] 511 (by kernel_rfl) (by kernel_rfl) rfl ?_
        refine DM.weak [(0, .slice A0_ x0.length k0_), (1, .slice A1_ x1.length k1_), (5, .int .i64 s1), (25, .bool (x21 != x27))] ⟨rfl, rfl, rfl, rfl, trivial⟩ ?_
        refine DM.done hsk19 (by kernel_rfl) ?_
        refine WP.cond (x21 != x27) rfl (fun hc => ?_) (fun hc => ?_)
        · skip
          rw [if_pos hc] at hb14
          refine WP.seq ?_
          refine WP.region ?_
          refine RW.run ttok 1 rfl ?_
          refine RW.nil ?_
          refine WP.ret ?_
          cases hb14
          cases ho15
          have hm : some _ = some _ := hm
          cases hm
          exact ⟨_, .cons (.tmp rfl) .nil, rfl, hS20⟩
        · skip
          rw [if_neg (not_t hc)] at hb14
          refine WP.skip ?_
          refine WP.region ?_
          refine RW.run ttok 3 rfl ?_
          refine RW.nil ?_
          cases hb14
          exact ⟨_, [(0, .slice A0_ x0.length k0_), (1, .slice A1_ x1.length k1_), (5, .int .i64 (w64 (s1 + 1)))], ⟨rfl, rfl, rfl, trivial⟩, rfl, (hE5.trans (Ext.draw _)), hS20, rfl⟩
      · skip
        rw [if_neg (not_t hc)] at hb14
        refine WP.exit ?_
        cases hb14
        exact ⟨_, [], trivial, ho15, hE5, hS17, rfl⟩

theorem enters89 : Enters Try.prog 89 := ⟨_, _, Try.func89, rfl, by kernel_rfl⟩
def m_laws_eqWord (fuel : Nat) (x0 : D.Word) (x1 : D.Word) : Option (Bool) := (if (x0.Tag != x1.Tag) = true then some false else (if (x0.At != x1.At) = true then some false else some true))

set_option maxRecDepth 100000 in
theorem laws_eqWord_ok {W w : World} (hE : Ext W w) {c0_ : List Value} {x0 : D.Word} {c1_ : List Value} {x1 : D.Word} (h0_ : ty77.ro W c0_ x0) (h1_ : ty77.ro W c1_ x1) {fuel : Nat} {r : Bool} (hm : m_laws_eqWord fuel x0 x1 = some r) :
    Calls Try.prog 89 ⟨[.agg ⟨c0_⟩, .agg ⟨c1_⟩]⟩ w (Ret fun v w8 => v = .bool r ∧ St w w8 []) := by
  have e1 := ty77_open h0_; subst e1
  have e2 := ty77_open h1_; subst e2
  refine Calls.into Try.func89 rfl 15 rfl rfl _ rfl ?_
  unfold m_laws_eqWord at hm
  have hS := St.start w
  refine WP.seq ?_
  refine WP.region ?_
  refine RW.new ttok hS rfl rfl rfl rfl (fun g3 w4 e5 hS6 => ?_)
  refine RW.new ttok hS6 rfl rfl rfl rfl (fun g7 w10 e11 hS12 => ?_)
  refine RW.run ttok 1 rfl ?_
  refine RW.nil ?_
  refine WP.seq ?_
  refine WP.seq ?_
  refine WP.region ?_
  refine RW.run ttok 1 rfl ?_
  refine RW.load1 ttok rfl rfl rfl rfl rfl ((hS12.bring 1 rfl).box) 0 rfl rfl rfl rfl ?_
  refine RW.run ttok 1 rfl ?_
  refine RW.load1 ttok rfl rfl rfl rfl rfl ((hS12.bring 0 rfl).box) 0 rfl rfl rfl rfl ?_
  refine RW.run ttok 1 rfl ?_
  refine RW.nil ?_
  refine WP.cond (x0.Tag != x1.Tag) rfl (fun hc => ?_) (fun hc => ?_)
  · skip
    rw [if_pos hc] at hm
    refine WP.seq ?_
    refine WP.region ?_
    refine RW.run ttok 1 rfl ?_
    refine RW.nil ?_
    refine WP.ret ?_
    cases hm
    exact ⟨_, .cons (.tmp rfl) .nil, rfl, (hS12.taken 0)⟩
  · skip
    rw [if_neg (not_t hc)] at hm
    refine WP.skip ?_
    refine WP.seq ?_
    refine WP.seq ?_
    refine WP.region ?_
    refine RW.run ttok 1 rfl ?_
    refine RW.load1 ttok rfl rfl rfl rfl rfl ((hS12.bring 1 rfl).box) 1 rfl rfl rfl rfl ?_
    refine RW.run ttok 1 rfl ?_
    refine RW.load1 ttok rfl rfl rfl rfl rfl ((hS12.bring 0 rfl).box) 1 rfl rfl rfl rfl ?_
    refine RW.run ttok 1 rfl ?_
    refine RW.nil ?_
    refine WP.cond (x0.At != x1.At) rfl (fun hc => ?_) (fun hc => ?_)
    · skip
      rw [if_pos hc] at hm
      refine WP.seq ?_
      refine WP.region ?_
      refine RW.run ttok 1 rfl ?_
      refine RW.nil ?_
      refine WP.ret ?_
      cases hm
      exact ⟨_, .cons (.tmp rfl) .nil, rfl, (hS12.taken 0)⟩
    · skip
      rw [if_neg (not_t hc)] at hm
      refine WP.skip ?_
      refine WP.seq ?_
      refine WP.region ?_
      refine RW.run ttok 1 rfl ?_
      refine RW.nil ?_
      refine WP.ret ?_
      cases hm
      exact ⟨_, .cons (.tmp rfl) .nil, rfl, (hS12.taken 0)⟩

theorem enters229 : Enters Try.prog 229 := ⟨_, _, Try.func229, rfl, by kernel_rfl⟩
def m_laws_eqWordS_j1 (fuel : Nat) (t2 : Unit) : Option Bool := some true
def m_laws_eqWordS_b1 (fuel : Nat) (x0 : (List D.Word)) (x1 : (List D.Word)) (s1 : Int) : Option (Rd (Int) (Unit) (Bool)) := (if (decide (s1 < (x0.length : Int))) = true then ((idx x0 s1).bind fun x21 => ((idx x1 s1).bind fun x28 => ((m_laws_eqWord fuel x21 x28).bind fun r35 => (if (!r35) = true then some (.ret false) else some (.next (w64 (s1 + 1))))))) else some (.brk ()))
def m_laws_eqWordS (fuel : Nat) (x0 : (List D.Word)) (x1 : (List D.Word)) : Option (Bool) := (if ((x0.length : Int) != (x1.length : Int)) = true then some false else ((iter (m_laws_eqWordS_b1 fuel x0 x1) fuel 0).bind fun o => aft o (m_laws_eqWordS_j1 fuel)))

set_option maxRecDepth 100000 in
theorem laws_eqWordS_ok {W w : World} (hE : Ext W w) {A0_ : Option Addr} {k0_ : Nat} {x0 : (List D.Word)} {A1_ : Option Addr} {k1_ : Nat} {x1 : (List D.Word)} (h0_ : ty155.ro W [.slice A0_ x0.length k0_] x0) (h1_ : ty155.ro W [.slice A1_ x1.length k1_] x1) {fuel : Nat} {r : Bool} (hm : m_laws_eqWordS fuel x0 x1 = some r) :
    Calls Try.prog 229 ⟨[.slice A0_ x0.length k0_, .slice A1_ x1.length k1_]⟩ w (Ret fun v w8 => v = .bool r ∧ St w w8 []) := by
  refine Calls.into Try.func229 rfl 27 rfl rfl _ rfl ?_
  unfold m_laws_eqWordS at hm
  have hS := St.start w
  refine WP.seq ?_
  refine WP.region ?_
  refine RW.run ttok 1 rfl ?_
  refine RW.nil ?_
  refine WP.seq ?_
  refine WP.seq ?_
  refine WP.region ?_
  refine RW.run ttok 5 rfl ?_
  refine RW.nil ?_
  refine WP.cond ((x0.length : Int) != (x1.length : Int)) rfl (fun hc => ?_) (fun hc => ?_)
  · skip
    rw [if_pos hc] at hm
    refine WP.seq ?_
    refine WP.region ?_
    refine RW.run ttok 1 rfl ?_
    refine RW.nil ?_
    refine WP.ret ?_
    cases hm
    exact ⟨_, .cons (.tmp rfl) .nil, rfl, hS⟩
  · skip
    rw [if_neg (not_t hc)] at hm
    refine WP.skip ?_
    refine WP.seq ?_
    refine WP.seq ?_
    refine WP.region ?_
    refine RW.run ttok 1 rfl ?_
    refine RW.nil ?_
    obtain ⟨o10, hl11, hm⟩ := bind_some hm
    refine WP.cut (fun (t2 : Unit) F w9 => o10 = .inl t2 ∧ Ext w w9 ∧ St w w9 [] ∧ F = []) ?_ ?_
    · skip
      rintro t2 F w7 ⟨ho13, hE6, hS12, rfl⟩
      subst ho13
      rw [aft_inl] at hm
      unfold m_laws_eqWordS_j1 at hm
      refine WP.seq ?_
      refine WP.region ?_
      refine RW.run ttok 1 rfl ?_
      refine RW.nil ?_
      refine WP.ret ?_
      cases hm
      exact ⟨_, .cons (.tmp rfl) .nil, rfl, hS12⟩
    · skip
      refine WP.block ?_
      refine WP.weak [(0, .slice A0_ x0.length k0_), (1, .slice A1_ x1.length k1_), (5, .int .i64 0)] ⟨rfl, rfl, rfl, trivial⟩ ?_
      refine WP.iter (fun (s1 : Int) F w9 => Ext w w9 ∧ St w w9 [] ∧ F = [(0, .slice A0_ x0.length k0_), (1, .slice A1_ x1.length k1_), (5, .int .i64 s1)]) _ hl11 ⟨(Ext.refl _), hS, rfl⟩ ?_
      rintro s1 F w18 _ o16 ⟨hE5, hS17, rfl⟩ hb14 ho15
      unfold m_laws_eqWordS_b1 at hb14
      refine WP.seq ?_
      refine WP.seq ?_
      refine WP.region ?_
      refine RW.run ttok 4 rfl ?_
      refine RW.nil ?_
      refine WP.cond (decide (s1 < (x0.length : Int))) rfl (fun hc => ?_) (fun hc => ?_)
      · skip
        rw [if_pos hc] at hb14
        refine WP.skip ?_
        refine WP.seq ?_
        refine WP.block ?_
        refine WP.seq ?_
        refine WP.drawnM 0 mixed 10 (by kernel_rfl) (by kernel_rfl) [([], 1023), ([], 1023), ([0, 1], 1020), ([2], 1019), ([], 1023), ([], 1023), ([4, 5], 975), ([6], 959), ([3, 7], 887), ([8], 767)] (by kernel_rfl) hS17.ext (fun hsk19 => ?_)
        have hS20 := hS17.step (Ext.draw _)
        refine DM.run (fuel := 6) ttok hsk19 [0, 1, 4, 5] 51 (by kernel_rfl) (by kernel_rfl) rfl ?_
        obtain ⟨x21, hx22, hb14⟩ := bind_some hb14
        refine DM.idx ttok (hE.trans hS17.ext) hsk19 2 55 (by kernel_rfl) (by kernel_rfl) (by kernel_rfl) (by kernel_rfl) rfl (by kernel_rfl) rfl rfl rfl rfl rfl rfl (by decide) rfl rfl h0_ (idx_some hx22).1 (idx_some hx22).2 rfl rfl (fun p23 es24 ha25 hr26 => ?_)
        have e27 := ty77_open hr26; subst e27
        refine DM.loadN ttok hsk19 3 63 (by kernel_rfl) (by kernel_rfl) (by kernel_rfl) (by kernel_rfl) rfl (by kernel_rfl) rfl rfl rfl rfl rfl (At.ext (hE.trans hS17.ext) ha25) rfl rfl rfl ?_
        obtain ⟨x28, hx29, hb14⟩ := bind_some hb14
        refine DM.idx ttok (hE.trans hS17.ext) hsk19 6 127 (by kernel_rfl) (by kernel_rfl) (by kernel_rfl) (by kernel_rfl) rfl (by kernel_rfl) rfl rfl rfl rfl rfl rfl (by decide) rfl rfl h1_ (idx_some hx29).1 (idx_some hx29).2 rfl rfl (fun p30 es31 ha32 hr33 => ?_)
        have e34 := ty77_open hr33; subst e34
        refine DM.loadN ttok hsk19 7 255 (by kernel_rfl) (by kernel_rfl) (by kernel_rfl) (by kernel_rfl) rfl (by kernel_rfl) rfl rfl rfl rfl rfl (At.ext (hE.trans hS17.ext) ha32) rfl rfl rfl ?_
        obtain ⟨r35, hx36, hb14⟩ := bind_some hb14
        refine DM.one hsk19 8 (by kernel_rfl) (LM.call hsk19 511 (by kernel_rfl) (by kernel_rfl) rfl rfl rfl rfl enters89 (laws_eqWord_ok (hE.trans hS20.ext) hr26 hr33 hx36) (fun v37 w38 hR39 => ?_))
        obtain ⟨rfl, hR40⟩ := hR39
        refine ⟨hR40.ext, ?_⟩
        have hS41 := hS20.join hR40
        refine DM.run (fuel := 0) ttok hsk19 [9] 1023 (by kernel_rfl) (by kernel_rfl) rfl ?_
        refine DM.weak [(0, .slice A0_ x0.length k0_), (1, .slice A1_ x1.length k1_), (5, .int .i64 s1), (26, .bool (!r35))] ⟨rfl, rfl, rfl, rfl, trivial⟩ ?_
        refine DM.done hsk19 (by kernel_rfl) ?_
        refine WP.cond (!r35) rfl (fun hc => ?_) (fun hc => ?_)
        · skip
          rw [if_pos hc] at hb14
          refine WP.seq ?_
          refine WP.region ?_
          refine RW.run ttok 1 rfl ?_
          refine RW.nil ?_
          refine WP.ret ?_
          cases hb14
          cases ho15
          have hm : some _ = some _ := hm
          cases hm
          exact ⟨_, .cons (.tmp rfl) .nil, rfl, hS41⟩
        · skip
          rw [if_neg (not_t hc)] at hb14
          refine WP.skip ?_
          refine WP.region ?_
          refine RW.run ttok 3 rfl ?_
          refine RW.nil ?_
          cases hb14
          exact ⟨_, [(0, .slice A0_ x0.length k0_), (1, .slice A1_ x1.length k1_), (5, .int .i64 (w64 (s1 + 1)))], ⟨rfl, rfl, rfl, trivial⟩, rfl, ((hE5.trans (Ext.draw _)).trans hR40.ext), hS41, rfl⟩
      · skip
        rw [if_neg (not_t hc)] at hb14
        refine WP.exit ?_
        cases hb14
        exact ⟨_, [], trivial, ho15, hE5, hS17, rfl⟩

theorem enters150 : Enters Try.prog 150 := ⟨_, _, Try.func150, rfl, by kernel_rfl⟩
def m_laws_eqCell (fuel : Nat) (x0 : D.Cell) (x1 : D.Cell) : Option (Bool) := (if (x0.Kind != x1.Kind) = true then some false else (if (x0.Level != x1.Level) = true then some false else (if (x0.Value != x1.Value) = true then some false else ((m_laws_eqInt64S fuel x0.Data x1.Data).bind fun r25 => (if (!r25) = true then some false else ((m_laws_eqWordS fuel x0.Words x1.Words).bind fun r32 => (if (!r32) = true then some false else some true)))))))

set_option maxRecDepth 100000 in
theorem laws_eqCell_ok {W w : World} (hE : Ext W w) {c0_ : List Value} {x0 : D.Cell} {c1_ : List Value} {x1 : D.Cell} (h0_ : ty157.ro W c0_ x0) (h1_ : ty157.ro W c1_ x1) {fuel : Nat} {r : Bool} (hm : m_laws_eqCell fuel x0 x1 = some r) :
    Calls Try.prog 150 ⟨[.agg ⟨c0_⟩, .agg ⟨c1_⟩]⟩ w (Ret fun v w8 => v = .bool r ∧ St w w8 []) := by
  obtain ⟨A1, k2, A4, k5, e7, h3, h6⟩ := ty157_open h0_; subst e7
  obtain ⟨A10, k11, A13, k14, e16, h12, h15⟩ := ty157_open h1_; subst e16
  refine Calls.into Try.func150 rfl 32 rfl rfl _ rfl ?_
  unfold m_laws_eqCell at hm
  have hS := St.start w
  refine WP.seq ?_
  refine WP.region ?_
  refine RW.new ttok hS rfl rfl rfl rfl (fun g17 w18 e19 hS20 => ?_)
  refine RW.new ttok hS20 rfl rfl rfl rfl (fun g21 w22 e23 hS24 => ?_)
  refine RW.run ttok 1 rfl ?_
  refine RW.nil ?_
  refine WP.seq ?_
  refine WP.seq ?_
  refine WP.region ?_
  refine RW.run ttok 1 rfl ?_
  refine RW.load1 ttok rfl rfl rfl rfl rfl ((hS24.bring 1 rfl).box) 0 rfl rfl rfl rfl ?_
  refine RW.run ttok 1 rfl ?_
  refine RW.load1 ttok rfl rfl rfl rfl rfl ((hS24.bring 0 rfl).box) 0 rfl rfl rfl rfl ?_
  refine RW.run ttok 1 rfl ?_
  refine RW.nil ?_
  refine WP.cond (x0.Kind != x1.Kind) rfl (fun hc => ?_) (fun hc => ?_)
  · skip
    rw [if_pos hc] at hm
    refine WP.seq ?_
    refine WP.region ?_
    refine RW.run ttok 1 rfl ?_
    refine RW.nil ?_
    refine WP.ret ?_
    cases hm
    exact ⟨_, .cons (.tmp rfl) .nil, rfl, (hS24.taken 0)⟩
  · skip
    rw [if_neg (not_t hc)] at hm
    refine WP.skip ?_
    refine WP.seq ?_
    refine WP.seq ?_
    refine WP.region ?_
    refine RW.run ttok 1 rfl ?_
    refine RW.load1 ttok rfl rfl rfl rfl rfl ((hS24.bring 1 rfl).box) 1 rfl rfl rfl rfl ?_
    refine RW.run ttok 1 rfl ?_
    refine RW.load1 ttok rfl rfl rfl rfl rfl ((hS24.bring 0 rfl).box) 1 rfl rfl rfl rfl ?_
    refine RW.run ttok 1 rfl ?_
    refine RW.nil ?_
    refine WP.cond (x0.Level != x1.Level) rfl (fun hc => ?_) (fun hc => ?_)
    · skip
      rw [if_pos hc] at hm
      refine WP.seq ?_
      refine WP.region ?_
      refine RW.run ttok 1 rfl ?_
      refine RW.nil ?_
      refine WP.ret ?_
      cases hm
      exact ⟨_, .cons (.tmp rfl) .nil, rfl, (hS24.taken 0)⟩
    · skip
      rw [if_neg (not_t hc)] at hm
      refine WP.skip ?_
      refine WP.seq ?_
      refine WP.seq ?_
      refine WP.region ?_
      refine RW.run ttok 1 rfl ?_
      refine RW.load1 ttok rfl rfl rfl rfl rfl ((hS24.bring 1 rfl).box) 2 rfl rfl rfl rfl ?_
      refine RW.run ttok 1 rfl ?_
      refine RW.load1 ttok rfl rfl rfl rfl rfl ((hS24.bring 0 rfl).box) 2 rfl rfl rfl rfl ?_
      refine RW.run ttok 1 rfl ?_
      refine RW.nil ?_
      refine WP.cond (x0.Value != x1.Value) rfl (fun hc => ?_) (fun hc => ?_)
      · skip
        rw [if_pos hc] at hm
        refine WP.seq ?_
        refine WP.region ?_
        refine RW.run ttok 1 rfl ?_
        refine RW.nil ?_
        refine WP.ret ?_
        cases hm
        exact ⟨_, .cons (.tmp rfl) .nil, rfl, (hS24.taken 0)⟩
      · skip
        rw [if_neg (not_t hc)] at hm
        refine WP.skip ?_
        refine WP.seq ?_
        refine WP.seq ?_
        refine WP.region ?_
        refine RW.run ttok 1 rfl ?_
        refine RW.load1 ttok rfl rfl rfl rfl rfl ((hS24.bring 1 rfl).box) 3 rfl rfl rfl rfl ?_
        refine RW.run ttok 1 rfl ?_
        refine RW.load1 ttok rfl rfl rfl rfl rfl ((hS24.bring 0 rfl).box) 3 rfl rfl rfl rfl ?_
        obtain ⟨r25, hx26, hm⟩ := bind_some hm
        refine RW.call rfl rfl rfl enters127 (laws_eqInt64S_ok (hE.trans hS24.ext) h3 h12 hx26) (fun v27 w28 hR29 => ?_)
        obtain ⟨rfl, hR30⟩ := hR29
        have hS31 := hS24.join hR30
        refine RW.run ttok 1 rfl ?_
        refine RW.nil ?_
        refine WP.cond (!r25) rfl (fun hc => ?_) (fun hc => ?_)
        · skip
          rw [if_pos hc] at hm
          refine WP.seq ?_
          refine WP.region ?_
          refine RW.run ttok 1 rfl ?_
          refine RW.nil ?_
          refine WP.ret ?_
          cases hm
          exact ⟨_, .cons (.tmp rfl) .nil, rfl, (hS31.taken 0)⟩
        · skip
          rw [if_neg (not_t hc)] at hm
          refine WP.skip ?_
          refine WP.seq ?_
          refine WP.seq ?_
          refine WP.region ?_
          refine RW.run ttok 1 rfl ?_
          refine RW.load1 ttok rfl rfl rfl rfl rfl ((hS31.bring 1 rfl).box) 4 rfl rfl rfl rfl ?_
          refine RW.run ttok 1 rfl ?_
          refine RW.load1 ttok rfl rfl rfl rfl rfl ((hS31.bring 0 rfl).box) 4 rfl rfl rfl rfl ?_
          obtain ⟨r32, hx33, hm⟩ := bind_some hm
          refine RW.call rfl rfl rfl enters229 (laws_eqWordS_ok (hE.trans hS31.ext) h6 h15 hx33) (fun v34 w35 hR36 => ?_)
          obtain ⟨rfl, hR37⟩ := hR36
          have hS38 := hS31.join hR37
          refine RW.run ttok 1 rfl ?_
          refine RW.nil ?_
          refine WP.cond (!r32) rfl (fun hc => ?_) (fun hc => ?_)
          · skip
            rw [if_pos hc] at hm
            refine WP.seq ?_
            refine WP.region ?_
            refine RW.run ttok 1 rfl ?_
            refine RW.nil ?_
            refine WP.ret ?_
            cases hm
            exact ⟨_, .cons (.tmp rfl) .nil, rfl, (hS38.taken 0)⟩
          · skip
            rw [if_neg (not_t hc)] at hm
            refine WP.skip ?_
            refine WP.seq ?_
            refine WP.region ?_
            refine RW.run ttok 1 rfl ?_
            refine RW.nil ?_
            refine WP.ret ?_
            cases hm
            exact ⟨_, .cons (.tmp rfl) .nil, rfl, (hS38.taken 0)⟩

theorem enters88 : Enters Try.prog 88 := ⟨_, _, Try.func88, rfl, by kernel_rfl⟩
def m_laws_eqCellS_j1 (fuel : Nat) (t2 : Unit) : Option Bool := some true
def m_laws_eqCellS_b1 (fuel : Nat) (x0 : (List D.Cell)) (x1 : (List D.Cell)) (s1 : Int) : Option (Rd (Int) (Unit) (Bool)) := (if (decide (s1 < (x0.length : Int))) = true then ((idx x0 s1).bind fun x21 => ((idx x1 s1).bind fun x34 => ((m_laws_eqCell fuel x21 x34).bind fun r47 => (if (!r47) = true then some (.ret false) else some (.next (w64 (s1 + 1))))))) else some (.brk ()))
def m_laws_eqCellS (fuel : Nat) (x0 : (List D.Cell)) (x1 : (List D.Cell)) : Option (Bool) := (if ((x0.length : Int) != (x1.length : Int)) = true then some false else ((iter (m_laws_eqCellS_b1 fuel x0 x1) fuel 0).bind fun o => aft o (m_laws_eqCellS_j1 fuel)))

set_option maxRecDepth 100000 in
theorem laws_eqCellS_ok {W w : World} (hE : Ext W w) {A0_ : Option Addr} {k0_ : Nat} {x0 : (List D.Cell)} {A1_ : Option Addr} {k1_ : Nat} {x1 : (List D.Cell)} (h0_ : ty76.ro W [.slice A0_ x0.length k0_] x0) (h1_ : ty76.ro W [.slice A1_ x1.length k1_] x1) {fuel : Nat} {r : Bool} (hm : m_laws_eqCellS fuel x0 x1 = some r) :
    Calls Try.prog 88 ⟨[.slice A0_ x0.length k0_, .slice A1_ x1.length k1_]⟩ w (Ret fun v w8 => v = .bool r ∧ St w w8 []) := by
  refine Calls.into Try.func88 rfl 27 rfl rfl _ rfl ?_
  unfold m_laws_eqCellS at hm
  have hS := St.start w
  refine WP.seq ?_
  refine WP.region ?_
  refine RW.run ttok 1 rfl ?_
  refine RW.nil ?_
  refine WP.seq ?_
  refine WP.seq ?_
  refine WP.region ?_
  refine RW.run ttok 5 rfl ?_
  refine RW.nil ?_
  refine WP.cond ((x0.length : Int) != (x1.length : Int)) rfl (fun hc => ?_) (fun hc => ?_)
  · skip
    rw [if_pos hc] at hm
    refine WP.seq ?_
    refine WP.region ?_
    refine RW.run ttok 1 rfl ?_
    refine RW.nil ?_
    refine WP.ret ?_
    cases hm
    exact ⟨_, .cons (.tmp rfl) .nil, rfl, hS⟩
  · skip
    rw [if_neg (not_t hc)] at hm
    refine WP.skip ?_
    refine WP.seq ?_
    refine WP.seq ?_
    refine WP.region ?_
    refine RW.run ttok 1 rfl ?_
    refine RW.nil ?_
    obtain ⟨o10, hl11, hm⟩ := bind_some hm
    refine WP.cut (fun (t2 : Unit) F w9 => o10 = .inl t2 ∧ Ext w w9 ∧ St w w9 [] ∧ F = []) ?_ ?_
    · skip
      rintro t2 F w7 ⟨ho13, hE6, hS12, rfl⟩
      subst ho13
      rw [aft_inl] at hm
      unfold m_laws_eqCellS_j1 at hm
      refine WP.seq ?_
      refine WP.region ?_
      refine RW.run ttok 1 rfl ?_
      refine RW.nil ?_
      refine WP.ret ?_
      cases hm
      exact ⟨_, .cons (.tmp rfl) .nil, rfl, hS12⟩
    · skip
      refine WP.block ?_
      refine WP.weak [(0, .slice A0_ x0.length k0_), (1, .slice A1_ x1.length k1_), (5, .int .i64 0)] ⟨rfl, rfl, rfl, trivial⟩ ?_
      refine WP.iter (fun (s1 : Int) F w9 => Ext w w9 ∧ St w w9 [] ∧ F = [(0, .slice A0_ x0.length k0_), (1, .slice A1_ x1.length k1_), (5, .int .i64 s1)]) _ hl11 ⟨(Ext.refl _), hS, rfl⟩ ?_
      rintro s1 F w18 _ o16 ⟨hE5, hS17, rfl⟩ hb14 ho15
      unfold m_laws_eqCellS_b1 at hb14
      refine WP.seq ?_
      refine WP.seq ?_
      refine WP.region ?_
      refine RW.run ttok 4 rfl ?_
      refine RW.nil ?_
      refine WP.cond (decide (s1 < (x0.length : Int))) rfl (fun hc => ?_) (fun hc => ?_)
      · skip
        rw [if_pos hc] at hb14
        refine WP.skip ?_
        refine WP.seq ?_
        refine WP.block ?_
        refine WP.seq ?_
        refine WP.drawnM 0 mixed 10 (by kernel_rfl) (by kernel_rfl) [([], 1023), ([], 1023), ([0, 1], 1020), ([2], 1019), ([], 1023), ([], 1023), ([4, 5], 975), ([6], 959), ([3, 7], 887), ([8], 767)] (by kernel_rfl) hS17.ext (fun hsk19 => ?_)
        have hS20 := hS17.step (Ext.draw _)
        refine DM.run (fuel := 6) ttok hsk19 [0, 1, 4, 5] 51 (by kernel_rfl) (by kernel_rfl) rfl ?_
        obtain ⟨x21, hx22, hb14⟩ := bind_some hb14
        refine DM.idx ttok (hE.trans hS17.ext) hsk19 2 55 (by kernel_rfl) (by kernel_rfl) (by kernel_rfl) (by kernel_rfl) rfl (by kernel_rfl) rfl rfl rfl rfl rfl rfl (by decide) rfl rfl h0_ (idx_some hx22).1 (idx_some hx22).2 rfl rfl (fun p23 es24 ha25 hr26 => ?_)
        obtain ⟨A27, k28, A30, k31, e33, h29, h32⟩ := ty157_open hr26; subst e33
        refine DM.loadN ttok hsk19 3 63 (by kernel_rfl) (by kernel_rfl) (by kernel_rfl) (by kernel_rfl) rfl (by kernel_rfl) rfl rfl rfl rfl rfl (At.ext (hE.trans hS17.ext) ha25) rfl rfl rfl ?_
        obtain ⟨x34, hx35, hb14⟩ := bind_some hb14
        refine DM.idx ttok (hE.trans hS17.ext) hsk19 6 127 (by kernel_rfl) (by kernel_rfl) (by kernel_rfl) (by kernel_rfl) rfl (by kernel_rfl) rfl rfl rfl rfl rfl rfl (by decide) rfl rfl h1_ (idx_some hx35).1 (idx_some hx35).2 rfl rfl (fun p36 es37 ha38 hr39 => ?_)
        obtain ⟨A40, k41, A43, k44, e46, h42, h45⟩ := ty157_open hr39; subst e46
        refine DM.loadN ttok hsk19 7 255 (by kernel_rfl) (by kernel_rfl) (by kernel_rfl) (by kernel_rfl) rfl (by kernel_rfl) rfl rfl rfl rfl rfl (At.ext (hE.trans hS17.ext) ha38) rfl rfl rfl ?_
        obtain ⟨r47, hx48, hb14⟩ := bind_some hb14
        refine DM.one hsk19 8 (by kernel_rfl) (LM.call hsk19 511 (by kernel_rfl) (by kernel_rfl) rfl rfl rfl rfl enters150 (laws_eqCell_ok (hE.trans hS20.ext) hr26 hr39 hx48) (fun v49 w50 hR51 => ?_))
        obtain ⟨rfl, hR52⟩ := hR51
        refine ⟨hR52.ext, ?_⟩
        have hS53 := hS20.join hR52
        refine DM.run (fuel := 0) ttok hsk19 [9] 1023 (by kernel_rfl) (by kernel_rfl) rfl ?_
        refine DM.weak [(0, .slice A0_ x0.length k0_), (1, .slice A1_ x1.length k1_), (5, .int .i64 s1), (26, .bool (!r47))] ⟨rfl, rfl, rfl, rfl, trivial⟩ ?_
        refine DM.done hsk19 (by kernel_rfl) ?_
        refine WP.cond (!r47) rfl (fun hc => ?_) (fun hc => ?_)
        · skip
          rw [if_pos hc] at hb14
          refine WP.seq ?_
          refine WP.region ?_
          refine RW.run ttok 1 rfl ?_
          refine RW.nil ?_
          refine WP.ret ?_
          cases hb14
          cases ho15
          have hm : some _ = some _ := hm
          cases hm
          exact ⟨_, .cons (.tmp rfl) .nil, rfl, hS53⟩
        · skip
          rw [if_neg (not_t hc)] at hb14
          refine WP.skip ?_
          refine WP.region ?_
          refine RW.run ttok 3 rfl ?_
          refine RW.nil ?_
          cases hb14
          exact ⟨_, [(0, .slice A0_ x0.length k0_), (1, .slice A1_ x1.length k1_), (5, .int .i64 (w64 (s1 + 1)))], ⟨rfl, rfl, rfl, trivial⟩, rfl, ((hE5.trans (Ext.draw _)).trans hR52.ext), hS53, rfl⟩
      · skip
        rw [if_neg (not_t hc)] at hb14
        refine WP.exit ?_
        cases hb14
        exact ⟨_, [], trivial, ho15, hE5, hS17, rfl⟩

theorem enters151 : Enters Try.prog 151 := ⟨_, _, Try.func151, rfl, by kernel_rfl⟩
def m_laws_eqPair (fuel : Nat) (x0 : D.Pair) (x1 : D.Pair) : Option (Bool) := (if (x0.A != x1.A) = true then some false else (if (x0.B != x1.B) = true then some false else some true))

set_option maxRecDepth 100000 in
theorem laws_eqPair_ok {W w : World} (hE : Ext W w) {c0_ : List Value} {x0 : D.Pair} {c1_ : List Value} {x1 : D.Pair} (h0_ : ty139.ro W c0_ x0) (h1_ : ty139.ro W c1_ x1) {fuel : Nat} {r : Bool} (hm : m_laws_eqPair fuel x0 x1 = some r) :
    Calls Try.prog 151 ⟨[.agg ⟨c0_⟩, .agg ⟨c1_⟩]⟩ w (Ret fun v w8 => v = .bool r ∧ St w w8 []) := by
  have e1 := ty139_open h0_; subst e1
  have e2 := ty139_open h1_; subst e2
  refine Calls.into Try.func151 rfl 15 rfl rfl _ rfl ?_
  unfold m_laws_eqPair at hm
  have hS := St.start w
  refine WP.seq ?_
  refine WP.region ?_
  refine RW.new ttok hS rfl rfl rfl rfl (fun g3 w4 e5 hS6 => ?_)
  refine RW.new ttok hS6 rfl rfl rfl rfl (fun g7 w10 e11 hS12 => ?_)
  refine RW.run ttok 1 rfl ?_
  refine RW.nil ?_
  refine WP.seq ?_
  refine WP.seq ?_
  refine WP.region ?_
  refine RW.run ttok 1 rfl ?_
  refine RW.load1 ttok rfl rfl rfl rfl rfl ((hS12.bring 1 rfl).box) 0 rfl rfl rfl rfl ?_
  refine RW.run ttok 1 rfl ?_
  refine RW.load1 ttok rfl rfl rfl rfl rfl ((hS12.bring 0 rfl).box) 0 rfl rfl rfl rfl ?_
  refine RW.run ttok 1 rfl ?_
  refine RW.nil ?_
  refine WP.cond (x0.A != x1.A) rfl (fun hc => ?_) (fun hc => ?_)
  · skip
    rw [if_pos hc] at hm
    refine WP.seq ?_
    refine WP.region ?_
    refine RW.run ttok 1 rfl ?_
    refine RW.nil ?_
    refine WP.ret ?_
    cases hm
    exact ⟨_, .cons (.tmp rfl) .nil, rfl, (hS12.taken 0)⟩
  · skip
    rw [if_neg (not_t hc)] at hm
    refine WP.skip ?_
    refine WP.seq ?_
    refine WP.seq ?_
    refine WP.region ?_
    refine RW.run ttok 1 rfl ?_
    refine RW.load1 ttok rfl rfl rfl rfl rfl ((hS12.bring 1 rfl).box) 1 rfl rfl rfl rfl ?_
    refine RW.run ttok 1 rfl ?_
    refine RW.load1 ttok rfl rfl rfl rfl rfl ((hS12.bring 0 rfl).box) 1 rfl rfl rfl rfl ?_
    refine RW.run ttok 1 rfl ?_
    refine RW.nil ?_
    refine WP.cond (x0.B != x1.B) rfl (fun hc => ?_) (fun hc => ?_)
    · skip
      rw [if_pos hc] at hm
      refine WP.seq ?_
      refine WP.region ?_
      refine RW.run ttok 1 rfl ?_
      refine RW.nil ?_
      refine WP.ret ?_
      cases hm
      exact ⟨_, .cons (.tmp rfl) .nil, rfl, (hS12.taken 0)⟩
    · skip
      rw [if_neg (not_t hc)] at hm
      refine WP.skip ?_
      refine WP.seq ?_
      refine WP.region ?_
      refine RW.run ttok 1 rfl ?_
      refine RW.nil ?_
      refine WP.ret ?_
      cases hm
      exact ⟨_, .cons (.tmp rfl) .nil, rfl, (hS12.taken 0)⟩

theorem enters90 : Enters Try.prog 90 := ⟨_, _, Try.func90, rfl, by kernel_rfl⟩
def m_laws_eqPairS_j1 (fuel : Nat) (t2 : Unit) : Option Bool := some true
def m_laws_eqPairS_b1 (fuel : Nat) (x0 : (List D.Pair)) (x1 : (List D.Pair)) (s1 : Int) : Option (Rd (Int) (Unit) (Bool)) := (if (decide (s1 < (x0.length : Int))) = true then ((idx x0 s1).bind fun x21 => ((idx x1 s1).bind fun x28 => ((m_laws_eqPair fuel x21 x28).bind fun r35 => (if (!r35) = true then some (.ret false) else some (.next (w64 (s1 + 1))))))) else some (.brk ()))
def m_laws_eqPairS (fuel : Nat) (x0 : (List D.Pair)) (x1 : (List D.Pair)) : Option (Bool) := (if ((x0.length : Int) != (x1.length : Int)) = true then some false else ((iter (m_laws_eqPairS_b1 fuel x0 x1) fuel 0).bind fun o => aft o (m_laws_eqPairS_j1 fuel)))

set_option maxRecDepth 100000 in
theorem laws_eqPairS_ok {W w : World} (hE : Ext W w) {A0_ : Option Addr} {k0_ : Nat} {x0 : (List D.Pair)} {A1_ : Option Addr} {k1_ : Nat} {x1 : (List D.Pair)} (h0_ : ty78.ro W [.slice A0_ x0.length k0_] x0) (h1_ : ty78.ro W [.slice A1_ x1.length k1_] x1) {fuel : Nat} {r : Bool} (hm : m_laws_eqPairS fuel x0 x1 = some r) :
    Calls Try.prog 90 ⟨[.slice A0_ x0.length k0_, .slice A1_ x1.length k1_]⟩ w (Ret fun v w8 => v = .bool r ∧ St w w8 []) := by
  refine Calls.into Try.func90 rfl 27 rfl rfl _ rfl ?_
  unfold m_laws_eqPairS at hm
  have hS := St.start w
  refine WP.seq ?_
  refine WP.region ?_
  refine RW.run ttok 1 rfl ?_
  refine RW.nil ?_
  refine WP.seq ?_
  refine WP.seq ?_
  refine WP.region ?_
  refine RW.run ttok 5 rfl ?_
  refine RW.nil ?_
  refine WP.cond ((x0.length : Int) != (x1.length : Int)) rfl (fun hc => ?_) (fun hc => ?_)
  · skip
    rw [if_pos hc] at hm
    refine WP.seq ?_
    refine WP.region ?_
    refine RW.run ttok 1 rfl ?_
    refine RW.nil ?_
    refine WP.ret ?_
    cases hm
    exact ⟨_, .cons (.tmp rfl) .nil, rfl, hS⟩
  · skip
    rw [if_neg (not_t hc)] at hm
    refine WP.skip ?_
    refine WP.seq ?_
    refine WP.seq ?_
    refine WP.region ?_
    refine RW.run ttok 1 rfl ?_
    refine RW.nil ?_
    obtain ⟨o10, hl11, hm⟩ := bind_some hm
    refine WP.cut (fun (t2 : Unit) F w9 => o10 = .inl t2 ∧ Ext w w9 ∧ St w w9 [] ∧ F = []) ?_ ?_
    · skip
      rintro t2 F w7 ⟨ho13, hE6, hS12, rfl⟩
      subst ho13
      rw [aft_inl] at hm
      unfold m_laws_eqPairS_j1 at hm
      refine WP.seq ?_
      refine WP.region ?_
      refine RW.run ttok 1 rfl ?_
      refine RW.nil ?_
      refine WP.ret ?_
      cases hm
      exact ⟨_, .cons (.tmp rfl) .nil, rfl, hS12⟩
    · skip
      refine WP.block ?_
      refine WP.weak [(0, .slice A0_ x0.length k0_), (1, .slice A1_ x1.length k1_), (5, .int .i64 0)] ⟨rfl, rfl, rfl, trivial⟩ ?_
      refine WP.iter (fun (s1 : Int) F w9 => Ext w w9 ∧ St w w9 [] ∧ F = [(0, .slice A0_ x0.length k0_), (1, .slice A1_ x1.length k1_), (5, .int .i64 s1)]) _ hl11 ⟨(Ext.refl _), hS, rfl⟩ ?_
      rintro s1 F w18 _ o16 ⟨hE5, hS17, rfl⟩ hb14 ho15
      unfold m_laws_eqPairS_b1 at hb14
      refine WP.seq ?_
      refine WP.seq ?_
      refine WP.region ?_
      refine RW.run ttok 4 rfl ?_
      refine RW.nil ?_
      refine WP.cond (decide (s1 < (x0.length : Int))) rfl (fun hc => ?_) (fun hc => ?_)
      · skip
        rw [if_pos hc] at hb14
        refine WP.skip ?_
        refine WP.seq ?_
        refine WP.block ?_
        refine WP.seq ?_
        refine WP.drawnM 0 mixed 10 (by kernel_rfl) (by kernel_rfl) [([], 1023), ([], 1023), ([0, 1], 1020), ([2], 1019), ([], 1023), ([], 1023), ([4, 5], 975), ([6], 959), ([3, 7], 887), ([8], 767)] (by kernel_rfl) hS17.ext (fun hsk19 => ?_)
        have hS20 := hS17.step (Ext.draw _)
        refine DM.run (fuel := 6) ttok hsk19 [0, 1, 4, 5] 51 (by kernel_rfl) (by kernel_rfl) rfl ?_
        obtain ⟨x21, hx22, hb14⟩ := bind_some hb14
        refine DM.idx ttok (hE.trans hS17.ext) hsk19 2 55 (by kernel_rfl) (by kernel_rfl) (by kernel_rfl) (by kernel_rfl) rfl (by kernel_rfl) rfl rfl rfl rfl rfl rfl (by decide) rfl rfl h0_ (idx_some hx22).1 (idx_some hx22).2 rfl rfl (fun p23 es24 ha25 hr26 => ?_)
        have e27 := ty139_open hr26; subst e27
        refine DM.loadN ttok hsk19 3 63 (by kernel_rfl) (by kernel_rfl) (by kernel_rfl) (by kernel_rfl) rfl (by kernel_rfl) rfl rfl rfl rfl rfl (At.ext (hE.trans hS17.ext) ha25) rfl rfl rfl ?_
        obtain ⟨x28, hx29, hb14⟩ := bind_some hb14
        refine DM.idx ttok (hE.trans hS17.ext) hsk19 6 127 (by kernel_rfl) (by kernel_rfl) (by kernel_rfl) (by kernel_rfl) rfl (by kernel_rfl) rfl rfl rfl rfl rfl rfl (by decide) rfl rfl h1_ (idx_some hx29).1 (idx_some hx29).2 rfl rfl (fun p30 es31 ha32 hr33 => ?_)
        have e34 := ty139_open hr33; subst e34
        refine DM.loadN ttok hsk19 7 255 (by kernel_rfl) (by kernel_rfl) (by kernel_rfl) (by kernel_rfl) rfl (by kernel_rfl) rfl rfl rfl rfl rfl (At.ext (hE.trans hS17.ext) ha32) rfl rfl rfl ?_
        obtain ⟨r35, hx36, hb14⟩ := bind_some hb14
        refine DM.one hsk19 8 (by kernel_rfl) (LM.call hsk19 511 (by kernel_rfl) (by kernel_rfl) rfl rfl rfl rfl enters151 (laws_eqPair_ok (hE.trans hS20.ext) hr26 hr33 hx36) (fun v37 w38 hR39 => ?_))
        obtain ⟨rfl, hR40⟩ := hR39
        refine ⟨hR40.ext, ?_⟩
        have hS41 := hS20.join hR40
        refine DM.run (fuel := 0) ttok hsk19 [9] 1023 (by kernel_rfl) (by kernel_rfl) rfl ?_
        refine DM.weak [(0, .slice A0_ x0.length k0_), (1, .slice A1_ x1.length k1_), (5, .int .i64 s1), (26, .bool (!r35))] ⟨rfl, rfl, rfl, rfl, trivial⟩ ?_
        refine DM.done hsk19 (by kernel_rfl) ?_
        refine WP.cond (!r35) rfl (fun hc => ?_) (fun hc => ?_)
        · skip
          rw [if_pos hc] at hb14
          refine WP.seq ?_
          refine WP.region ?_
          refine RW.run ttok 1 rfl ?_
          refine RW.nil ?_
          refine WP.ret ?_
          cases hb14
          cases ho15
          have hm : some _ = some _ := hm
          cases hm
          exact ⟨_, .cons (.tmp rfl) .nil, rfl, hS41⟩
        · skip
          rw [if_neg (not_t hc)] at hb14
          refine WP.skip ?_
          refine WP.region ?_
          refine RW.run ttok 3 rfl ?_
          refine RW.nil ?_
          cases hb14
          exact ⟨_, [(0, .slice A0_ x0.length k0_), (1, .slice A1_ x1.length k1_), (5, .int .i64 (w64 (s1 + 1)))], ⟨rfl, rfl, rfl, trivial⟩, rfl, ((hE5.trans (Ext.draw _)).trans hR40.ext), hS41, rfl⟩
      · skip
        rw [if_neg (not_t hc)] at hb14
        refine WP.exit ?_
        cases hb14
        exact ⟨_, [], trivial, ho15, hE5, hS17, rfl⟩

theorem enters39 : Enters Try.prog 39 := ⟨_, _, Try.func39, rfl, by kernel_rfl⟩
def m_laws_eqMemory (fuel : Nat) (x0 : D.Memory) (x1 : D.Memory) : Option (Bool) := ((m_laws_eqCellS fuel x0.Cells x1.Cells).bind fun r25 => (if (!r25) = true then some false else (if (x0.Free != x1.Free) = true then some false else ((m_laws_eqWord fuel x0.Root x1.Root).bind fun r32 => (if (!r32) = true then some false else ((m_laws_eqPairS fuel x0.Redexes x1.Redexes).bind fun r39 => (if (!r39) = true then some false else some true)))))))

set_option maxRecDepth 100000 in
theorem laws_eqMemory_ok {W w : World} (hE : Ext W w) {c0_ : List Value} {x0 : D.Memory} {c1_ : List Value} {x1 : D.Memory} (h0_ : ty80.ro W c0_ x0) (h1_ : ty80.ro W c1_ x1) {fuel : Nat} {r : Bool} (hm : m_laws_eqMemory fuel x0 x1 = some r) :
    Calls Try.prog 39 ⟨[.agg ⟨c0_⟩, .agg ⟨c1_⟩]⟩ w (Ret fun v w8 => v = .bool r ∧ St w w8 []) := by
  obtain ⟨A1, k2, A4, k5, e7, h3, h6⟩ := ty80_open h0_; subst e7
  obtain ⟨A10, k11, A13, k14, e16, h12, h15⟩ := ty80_open h1_; subst e16
  refine Calls.into Try.func39 rfl 28 rfl rfl _ rfl ?_
  unfold m_laws_eqMemory at hm
  have hS := St.start w
  refine WP.seq ?_
  refine WP.region ?_
  refine RW.new ttok hS rfl rfl rfl rfl (fun g17 w18 e19 hS20 => ?_)
  refine RW.new ttok hS20 rfl rfl rfl rfl (fun g21 w22 e23 hS24 => ?_)
  refine RW.run ttok 1 rfl ?_
  refine RW.nil ?_
  refine WP.seq ?_
  refine WP.seq ?_
  refine WP.region ?_
  refine RW.run ttok 1 rfl ?_
  refine RW.load1 ttok rfl rfl rfl rfl rfl ((hS24.bring 1 rfl).box) 0 rfl rfl rfl rfl ?_
  refine RW.run ttok 1 rfl ?_
  refine RW.load1 ttok rfl rfl rfl rfl rfl ((hS24.bring 0 rfl).box) 0 rfl rfl rfl rfl ?_
  obtain ⟨r25, hx26, hm⟩ := bind_some hm
  refine RW.call rfl rfl rfl enters88 (laws_eqCellS_ok (hE.trans hS24.ext) h3 h12 hx26) (fun v27 w28 hR29 => ?_)
  obtain ⟨rfl, hR30⟩ := hR29
  have hS31 := hS24.join hR30
  refine RW.run ttok 1 rfl ?_
  refine RW.nil ?_
  refine WP.cond (!r25) rfl (fun hc => ?_) (fun hc => ?_)
  · skip
    rw [if_pos hc] at hm
    refine WP.seq ?_
    refine WP.region ?_
    refine RW.run ttok 1 rfl ?_
    refine RW.nil ?_
    refine WP.ret ?_
    cases hm
    exact ⟨_, .cons (.tmp rfl) .nil, rfl, (hS31.taken 0)⟩
  · skip
    rw [if_neg (not_t hc)] at hm
    refine WP.skip ?_
    refine WP.seq ?_
    refine WP.seq ?_
    refine WP.region ?_
    refine RW.run ttok 1 rfl ?_
    refine RW.load1 ttok rfl rfl rfl rfl rfl ((hS31.bring 1 rfl).box) 1 rfl rfl rfl rfl ?_
    refine RW.run ttok 1 rfl ?_
    refine RW.load1 ttok rfl rfl rfl rfl rfl ((hS31.bring 0 rfl).box) 1 rfl rfl rfl rfl ?_
    refine RW.run ttok 1 rfl ?_
    refine RW.nil ?_
    refine WP.cond (x0.Free != x1.Free) rfl (fun hc => ?_) (fun hc => ?_)
    · skip
      rw [if_pos hc] at hm
      refine WP.seq ?_
      refine WP.region ?_
      refine RW.run ttok 1 rfl ?_
      refine RW.nil ?_
      refine WP.ret ?_
      cases hm
      exact ⟨_, .cons (.tmp rfl) .nil, rfl, (hS31.taken 0)⟩
    · skip
      rw [if_neg (not_t hc)] at hm
      refine WP.skip ?_
      refine WP.seq ?_
      refine WP.seq ?_
      refine WP.region ?_
      refine RW.run ttok 1 rfl ?_
      refine RW.loadN ttok rfl rfl rfl rfl rfl (At.sub ((hS31.bring 1 rfl).box) 2 2) rfl rfl rfl ?_
      refine RW.run ttok 1 rfl ?_
      refine RW.loadN ttok rfl rfl rfl rfl rfl (At.sub ((hS31.bring 0 rfl).box) 2 2) rfl rfl rfl ?_
      obtain ⟨r32, hx33, hm⟩ := bind_some hm
      refine RW.call rfl rfl rfl enters89 (laws_eqWord_ok (hE.trans hS31.ext) (ty77_shut x0.Root) (ty77_shut x1.Root) hx33) (fun v34 w35 hR36 => ?_)
      obtain ⟨rfl, hR37⟩ := hR36
      have hS38 := hS31.join hR37
      refine RW.run ttok 1 rfl ?_
      refine RW.nil ?_
      refine WP.cond (!r32) rfl (fun hc => ?_) (fun hc => ?_)
      · skip
        rw [if_pos hc] at hm
        refine WP.seq ?_
        refine WP.region ?_
        refine RW.run ttok 1 rfl ?_
        refine RW.nil ?_
        refine WP.ret ?_
        cases hm
        exact ⟨_, .cons (.tmp rfl) .nil, rfl, (hS38.taken 0)⟩
      · skip
        rw [if_neg (not_t hc)] at hm
        refine WP.skip ?_
        refine WP.seq ?_
        refine WP.seq ?_
        refine WP.region ?_
        refine RW.run ttok 1 rfl ?_
        refine RW.load1 ttok rfl rfl rfl rfl rfl ((hS38.bring 1 rfl).box) 4 rfl rfl rfl rfl ?_
        refine RW.run ttok 1 rfl ?_
        refine RW.load1 ttok rfl rfl rfl rfl rfl ((hS38.bring 0 rfl).box) 4 rfl rfl rfl rfl ?_
        obtain ⟨r39, hx40, hm⟩ := bind_some hm
        refine RW.call rfl rfl rfl enters90 (laws_eqPairS_ok (hE.trans hS38.ext) h6 h15 hx40) (fun v41 w42 hR43 => ?_)
        obtain ⟨rfl, hR44⟩ := hR43
        have hS45 := hS38.join hR44
        refine RW.run ttok 1 rfl ?_
        refine RW.nil ?_
        refine WP.cond (!r39) rfl (fun hc => ?_) (fun hc => ?_)
        · skip
          rw [if_pos hc] at hm
          refine WP.seq ?_
          refine WP.region ?_
          refine RW.run ttok 1 rfl ?_
          refine RW.nil ?_
          refine WP.ret ?_
          cases hm
          exact ⟨_, .cons (.tmp rfl) .nil, rfl, (hS45.taken 0)⟩
        · skip
          rw [if_neg (not_t hc)] at hm
          refine WP.skip ?_
          refine WP.seq ?_
          refine WP.region ?_
          refine RW.run ttok 1 rfl ?_
          refine RW.nil ?_
          refine WP.ret ?_
          cases hm
          exact ⟨_, .cons (.tmp rfl) .nil, rfl, (hS45.taken 0)⟩

end Go.E
