/- Models of functions and proofs that the code runs as they say (written by program). Conditions: the model gives a value. -/
import Derived.Test.YtlgkoadccodcaaaIter
namespace Go.E
open Go.RowKit Go.Proofs
set_option linter.unusedVariables false
set_option linter.unusedSimpArgs false
set_option maxHeartbeats 2000000

theorem enters203 : Enters Try.prog 203 := ⟨_, _, Try.func203, rfl, by kernel_rfl⟩
def m_laws_szInt64S (fuel : Nat) (x0 : (List Int)) (x1 : Int) : Option (Int) := (if (decide ((w64 (x1 - (x0.length : Int))) < 0)) = true then some (-1) else some (w64 (x1 - (x0.length : Int))))

set_option maxRecDepth 100000 in
theorem laws_szInt64S_ok {W w : World} (hE : Ext W w) {A0_ : Option Addr} {k0_ : Nat} {x0 : (List Int)} {x1 : Int} (h0_ : ty22.ro W [.slice A0_ x0.length k0_] x0) {fuel : Nat} {r : Int} (hm : m_laws_szInt64S fuel x0 x1 = some r) :
    Calls Try.prog 203 ⟨[.slice A0_ x0.length k0_, .int .i64 x1]⟩ w (Ret fun v w8 => v = .int .i64 r ∧ St w w8 []) := by
  refine Calls.into Try.func203 rfl 12 rfl rfl _ rfl ?_
  unfold m_laws_szInt64S at hm
  have hS := St.start w
  refine WP.seq ?_
  refine WP.region ?_
  refine RW.run ttok 1 rfl ?_
  refine RW.nil ?_
  refine WP.seq ?_
  refine WP.region ?_
  refine RW.run ttok 5 rfl ?_
  refine RW.nil ?_
  refine WP.seq ?_
  refine WP.seq ?_
  refine WP.region ?_
  refine RW.run ttok 2 rfl ?_
  refine RW.nil ?_
  refine WP.cond (decide ((w64 (x1 - (x0.length : Int))) < 0)) rfl (fun hc => ?_) (fun hc => ?_)
  · skip
    rw [if_pos hc] at hm
    refine WP.seq ?_
    refine WP.region ?_
    refine RW.run ttok 1 rfl ?_
    refine RW.nil ?_
    refine WP.ret ?_
    cases hm
    exact ⟨_, .cons (.tmp rfl) .nil, rfl, hS⟩
  · skip
    rw [if_neg (not_t hc)] at hm
    refine WP.skip ?_
    refine WP.seq ?_
    refine WP.region ?_
    refine RW.run ttok 2 rfl ?_
    refine RW.nil ?_
    refine WP.ret ?_
    cases hm
    exact ⟨_, .cons (.tmp rfl) .nil, rfl, hS⟩

theorem enters212 : Enters Try.prog 212 := ⟨_, _, Try.func212, rfl, by kernel_rfl⟩
def m_laws_szWordS (fuel : Nat) (x0 : (List D.Word)) (x1 : Int) : Option (Int) := (if (decide ((w64 (x1 - (x0.length : Int))) < 0)) = true then some (-1) else some (w64 (x1 - (x0.length : Int))))

set_option maxRecDepth 100000 in
theorem laws_szWordS_ok {W w : World} (hE : Ext W w) {A0_ : Option Addr} {k0_ : Nat} {x0 : (List D.Word)} {x1 : Int} (h0_ : ty223.ro W [.slice A0_ x0.length k0_] x0) {fuel : Nat} {r : Int} (hm : m_laws_szWordS fuel x0 x1 = some r) :
    Calls Try.prog 212 ⟨[.slice A0_ x0.length k0_, .int .i64 x1]⟩ w (Ret fun v w8 => v = .int .i64 r ∧ St w w8 []) := by
  refine Calls.into Try.func212 rfl 12 rfl rfl _ rfl ?_
  unfold m_laws_szWordS at hm
  have hS := St.start w
  refine WP.seq ?_
  refine WP.region ?_
  refine RW.run ttok 1 rfl ?_
  refine RW.nil ?_
  refine WP.seq ?_
  refine WP.region ?_
  refine RW.run ttok 5 rfl ?_
  refine RW.nil ?_
  refine WP.seq ?_
  refine WP.seq ?_
  refine WP.region ?_
  refine RW.run ttok 2 rfl ?_
  refine RW.nil ?_
  refine WP.cond (decide ((w64 (x1 - (x0.length : Int))) < 0)) rfl (fun hc => ?_) (fun hc => ?_)
  · skip
    rw [if_pos hc] at hm
    refine WP.seq ?_
    refine WP.region ?_
    refine RW.run ttok 1 rfl ?_
    refine RW.nil ?_
    refine WP.ret ?_
    cases hm
    exact ⟨_, .cons (.tmp rfl) .nil, rfl, hS⟩
  · skip
    rw [if_neg (not_t hc)] at hm
    refine WP.skip ?_
    refine WP.seq ?_
    refine WP.region ?_
    refine RW.run ttok 2 rfl ?_
    refine RW.nil ?_
    refine WP.ret ?_
    cases hm
    exact ⟨_, .cons (.tmp rfl) .nil, rfl, hS⟩

theorem enters173 : Enters Try.prog 173 := ⟨_, _, Try.func173, rfl, by kernel_rfl⟩
def m_laws_szCell (fuel : Nat) (x0 : D.Cell) (x1 : Int) : Option (Int) := ((m_laws_szInt64S fuel x0.Data x1).bind fun r14 => (if (decide (r14 < 0)) = true then some (-1) else ((m_laws_szWordS fuel x0.Words r14).bind fun r21 => (if (decide (r21 < 0)) = true then some (-1) else some r21))))

set_option maxRecDepth 100000 in
theorem laws_szCell_ok {W w : World} (hE : Ext W w) {c0_ : List Value} {x0 : D.Cell} {x1 : Int} (h0_ : ty225.ro W c0_ x0) {fuel : Nat} {r : Int} (hm : m_laws_szCell fuel x0 x1 = some r) :
    Calls Try.prog 173 ⟨[.agg ⟨c0_⟩, .int .i64 x1]⟩ w (Ret fun v w8 => v = .int .i64 r ∧ St w w8 []) := by
  obtain ⟨A1, k2, A4, k5, e7, h3, h6⟩ := ty225_open h0_; subst e7
  refine Calls.into Try.func173 rfl 18 rfl rfl _ rfl ?_
  unfold m_laws_szCell at hm
  have hS := St.start w
  refine WP.seq ?_
  refine WP.region ?_
  refine RW.new ttok hS rfl rfl rfl rfl (fun g10 w11 e12 hS13 => ?_)
  refine RW.run ttok 1 rfl ?_
  refine RW.nil ?_
  refine WP.seq ?_
  refine WP.region ?_
  refine RW.run ttok 1 rfl ?_
  refine RW.load1 ttok rfl rfl rfl rfl rfl ((hS13.bring 0 rfl).box) 3 rfl rfl rfl rfl ?_
  refine RW.run ttok 1 rfl ?_
  obtain ⟨r14, hx15, hm⟩ := bind_some hm
  refine RW.call rfl rfl rfl enters203 (laws_szInt64S_ok (hE.trans hS13.ext) h3 hx15) (fun v16 w17 hR18 => ?_)
  obtain ⟨rfl, hR19⟩ := hR18
  have hS20 := hS13.join hR19
  refine RW.run ttok 1 rfl ?_
  refine RW.nil ?_
  refine WP.seq ?_
  refine WP.seq ?_
  refine WP.region ?_
  refine RW.run ttok 2 rfl ?_
  refine RW.nil ?_
  refine WP.cond (decide (r14 < 0)) rfl (fun hc => ?_) (fun hc => ?_)
  · skip
    rw [if_pos hc] at hm
    refine WP.seq ?_
    refine WP.region ?_
    refine RW.run ttok 1 rfl ?_
    refine RW.nil ?_
    refine WP.ret ?_
    cases hm
    exact ⟨_, .cons (.tmp rfl) .nil, rfl, (hS20.taken 0)⟩
  · skip
    rw [if_neg (not_t hc)] at hm
    refine WP.skip ?_
    refine WP.seq ?_
    refine WP.region ?_
    refine RW.run ttok 1 rfl ?_
    refine RW.load1 ttok rfl rfl rfl rfl rfl ((hS20.bring 0 rfl).box) 4 rfl rfl rfl rfl ?_
    refine RW.run ttok 1 rfl ?_
    obtain ⟨r21, hx22, hm⟩ := bind_some hm
    refine RW.call rfl rfl rfl enters212 (laws_szWordS_ok (hE.trans hS20.ext) h6 hx22) (fun v23 w24 hR25 => ?_)
    obtain ⟨rfl, hR26⟩ := hR25
    have hS27 := hS20.join hR26
    refine RW.run ttok 1 rfl ?_
    refine RW.nil ?_
    refine WP.seq ?_
    refine WP.seq ?_
    refine WP.region ?_
    refine RW.run ttok 2 rfl ?_
    refine RW.nil ?_
    refine WP.cond (decide (r21 < 0)) rfl (fun hc => ?_) (fun hc => ?_)
    · skip
      rw [if_pos hc] at hm
      refine WP.seq ?_
      refine WP.region ?_
      refine RW.run ttok 1 rfl ?_
      refine RW.nil ?_
      refine WP.ret ?_
      cases hm
      exact ⟨_, .cons (.tmp rfl) .nil, rfl, (hS27.taken 0)⟩
    · skip
      rw [if_neg (not_t hc)] at hm
      refine WP.skip ?_
      refine WP.seq ?_
      refine WP.region ?_
      refine RW.run ttok 2 rfl ?_
      refine RW.nil ?_
      refine WP.ret ?_
      cases hm
      exact ⟨_, .cons (.tmp rfl) .nil, rfl, (hS27.taken 0)⟩

theorem enters116 : Enters Try.prog 116 := ⟨_, _, Try.func116, rfl, by kernel_rfl⟩
def m_laws_szCellS_j1 (fuel : Nat) (t2 : Int) : Option Int := some t2
def m_laws_szCellS_b1 (fuel : Nat) (x0 : (List D.Cell)) (s1 : Int × Int) : Option (Rd (Int × Int) (Int) (Int)) := (if (decide (s1.2 < (x0.length : Int))) = true then ((idx x0 s1.2).bind fun x19 => ((m_laws_szCell fuel x19 s1.1).bind fun r32 => (if (decide (r32 < 0)) = true then some (.ret (-1)) else some (.next (r32, w64 (s1.2 + 1)))))) else some (.brk s1.1))
def m_laws_szCellS (fuel : Nat) (x0 : (List D.Cell)) (x1 : Int) : Option (Int) := (if (decide ((w64 (x1 - (x0.length : Int))) < 0)) = true then some (-1) else ((iter (m_laws_szCellS_b1 fuel x0) fuel (w64 (x1 - (x0.length : Int)), 0)).bind fun o => aft o (m_laws_szCellS_j1 fuel)))

set_option maxRecDepth 100000 in
theorem laws_szCellS_ok {W w : World} (hE : Ext W w) {A0_ : Option Addr} {k0_ : Nat} {x0 : (List D.Cell)} {x1 : Int} (h0_ : ty83.ro W [.slice A0_ x0.length k0_] x0) {fuel : Nat} {r : Int} (hm : m_laws_szCellS fuel x0 x1 = some r) :
    Calls Try.prog 116 ⟨[.slice A0_ x0.length k0_, .int .i64 x1]⟩ w (Ret fun v w8 => v = .int .i64 r ∧ St w w8 []) := by
  refine Calls.into Try.func116 rfl 27 rfl rfl _ rfl ?_
  unfold m_laws_szCellS at hm
  have hS := St.start w
  refine WP.seq ?_
  refine WP.region ?_
  refine RW.run ttok 1 rfl ?_
  refine RW.nil ?_
  refine WP.seq ?_
  refine WP.region ?_
  refine RW.run ttok 5 rfl ?_
  refine RW.nil ?_
  refine WP.seq ?_
  refine WP.seq ?_
  refine WP.region ?_
  refine RW.run ttok 2 rfl ?_
  refine RW.nil ?_
  refine WP.cond (decide ((w64 (x1 - (x0.length : Int))) < 0)) rfl (fun hc => ?_) (fun hc => ?_)
  · skip
    rw [if_pos hc] at hm
    refine WP.seq ?_
    refine WP.region ?_
    refine RW.run ttok 1 rfl ?_
    refine RW.nil ?_
    refine WP.ret ?_
    cases hm
    exact ⟨_, .cons (.tmp rfl) .nil, rfl, hS⟩
  · skip
    rw [if_neg (not_t hc)] at hm
    refine WP.skip ?_
    refine WP.seq ?_
    refine WP.seq ?_
    refine WP.region ?_
    refine RW.run ttok 1 rfl ?_
    refine RW.nil ?_
    obtain ⟨o10, hl11, hm⟩ := bind_some hm
    refine WP.cut (fun (t2 : Int) F w9 => o10 = .inl t2 ∧ Ext w w9 ∧ St w w9 [] ∧ F = [(1, .int .i64 t2)]) ?_ ?_
    · skip
      rintro t2 F w7 ⟨ho13, hE6, hS12, rfl⟩
      subst ho13
      rw [aft_inl] at hm
      unfold m_laws_szCellS_j1 at hm
      refine WP.seq ?_
      refine WP.region ?_
      refine RW.run ttok 2 rfl ?_
      refine RW.nil ?_
      refine WP.ret ?_
      cases hm
      exact ⟨_, .cons (.tmp rfl) .nil, rfl, hS12⟩
    · skip
      refine WP.block ?_
      refine WP.weak [(0, .slice A0_ x0.length k0_), (1, .int .i64 (w64 (x1 - (x0.length : Int)))), (5, .int .i64 0)] ⟨rfl, rfl, rfl, trivial⟩ ?_
      refine WP.iter (fun (s1 : Int × Int) F w9 => Ext w w9 ∧ St w w9 [] ∧ F = [(0, .slice A0_ x0.length k0_), (1, .int .i64 s1.1), (5, .int .i64 s1.2)]) _ hl11 ⟨(Ext.refl _), hS, rfl⟩ ?_
      rintro s1 F w18 _ o16 ⟨hE5, hS17, rfl⟩ hb14 ho15
      unfold m_laws_szCellS_b1 at hb14
      refine WP.seq ?_
      refine WP.seq ?_
      refine WP.region ?_
      refine RW.run ttok 4 rfl ?_
      refine RW.nil ?_
      refine WP.cond (decide (s1.2 < (x0.length : Int))) rfl (fun hc => ?_) (fun hc => ?_)
      · skip
        rw [if_pos hc] at hb14
        refine WP.skip ?_
        refine WP.seq ?_
        refine WP.block ?_
        refine WP.seq ?_
        refine WP.region ?_
        refine RW.run ttok 2 rfl ?_
        obtain ⟨x19, hx20, hb14⟩ := bind_some hb14
        refine RW.idx ttok (hE.trans hS17.ext) rfl rfl rfl rfl rfl rfl (by decide) rfl rfl h0_ (idx_some hx20).1 (idx_some hx20).2 rfl rfl (fun p21 es22 ha23 hr24 => ?_)
        obtain ⟨A25, k26, A28, k29, e31, h27, h30⟩ := ty225_open hr24; subst e31
        refine RW.loadN ttok rfl rfl rfl rfl rfl (At.ext (hE.trans hS17.ext) ha23) rfl rfl rfl ?_
        refine RW.run ttok 1 rfl ?_
        obtain ⟨r32, hx33, hb14⟩ := bind_some hb14
        refine RW.call rfl rfl rfl enters173 (laws_szCell_ok (hE.trans hS17.ext) hr24 hx33) (fun v34 w35 hR36 => ?_)
        obtain ⟨rfl, hR37⟩ := hR36
        have hS38 := hS17.join hR37
        refine RW.run ttok 1 rfl ?_
        refine RW.nil ?_
        refine WP.seq ?_
        refine WP.region ?_
        refine RW.run ttok 2 rfl ?_
        refine RW.nil ?_
        refine WP.cond (decide (r32 < 0)) rfl (fun hc => ?_) (fun hc => ?_)
        · skip
          rw [if_pos hc] at hb14
          refine WP.seq ?_
          refine WP.region ?_
          refine RW.run ttok 1 rfl ?_
          refine RW.nil ?_
          refine WP.ret ?_
          cases hb14
          cases ho15
          have hm : some _ = some _ := hm
          cases hm
          exact ⟨_, .cons (.tmp rfl) .nil, rfl, hS38⟩
        · skip
          rw [if_neg (not_t hc)] at hb14
          refine WP.skip ?_
          refine WP.region ?_
          refine RW.run ttok 3 rfl ?_
          refine RW.nil ?_
          cases hb14
          exact ⟨_, [(0, .slice A0_ x0.length k0_), (1, .int .i64 r32), (5, .int .i64 (w64 (s1.2 + 1)))], ⟨rfl, rfl, rfl, trivial⟩, rfl, (hE5.trans hR37.ext), hS38, rfl⟩
      · skip
        rw [if_neg (not_t hc)] at hb14
        refine WP.exit ?_
        cases hb14
        exact ⟨_, [(1, .int .i64 s1.1)], ⟨rfl, trivial⟩, ho15, hE5, hS17, rfl⟩

theorem enters117 : Enters Try.prog 117 := ⟨_, _, Try.func117, rfl, by kernel_rfl⟩
def m_laws_szPairS (fuel : Nat) (x0 : (List D.Pair)) (x1 : Int) : Option (Int) := (if (decide ((w64 (x1 - (x0.length : Int))) < 0)) = true then some (-1) else some (w64 (x1 - (x0.length : Int))))

set_option maxRecDepth 100000 in
theorem laws_szPairS_ok {W w : World} (hE : Ext W w) {A0_ : Option Addr} {k0_ : Nat} {x0 : (List D.Pair)} {x1 : Int} (h0_ : ty86.ro W [.slice A0_ x0.length k0_] x0) {fuel : Nat} {r : Int} (hm : m_laws_szPairS fuel x0 x1 = some r) :
    Calls Try.prog 117 ⟨[.slice A0_ x0.length k0_, .int .i64 x1]⟩ w (Ret fun v w8 => v = .int .i64 r ∧ St w w8 []) := by
  refine Calls.into Try.func117 rfl 12 rfl rfl _ rfl ?_
  unfold m_laws_szPairS at hm
  have hS := St.start w
  refine WP.seq ?_
  refine WP.region ?_
  refine RW.run ttok 1 rfl ?_
  refine RW.nil ?_
  refine WP.seq ?_
  refine WP.region ?_
  refine RW.run ttok 5 rfl ?_
  refine RW.nil ?_
  refine WP.seq ?_
  refine WP.seq ?_
  refine WP.region ?_
  refine RW.run ttok 2 rfl ?_
  refine RW.nil ?_
  refine WP.cond (decide ((w64 (x1 - (x0.length : Int))) < 0)) rfl (fun hc => ?_) (fun hc => ?_)
  · skip
    rw [if_pos hc] at hm
    refine WP.seq ?_
    refine WP.region ?_
    refine RW.run ttok 1 rfl ?_
    refine RW.nil ?_
    refine WP.ret ?_
    cases hm
    exact ⟨_, .cons (.tmp rfl) .nil, rfl, hS⟩
  · skip
    rw [if_neg (not_t hc)] at hm
    refine WP.skip ?_
    refine WP.seq ?_
    refine WP.region ?_
    refine RW.run ttok 2 rfl ?_
    refine RW.nil ?_
    refine WP.ret ?_
    cases hm
    exact ⟨_, .cons (.tmp rfl) .nil, rfl, hS⟩

theorem enters54 : Enters Try.prog 54 := ⟨_, _, Try.func54, rfl, by kernel_rfl⟩
def m_laws_szMemory (fuel : Nat) (x0 : D.Memory) (x1 : Int) : Option (Int) := ((m_laws_szCellS fuel x0.Cells x1).bind fun r14 => (if (decide (r14 < 0)) = true then some (-1) else ((m_laws_szPairS fuel x0.Redexes r14).bind fun r21 => (if (decide (r21 < 0)) = true then some (-1) else some r21))))

set_option maxRecDepth 100000 in
theorem laws_szMemory_ok {W w : World} (hE : Ext W w) {c0_ : List Value} {x0 : D.Memory} {x1 : Int} (h0_ : ty88.ro W c0_ x0) {fuel : Nat} {r : Int} (hm : m_laws_szMemory fuel x0 x1 = some r) :
    Calls Try.prog 54 ⟨[.agg ⟨c0_⟩, .int .i64 x1]⟩ w (Ret fun v w8 => v = .int .i64 r ∧ St w w8 []) := by
  obtain ⟨A1, k2, A4, k5, e7, h3, h6⟩ := ty88_open h0_; subst e7
  refine Calls.into Try.func54 rfl 18 rfl rfl _ rfl ?_
  unfold m_laws_szMemory at hm
  have hS := St.start w
  refine WP.seq ?_
  refine WP.region ?_
  refine RW.new ttok hS rfl rfl rfl rfl (fun g10 w11 e12 hS13 => ?_)
  refine RW.run ttok 1 rfl ?_
  refine RW.nil ?_
  refine WP.seq ?_
  refine WP.region ?_
  refine RW.run ttok 1 rfl ?_
  refine RW.load1 ttok rfl rfl rfl rfl rfl ((hS13.bring 0 rfl).box) 0 rfl rfl rfl rfl ?_
  refine RW.run ttok 1 rfl ?_
  obtain ⟨r14, hx15, hm⟩ := bind_some hm
  refine RW.call rfl rfl rfl enters116 (laws_szCellS_ok (hE.trans hS13.ext) h3 hx15) (fun v16 w17 hR18 => ?_)
  obtain ⟨rfl, hR19⟩ := hR18
  have hS20 := hS13.join hR19
  refine RW.run ttok 1 rfl ?_
  refine RW.nil ?_
  refine WP.seq ?_
  refine WP.seq ?_
  refine WP.region ?_
  refine RW.run ttok 2 rfl ?_
  refine RW.nil ?_
  refine WP.cond (decide (r14 < 0)) rfl (fun hc => ?_) (fun hc => ?_)
  · skip
    rw [if_pos hc] at hm
    refine WP.seq ?_
    refine WP.region ?_
    refine RW.run ttok 1 rfl ?_
    refine RW.nil ?_
    refine WP.ret ?_
    cases hm
    exact ⟨_, .cons (.tmp rfl) .nil, rfl, (hS20.taken 0)⟩
  · skip
    rw [if_neg (not_t hc)] at hm
    refine WP.skip ?_
    refine WP.seq ?_
    refine WP.region ?_
    refine RW.run ttok 1 rfl ?_
    refine RW.load1 ttok rfl rfl rfl rfl rfl ((hS20.bring 0 rfl).box) 4 rfl rfl rfl rfl ?_
    refine RW.run ttok 1 rfl ?_
    obtain ⟨r21, hx22, hm⟩ := bind_some hm
    refine RW.call rfl rfl rfl enters117 (laws_szPairS_ok (hE.trans hS20.ext) h6 hx22) (fun v23 w24 hR25 => ?_)
    obtain ⟨rfl, hR26⟩ := hR25
    have hS27 := hS20.join hR26
    refine RW.run ttok 1 rfl ?_
    refine RW.nil ?_
    refine WP.seq ?_
    refine WP.seq ?_
    refine WP.region ?_
    refine RW.run ttok 2 rfl ?_
    refine RW.nil ?_
    refine WP.cond (decide (r21 < 0)) rfl (fun hc => ?_) (fun hc => ?_)
    · skip
      rw [if_pos hc] at hm
      refine WP.seq ?_
      refine WP.region ?_
      refine RW.run ttok 1 rfl ?_
      refine RW.nil ?_
      refine WP.ret ?_
      cases hm
      exact ⟨_, .cons (.tmp rfl) .nil, rfl, (hS27.taken 0)⟩
    · skip
      rw [if_neg (not_t hc)] at hm
      refine WP.skip ?_
      refine WP.seq ?_
      refine WP.region ?_
      refine RW.run ttok 2 rfl ?_
      refine RW.nil ?_
      refine WP.ret ?_
      cases hm
      exact ⟨_, .cons (.tmp rfl) .nil, rfl, (hS27.taken 0)⟩

theorem enters16 : Enters Try.prog 16 := ⟨_, _, Try.func16, rfl, by kernel_rfl⟩
def m_laws_toInt64S_j1 (fuel : Nat) (t11 : (List Int)) : Option (List Int) := some t11
def m_laws_toInt64S_b1 (fuel : Nat) (x0 : (List Int)) (s10 : Int × (List Int)) : Option (Rd (Int × (List Int)) ((List Int)) ((List Int))) := (if (decide (s10.1 < (x0.length : Int))) = true then ((idx x0 s10.1).bind fun x25 => (if decide (0 ≤ s10.1 ∧ s10.1.toNat < s10.2.length) = true then some (.next (w64 (s10.1 + 1), (s10.2.set s10.1.toNat x25))) else none)) else some (.brk s10.2))
def m_laws_toInt64S (fuel : Nat) (x0 : (List Int)) : Option ((List Int)) := (if decide (0 ≤ (x0.length : Int) ∧ (x0.length : Int) ≤ 4294967296) = true then ((iter (m_laws_toInt64S_b1 fuel x0) fuel (0, (List.replicate (x0.length : Int).toNat (0 : Int)))).bind fun o => aft o (m_laws_toInt64S_j1 fuel)) else none)

set_option maxRecDepth 100000 in
theorem laws_toInt64S_ok {W w : World} (hE : Ext W w) {A0_ : Option Addr} {k0_ : Nat} {x0 : (List Int)} (h0_ : ty22.ro W [.slice A0_ x0.length k0_] x0) {fuel : Nat} {r : (List Int)} (hm : m_laws_toInt64S fuel x0 = some r) :
    Calls Try.prog 16 ⟨[.slice A0_ x0.length k0_]⟩ w (Ret fun v w8 => ∃ A0 k0, v = .slice A0 r.length k0 ∧ St w w8 [Own ty22 [.slice A0 r.length k0] r]) := by
  refine Calls.into Try.func16 rfl 22 rfl rfl _ rfl ?_
  unfold m_laws_toInt64S at hm
  have hS := St.start w
  refine WP.seq ?_
  refine WP.region ?_
  refine RW.run ttok 1 rfl ?_
  refine RW.nil ?_
  refine WP.seq ?_
  refine WP.region ?_
  refine RW.run ttok 2 rfl ?_
  by_cases hk1 : decide (0 ≤ (x0.length : Int) ∧ (x0.length : Int) ≤ 4294967296) = true
  case neg => rw [if_neg hk1] at hm; cases hm
  rw [if_pos hk1] at hm
  have hz7 := of_decide_eq_true hk1
  refine RW.make (U := tInt) ttok (0 : Int) hS rfl rfl rfl rfl rfl rfl rfl rfl hz7.1 (by have := hz7.2; show _ * (8 : Int) ≤ _; omega) (by have := hz7.2; simp only [maxLen]; omega) (fun _ => ⟨rfl, rfl⟩) rfl rfl (fun A2 k3 w4 e5 hS6 => ?_)
  refine RW.run ttok 1 rfl ?_
  refine RW.nil ?_
  refine WP.seq ?_
  refine WP.seq ?_
  refine WP.region ?_
  refine RW.run ttok 1 rfl ?_
  refine RW.nil ?_
  obtain ⟨o14, hl15, hm⟩ := bind_some hm
  refine WP.cut (fun (t11 : (List Int)) F w9 => o14 = .inl t11 ∧ St w w9 [Own ty22 [.slice A2 (List.replicate (x0.length : Int).toNat (0 : Int)).length k3] t11] ∧ F = [(3, .slice A2 (List.replicate (x0.length : Int).toNat (0 : Int)).length k3)]) ?_ ?_
  · skip
    rintro t11 F w13 ⟨ho17, hS16, rfl⟩
    subst ho17
    rw [aft_inl] at hm
    unfold m_laws_toInt64S_j1 at hm
    refine WP.seq ?_
    refine WP.region ?_
    refine RW.run ttok 2 rfl ?_
    refine RW.nil ?_
    refine WP.ret ?_
    cases hm
    have hn18 := (hS16.bring 0 rfl).lenEq
    have hS19 := (hS16.bring 0 rfl).reLen hn18
    exact ⟨_, .cons (.tmp rfl) .nil, A2, k3, (by first | (simp only [hn18]; done) | (simp only [hn18]; rfl)), hS19⟩
  · skip
    refine WP.block ?_
    refine WP.weak [(0, .slice A0_ x0.length k0_), (3, .slice A2 (List.replicate (x0.length : Int).toNat (0 : Int)).length k3), (4, .int .i64 0)] ⟨rfl, rfl, rfl, trivial⟩ ?_
    refine WP.iter (fun (s10 : Int × (List Int)) F w9 => St w w9 [Own ty22 [.slice A2 (List.replicate (x0.length : Int).toNat (0 : Int)).length k3] s10.2] ∧ F = [(0, .slice A0_ x0.length k0_), (3, .slice A2 (List.replicate (x0.length : Int).toNat (0 : Int)).length k3), (4, .int .i64 s10.1)]) _ hl15 ⟨hS6, rfl⟩ ?_
    rintro s10 F w24 _ o22 ⟨hS23, rfl⟩ hb20 ho21
    unfold m_laws_toInt64S_b1 at hb20
    refine WP.seq ?_
    refine WP.seq ?_
    refine WP.region ?_
    refine RW.run ttok 4 rfl ?_
    refine RW.nil ?_
    refine WP.cond (decide (s10.1 < (x0.length : Int))) rfl (fun hc => ?_) (fun hc => ?_)
    · skip
      rw [if_pos hc] at hb20
      refine WP.skip ?_
      refine WP.seq ?_
      refine WP.block ?_
      refine WP.region ?_
      refine RW.run ttok 4 rfl ?_
      obtain ⟨x25, hx26, hb20⟩ := bind_some hb20
      refine RW.idx ttok (hE.trans hS23.ext) rfl rfl rfl rfl rfl rfl (by decide) rfl rfl h0_ (idx_some hx26).1 (idx_some hx26).2 rfl rfl (fun p27 es28 ha29 hr30 => ?_)
      cases hr30
      refine RW.load1 ttok rfl rfl rfl rfl rfl (At.ext (hE.trans hS23.ext) ha29) 0 rfl rfl rfl rfl ?_
      have hS31 := hS23.bring 0 rfl
      by_cases hk32 : decide (0 ≤ s10.1 ∧ s10.1.toNat < s10.2.length) = true
      case neg => rw [if_neg hk32] at hb20; cases hb20
      rw [if_pos hk32] at hb20
      have hb33 := of_decide_eq_true hk32
      refine RW.idxOwnN ttok hS31 rfl rfl rfl rfl rfl rfl rfl rfl hb33.1 hb33.2 rfl rfl (fun q34 hq35 => ?_)
      have hS36 := hS31.flat (T := tInt) (cs := [.int .i64 x25]) (x := x25) ⟨rfl, rfl⟩
      have hS37 := hS36.bring 1 rfl
      refine RW.storeElN ttok hS37 rfl rfl rfl rfl rfl rfl hb33.2 hq35 rfl rfl (fun w38 hS39 => ?_)
      refine RW.nil ?_
      refine WP.region ?_
      refine RW.run ttok 3 rfl ?_
      refine RW.nil ?_
      cases hb20
      exact ⟨_, [(0, .slice A0_ x0.length k0_), (3, .slice A2 (List.replicate (x0.length : Int).toNat (0 : Int)).length k3), (4, .int .i64 (w64 (s10.1 + 1)))], ⟨rfl, rfl, rfl, trivial⟩, rfl, hS39, rfl⟩
    · skip
      rw [if_neg (not_t hc)] at hb20
      refine WP.exit ?_
      cases hb20
      exact ⟨_, [(3, .slice A2 (List.replicate (x0.length : Int).toNat (0 : Int)).length k3)], ⟨rfl, trivial⟩, ho21, hS23, rfl⟩

theorem enters60 : Enters Try.prog 60 := ⟨_, _, Try.func60, rfl, by kernel_rfl⟩
def m_laws_toWord (fuel : Nat) (x0 : D.Word) : Option (D.Word) := some (⟨x0.Tag, x0.At⟩ : D.Word)

set_option maxRecDepth 100000 in
theorem laws_toWord_ok {W w : World} (hE : Ext W w) {c0_ : List Value} {x0 : D.Word} (h0_ : ty85.ro W c0_ x0) {fuel : Nat} {r : D.Word} (hm : m_laws_toWord fuel x0 = some r) :
    Calls Try.prog 60 ⟨[.agg ⟨c0_⟩]⟩ w (Ret fun v w8 => v = .agg ⟨[.int .i64 r.Tag, .int .i64 r.At]⟩ ∧ St w w8 []) := by
  have e1 := ty85_open h0_; subst e1
  refine Calls.into Try.func60 rfl 11 rfl rfl _ rfl ?_
  unfold m_laws_toWord at hm
  have hS := St.start w
  refine WP.seq ?_
  refine WP.region ?_
  refine RW.new ttok hS rfl rfl rfl rfl (fun g2 w3 e4 hS5 => ?_)
  refine RW.new ttok hS5 rfl rfl rfl rfl (fun g6 w7 e10 hS11 => ?_)
  refine RW.nil ?_
  refine WP.seq ?_
  refine WP.region ?_
  refine RW.new ttok hS11 rfl rfl rfl rfl (fun g12 w13 e14 hS15 => ?_)
  refine RW.nil ?_
  refine WP.seq ?_
  refine WP.region ?_
  refine RW.run ttok 1 rfl ?_
  refine RW.load1 ttok rfl rfl rfl rfl rfl ((hS15.bring 2 rfl).box) 0 rfl rfl rfl rfl ?_
  refine RW.run ttok 1 rfl ?_
  have hS16 := hS15.bring 0 rfl
  refine RW.store ttok (A := []) hS16 rfl rfl rfl rfl rfl 0 rfl rfl rfl rfl rfl (fun w17 hS18 => ?_)
  refine RW.nil ?_
  refine WP.seq ?_
  refine WP.region ?_
  refine RW.run ttok 1 rfl ?_
  refine RW.load1 ttok rfl rfl rfl rfl rfl ((hS18.bring 2 rfl).box) 1 rfl rfl rfl rfl ?_
  refine RW.run ttok 1 rfl ?_
  have hS19 := hS18.bring 0 rfl
  refine RW.store ttok (A := []) hS19 rfl rfl rfl rfl rfl 1 rfl rfl rfl rfl rfl (fun w20 hS21 => ?_)
  refine RW.nil ?_
  refine WP.seq ?_
  refine WP.region ?_
  refine RW.loadN ttok rfl rfl rfl rfl rfl ((hS21.bring 0 rfl).box) rfl rfl rfl ?_
  have hS22 := hS21.bring 1 rfl
  refine RW.store ttok (A := []) hS22 rfl rfl rfl rfl rfl 0 rfl rfl rfl rfl rfl (fun w23 hS24 => ?_)
  refine RW.nil ?_
  refine WP.ret ?_
  cases hm
  exact ⟨_, .cons (ResIs.agg ttok rfl rfl rfl ((hS24.bring 0 rfl).box) rfl) .nil, rfl, (hS24.taken 0)⟩

theorem enters216 : Enters Try.prog 216 := ⟨_, _, Try.func216, rfl, by kernel_rfl⟩
def m_laws_toWordS_j1 (fuel : Nat) (t11 : (List D.Word)) : Option (List D.Word) := some t11
def m_laws_toWordS_b1 (fuel : Nat) (x0 : (List D.Word)) (s10 : Int × (List D.Word)) : Option (Rd (Int × (List D.Word)) ((List D.Word)) ((List D.Word))) := (if (decide (s10.1 < (x0.length : Int))) = true then ((idx x0 s10.1).bind fun x25 => ((m_laws_toWord fuel x25).bind fun r32 => (if decide (0 ≤ s10.1 ∧ s10.1.toNat < s10.2.length) = true then some (.next (w64 (s10.1 + 1), (s10.2.set s10.1.toNat r32))) else none))) else some (.brk s10.2))
def m_laws_toWordS (fuel : Nat) (x0 : (List D.Word)) : Option ((List D.Word)) := (if decide (0 ≤ (x0.length : Int) ∧ (x0.length : Int) ≤ 4294967296) = true then ((iter (m_laws_toWordS_b1 fuel x0) fuel (0, (List.replicate (x0.length : Int).toNat (⟨(0 : Int), (0 : Int)⟩ : D.Word)))).bind fun o => aft o (m_laws_toWordS_j1 fuel)) else none)

set_option maxRecDepth 100000 in
theorem laws_toWordS_ok {W w : World} (hE : Ext W w) {A0_ : Option Addr} {k0_ : Nat} {x0 : (List D.Word)} (h0_ : ty223.ro W [.slice A0_ x0.length k0_] x0) {fuel : Nat} {r : (List D.Word)} (hm : m_laws_toWordS fuel x0 = some r) :
    Calls Try.prog 216 ⟨[.slice A0_ x0.length k0_]⟩ w (Ret fun v w8 => ∃ A0 k0, v = .slice A0 r.length k0 ∧ St w w8 [Own ty165 [.slice A0 r.length k0] r]) := by
  refine Calls.into Try.func216 rfl 23 rfl rfl _ rfl ?_
  unfold m_laws_toWordS at hm
  have hS := St.start w
  refine WP.seq ?_
  refine WP.region ?_
  refine RW.run ttok 1 rfl ?_
  refine RW.nil ?_
  refine WP.seq ?_
  refine WP.region ?_
  refine RW.run ttok 2 rfl ?_
  by_cases hk1 : decide (0 ≤ (x0.length : Int) ∧ (x0.length : Int) ≤ 4294967296) = true
  case neg => rw [if_neg hk1] at hm; cases hm
  rw [if_pos hk1] at hm
  have hz7 := of_decide_eq_true hk1
  refine RW.make (U := ty92) ttok (⟨(0 : Int), (0 : Int)⟩ : D.Word) hS rfl rfl rfl rfl rfl rfl rfl rfl hz7.1 (by have := hz7.2; show _ * (16 : Int) ≤ _; omega) (by have := hz7.2; simp only [maxLen]; omega) (fun _ => (ty92_ownI (c := (⟨(0 : Int), (0 : Int)⟩ : D.Word)) rfl)) rfl rfl (fun A2 k3 w4 e5 hS6 => ?_)
  refine RW.run ttok 1 rfl ?_
  refine RW.nil ?_
  refine WP.seq ?_
  refine WP.seq ?_
  refine WP.region ?_
  refine RW.run ttok 1 rfl ?_
  refine RW.nil ?_
  obtain ⟨o14, hl15, hm⟩ := bind_some hm
  refine WP.cut (fun (t11 : (List D.Word)) F w9 => o14 = .inl t11 ∧ St w w9 [Own ty165 [.slice A2 (List.replicate (x0.length : Int).toNat (⟨(0 : Int), (0 : Int)⟩ : D.Word)).length k3] t11] ∧ F = [(3, .slice A2 (List.replicate (x0.length : Int).toNat (⟨(0 : Int), (0 : Int)⟩ : D.Word)).length k3)]) ?_ ?_
  · skip
    rintro t11 F w13 ⟨ho17, hS16, rfl⟩
    subst ho17
    rw [aft_inl] at hm
    unfold m_laws_toWordS_j1 at hm
    refine WP.seq ?_
    refine WP.region ?_
    refine RW.run ttok 2 rfl ?_
    refine RW.nil ?_
    refine WP.ret ?_
    cases hm
    have hn18 := (hS16.bring 0 rfl).lenEq
    have hS19 := (hS16.bring 0 rfl).reLen hn18
    exact ⟨_, .cons (.tmp rfl) .nil, A2, k3, (by first | (simp only [hn18]; done) | (simp only [hn18]; rfl)), hS19⟩
  · skip
    refine WP.block ?_
    refine WP.weak [(0, .slice A0_ x0.length k0_), (3, .slice A2 (List.replicate (x0.length : Int).toNat (⟨(0 : Int), (0 : Int)⟩ : D.Word)).length k3), (4, .int .i64 0)] ⟨rfl, rfl, rfl, trivial⟩ ?_
    refine WP.iter (fun (s10 : Int × (List D.Word)) F w9 => St w w9 [Own ty165 [.slice A2 (List.replicate (x0.length : Int).toNat (⟨(0 : Int), (0 : Int)⟩ : D.Word)).length k3] s10.2] ∧ F = [(0, .slice A0_ x0.length k0_), (3, .slice A2 (List.replicate (x0.length : Int).toNat (⟨(0 : Int), (0 : Int)⟩ : D.Word)).length k3), (4, .int .i64 s10.1)]) _ hl15 ⟨hS6, rfl⟩ ?_
    rintro s10 F w24 _ o22 ⟨hS23, rfl⟩ hb20 ho21
    unfold m_laws_toWordS_b1 at hb20
    refine WP.seq ?_
    refine WP.seq ?_
    refine WP.region ?_
    refine RW.run ttok 4 rfl ?_
    refine RW.nil ?_
    refine WP.cond (decide (s10.1 < (x0.length : Int))) rfl (fun hc => ?_) (fun hc => ?_)
    · skip
      rw [if_pos hc] at hb20
      refine WP.skip ?_
      refine WP.seq ?_
      refine WP.block ?_
      refine WP.region ?_
      refine RW.run ttok 4 rfl ?_
      obtain ⟨x25, hx26, hb20⟩ := bind_some hb20
      refine RW.idx ttok (hE.trans hS23.ext) rfl rfl rfl rfl rfl rfl (by decide) rfl rfl h0_ (idx_some hx26).1 (idx_some hx26).2 rfl rfl (fun p27 es28 ha29 hr30 => ?_)
      have e31 := ty85_open hr30; subst e31
      refine RW.loadN ttok rfl rfl rfl rfl rfl (At.ext (hE.trans hS23.ext) ha29) rfl rfl rfl ?_
      obtain ⟨r32, hx33, hb20⟩ := bind_some hb20
      refine RW.call rfl rfl rfl enters60 (laws_toWord_ok (hE.trans hS23.ext) hr30 hx33) (fun v34 w35 hR36 => ?_)
      obtain ⟨rfl, hR37⟩ := hR36
      have hS38 := hS23.join hR37
      have hS39 := hS38.bring 0 rfl
      by_cases hk40 : decide (0 ≤ s10.1 ∧ s10.1.toNat < s10.2.length) = true
      case neg => rw [if_neg hk40] at hb20; cases hb20
      rw [if_pos hk40] at hb20
      have hb41 := of_decide_eq_true hk40
      refine RW.idxOwnN ttok hS39 rfl rfl rfl rfl rfl rfl rfl rfl hb41.1 hb41.2 rfl rfl (fun q42 hq43 => ?_)
      have hS44 := ty92_shutS (c := r32) (B := _) hS39
      have hS45 := hS44.bring 1 rfl
      refine RW.storeElN ttok hS45 rfl rfl rfl rfl rfl rfl hb41.2 hq43 rfl rfl (fun w46 hS47 => ?_)
      refine RW.nil ?_
      refine WP.region ?_
      refine RW.run ttok 3 rfl ?_
      refine RW.nil ?_
      cases hb20
      exact ⟨_, [(0, .slice A0_ x0.length k0_), (3, .slice A2 (List.replicate (x0.length : Int).toNat (⟨(0 : Int), (0 : Int)⟩ : D.Word)).length k3), (4, .int .i64 (w64 (s10.1 + 1)))], ⟨rfl, rfl, rfl, trivial⟩, rfl, hS47, rfl⟩
    · skip
      rw [if_neg (not_t hc)] at hb20
      refine WP.exit ?_
      cases hb20
      exact ⟨_, [(3, .slice A2 (List.replicate (x0.length : Int).toNat (⟨(0 : Int), (0 : Int)⟩ : D.Word)).length k3)], ⟨rfl, trivial⟩, ho21, hS23, rfl⟩

theorem enters175 : Enters Try.prog 175 := ⟨_, _, Try.func175, rfl, by kernel_rfl⟩
def m_laws_toCell (fuel : Nat) (x0 : D.Cell) : Option (D.Cell) := ((m_laws_toInt64S fuel x0.Data).bind fun r31 => ((m_laws_toWordS fuel x0.Words).bind fun r43 => some (⟨x0.Kind, x0.Level, x0.Value, r31, r43⟩ : D.Cell)))

set_option maxRecDepth 100000 in
theorem laws_toCell_ok {W w : World} (hE : Ext W w) {c0_ : List Value} {x0 : D.Cell} (h0_ : ty225.ro W c0_ x0) {fuel : Nat} {r : D.Cell} (hm : m_laws_toCell fuel x0 = some r) :
    Calls Try.prog 175 ⟨[.agg ⟨c0_⟩]⟩ w (Ret fun v w8 => ∃ A0 k0 A1 k1, v = .agg ⟨[.int .i64 r.Kind, .int .i64 r.Level, .int .i64 r.Value, .slice A0 r.Data.length k0, .slice A1 r.Words.length k1]⟩ ∧ St w w8 [Own ty22 [.slice A0 r.Data.length k0] r.Data, Own ty165 [.slice A1 r.Words.length k1] r.Words]) := by
  obtain ⟨A1, k2, A4, k5, e7, h3, h6⟩ := ty225_open h0_; subst e7
  refine Calls.into Try.func175 rfl 22 rfl rfl _ rfl ?_
  unfold m_laws_toCell at hm
  have hS := St.start w
  refine WP.seq ?_
  refine WP.region ?_
  refine RW.new ttok hS rfl rfl rfl rfl (fun g10 w11 e12 hS13 => ?_)
  refine RW.new ttok hS13 rfl rfl rfl rfl (fun g14 w15 e16 hS17 => ?_)
  refine RW.nil ?_
  refine WP.seq ?_
  refine WP.region ?_
  refine RW.new ttok hS17 rfl rfl rfl rfl (fun g18 w19 e20 hS21 => ?_)
  refine RW.nil ?_
  refine WP.seq ?_
  refine WP.region ?_
  refine RW.run ttok 1 rfl ?_
  refine RW.load1 ttok rfl rfl rfl rfl rfl ((hS21.bring 2 rfl).box) 0 rfl rfl rfl rfl ?_
  refine RW.run ttok 1 rfl ?_
  have hS22 := hS21.bring 0 rfl
  refine RW.store ttok (A := []) hS22 rfl rfl rfl rfl rfl 0 rfl rfl rfl rfl rfl (fun w23 hS24 => ?_)
  refine RW.nil ?_
  refine WP.seq ?_
  refine WP.region ?_
  refine RW.run ttok 1 rfl ?_
  refine RW.load1 ttok rfl rfl rfl rfl rfl ((hS24.bring 2 rfl).box) 1 rfl rfl rfl rfl ?_
  refine RW.run ttok 1 rfl ?_
  have hS25 := hS24.bring 0 rfl
  refine RW.store ttok (A := []) hS25 rfl rfl rfl rfl rfl 1 rfl rfl rfl rfl rfl (fun w26 hS27 => ?_)
  refine RW.nil ?_
  refine WP.seq ?_
  refine WP.region ?_
  refine RW.run ttok 1 rfl ?_
  refine RW.load1 ttok rfl rfl rfl rfl rfl ((hS27.bring 2 rfl).box) 2 rfl rfl rfl rfl ?_
  refine RW.run ttok 1 rfl ?_
  have hS28 := hS27.bring 0 rfl
  refine RW.store ttok (A := []) hS28 rfl rfl rfl rfl rfl 2 rfl rfl rfl rfl rfl (fun w29 hS30 => ?_)
  refine RW.nil ?_
  refine WP.seq ?_
  refine WP.region ?_
  refine RW.run ttok 1 rfl ?_
  refine RW.load1 ttok rfl rfl rfl rfl rfl ((hS30.bring 2 rfl).box) 3 rfl rfl rfl rfl ?_
  obtain ⟨r31, hx32, hm⟩ := bind_some hm
  refine RW.call rfl rfl rfl enters16 (laws_toInt64S_ok (hE.trans hS30.ext) h3 hx32) (fun v33 w34 hR35 => ?_)
  obtain ⟨A36, k37, rfl, hR38⟩ := hR35
  have hS39 := hS30.join hR38
  refine RW.run ttok 1 rfl ?_
  have hS40 := hS39.bring 1 rfl
  refine RW.store ttok (A := []) hS40 rfl rfl rfl rfl rfl 3 rfl rfl rfl rfl rfl (fun w41 hS42 => ?_)
  refine RW.nil ?_
  refine WP.seq ?_
  refine WP.region ?_
  refine RW.run ttok 1 rfl ?_
  refine RW.load1 ttok rfl rfl rfl rfl rfl ((hS42.bring 3 rfl).box) 4 rfl rfl rfl rfl ?_
  obtain ⟨r43, hx44, hm⟩ := bind_some hm
  refine RW.call rfl rfl rfl enters216 (laws_toWordS_ok (hE.trans hS42.ext) h6 hx44) (fun v45 w46 hR47 => ?_)
  obtain ⟨A48, k49, rfl, hR50⟩ := hR47
  have hS51 := hS42.join hR50
  refine RW.run ttok 1 rfl ?_
  have hS52 := hS51.bring 1 rfl
  refine RW.store ttok (A := []) hS52 rfl rfl rfl rfl rfl 4 rfl rfl rfl rfl rfl (fun w53 hS54 => ?_)
  refine RW.nil ?_
  refine WP.seq ?_
  refine WP.region ?_
  refine RW.loadN ttok rfl rfl rfl rfl rfl ((hS54.bring 0 rfl).box) rfl rfl rfl ?_
  have hS55 := hS54.bring 3 rfl
  refine RW.store ttok (A := []) hS55 rfl rfl rfl rfl rfl 0 rfl rfl rfl rfl rfl (fun w56 hS57 => ?_)
  refine RW.nil ?_
  refine WP.ret ?_
  cases hm
  exact ⟨_, .cons (ResIs.agg ttok rfl rfl rfl ((hS57.bring 0 rfl).box) rfl) .nil, A36, k37, A48, k49, rfl, (((hS57.bring 2 rfl).bring 3 rfl).taken 2)⟩

theorem enters119 : Enters Try.prog 119 := ⟨_, _, Try.func119, rfl, by kernel_rfl⟩
def m_laws_toCellS_j1 (fuel : Nat) (t11 : (List D.Cell)) : Option (List D.Cell) := some t11
def m_laws_toCellS_b1 (fuel : Nat) (x0 : (List D.Cell)) (s10 : Int × (List D.Cell)) : Option (Rd (Int × (List D.Cell)) ((List D.Cell)) ((List D.Cell))) := (if (decide (s10.1 < (x0.length : Int))) = true then ((idx x0 s10.1).bind fun x25 => ((m_laws_toCell fuel x25).bind fun r38 => (if decide (0 ≤ s10.1 ∧ s10.1.toNat < s10.2.length) = true then some (.next (w64 (s10.1 + 1), (s10.2.set s10.1.toNat r38))) else none))) else some (.brk s10.2))
def m_laws_toCellS (fuel : Nat) (x0 : (List D.Cell)) : Option ((List D.Cell)) := (if decide (0 ≤ (x0.length : Int) ∧ (x0.length : Int) ≤ 4294967296) = true then ((iter (m_laws_toCellS_b1 fuel x0) fuel (0, (List.replicate (x0.length : Int).toNat (⟨(0 : Int), (0 : Int), (0 : Int), ([] : (List Int)), ([] : (List D.Word))⟩ : D.Cell)))).bind fun o => aft o (m_laws_toCellS_j1 fuel)) else none)

set_option maxRecDepth 100000 in
theorem laws_toCellS_ok {W w : World} (hE : Ext W w) {A0_ : Option Addr} {k0_ : Nat} {x0 : (List D.Cell)} (h0_ : ty83.ro W [.slice A0_ x0.length k0_] x0) {fuel : Nat} {r : (List D.Cell)} (hm : m_laws_toCellS fuel x0 = some r) :
    Calls Try.prog 119 ⟨[.slice A0_ x0.length k0_]⟩ w (Ret fun v w8 => ∃ A0 k0, v = .slice A0 r.length k0 ∧ St w w8 [Own ty91 [.slice A0 r.length k0] r]) := by
  refine Calls.into Try.func119 rfl 23 rfl rfl _ rfl ?_
  unfold m_laws_toCellS at hm
  have hS := St.start w
  refine WP.seq ?_
  refine WP.region ?_
  refine RW.run ttok 1 rfl ?_
  refine RW.nil ?_
  refine WP.seq ?_
  refine WP.region ?_
  refine RW.run ttok 2 rfl ?_
  by_cases hk1 : decide (0 ≤ (x0.length : Int) ∧ (x0.length : Int) ≤ 4294967296) = true
  case neg => rw [if_neg hk1] at hm; cases hm
  rw [if_pos hk1] at hm
  have hz7 := of_decide_eq_true hk1
  refine RW.make (U := ty167) ttok (⟨(0 : Int), (0 : Int), (0 : Int), ([] : (List Int)), ([] : (List D.Word))⟩ : D.Cell) hS rfl rfl rfl rfl rfl rfl rfl rfl hz7.1 (by have := hz7.2; show _ * (72 : Int) ≤ _; omega) (by have := hz7.2; simp only [maxLen]; omega) (fun _ => (ty167_ownI (c := (⟨(0 : Int), (0 : Int), (0 : Int), ([] : (List Int)), ([] : (List D.Word))⟩ : D.Cell)) ⟨[], [], rfl, (slNilOwn tInt 2 _), ⟨[], [], rfl, (slNilOwn ty92 92 _), rfl⟩⟩)) rfl rfl (fun A2 k3 w4 e5 hS6 => ?_)
  refine RW.run ttok 1 rfl ?_
  refine RW.nil ?_
  refine WP.seq ?_
  refine WP.seq ?_
  refine WP.region ?_
  refine RW.run ttok 1 rfl ?_
  refine RW.nil ?_
  obtain ⟨o14, hl15, hm⟩ := bind_some hm
  refine WP.cut (fun (t11 : (List D.Cell)) F w9 => o14 = .inl t11 ∧ St w w9 [Own ty91 [.slice A2 (List.replicate (x0.length : Int).toNat (⟨(0 : Int), (0 : Int), (0 : Int), ([] : (List Int)), ([] : (List D.Word))⟩ : D.Cell)).length k3] t11] ∧ F = [(3, .slice A2 (List.replicate (x0.length : Int).toNat (⟨(0 : Int), (0 : Int), (0 : Int), ([] : (List Int)), ([] : (List D.Word))⟩ : D.Cell)).length k3)]) ?_ ?_
  · skip
    rintro t11 F w13 ⟨ho17, hS16, rfl⟩
    subst ho17
    rw [aft_inl] at hm
    unfold m_laws_toCellS_j1 at hm
    refine WP.seq ?_
    refine WP.region ?_
    refine RW.run ttok 2 rfl ?_
    refine RW.nil ?_
    refine WP.ret ?_
    cases hm
    have hn18 := (hS16.bring 0 rfl).lenEq
    have hS19 := (hS16.bring 0 rfl).reLen hn18
    exact ⟨_, .cons (.tmp rfl) .nil, A2, k3, (by first | (simp only [hn18]; done) | (simp only [hn18]; rfl)), hS19⟩
  · skip
    refine WP.block ?_
    refine WP.weak [(0, .slice A0_ x0.length k0_), (3, .slice A2 (List.replicate (x0.length : Int).toNat (⟨(0 : Int), (0 : Int), (0 : Int), ([] : (List Int)), ([] : (List D.Word))⟩ : D.Cell)).length k3), (4, .int .i64 0)] ⟨rfl, rfl, rfl, trivial⟩ ?_
    refine WP.iter (fun (s10 : Int × (List D.Cell)) F w9 => St w w9 [Own ty91 [.slice A2 (List.replicate (x0.length : Int).toNat (⟨(0 : Int), (0 : Int), (0 : Int), ([] : (List Int)), ([] : (List D.Word))⟩ : D.Cell)).length k3] s10.2] ∧ F = [(0, .slice A0_ x0.length k0_), (3, .slice A2 (List.replicate (x0.length : Int).toNat (⟨(0 : Int), (0 : Int), (0 : Int), ([] : (List Int)), ([] : (List D.Word))⟩ : D.Cell)).length k3), (4, .int .i64 s10.1)]) _ hl15 ⟨hS6, rfl⟩ ?_
    rintro s10 F w24 _ o22 ⟨hS23, rfl⟩ hb20 ho21
    unfold m_laws_toCellS_b1 at hb20
    refine WP.seq ?_
    refine WP.seq ?_
    refine WP.region ?_
    refine RW.run ttok 4 rfl ?_
    refine RW.nil ?_
    refine WP.cond (decide (s10.1 < (x0.length : Int))) rfl (fun hc => ?_) (fun hc => ?_)
    · skip
      rw [if_pos hc] at hb20
      refine WP.skip ?_
      refine WP.seq ?_
      refine WP.block ?_
      refine WP.region ?_
      refine RW.run ttok 4 rfl ?_
      obtain ⟨x25, hx26, hb20⟩ := bind_some hb20
      refine RW.idx ttok (hE.trans hS23.ext) rfl rfl rfl rfl rfl rfl (by decide) rfl rfl h0_ (idx_some hx26).1 (idx_some hx26).2 rfl rfl (fun p27 es28 ha29 hr30 => ?_)
      obtain ⟨A31, k32, A34, k35, e37, h33, h36⟩ := ty225_open hr30; subst e37
      refine RW.loadN ttok rfl rfl rfl rfl rfl (At.ext (hE.trans hS23.ext) ha29) rfl rfl rfl ?_
      obtain ⟨r38, hx39, hb20⟩ := bind_some hb20
      refine RW.call rfl rfl rfl enters175 (laws_toCell_ok (hE.trans hS23.ext) hr30 hx39) (fun v40 w41 hR42 => ?_)
      obtain ⟨A43, k44, A45, k46, rfl, hR47⟩ := hR42
      have hS48 := hS23.join hR47
      have hS49 := hS48.bring 2 rfl
      by_cases hk50 : decide (0 ≤ s10.1 ∧ s10.1.toNat < s10.2.length) = true
      case neg => rw [if_neg hk50] at hb20; cases hb20
      rw [if_pos hk50] at hb20
      have hb51 := of_decide_eq_true hk50
      refine RW.idxOwnN ttok hS49 rfl rfl rfl rfl rfl rfl rfl rfl hb51.1 hb51.2 rfl rfl (fun q52 hq53 => ?_)
      have hS54 := hS49.bring 2 rfl
      have hS55 := hS54.bring 2 rfl
      have hS56 := ty167_shutS (c := r38) (B := _) hS55
      have hS57 := hS56.bring 1 rfl
      refine RW.storeElN ttok hS57 rfl rfl rfl rfl rfl rfl hb51.2 hq53 rfl rfl (fun w58 hS59 => ?_)
      refine RW.nil ?_
      refine WP.region ?_
      refine RW.run ttok 3 rfl ?_
      refine RW.nil ?_
      cases hb20
      exact ⟨_, [(0, .slice A0_ x0.length k0_), (3, .slice A2 (List.replicate (x0.length : Int).toNat (⟨(0 : Int), (0 : Int), (0 : Int), ([] : (List Int)), ([] : (List D.Word))⟩ : D.Cell)).length k3), (4, .int .i64 (w64 (s10.1 + 1)))], ⟨rfl, rfl, rfl, trivial⟩, rfl, hS59, rfl⟩
    · skip
      rw [if_neg (not_t hc)] at hb20
      refine WP.exit ?_
      cases hb20
      exact ⟨_, [(3, .slice A2 (List.replicate (x0.length : Int).toNat (⟨(0 : Int), (0 : Int), (0 : Int), ([] : (List Int)), ([] : (List D.Word))⟩ : D.Cell)).length k3)], ⟨rfl, trivial⟩, ho21, hS23, rfl⟩

theorem enters176 : Enters Try.prog 176 := ⟨_, _, Try.func176, rfl, by kernel_rfl⟩
def m_laws_toPair (fuel : Nat) (x0 : D.Pair) : Option (D.Pair) := some (⟨x0.A, x0.B⟩ : D.Pair)

set_option maxRecDepth 100000 in
theorem laws_toPair_ok {W w : World} (hE : Ext W w) {c0_ : List Value} {x0 : D.Pair} (h0_ : ty229.ro W c0_ x0) {fuel : Nat} {r : D.Pair} (hm : m_laws_toPair fuel x0 = some r) :
    Calls Try.prog 176 ⟨[.agg ⟨c0_⟩]⟩ w (Ret fun v w8 => v = .agg ⟨[.int .i64 r.A, .int .i64 r.B]⟩ ∧ St w w8 []) := by
  have e1 := ty229_open h0_; subst e1
  refine Calls.into Try.func176 rfl 11 rfl rfl _ rfl ?_
  unfold m_laws_toPair at hm
  have hS := St.start w
  refine WP.seq ?_
  refine WP.region ?_
  refine RW.new ttok hS rfl rfl rfl rfl (fun g2 w3 e4 hS5 => ?_)
  refine RW.new ttok hS5 rfl rfl rfl rfl (fun g6 w7 e10 hS11 => ?_)
  refine RW.nil ?_
  refine WP.seq ?_
  refine WP.region ?_
  refine RW.new ttok hS11 rfl rfl rfl rfl (fun g12 w13 e14 hS15 => ?_)
  refine RW.nil ?_
  refine WP.seq ?_
  refine WP.region ?_
  refine RW.run ttok 1 rfl ?_
  refine RW.load1 ttok rfl rfl rfl rfl rfl ((hS15.bring 2 rfl).box) 0 rfl rfl rfl rfl ?_
  refine RW.run ttok 1 rfl ?_
  have hS16 := hS15.bring 0 rfl
  refine RW.store ttok (A := []) hS16 rfl rfl rfl rfl rfl 0 rfl rfl rfl rfl rfl (fun w17 hS18 => ?_)
  refine RW.nil ?_
  refine WP.seq ?_
  refine WP.region ?_
  refine RW.run ttok 1 rfl ?_
  refine RW.load1 ttok rfl rfl rfl rfl rfl ((hS18.bring 2 rfl).box) 1 rfl rfl rfl rfl ?_
  refine RW.run ttok 1 rfl ?_
  have hS19 := hS18.bring 0 rfl
  refine RW.store ttok (A := []) hS19 rfl rfl rfl rfl rfl 1 rfl rfl rfl rfl rfl (fun w20 hS21 => ?_)
  refine RW.nil ?_
  refine WP.seq ?_
  refine WP.region ?_
  refine RW.loadN ttok rfl rfl rfl rfl rfl ((hS21.bring 0 rfl).box) rfl rfl rfl ?_
  have hS22 := hS21.bring 1 rfl
  refine RW.store ttok (A := []) hS22 rfl rfl rfl rfl rfl 0 rfl rfl rfl rfl rfl (fun w23 hS24 => ?_)
  refine RW.nil ?_
  refine WP.ret ?_
  cases hm
  exact ⟨_, .cons (ResIs.agg ttok rfl rfl rfl ((hS24.bring 0 rfl).box) rfl) .nil, rfl, (hS24.taken 0)⟩

theorem enters120 : Enters Try.prog 120 := ⟨_, _, Try.func120, rfl, by kernel_rfl⟩
def m_laws_toPairS_j1 (fuel : Nat) (t11 : (List D.Pair)) : Option (List D.Pair) := some t11
def m_laws_toPairS_b1 (fuel : Nat) (x0 : (List D.Pair)) (s10 : Int × (List D.Pair)) : Option (Rd (Int × (List D.Pair)) ((List D.Pair)) ((List D.Pair))) := (if (decide (s10.1 < (x0.length : Int))) = true then ((idx x0 s10.1).bind fun x25 => ((m_laws_toPair fuel x25).bind fun r32 => (if decide (0 ≤ s10.1 ∧ s10.1.toNat < s10.2.length) = true then some (.next (w64 (s10.1 + 1), (s10.2.set s10.1.toNat r32))) else none))) else some (.brk s10.2))
def m_laws_toPairS (fuel : Nat) (x0 : (List D.Pair)) : Option ((List D.Pair)) := (if decide (0 ≤ (x0.length : Int) ∧ (x0.length : Int) ≤ 4294967296) = true then ((iter (m_laws_toPairS_b1 fuel x0) fuel (0, (List.replicate (x0.length : Int).toNat (⟨(0 : Int), (0 : Int)⟩ : D.Pair)))).bind fun o => aft o (m_laws_toPairS_j1 fuel)) else none)

set_option maxRecDepth 100000 in
theorem laws_toPairS_ok {W w : World} (hE : Ext W w) {A0_ : Option Addr} {k0_ : Nat} {x0 : (List D.Pair)} (h0_ : ty86.ro W [.slice A0_ x0.length k0_] x0) {fuel : Nat} {r : (List D.Pair)} (hm : m_laws_toPairS fuel x0 = some r) :
    Calls Try.prog 120 ⟨[.slice A0_ x0.length k0_]⟩ w (Ret fun v w8 => ∃ A0 k0, v = .slice A0 r.length k0 ∧ St w w8 [Own ty93 [.slice A0 r.length k0] r]) := by
  refine Calls.into Try.func120 rfl 23 rfl rfl _ rfl ?_
  unfold m_laws_toPairS at hm
  have hS := St.start w
  refine WP.seq ?_
  refine WP.region ?_
  refine RW.run ttok 1 rfl ?_
  refine RW.nil ?_
  refine WP.seq ?_
  refine WP.region ?_
  refine RW.run ttok 2 rfl ?_
  by_cases hk1 : decide (0 ≤ (x0.length : Int) ∧ (x0.length : Int) ≤ 4294967296) = true
  case neg => rw [if_neg hk1] at hm; cases hm
  rw [if_pos hk1] at hm
  have hz7 := of_decide_eq_true hk1
  refine RW.make (U := ty173) ttok (⟨(0 : Int), (0 : Int)⟩ : D.Pair) hS rfl rfl rfl rfl rfl rfl rfl rfl hz7.1 (by have := hz7.2; show _ * (16 : Int) ≤ _; omega) (by have := hz7.2; simp only [maxLen]; omega) (fun _ => (ty173_ownI (c := (⟨(0 : Int), (0 : Int)⟩ : D.Pair)) rfl)) rfl rfl (fun A2 k3 w4 e5 hS6 => ?_)
  refine RW.run ttok 1 rfl ?_
  refine RW.nil ?_
  refine WP.seq ?_
  refine WP.seq ?_
  refine WP.region ?_
  refine RW.run ttok 1 rfl ?_
  refine RW.nil ?_
  obtain ⟨o14, hl15, hm⟩ := bind_some hm
  refine WP.cut (fun (t11 : (List D.Pair)) F w9 => o14 = .inl t11 ∧ St w w9 [Own ty93 [.slice A2 (List.replicate (x0.length : Int).toNat (⟨(0 : Int), (0 : Int)⟩ : D.Pair)).length k3] t11] ∧ F = [(3, .slice A2 (List.replicate (x0.length : Int).toNat (⟨(0 : Int), (0 : Int)⟩ : D.Pair)).length k3)]) ?_ ?_
  · skip
    rintro t11 F w13 ⟨ho17, hS16, rfl⟩
    subst ho17
    rw [aft_inl] at hm
    unfold m_laws_toPairS_j1 at hm
    refine WP.seq ?_
    refine WP.region ?_
    refine RW.run ttok 2 rfl ?_
    refine RW.nil ?_
    refine WP.ret ?_
    cases hm
    have hn18 := (hS16.bring 0 rfl).lenEq
    have hS19 := (hS16.bring 0 rfl).reLen hn18
    exact ⟨_, .cons (.tmp rfl) .nil, A2, k3, (by first | (simp only [hn18]; done) | (simp only [hn18]; rfl)), hS19⟩
  · skip
    refine WP.block ?_
    refine WP.weak [(0, .slice A0_ x0.length k0_), (3, .slice A2 (List.replicate (x0.length : Int).toNat (⟨(0 : Int), (0 : Int)⟩ : D.Pair)).length k3), (4, .int .i64 0)] ⟨rfl, rfl, rfl, trivial⟩ ?_
    refine WP.iter (fun (s10 : Int × (List D.Pair)) F w9 => St w w9 [Own ty93 [.slice A2 (List.replicate (x0.length : Int).toNat (⟨(0 : Int), (0 : Int)⟩ : D.Pair)).length k3] s10.2] ∧ F = [(0, .slice A0_ x0.length k0_), (3, .slice A2 (List.replicate (x0.length : Int).toNat (⟨(0 : Int), (0 : Int)⟩ : D.Pair)).length k3), (4, .int .i64 s10.1)]) _ hl15 ⟨hS6, rfl⟩ ?_
    rintro s10 F w24 _ o22 ⟨hS23, rfl⟩ hb20 ho21
    unfold m_laws_toPairS_b1 at hb20
    refine WP.seq ?_
    refine WP.seq ?_
    refine WP.region ?_
    refine RW.run ttok 4 rfl ?_
    refine RW.nil ?_
    refine WP.cond (decide (s10.1 < (x0.length : Int))) rfl (fun hc => ?_) (fun hc => ?_)
    · skip
      rw [if_pos hc] at hb20
      refine WP.skip ?_
      refine WP.seq ?_
      refine WP.block ?_
      refine WP.region ?_
      refine RW.run ttok 4 rfl ?_
      obtain ⟨x25, hx26, hb20⟩ := bind_some hb20
      refine RW.idx ttok (hE.trans hS23.ext) rfl rfl rfl rfl rfl rfl (by decide) rfl rfl h0_ (idx_some hx26).1 (idx_some hx26).2 rfl rfl (fun p27 es28 ha29 hr30 => ?_)
      have e31 := ty229_open hr30; subst e31
      refine RW.loadN ttok rfl rfl rfl rfl rfl (At.ext (hE.trans hS23.ext) ha29) rfl rfl rfl ?_
      obtain ⟨r32, hx33, hb20⟩ := bind_some hb20
      refine RW.call rfl rfl rfl enters176 (laws_toPair_ok (hE.trans hS23.ext) hr30 hx33) (fun v34 w35 hR36 => ?_)
      obtain ⟨rfl, hR37⟩ := hR36
      have hS38 := hS23.join hR37
      have hS39 := hS38.bring 0 rfl
      by_cases hk40 : decide (0 ≤ s10.1 ∧ s10.1.toNat < s10.2.length) = true
      case neg => rw [if_neg hk40] at hb20; cases hb20
      rw [if_pos hk40] at hb20
      have hb41 := of_decide_eq_true hk40
      refine RW.idxOwnN ttok hS39 rfl rfl rfl rfl rfl rfl rfl rfl hb41.1 hb41.2 rfl rfl (fun q42 hq43 => ?_)
      have hS44 := ty173_shutS (c := r32) (B := _) hS39
      have hS45 := hS44.bring 1 rfl
      refine RW.storeElN ttok hS45 rfl rfl rfl rfl rfl rfl hb41.2 hq43 rfl rfl (fun w46 hS47 => ?_)
      refine RW.nil ?_
      refine WP.region ?_
      refine RW.run ttok 3 rfl ?_
      refine RW.nil ?_
      cases hb20
      exact ⟨_, [(0, .slice A0_ x0.length k0_), (3, .slice A2 (List.replicate (x0.length : Int).toNat (⟨(0 : Int), (0 : Int)⟩ : D.Pair)).length k3), (4, .int .i64 (w64 (s10.1 + 1)))], ⟨rfl, rfl, rfl, trivial⟩, rfl, hS47, rfl⟩
    · skip
      rw [if_neg (not_t hc)] at hb20
      refine WP.exit ?_
      cases hb20
      exact ⟨_, [(3, .slice A2 (List.replicate (x0.length : Int).toNat (⟨(0 : Int), (0 : Int)⟩ : D.Pair)).length k3)], ⟨rfl, trivial⟩, ho21, hS23, rfl⟩

theorem enters56 : Enters Try.prog 56 := ⟨_, _, Try.func56, rfl, by kernel_rfl⟩
def m_laws_toMemory (fuel : Nat) (x0 : D.Memory) : Option (D.Memory) := ((m_laws_toCellS fuel x0.Cells).bind fun r22 => ((m_laws_toWord fuel x0.Root).bind fun r37 => ((m_laws_toPairS fuel x0.Redexes).bind fun r47 => some (⟨r22, x0.Free, (⟨r37.Tag, r37.At⟩ : D.Word), r47⟩ : D.Memory))))

set_option maxRecDepth 100000 in
theorem laws_toMemory_ok {W w : World} (hE : Ext W w) {c0_ : List Value} {x0 : D.Memory} (h0_ : ty88.ro W c0_ x0) {fuel : Nat} {r : D.Memory} (hm : m_laws_toMemory fuel x0 = some r) :
    Calls Try.prog 56 ⟨[.agg ⟨c0_⟩]⟩ w (Ret fun v w8 => ∃ A0 k0 A1 k1, v = .agg ⟨[.slice A0 r.Cells.length k0, .int .i64 r.Free, .int .i64 r.Root.Tag, .int .i64 r.Root.At, .slice A1 r.Redexes.length k1]⟩ ∧ St w w8 [Own ty91 [.slice A0 r.Cells.length k0] r.Cells, Own ty93 [.slice A1 r.Redexes.length k1] r.Redexes]) := by
  obtain ⟨A1, k2, A4, k5, e7, h3, h6⟩ := ty88_open h0_; subst e7
  refine Calls.into Try.func56 rfl 20 rfl rfl _ rfl ?_
  unfold m_laws_toMemory at hm
  have hS := St.start w
  refine WP.seq ?_
  refine WP.region ?_
  refine RW.new ttok hS rfl rfl rfl rfl (fun g10 w11 e12 hS13 => ?_)
  refine RW.new ttok hS13 rfl rfl rfl rfl (fun g14 w15 e16 hS17 => ?_)
  refine RW.nil ?_
  refine WP.seq ?_
  refine WP.region ?_
  refine RW.new ttok hS17 rfl rfl rfl rfl (fun g18 w19 e20 hS21 => ?_)
  refine RW.nil ?_
  refine WP.seq ?_
  refine WP.region ?_
  refine RW.run ttok 1 rfl ?_
  refine RW.load1 ttok rfl rfl rfl rfl rfl ((hS21.bring 2 rfl).box) 0 rfl rfl rfl rfl ?_
  obtain ⟨r22, hx23, hm⟩ := bind_some hm
  refine RW.call rfl rfl rfl enters119 (laws_toCellS_ok (hE.trans hS21.ext) h3 hx23) (fun v24 w25 hR26 => ?_)
  obtain ⟨A27, k28, rfl, hR29⟩ := hR26
  have hS30 := hS21.join hR29
  refine RW.run ttok 1 rfl ?_
  have hS31 := hS30.bring 1 rfl
  refine RW.store ttok (A := []) hS31 rfl rfl rfl rfl rfl 0 rfl rfl rfl rfl rfl (fun w32 hS33 => ?_)
  refine RW.nil ?_
  refine WP.seq ?_
  refine WP.region ?_
  refine RW.run ttok 1 rfl ?_
  refine RW.load1 ttok rfl rfl rfl rfl rfl ((hS33.bring 3 rfl).box) 1 rfl rfl rfl rfl ?_
  refine RW.run ttok 1 rfl ?_
  have hS34 := hS33.bring 0 rfl
  refine RW.store ttok (A := []) hS34 rfl rfl rfl rfl rfl 1 rfl rfl rfl rfl rfl (fun w35 hS36 => ?_)
  refine RW.nil ?_
  refine WP.seq ?_
  refine WP.region ?_
  refine RW.run ttok 1 rfl ?_
  refine RW.loadN ttok rfl rfl rfl rfl rfl (At.sub ((hS36.bring 3 rfl).box) 2 2) rfl rfl rfl ?_
  obtain ⟨r37, hx38, hm⟩ := bind_some hm
  refine RW.call rfl rfl rfl enters60 (laws_toWord_ok (hE.trans hS36.ext) (ty85_shut x0.Root) hx38) (fun v39 w40 hR41 => ?_)
  obtain ⟨rfl, hR42⟩ := hR41
  have hS43 := hS36.join hR42
  refine RW.run ttok 1 rfl ?_
  have hS44 := hS43.bring 0 rfl
  refine RW.store ttok (A := []) hS44 rfl rfl rfl rfl rfl 2 rfl rfl rfl rfl rfl (fun w45 hS46 => ?_)
  refine RW.nil ?_
  refine WP.seq ?_
  refine WP.region ?_
  refine RW.run ttok 1 rfl ?_
  refine RW.load1 ttok rfl rfl rfl rfl rfl ((hS46.bring 3 rfl).box) 4 rfl rfl rfl rfl ?_
  obtain ⟨r47, hx48, hm⟩ := bind_some hm
  refine RW.call rfl rfl rfl enters120 (laws_toPairS_ok (hE.trans hS46.ext) h6 hx48) (fun v49 w50 hR51 => ?_)
  obtain ⟨A52, k53, rfl, hR54⟩ := hR51
  have hS55 := hS46.join hR54
  refine RW.run ttok 1 rfl ?_
  have hS56 := hS55.bring 1 rfl
  refine RW.store ttok (A := []) hS56 rfl rfl rfl rfl rfl 4 rfl rfl rfl rfl rfl (fun w57 hS58 => ?_)
  refine RW.nil ?_
  refine WP.seq ?_
  refine WP.region ?_
  refine RW.loadN ttok rfl rfl rfl rfl rfl ((hS58.bring 0 rfl).box) rfl rfl rfl ?_
  have hS59 := hS58.bring 3 rfl
  refine RW.store ttok (A := []) hS59 rfl rfl rfl rfl rfl 0 rfl rfl rfl rfl rfl (fun w60 hS61 => ?_)
  refine RW.nil ?_
  refine WP.ret ?_
  cases hm
  exact ⟨_, .cons (ResIs.agg ttok rfl rfl rfl ((hS61.bring 0 rfl).box) rfl) .nil, A27, k28, A52, k53, rfl, (((hS61.bring 2 rfl).bring 3 rfl).taken 2)⟩

theorem enters67 : Enters Try.prog 67 := ⟨_, _, Try.func67, rfl, by kernel_rfl⟩
def m_spec_l00In (fuel : Nat) (x0 : Int) (x1 : Int) (x2 : Int) : Option (Bool) := (if (decide (x0 ≥ x1)) = true then some (decide (x0 ≤ x2)) else some false)

set_option maxRecDepth 100000 in
theorem spec_l00In_ok {W w : World} (hE : Ext W w) {x0 : Int} {x1 : Int} {x2 : Int}  {fuel : Nat} {r : Bool} (hm : m_spec_l00In fuel x0 x1 x2 = some r) :
    Calls Try.prog 67 ⟨[.int .i64 x0, .int .i64 x1, .int .i64 x2]⟩ w (Ret fun v w8 => v = .bool r ∧ St w w8 []) := by
  refine Calls.into Try.func67 rfl 15 rfl rfl _ rfl ?_
  unfold m_spec_l00In at hm
  have hS := St.start w
  refine WP.seq ?_
  refine WP.region ?_
  refine RW.run ttok 1 rfl ?_
  refine RW.nil ?_
  refine WP.seq ?_
  refine WP.region ?_
  refine RW.run ttok 4 rfl ?_
  by_cases hg1 : (decide (x0 ≥ x1)) = true
  · skip
    rw [if_pos hg1] at hm
    refine RW.know 10 rfl (congrArg Value.bool hg1) ?_
    refine RW.run ttok 5 rfl ?_
    refine RW.nil ?_
    refine WP.ret ?_
    cases hm
    exact ⟨_, .cons (.tmp rfl) .nil, rfl, hS⟩
  · skip
    rw [if_neg hg1] at hm
    refine RW.know 10 rfl (congrArg Value.bool (Bool.eq_false_iff.2 hg1)) ?_
    refine RW.run ttok 5 rfl ?_
    refine RW.nil ?_
    refine WP.ret ?_
    cases hm
    exact ⟨_, .cons (.tmp rfl) .nil, rfl, hS⟩

theorem enters128 : Enters Try.prog 128 := ⟨_, _, Try.func128, rfl, by kernel_rfl⟩
def m_spec_l21IsAgent (fuel : Nat) (x0 : D.Cell) : Option (Bool) := ((m_spec_l00In fuel x0.Kind 2 12).bind fun r10 => some r10)

set_option maxRecDepth 100000 in
theorem spec_l21IsAgent_ok {W w : World} (hE : Ext W w) {p0_ : Addr} {c0_ : List Value} {x0 : D.Cell} (h0_ : ty167.ro W c0_ x0) (g0_ : At W p0_ c0_) {fuel : Nat} {r : Bool} (hm : m_spec_l21IsAgent fuel x0 = some r) :
    Calls Try.prog 128 ⟨[.pointer (some p0_)]⟩ w (Ret fun v w8 => v = .bool r ∧ St w w8 []) := by
  obtain ⟨A1, k2, A4, k5, e7, h3, h6⟩ := ty167_open h0_; subst e7
  refine Calls.into Try.func128 rfl 8 rfl rfl _ rfl ?_
  unfold m_spec_l21IsAgent at hm
  have hS := St.start w
  refine WP.seq ?_
  refine WP.region ?_
  refine RW.run ttok 1 rfl ?_
  refine RW.nil ?_
  refine WP.seq ?_
  refine WP.region ?_
  refine RW.run ttok 3 rfl ?_
  refine RW.load1 ttok rfl rfl rfl rfl rfl (At.ext (hE.trans hS.ext) g0_) 0 rfl rfl rfl rfl ?_
  obtain ⟨r10, hx11, hm⟩ := bind_some hm
  refine RW.call rfl rfl rfl enters67 (spec_l00In_ok (hE.trans hS.ext)  hx11) (fun v12 w13 hR14 => ?_)
  obtain ⟨rfl, hR15⟩ := hR14
  have hS16 := hS.join hR15
  refine RW.run ttok 1 rfl ?_
  refine RW.nil ?_
  refine WP.ret ?_
  cases hm
  exact ⟨_, .cons (.tmp rfl) .nil, rfl, hS16⟩

theorem enters194 : Enters Try.prog 194 := ⟨_, _, Try.func194, rfl, by kernel_rfl⟩
def m_spec_l21Agent_j2 (fuel : Nat) (t14 : (Int × Int × Int × (List Int) × (List D.Port))) (t25 : (List D.Port)) : Option D.Agent := some (⟨t14.1, t14.2.1, t14.2.2.1, t14.2.2.2.1, t25⟩ : D.Agent)
def m_spec_l21Agent_b1 (fuel : Nat) (x0 : D.Cell) (s24 : Int × (List D.Port)) : Option (Rd (Int × (List D.Port)) ((List D.Port)) (D.Agent)) := (if (decide (s24.1 < (x0.Words.length : Int))) = true then (if decide ((s24.2.length : Int) + (([(⟨0, 0⟩ : D.Port)] : (List D.Port)).length : Int) ≤ 4294967296) = true then some (.next (w64 (s24.1 + 1), (s24.2 ++ ([(⟨0, 0⟩ : D.Port)] : (List D.Port))))) else none) else some (.brk s24.2))
def m_spec_l21Agent_j1 (fuel : Nat) (x0 : D.Cell) (t14 : (Int × Int × Int × (List Int) × (List D.Port))) : Option D.Agent := ((iter (m_spec_l21Agent_b1 fuel x0) fuel (0, t14.2.2.2.2)).bind fun o => aft o (m_spec_l21Agent_j2 fuel t14))
def m_spec_l21Agent (fuel : Nat) (x0 : D.Cell) : Option (D.Agent) := m_spec_l21Agent_j1 fuel x0 (x0.Kind, x0.Level, x0.Value, x0.Data, ([(⟨0, 0⟩ : D.Port)] : (List D.Port)))

set_option maxRecDepth 100000 in
theorem spec_l21Agent_ok {W w : World} (hE : Ext W w) {p0_ : Addr} {c0_ : List Value} {x0 : D.Cell} (h0_ : ty167.ro W c0_ x0) (g0_ : At W p0_ c0_) {fuel : Nat} {r : D.Agent} (hm : m_spec_l21Agent fuel x0 = some r) :
    Calls Try.prog 194 ⟨[.pointer (some p0_)]⟩ w (Ret fun v w8 => ∃ A0 k0 A1 k1, v = .agg ⟨[.int .i64 r.Kind, .int .i64 r.Level, .int .i64 r.Value, .slice A0 r.Data.length k0, .slice A1 r.Ports.length k1]⟩ ∧ St w w8 [Own ty204 [.slice A1 r.Ports.length k1] r.Ports] ∧ ty22.ro W [.slice A0 r.Data.length k0] r.Data) := by
  obtain ⟨A1, k2, A4, k5, e7, h3, h6⟩ := ty167_open h0_; subst e7
  refine Calls.into Try.func194 rfl 40 rfl rfl _ rfl ?_
  unfold m_spec_l21Agent at hm
  have hS := St.start w
  refine WP.seq ?_
  refine WP.region ?_
  refine RW.new ttok hS rfl rfl rfl rfl (fun g10 w11 e12 hS13 => ?_)
  refine RW.nil ?_
  refine WP.seq ?_
  refine WP.cut (fun (t14 : (Int × Int × Int × (List Int) × (List D.Port))) F w9 => ∃ g15 A16 k17 A19 k20, m_spec_l21Agent_j1 fuel x0 t14 = some r ∧ ty22.ro W [.slice A16 t14.2.2.2.1.length k17] t14.2.2.2.1 ∧ St w w9 [Box g15 [.int .i64 t14.1, .int .i64 t14.2.1, .int .i64 t14.2.2.1, .slice A16 t14.2.2.2.1.length k17, .slice A19 t14.2.2.2.2.length k20] 206, Own ty204 [.slice A19 t14.2.2.2.2.length k20] t14.2.2.2.2, Box g10 [.int .i64 0, .int .i64 0, .int .i64 0, .slice none 0 0, .slice none 0 0] 206] ∧ F = [(0, .pointer (some p0_)), (2, .pointer (some ⟨g10, 0, none⟩)), (3, .pointer (some ⟨g15, 0, none⟩))]) ?_ ?_
  · skip
    rintro t14 F w22 ⟨g15, A16, k17, A19, k20, hm, h18, hS21, rfl⟩
    unfold m_spec_l21Agent_j1 at hm
    refine WP.seq ?_
    refine WP.seq ?_
    refine WP.region ?_
    refine RW.run ttok 1 rfl ?_
    refine RW.nil ?_
    obtain ⟨o34, hl35, hm⟩ := bind_some hm
    refine WP.cut (fun (t25 : (List D.Port)) F w9 => ∃ A31 k32, o34 = .inl t25 ∧ St w w9 [Box g15 [.int .i64 t14.1, .int .i64 t14.2.1, .int .i64 t14.2.2.1, .slice A16 t14.2.2.2.1.length k17, .slice A31 t25.length k32] 206, Own ty204 [.slice A31 t25.length k32] t25, Box g10 [.int .i64 0, .int .i64 0, .int .i64 0, .slice none 0 0, .slice none 0 0] 206] ∧ F = [(2, .pointer (some ⟨g10, 0, none⟩)), (3, .pointer (some ⟨g15, 0, none⟩))]) ?_ ?_
    · skip
      rintro t25 F w33 ⟨A31, k32, ho37, hS36, rfl⟩
      subst ho37
      rw [aft_inl] at hm
      unfold m_spec_l21Agent_j2 at hm
      refine WP.seq ?_
      refine WP.region ?_
      refine RW.loadN ttok rfl rfl rfl rfl rfl ((hS36.bring 0 rfl).box) rfl rfl rfl ?_
      have hS38 := hS36.bring 2 rfl
      refine RW.store ttok (A := []) hS38 rfl rfl rfl rfl rfl 0 rfl rfl rfl rfl rfl (fun w39 hS40 => ?_)
      refine RW.nil ?_
      refine WP.ret ?_
      cases hm
      exact ⟨_, .cons (ResIs.agg ttok rfl rfl rfl ((hS40.bring 0 rfl).box) rfl) .nil, A16, k17, A31, k32, rfl, ((hS40.bring 2 rfl).taken 1), h18⟩
    · skip
      refine WP.block ?_
      refine WP.weak [(0, .pointer (some p0_)), (2, .pointer (some ⟨g10, 0, none⟩)), (3, .pointer (some ⟨g15, 0, none⟩)), (4, .int .i64 0)] ⟨rfl, rfl, rfl, rfl, trivial⟩ ?_
      refine WP.iter (fun (s24 : Int × (List D.Port)) F w9 => ∃ A29 k30, St w w9 [Box g15 [.int .i64 t14.1, .int .i64 t14.2.1, .int .i64 t14.2.2.1, .slice A16 t14.2.2.2.1.length k17, .slice A29 s24.2.length k30] 206, Own ty204 [.slice A29 s24.2.length k30] s24.2, Box g10 [.int .i64 0, .int .i64 0, .int .i64 0, .slice none 0 0, .slice none 0 0] 206] ∧ F = [(0, .pointer (some p0_)), (2, .pointer (some ⟨g10, 0, none⟩)), (3, .pointer (some ⟨g15, 0, none⟩)), (4, .int .i64 s24.1)]) _ hl35 ⟨A19, k20, hS21, rfl⟩ ?_
      rintro s24 F w45 _ o43 ⟨A29, k30, hS44, rfl⟩ hb41 ho42
      unfold m_spec_l21Agent_b1 at hb41
      refine WP.seq ?_
      refine WP.seq ?_
      refine WP.region ?_
      refine RW.run ttok 4 rfl ?_
      refine RW.load1 ttok rfl rfl rfl rfl rfl (At.ext (hE.trans hS44.ext) g0_) 4 rfl rfl rfl rfl ?_
      refine RW.run ttok 2 rfl ?_
      refine RW.nil ?_
      refine WP.cond (decide (s24.1 < (x0.Words.length : Int))) rfl (fun hc => ?_) (fun hc => ?_)
      · skip
        rw [if_pos hc] at hb41
        refine WP.skip ?_
        refine WP.seq ?_
        refine WP.block ?_
        refine WP.region ?_
        refine RW.run ttok 1 rfl ?_
        refine RW.load1 ttok rfl rfl rfl rfl rfl ((hS44.bring 0 rfl).box) 4 rfl rfl rfl rfl ?_
        refine RW.quiet rfl (Quiet.build ttok rfl rfl rfl rfl rfl) rfl rfl ?_
        refine RW.newSlice (U := ty208) (els := [.int .i64 0, .int .i64 0]) (ys := [(⟨0, 0⟩ : D.Port)]) ttok (hS44.flatEls (U := ty208) (els := [.int .i64 0, .int .i64 0]) (ys := [(⟨0, 0⟩ : D.Port)]) ⟨[.int .i64 0, .int .i64 0], _, [], [], rfl, rfl, (ty208_ownI (c := (⟨0, 0⟩ : D.Port)) rfl), ⟨rfl, rfl⟩⟩) rfl rfl rfl rfl rfl rfl rfl rfl rfl rfl rfl rfl (fun A46 k47 w48 e49 hS50 => ?_)
        have hS51 := hS50.bring 2 rfl
        by_cases hk52 : decide ((s24.2.length : Int) + (([(⟨0, 0⟩ : D.Port)] : (List D.Port)).length : Int) ≤ 4294967296) = true
        case neg => rw [if_neg hk52] at hb41; cases hb41
        rw [if_pos hk52] at hb41
        refine RW.appendRo ttok (Flat.map (Flat.pair Flat.int (Flat.pair Flat.int Flat.unit))) hS51 rfl rfl rfl rfl rfl rfl (by decide) rfl rfl ((hS51.bring 1 rfl).own) (of_decide_eq_true hk52) (by decide) rfl rfl (fun A53 k54 w55 hS56 => ?_)
        refine RW.run ttok 1 rfl ?_
        have hS57 := hS56.bring 2 rfl
        refine RW.store ttok (A := []) hS57 rfl rfl rfl rfl rfl 4 rfl rfl rfl rfl rfl (fun w58 hS59 => ?_)
        refine RW.nil ?_
        refine WP.region ?_
        refine RW.run ttok 3 rfl ?_
        refine RW.nil ?_
        cases hb41
        exact ⟨_, [(0, .pointer (some p0_)), (2, .pointer (some ⟨g10, 0, none⟩)), (3, .pointer (some ⟨g15, 0, none⟩)), (4, .int .i64 (w64 (s24.1 + 1)))], ⟨rfl, rfl, rfl, rfl, trivial⟩, rfl, A53, k54, (hS59.bring 2 rfl).drop, rfl⟩
      · skip
        rw [if_neg (not_t hc)] at hb41
        refine WP.exit ?_
        cases hb41
        exact ⟨_, [(2, .pointer (some ⟨g10, 0, none⟩)), (3, .pointer (some ⟨g15, 0, none⟩))], ⟨rfl, rfl, trivial⟩, A29, k30, ho42, hS44, rfl⟩
  · skip
    refine WP.drawnM 1048576 mixed 21 (by kernel_rfl) (by kernel_rfl) [([], 2097151), ([0], 2097150), ([1], 2097149), ([2], 2097147), ([], 2097151), ([4], 2097135), ([5], 2097119), ([6], 2097087), ([], 2097151), ([8], 2096895), ([9], 2096639), ([10], 2096127), ([], 2097151), ([12], 2093055), ([13], 2088959), ([14], 2080767), ([], 2097151), ([16], 2031615), ([3, 7, 11, 15, 17], 1931127), ([], 2097151), ([19, 18, 0, 1, 2, 3, 4, 5, 6, 7, 8, 9, 10, 11, 12, 13, 14, 15, 16, 17, 18, 19], 1310719)] (by kernel_rfl) (fun hsk60 => ?_)
    have hS61 := hS13.step (Ext.draw _)
    refine DM.run (fuel := 9) ttok hsk60 [0, 1, 2, 4, 5, 6, 8, 9, 10, 12, 13, 14] 30583 (by kernel_rfl) (by kernel_rfl) rfl ?_
    refine DM.weak [(0, .pointer (some p0_)), (2, .pointer (some ⟨g10, 0, none⟩)), (7, .pointer (some p0_)), (11, .pointer (some (p0_.add 1))), (15, .pointer (some (p0_.add 2))), (19, .pointer (some (p0_.add 3)))] ⟨rfl, rfl, rfl, rfl, rfl, rfl, trivial⟩ ?_
    refine DM.load1 ttok hsk60 3 30591 (by kernel_rfl) (by kernel_rfl) (by kernel_rfl) (by kernel_rfl) rfl (by kernel_rfl) rfl rfl rfl rfl rfl (At.ext (hE.trans hS13.ext) g0_) 0 rfl rfl rfl rfl ?_
    refine DM.load1 ttok hsk60 7 30719 (by kernel_rfl) (by kernel_rfl) (by kernel_rfl) (by kernel_rfl) rfl (by kernel_rfl) rfl rfl rfl rfl rfl (At.ext (hE.trans hS13.ext) g0_) 1 rfl rfl rfl rfl ?_
    refine DM.load1 ttok hsk60 11 32767 (by kernel_rfl) (by kernel_rfl) (by kernel_rfl) (by kernel_rfl) rfl (by kernel_rfl) rfl rfl rfl rfl rfl (At.ext (hE.trans hS13.ext) g0_) 2 rfl rfl rfl rfl ?_
    refine DM.load1 ttok hsk60 15 65535 (by kernel_rfl) (by kernel_rfl) (by kernel_rfl) (by kernel_rfl) rfl (by kernel_rfl) rfl rfl rfl rfl rfl (At.ext (hE.trans hS13.ext) g0_) 3 rfl rfl rfl rfl ?_
    refine DM.quietP hsk60 16 131071 (by kernel_rfl) (by kernel_rfl) rfl (by kernel_rfl) rfl (fun _ => Quiet.build ttok rfl rfl rfl rfl rfl) rfl rfl ?_
    refine DM.all hsk60 [17, 19] (by kernel_rfl) (by simp) ?_
    intro i75 hi76
    simp only [List.mem_cons, List.not_mem_nil, or_false] at hi76
    rcases hi76 with rfl | rfl
    · skip
      refine LM.newSlice (U := ty208) (els := [.int .i64 0, .int .i64 0]) (ys := [(⟨0, 0⟩ : D.Port)]) ttok (hS61.flatEls (U := ty208) (els := [.int .i64 0, .int .i64 0]) (ys := [(⟨0, 0⟩ : D.Port)]) ⟨[.int .i64 0, .int .i64 0], _, [], [], rfl, rfl, (ty208_ownI (c := (⟨0, 0⟩ : D.Port)) rfl), ⟨rfl, rfl⟩⟩) hsk60 262143 (by kernel_rfl) (by kernel_rfl) rfl rfl rfl rfl rfl rfl rfl rfl rfl rfl rfl rfl rfl (fun A77 k78 w79 e80 hS81 => ?_)
      refine DM.quietP hsk60 18 524287 (by kernel_rfl) (by kernel_rfl) rfl (by kernel_rfl) rfl (fun _ => Quiet.build ttok rfl rfl rfl rfl rfl) rfl rfl ?_
      refine DM.one hsk60 19 (by kernel_rfl) (LM.new ttok hsk60 hS81 1048575 (by kernel_rfl) (by kernel_rfl) rfl rfl rfl rfl rfl (fun g82 w83 e84 hS85 => ?_))
      have hS86 := hS85.bring 0 rfl
      refine DM.one hsk60 20 (by kernel_rfl) (LM.store ttok (A := []) hS86 hsk60 2097151 (by kernel_rfl) (by kernel_rfl) rfl rfl rfl rfl rfl rfl 0 rfl rfl rfl rfl rfl (fun w87 hS88 => ?_))
      refine DM.done hsk60 (by kernel_rfl) ?_
      exact ⟨(x0.Kind, x0.Level, x0.Value, x0.Data, ([(⟨0, 0⟩ : D.Port)] : (List D.Port))), [(0, .pointer (some p0_)), (2, .pointer (some ⟨g10, 0, none⟩)), (3, .pointer (some ⟨g82, 0, none⟩))], ⟨rfl, rfl, rfl, trivial⟩, g82, A1, k2, A77, k78, hm, h3, hS88, rfl⟩
    · skip
      refine LM.new ttok hsk60 hS61 655359 (by kernel_rfl) (by kernel_rfl) rfl rfl rfl rfl rfl (fun g89 w90 e91 hS92 => ?_)
      refine DM.one hsk60 17 (by kernel_rfl) (LM.newSlice (U := ty208) (els := [.int .i64 0, .int .i64 0]) (ys := [(⟨0, 0⟩ : D.Port)]) ttok (hS92.flatEls (U := ty208) (els := [.int .i64 0, .int .i64 0]) (ys := [(⟨0, 0⟩ : D.Port)]) ⟨[.int .i64 0, .int .i64 0], _, [], [], rfl, rfl, (ty208_ownI (c := (⟨0, 0⟩ : D.Port)) rfl), ⟨rfl, rfl⟩⟩) hsk60 786431 (by kernel_rfl) (by kernel_rfl) rfl rfl rfl rfl rfl rfl rfl rfl rfl rfl rfl rfl rfl (fun A93 k94 w95 e96 hS97 => ?_))
      refine DM.quietP hsk60 18 1048575 (by kernel_rfl) (by kernel_rfl) rfl (by kernel_rfl) rfl (fun _ => Quiet.build ttok rfl rfl rfl rfl rfl) rfl rfl ?_
      have hS98 := hS97.bring 1 rfl
      refine DM.one hsk60 20 (by kernel_rfl) (LM.store ttok (A := []) hS98 hsk60 2097151 (by kernel_rfl) (by kernel_rfl) rfl rfl rfl rfl rfl rfl 0 rfl rfl rfl rfl rfl (fun w99 hS100 => ?_))
      refine DM.done hsk60 (by kernel_rfl) ?_
      exact ⟨(x0.Kind, x0.Level, x0.Value, x0.Data, ([(⟨0, 0⟩ : D.Port)] : (List D.Port))), [(0, .pointer (some p0_)), (2, .pointer (some ⟨g10, 0, none⟩)), (3, .pointer (some ⟨g89, 0, none⟩))], ⟨rfl, rfl, rfl, trivial⟩, g89, A1, k2, A93, k94, hm, h3, hS100, rfl⟩

theorem enters227 : Enters Try.prog 227 := ⟨_, _, Try.func227, rfl, by kernel_rfl⟩
def m_spec_l11Fields (fuel : Nat) (x0 : D.Agent) : Option (Int) := (if (x0.Kind == 9) = true then some (w64 ((x0.Ports.length : Int) - 1)) else some 0)

set_option maxRecDepth 100000 in
theorem spec_l11Fields_ok {W w : World} (hE : Ext W w) {p0_ : Addr} {c0_ : List Value} {x0 : D.Agent} (h0_ : ty206.ro W c0_ x0) (g0_ : At W p0_ c0_) {fuel : Nat} {r : Int} (hm : m_spec_l11Fields fuel x0 = some r) :
    Calls Try.prog 227 ⟨[.pointer (some p0_)]⟩ w (Ret fun v w8 => v = .int .i64 r ∧ St w w8 []) := by
  obtain ⟨A1, k2, A4, k5, e7, h3, h6⟩ := ty206_open h0_; subst e7
  refine Calls.into Try.func227 rfl 14 rfl rfl _ rfl ?_
  unfold m_spec_l11Fields at hm
  have hS := St.start w
  refine WP.seq ?_
  refine WP.region ?_
  refine RW.run ttok 1 rfl ?_
  refine RW.nil ?_
  refine WP.seq ?_
  refine WP.seq ?_
  refine WP.region ?_
  refine RW.run ttok 3 rfl ?_
  refine RW.load1 ttok rfl rfl rfl rfl rfl (At.ext (hE.trans hS.ext) g0_) 0 rfl rfl rfl rfl ?_
  refine RW.run ttok 1 rfl ?_
  refine RW.nil ?_
  refine WP.cond (x0.Kind == 9) rfl (fun hc => ?_) (fun hc => ?_)
  · skip
    rw [if_pos hc] at hm
    refine WP.seq ?_
    refine WP.region ?_
    refine RW.run ttok 3 rfl ?_
    refine RW.load1 ttok rfl rfl rfl rfl rfl (At.ext (hE.trans hS.ext) g0_) 4 rfl rfl rfl rfl ?_
    refine RW.run ttok 3 rfl ?_
    refine RW.nil ?_
    refine WP.ret ?_
    cases hm
    exact ⟨_, .cons (.tmp rfl) .nil, rfl, hS⟩
  · skip
    rw [if_neg (not_t hc)] at hm
    refine WP.skip ?_
    refine WP.seq ?_
    refine WP.region ?_
    refine RW.run ttok 1 rfl ?_
    refine RW.nil ?_
    refine WP.ret ?_
    cases hm
    exact ⟨_, .cons (.tmp rfl) .nil, rfl, hS⟩

theorem enters226 : Enters Try.prog 226 := ⟨_, _, Try.func226, rfl, by kernel_rfl⟩
def m_spec_PortsOf_j3 (fuel : Nat) (t20 : Bool) : Option Int := (if t20 = true then some 3 else some 0)
def m_spec_PortsOf_j4 (fuel : Nat) (t25 : Bool) : Option Int := m_spec_PortsOf_j3 fuel t25
def m_spec_PortsOf_j5 (fuel : Nat) (t30 : Bool) : Option Int := m_spec_PortsOf_j4 fuel t30
def m_spec_PortsOf_j2 (fuel : Nat) (x0 : Int) (t15 : Bool) : Option Int := (if t15 = true then some 2 else (if (x0 == 2) = true then m_spec_PortsOf_j3 fuel (x0 == 2) else (if (x0 == 3) = true then m_spec_PortsOf_j4 fuel (x0 == 3) else (if (x0 == 4) = true then m_spec_PortsOf_j5 fuel (x0 == 4) else m_spec_PortsOf_j5 fuel (x0 == 7)))))
def m_spec_PortsOf_j6 (fuel : Nat) (x0 : Int) (t35 : Bool) : Option Int := m_spec_PortsOf_j2 fuel x0 t35
def m_spec_PortsOf_j1 (fuel : Nat) (x0 : Int) (t10 : Bool) : Option Int := (if t10 = true then some 1 else (if (x0 == 8) = true then m_spec_PortsOf_j2 fuel x0 (x0 == 8) else (if (x0 == 10) = true then m_spec_PortsOf_j6 fuel x0 (x0 == 10) else m_spec_PortsOf_j6 fuel x0 (x0 == 11))))
def m_spec_PortsOf_j7 (fuel : Nat) (x0 : Int) (t40 : Bool) : Option Int := m_spec_PortsOf_j1 fuel x0 t40
def m_spec_PortsOf_j8 (fuel : Nat) (x0 : Int) (t45 : Bool) : Option Int := m_spec_PortsOf_j7 fuel x0 t45
def m_spec_PortsOf (fuel : Nat) (x0 : Int) (x1 : Int) : Option (Int) := (if (x0 == 9) = true then ((m_spec_l00In fuel x1 0 3).bind fun r1 => (if r1 = true then some (w64 (1 + x1)) else some 0)) else (if (x1 != 0) = true then some 0 else (if (x0 == 1) = true then m_spec_PortsOf_j1 fuel x0 (x0 == 1) else (if (x0 == 5) = true then m_spec_PortsOf_j7 fuel x0 (x0 == 5) else (if (x0 == 6) = true then m_spec_PortsOf_j8 fuel x0 (x0 == 6) else m_spec_PortsOf_j8 fuel x0 (x0 == 12))))))

set_option maxRecDepth 100000 in
theorem spec_PortsOf_ok {W w : World} (hE : Ext W w) {x0 : Int} {x1 : Int}  {fuel : Nat} {r : Int} (hm : m_spec_PortsOf fuel x0 x1 = some r) :
    Calls Try.prog 226 ⟨[.int .i64 x0, .int .i64 x1]⟩ w (Ret fun v w8 => v = .int .i64 r ∧ St w w8 []) := by
  refine Calls.into Try.func226 rfl 28 rfl rfl _ rfl ?_
  unfold m_spec_PortsOf at hm
  have hS := St.start w
  refine WP.seq ?_
  refine WP.region ?_
  refine RW.run ttok 1 rfl ?_
  refine RW.nil ?_
  refine WP.seq ?_
  refine WP.seq ?_
  refine WP.region ?_
  refine RW.run ttok 2 rfl ?_
  refine RW.nil ?_
  refine WP.cond (x0 == 9) rfl (fun hc => ?_) (fun hc => ?_)
  · skip
    rw [if_pos hc] at hm
    refine WP.seq ?_
    refine WP.seq ?_
    refine WP.region ?_
    refine RW.run ttok 1 rfl ?_
    obtain ⟨r1, hx2, hm⟩ := bind_some hm
    refine RW.call rfl rfl rfl enters67 (spec_l00In_ok (hE.trans hS.ext)  hx2) (fun v3 w4 hR5 => ?_)
    obtain ⟨rfl, hR6⟩ := hR5
    have hS7 := hS.join hR6
    refine RW.nil ?_
    refine WP.cond r1 rfl (fun hc => ?_) (fun hc => ?_)
    · skip
      rw [if_pos hc] at hm
      refine WP.seq ?_
      refine WP.region ?_
      refine RW.run ttok 3 rfl ?_
      refine RW.nil ?_
      refine WP.ret ?_
      cases hm
      exact ⟨_, .cons (.tmp rfl) .nil, rfl, hS7⟩
    · skip
      rw [if_neg (not_t hc)] at hm
      refine WP.skip ?_
      refine WP.seq ?_
      refine WP.region ?_
      refine RW.run ttok 1 rfl ?_
      refine RW.nil ?_
      refine WP.ret ?_
      cases hm
      exact ⟨_, .cons (.tmp rfl) .nil, rfl, hS7⟩
  · skip
    rw [if_neg (not_t hc)] at hm
    refine WP.skip ?_
    refine WP.seq ?_
    refine WP.seq ?_
    refine WP.region ?_
    refine RW.run ttok 2 rfl ?_
    refine RW.nil ?_
    refine WP.cond (x1 != 0) rfl (fun hc => ?_) (fun hc => ?_)
    · skip
      rw [if_pos hc] at hm
      refine WP.seq ?_
      refine WP.region ?_
      refine RW.run ttok 1 rfl ?_
      refine RW.nil ?_
      refine WP.ret ?_
      cases hm
      exact ⟨_, .cons (.tmp rfl) .nil, rfl, hS⟩
    · skip
      rw [if_neg (not_t hc)] at hm
      refine WP.skip ?_
      refine WP.seq ?_
      refine WP.seq ?_
      refine WP.region ?_
      refine RW.run ttok 1 rfl ?_
      refine RW.nil ?_
      refine WP.block ?_
      refine WP.seq ?_
      refine WP.seq ?_
      refine WP.region ?_
      refine RW.run ttok 2 rfl ?_
      refine RW.nil ?_
      refine WP.cut (fun (t10 : Bool) F w9 => m_spec_PortsOf_j1 fuel x0 t10 = some r ∧ Ext w w9 ∧ St w w9 [] ∧ F = [(13, .int .i64 x0), (14, .bool t10)]) ?_ ?_
      · skip
        rintro t10 F w13 ⟨hm, hE11, hS12, rfl⟩
        unfold m_spec_PortsOf_j1 at hm
        refine WP.cond t10 rfl (fun hc => ?_) (fun hc => ?_)
        · skip
          rw [if_pos hc] at hm
          refine WP.seq ?_
          refine WP.region ?_
          refine RW.run ttok 1 rfl ?_
          refine RW.nil ?_
          refine WP.ret ?_
          cases hm
          exact ⟨_, .cons (.tmp rfl) .nil, rfl, hS12⟩
        · skip
          rw [if_neg (not_t hc)] at hm
          refine WP.seq ?_
          refine WP.seq ?_
          refine WP.region ?_
          refine RW.run ttok 2 rfl ?_
          refine RW.nil ?_
          refine WP.cut (fun (t15 : Bool) F w9 => m_spec_PortsOf_j2 fuel x0 t15 = some r ∧ Ext w13 w9 ∧ St w w9 [] ∧ F = [(13, .int .i64 x0), (19, .bool t15)]) ?_ ?_
          · skip
            rintro t15 F w18 ⟨hm, hE16, hS17, rfl⟩
            unfold m_spec_PortsOf_j2 at hm
            refine WP.cond t15 rfl (fun hc => ?_) (fun hc => ?_)
            · skip
              rw [if_pos hc] at hm
              refine WP.seq ?_
              refine WP.region ?_
              refine RW.run ttok 1 rfl ?_
              refine RW.nil ?_
              refine WP.ret ?_
              cases hm
              exact ⟨_, .cons (.tmp rfl) .nil, rfl, hS17⟩
            · skip
              rw [if_neg (not_t hc)] at hm
              refine WP.seq ?_
              refine WP.seq ?_
              refine WP.region ?_
              refine RW.run ttok 2 rfl ?_
              refine RW.nil ?_
              refine WP.cut (fun (t20 : Bool) F w9 => m_spec_PortsOf_j3 fuel t20 = some r ∧ Ext w18 w9 ∧ St w w9 [] ∧ F = [(23, .bool t20)]) ?_ ?_
              · skip
                rintro t20 F w23 ⟨hm, hE21, hS22, rfl⟩
                unfold m_spec_PortsOf_j3 at hm
                refine WP.cond t20 rfl (fun hc => ?_) (fun hc => ?_)
                · skip
                  rw [if_pos hc] at hm
                  refine WP.seq ?_
                  refine WP.region ?_
                  refine RW.run ttok 1 rfl ?_
                  refine RW.nil ?_
                  refine WP.ret ?_
                  cases hm
                  exact ⟨_, .cons (.tmp rfl) .nil, rfl, hS22⟩
                · skip
                  rw [if_neg (not_t hc)] at hm
                  refine WP.skip ?_
                  refine WP.seq ?_
                  refine WP.region ?_
                  refine RW.run ttok 1 rfl ?_
                  refine RW.nil ?_
                  refine WP.ret ?_
                  cases hm
                  exact ⟨_, .cons (.tmp rfl) .nil, rfl, hS22⟩
              · skip
                refine WP.cond (x0 == 2) rfl (fun hc => ?_) (fun hc => ?_)
                · skip
                  rw [if_pos hc] at hm
                  refine WP.skip ?_
                  exact ⟨(x0 == 2), [(23, .bool (x0 == 2))], ⟨rfl, trivial⟩, hm, (Ext.refl _), hS17, rfl⟩
                · skip
                  rw [if_neg (not_t hc)] at hm
                  refine WP.seq ?_
                  refine WP.region ?_
                  refine RW.run ttok 2 rfl ?_
                  refine RW.nil ?_
                  refine WP.cut (fun (t25 : Bool) F w9 => m_spec_PortsOf_j4 fuel t25 = some r ∧ Ext w18 w9 ∧ St w w9 [] ∧ F = [(23, .bool t25)]) ?_ ?_
                  · skip
                    rintro t25 F w28 ⟨hm, hE26, hS27, rfl⟩
                    unfold m_spec_PortsOf_j4 at hm
                    exact ⟨t25, [(23, .bool t25)], ⟨rfl, trivial⟩, hm, hE26, hS27, rfl⟩
                  · skip
                    refine WP.cond (x0 == 3) rfl (fun hc => ?_) (fun hc => ?_)
                    · skip
                      rw [if_pos hc] at hm
                      refine WP.skip ?_
                      exact ⟨(x0 == 3), [(23, .bool (x0 == 3))], ⟨rfl, trivial⟩, hm, (Ext.refl _), hS17, rfl⟩
                    · skip
                      rw [if_neg (not_t hc)] at hm
                      refine WP.seq ?_
                      refine WP.region ?_
                      refine RW.run ttok 2 rfl ?_
                      refine RW.nil ?_
                      refine WP.cut (fun (t30 : Bool) F w9 => m_spec_PortsOf_j5 fuel t30 = some r ∧ Ext w18 w9 ∧ St w w9 [] ∧ F = [(23, .bool t30)]) ?_ ?_
                      · skip
                        rintro t30 F w33 ⟨hm, hE31, hS32, rfl⟩
                        unfold m_spec_PortsOf_j5 at hm
                        exact ⟨t30, [(23, .bool t30)], ⟨rfl, trivial⟩, hm, hE31, hS32, rfl⟩
                      · skip
                        refine WP.cond (x0 == 4) rfl (fun hc => ?_) (fun hc => ?_)
                        · skip
                          rw [if_pos hc] at hm
                          refine WP.skip ?_
                          exact ⟨(x0 == 4), [(23, .bool (x0 == 4))], ⟨rfl, trivial⟩, hm, (Ext.refl _), hS17, rfl⟩
                        · skip
                          rw [if_neg (not_t hc)] at hm
                          refine WP.region ?_
                          refine RW.run ttok 2 rfl ?_
                          refine RW.nil ?_
                          exact ⟨(x0 == 7), [(23, .bool (x0 == 7))], ⟨rfl, trivial⟩, hm, (Ext.refl _), hS17, rfl⟩
          · skip
            refine WP.cond (x0 == 8) rfl (fun hc => ?_) (fun hc => ?_)
            · skip
              rw [if_pos hc] at hm
              refine WP.skip ?_
              exact ⟨(x0 == 8), [(13, .int .i64 x0), (19, .bool (x0 == 8))], ⟨rfl, rfl, trivial⟩, hm, (Ext.refl _), hS12, rfl⟩
            · skip
              rw [if_neg (not_t hc)] at hm
              refine WP.seq ?_
              refine WP.region ?_
              refine RW.run ttok 2 rfl ?_
              refine RW.nil ?_
              refine WP.cut (fun (t35 : Bool) F w9 => m_spec_PortsOf_j6 fuel x0 t35 = some r ∧ Ext w13 w9 ∧ St w w9 [] ∧ F = [(13, .int .i64 x0), (19, .bool t35)]) ?_ ?_
              · skip
                rintro t35 F w38 ⟨hm, hE36, hS37, rfl⟩
                unfold m_spec_PortsOf_j6 at hm
                exact ⟨t35, [(13, .int .i64 x0), (19, .bool t35)], ⟨rfl, rfl, trivial⟩, hm, hE36, hS37, rfl⟩
              · skip
                refine WP.cond (x0 == 10) rfl (fun hc => ?_) (fun hc => ?_)
                · skip
                  rw [if_pos hc] at hm
                  refine WP.skip ?_
                  exact ⟨(x0 == 10), [(13, .int .i64 x0), (19, .bool (x0 == 10))], ⟨rfl, rfl, trivial⟩, hm, (Ext.refl _), hS12, rfl⟩
                · skip
                  rw [if_neg (not_t hc)] at hm
                  refine WP.region ?_
                  refine RW.run ttok 2 rfl ?_
                  refine RW.nil ?_
                  exact ⟨(x0 == 11), [(13, .int .i64 x0), (19, .bool (x0 == 11))], ⟨rfl, rfl, trivial⟩, hm, (Ext.refl _), hS12, rfl⟩
      · skip
        refine WP.cond (x0 == 1) rfl (fun hc => ?_) (fun hc => ?_)
        · skip
          rw [if_pos hc] at hm
          refine WP.skip ?_
          exact ⟨(x0 == 1), [(13, .int .i64 x0), (14, .bool (x0 == 1))], ⟨rfl, rfl, trivial⟩, hm, (Ext.refl _), hS, rfl⟩
        · skip
          rw [if_neg (not_t hc)] at hm
          refine WP.seq ?_
          refine WP.region ?_
          refine RW.run ttok 2 rfl ?_
          refine RW.nil ?_
          refine WP.cut (fun (t40 : Bool) F w9 => m_spec_PortsOf_j7 fuel x0 t40 = some r ∧ Ext w w9 ∧ St w w9 [] ∧ F = [(13, .int .i64 x0), (14, .bool t40)]) ?_ ?_
          · skip
            rintro t40 F w43 ⟨hm, hE41, hS42, rfl⟩
            unfold m_spec_PortsOf_j7 at hm
            exact ⟨t40, [(13, .int .i64 x0), (14, .bool t40)], ⟨rfl, rfl, trivial⟩, hm, hE41, hS42, rfl⟩
          · skip
            refine WP.cond (x0 == 5) rfl (fun hc => ?_) (fun hc => ?_)
            · skip
              rw [if_pos hc] at hm
              refine WP.skip ?_
              exact ⟨(x0 == 5), [(13, .int .i64 x0), (14, .bool (x0 == 5))], ⟨rfl, rfl, trivial⟩, hm, (Ext.refl _), hS, rfl⟩
            · skip
              rw [if_neg (not_t hc)] at hm
              refine WP.seq ?_
              refine WP.region ?_
              refine RW.run ttok 2 rfl ?_
              refine RW.nil ?_
              refine WP.cut (fun (t45 : Bool) F w9 => m_spec_PortsOf_j8 fuel x0 t45 = some r ∧ Ext w w9 ∧ St w w9 [] ∧ F = [(13, .int .i64 x0), (14, .bool t45)]) ?_ ?_
              · skip
                rintro t45 F w48 ⟨hm, hE46, hS47, rfl⟩
                unfold m_spec_PortsOf_j8 at hm
                exact ⟨t45, [(13, .int .i64 x0), (14, .bool t45)], ⟨rfl, rfl, trivial⟩, hm, hE46, hS47, rfl⟩
              · skip
                refine WP.cond (x0 == 6) rfl (fun hc => ?_) (fun hc => ?_)
                · skip
                  rw [if_pos hc] at hm
                  refine WP.skip ?_
                  exact ⟨(x0 == 6), [(13, .int .i64 x0), (14, .bool (x0 == 6))], ⟨rfl, rfl, trivial⟩, hm, (Ext.refl _), hS, rfl⟩
                · skip
                  rw [if_neg (not_t hc)] at hm
                  refine WP.region ?_
                  refine RW.run ttok 2 rfl ?_
                  refine RW.nil ?_
                  exact ⟨(x0 == 12), [(13, .int .i64 x0), (14, .bool (x0 == 12))], ⟨rfl, rfl, trivial⟩, hm, (Ext.refl _), hS, rfl⟩

theorem enters243 : Enters Try.prog 243 := ⟨_, _, Try.func243, rfl, by kernel_rfl⟩
def m_spec_HasLevel_j1 (fuel : Nat) (t1 : Bool) : Option Bool := (if t1 = true then some true else some false)
def m_spec_HasLevel_j2 (fuel : Nat) (t6 : Bool) : Option Bool := m_spec_HasLevel_j1 fuel t6
def m_spec_HasLevel_j3 (fuel : Nat) (t13 : Bool) : Option Bool := m_spec_HasLevel_j2 fuel t13
def m_spec_HasLevel_j4 (fuel : Nat) (t18 : Bool) : Option Bool := m_spec_HasLevel_j3 fuel t18
def m_spec_HasLevel_j5 (fuel : Nat) (t23 : Bool) : Option Bool := m_spec_HasLevel_j4 fuel t23
def m_spec_HasLevel_j6 (fuel : Nat) (t28 : Bool) : Option Bool := m_spec_HasLevel_j5 fuel t28
def m_spec_HasLevel_j7 (fuel : Nat) (t33 : Bool) : Option Bool := m_spec_HasLevel_j6 fuel t33
def m_spec_HasLevel_j8 (fuel : Nat) (t38 : Bool) : Option Bool := m_spec_HasLevel_j7 fuel t38
def m_spec_HasLevel (fuel : Nat) (x0 : Int) : Option (Bool) := (if (x0 == 2) = true then m_spec_HasLevel_j1 fuel (x0 == 2) else (if (x0 == 3) = true then m_spec_HasLevel_j2 fuel (x0 == 3) else (if (x0 == 4) = true then m_spec_HasLevel_j3 fuel (x0 == 4) else (if (x0 == 7) = true then m_spec_HasLevel_j4 fuel (x0 == 7) else (if (x0 == 8) = true then m_spec_HasLevel_j5 fuel (x0 == 8) else (if (x0 == 9) = true then m_spec_HasLevel_j6 fuel (x0 == 9) else (if (x0 == 10) = true then m_spec_HasLevel_j7 fuel (x0 == 10) else (if (x0 == 11) = true then m_spec_HasLevel_j8 fuel (x0 == 11) else m_spec_HasLevel_j8 fuel (x0 == 12)))))))))

set_option maxRecDepth 100000 in
theorem spec_HasLevel_ok {W w : World} (hE : Ext W w) {x0 : Int}  {fuel : Nat} {r : Bool} (hm : m_spec_HasLevel fuel x0 = some r) :
    Calls Try.prog 243 ⟨[.int .i64 x0]⟩ w (Ret fun v w8 => v = .bool r ∧ St w w8 []) := by
  refine Calls.into Try.func243 rfl 14 rfl rfl _ rfl ?_
  unfold m_spec_HasLevel at hm
  have hS := St.start w
  refine WP.seq ?_
  refine WP.region ?_
  refine RW.run ttok 1 rfl ?_
  refine RW.nil ?_
  refine WP.seq ?_
  refine WP.seq ?_
  refine WP.region ?_
  refine RW.run ttok 1 rfl ?_
  refine RW.nil ?_
  refine WP.block ?_
  refine WP.seq ?_
  refine WP.seq ?_
  refine WP.region ?_
  refine RW.run ttok 2 rfl ?_
  refine RW.nil ?_
  refine WP.cut (fun (t1 : Bool) F w9 => m_spec_HasLevel_j1 fuel t1 = some r ∧ Ext w w9 ∧ St w w9 [] ∧ F = [(4, .bool t1)]) ?_ ?_
  · skip
    rintro t1 F w4 ⟨hm, hE2, hS3, rfl⟩
    unfold m_spec_HasLevel_j1 at hm
    refine WP.cond t1 rfl (fun hc => ?_) (fun hc => ?_)
    · skip
      rw [if_pos hc] at hm
      refine WP.seq ?_
      refine WP.region ?_
      refine RW.run ttok 1 rfl ?_
      refine RW.nil ?_
      refine WP.ret ?_
      cases hm
      exact ⟨_, .cons (.tmp rfl) .nil, rfl, hS3⟩
    · skip
      rw [if_neg (not_t hc)] at hm
      refine WP.skip ?_
      refine WP.seq ?_
      refine WP.region ?_
      refine RW.run ttok 1 rfl ?_
      refine RW.nil ?_
      refine WP.ret ?_
      cases hm
      exact ⟨_, .cons (.tmp rfl) .nil, rfl, hS3⟩
  · skip
    refine WP.cond (x0 == 2) rfl (fun hc => ?_) (fun hc => ?_)
    · skip
      rw [if_pos hc] at hm
      refine WP.skip ?_
      exact ⟨(x0 == 2), [(4, .bool (x0 == 2))], ⟨rfl, trivial⟩, hm, (Ext.refl _), hS, rfl⟩
    · skip
      rw [if_neg (not_t hc)] at hm
      refine WP.seq ?_
      refine WP.region ?_
      refine RW.run ttok 2 rfl ?_
      refine RW.nil ?_
      refine WP.cut (fun (t6 : Bool) F w9 => m_spec_HasLevel_j2 fuel t6 = some r ∧ Ext w w9 ∧ St w w9 [] ∧ F = [(4, .bool t6)]) ?_ ?_
      · skip
        rintro t6 F w11 ⟨hm, hE7, hS10, rfl⟩
        unfold m_spec_HasLevel_j2 at hm
        exact ⟨t6, [(4, .bool t6)], ⟨rfl, trivial⟩, hm, hE7, hS10, rfl⟩
      · skip
        refine WP.cond (x0 == 3) rfl (fun hc => ?_) (fun hc => ?_)
        · skip
          rw [if_pos hc] at hm
          refine WP.skip ?_
          exact ⟨(x0 == 3), [(4, .bool (x0 == 3))], ⟨rfl, trivial⟩, hm, (Ext.refl _), hS, rfl⟩
        · skip
          rw [if_neg (not_t hc)] at hm
          refine WP.seq ?_
          refine WP.region ?_
          refine RW.run ttok 2 rfl ?_
          refine RW.nil ?_
          refine WP.cut (fun (t13 : Bool) F w9 => m_spec_HasLevel_j3 fuel t13 = some r ∧ Ext w w9 ∧ St w w9 [] ∧ F = [(4, .bool t13)]) ?_ ?_
          · skip
            rintro t13 F w16 ⟨hm, hE14, hS15, rfl⟩
            unfold m_spec_HasLevel_j3 at hm
            exact ⟨t13, [(4, .bool t13)], ⟨rfl, trivial⟩, hm, hE14, hS15, rfl⟩
          · skip
            refine WP.cond (x0 == 4) rfl (fun hc => ?_) (fun hc => ?_)
            · skip
              rw [if_pos hc] at hm
              refine WP.skip ?_
              exact ⟨(x0 == 4), [(4, .bool (x0 == 4))], ⟨rfl, trivial⟩, hm, (Ext.refl _), hS, rfl⟩
            · skip
              rw [if_neg (not_t hc)] at hm
              refine WP.seq ?_
              refine WP.region ?_
              refine RW.run ttok 2 rfl ?_
              refine RW.nil ?_
              refine WP.cut (fun (t18 : Bool) F w9 => m_spec_HasLevel_j4 fuel t18 = some r ∧ Ext w w9 ∧ St w w9 [] ∧ F = [(4, .bool t18)]) ?_ ?_
              · skip
                rintro t18 F w21 ⟨hm, hE19, hS20, rfl⟩
                unfold m_spec_HasLevel_j4 at hm
                exact ⟨t18, [(4, .bool t18)], ⟨rfl, trivial⟩, hm, hE19, hS20, rfl⟩
              · skip
                refine WP.cond (x0 == 7) rfl (fun hc => ?_) (fun hc => ?_)
                · skip
                  rw [if_pos hc] at hm
                  refine WP.skip ?_
                  exact ⟨(x0 == 7), [(4, .bool (x0 == 7))], ⟨rfl, trivial⟩, hm, (Ext.refl _), hS, rfl⟩
                · skip
                  rw [if_neg (not_t hc)] at hm
                  refine WP.seq ?_
                  refine WP.region ?_
                  refine RW.run ttok 2 rfl ?_
                  refine RW.nil ?_
                  refine WP.cut (fun (t23 : Bool) F w9 => m_spec_HasLevel_j5 fuel t23 = some r ∧ Ext w w9 ∧ St w w9 [] ∧ F = [(4, .bool t23)]) ?_ ?_
                  · skip
                    rintro t23 F w26 ⟨hm, hE24, hS25, rfl⟩
                    unfold m_spec_HasLevel_j5 at hm
                    exact ⟨t23, [(4, .bool t23)], ⟨rfl, trivial⟩, hm, hE24, hS25, rfl⟩
                  · skip
                    refine WP.cond (x0 == 8) rfl (fun hc => ?_) (fun hc => ?_)
                    · skip
                      rw [if_pos hc] at hm
                      refine WP.skip ?_
                      exact ⟨(x0 == 8), [(4, .bool (x0 == 8))], ⟨rfl, trivial⟩, hm, (Ext.refl _), hS, rfl⟩
                    · skip
                      rw [if_neg (not_t hc)] at hm
                      refine WP.seq ?_
                      refine WP.region ?_
                      refine RW.run ttok 2 rfl ?_
                      refine RW.nil ?_
                      refine WP.cut (fun (t28 : Bool) F w9 => m_spec_HasLevel_j6 fuel t28 = some r ∧ Ext w w9 ∧ St w w9 [] ∧ F = [(4, .bool t28)]) ?_ ?_
                      · skip
                        rintro t28 F w31 ⟨hm, hE29, hS30, rfl⟩
                        unfold m_spec_HasLevel_j6 at hm
                        exact ⟨t28, [(4, .bool t28)], ⟨rfl, trivial⟩, hm, hE29, hS30, rfl⟩
                      · skip
                        refine WP.cond (x0 == 9) rfl (fun hc => ?_) (fun hc => ?_)
                        · skip
                          rw [if_pos hc] at hm
                          refine WP.skip ?_
                          exact ⟨(x0 == 9), [(4, .bool (x0 == 9))], ⟨rfl, trivial⟩, hm, (Ext.refl _), hS, rfl⟩
                        · skip
                          rw [if_neg (not_t hc)] at hm
                          refine WP.seq ?_
                          refine WP.region ?_
                          refine RW.run ttok 2 rfl ?_
                          refine RW.nil ?_
                          refine WP.cut (fun (t33 : Bool) F w9 => m_spec_HasLevel_j7 fuel t33 = some r ∧ Ext w w9 ∧ St w w9 [] ∧ F = [(4, .bool t33)]) ?_ ?_
                          · skip
                            rintro t33 F w36 ⟨hm, hE34, hS35, rfl⟩
                            unfold m_spec_HasLevel_j7 at hm
                            exact ⟨t33, [(4, .bool t33)], ⟨rfl, trivial⟩, hm, hE34, hS35, rfl⟩
                          · skip
                            refine WP.cond (x0 == 10) rfl (fun hc => ?_) (fun hc => ?_)
                            · skip
                              rw [if_pos hc] at hm
                              refine WP.skip ?_
                              exact ⟨(x0 == 10), [(4, .bool (x0 == 10))], ⟨rfl, trivial⟩, hm, (Ext.refl _), hS, rfl⟩
                            · skip
                              rw [if_neg (not_t hc)] at hm
                              refine WP.seq ?_
                              refine WP.region ?_
                              refine RW.run ttok 2 rfl ?_
                              refine RW.nil ?_
                              refine WP.cut (fun (t38 : Bool) F w9 => m_spec_HasLevel_j8 fuel t38 = some r ∧ Ext w w9 ∧ St w w9 [] ∧ F = [(4, .bool t38)]) ?_ ?_
                              · skip
                                rintro t38 F w41 ⟨hm, hE39, hS40, rfl⟩
                                unfold m_spec_HasLevel_j8 at hm
                                exact ⟨t38, [(4, .bool t38)], ⟨rfl, trivial⟩, hm, hE39, hS40, rfl⟩
                              · skip
                                refine WP.cond (x0 == 11) rfl (fun hc => ?_) (fun hc => ?_)
                                · skip
                                  rw [if_pos hc] at hm
                                  refine WP.skip ?_
                                  exact ⟨(x0 == 11), [(4, .bool (x0 == 11))], ⟨rfl, trivial⟩, hm, (Ext.refl _), hS, rfl⟩
                                · skip
                                  rw [if_neg (not_t hc)] at hm
                                  refine WP.region ?_
                                  refine RW.run ttok 2 rfl ?_
                                  refine RW.nil ?_
                                  exact ⟨(x0 == 12), [(4, .bool (x0 == 12))], ⟨rfl, trivial⟩, hm, (Ext.refl _), hS, rfl⟩

theorem enters244 : Enters Try.prog 244 := ⟨_, _, Try.func244, rfl, by kernel_rfl⟩
def m_spec_l10Kind (fuel : Nat) (x0 : Int) : Option (Bool) := ((m_spec_l00In fuel x0 1 12).bind fun r1 => some r1)

set_option maxRecDepth 100000 in
theorem spec_l10Kind_ok {W w : World} (hE : Ext W w) {x0 : Int}  {fuel : Nat} {r : Bool} (hm : m_spec_l10Kind fuel x0 = some r) :
    Calls Try.prog 244 ⟨[.int .i64 x0]⟩ w (Ret fun v w8 => v = .bool r ∧ St w w8 []) := by
  refine Calls.into Try.func244 rfl 5 rfl rfl _ rfl ?_
  unfold m_spec_l10Kind at hm
  have hS := St.start w
  refine WP.seq ?_
  refine WP.region ?_
  refine RW.run ttok 1 rfl ?_
  refine RW.nil ?_
  refine WP.seq ?_
  refine WP.region ?_
  refine RW.run ttok 1 rfl ?_
  obtain ⟨r1, hx2, hm⟩ := bind_some hm
  refine RW.call rfl rfl rfl enters67 (spec_l00In_ok (hE.trans hS.ext)  hx2) (fun v3 w4 hR5 => ?_)
  obtain ⟨rfl, hR6⟩ := hR5
  have hS7 := hS.join hR6
  refine RW.run ttok 1 rfl ?_
  refine RW.nil ?_
  refine WP.ret ?_
  cases hm
  exact ⟨_, .cons (.tmp rfl) .nil, rfl, hS7⟩

theorem enters228 : Enters Try.prog 228 := ⟨_, _, Try.func228, rfl, by kernel_rfl⟩
def m_spec_l10Level (fuel : Nat) (x0 : Int) (x1 : Int) : Option (Bool) := ((m_spec_HasLevel fuel x0).bind fun r1 => (if r1 = true then ((m_spec_l00In fuel x1 0 8).bind fun r10 => some r10) else ((m_spec_l10Kind fuel x0).bind fun r17 => (if r17 = true then some (x1 == 0) else some false))))

set_option maxRecDepth 100000 in
theorem spec_l10Level_ok {W w : World} (hE : Ext W w) {x0 : Int} {x1 : Int}  {fuel : Nat} {r : Bool} (hm : m_spec_l10Level fuel x0 x1 = some r) :
    Calls Try.prog 228 ⟨[.int .i64 x0, .int .i64 x1]⟩ w (Ret fun v w8 => v = .bool r ∧ St w w8 []) := by
  refine Calls.into Try.func228 rfl 15 rfl rfl _ rfl ?_
  unfold m_spec_l10Level at hm
  have hS := St.start w
  refine WP.seq ?_
  refine WP.region ?_
  refine RW.run ttok 1 rfl ?_
  refine RW.nil ?_
  refine WP.seq ?_
  refine WP.seq ?_
  refine WP.region ?_
  refine RW.run ttok 1 rfl ?_
  obtain ⟨r1, hx2, hm⟩ := bind_some hm
  refine RW.call rfl rfl rfl enters243 (spec_HasLevel_ok (hE.trans hS.ext)  hx2) (fun v3 w4 hR5 => ?_)
  obtain ⟨rfl, hR6⟩ := hR5
  have hS7 := hS.join hR6
  refine RW.nil ?_
  refine WP.cond r1 rfl (fun hc => ?_) (fun hc => ?_)
  · skip
    rw [if_pos hc] at hm
    refine WP.seq ?_
    refine WP.region ?_
    refine RW.run ttok 1 rfl ?_
    obtain ⟨r10, hx11, hm⟩ := bind_some hm
    refine RW.call rfl rfl rfl enters67 (spec_l00In_ok (hE.trans hS7.ext)  hx11) (fun v12 w13 hR14 => ?_)
    obtain ⟨rfl, hR15⟩ := hR14
    have hS16 := hS7.join hR15
    refine RW.run ttok 1 rfl ?_
    refine RW.nil ?_
    refine WP.ret ?_
    cases hm
    exact ⟨_, .cons (.tmp rfl) .nil, rfl, hS16⟩
  · skip
    rw [if_neg (not_t hc)] at hm
    refine WP.skip ?_
    refine WP.seq ?_
    refine WP.region ?_
    refine RW.run ttok 1 rfl ?_
    obtain ⟨r17, hx18, hm⟩ := bind_some hm
    refine RW.call rfl rfl rfl enters244 (spec_l10Kind_ok (hE.trans hS7.ext)  hx18) (fun v19 w20 hR21 => ?_)
    obtain ⟨rfl, hR22⟩ := hR21
    have hS23 := hS7.join hR22
    refine RW.run ttok 1 rfl ?_
    by_cases hg24 : r17 = true
    · skip
      rw [if_pos hg24] at hm
      refine RW.know 11 rfl (congrArg Value.bool hg24) ?_
      refine RW.run ttok 4 rfl ?_
      refine RW.nil ?_
      refine WP.ret ?_
      cases hm
      exact ⟨_, .cons (.tmp rfl) .nil, rfl, hS23⟩
    · skip
      rw [if_neg hg24] at hm
      refine RW.know 11 rfl (congrArg Value.bool (Bool.eq_false_iff.2 hg24)) ?_
      refine RW.run ttok 4 rfl ?_
      refine RW.nil ?_
      refine WP.ret ?_
      cases hm
      exact ⟨_, .cons (.tmp rfl) .nil, rfl, hS23⟩

theorem enters245 : Enters Try.prog 245 := ⟨_, _, Try.func245, rfl, by kernel_rfl⟩
def m_spec_l11Def (fuel : Nat) (x0 : Int) : Option (Bool) := ((m_spec_l00In fuel x0 0 23).bind fun r1 => some r1)

set_option maxRecDepth 100000 in
theorem spec_l11Def_ok {W w : World} (hE : Ext W w) {x0 : Int}  {fuel : Nat} {r : Bool} (hm : m_spec_l11Def fuel x0 = some r) :
    Calls Try.prog 245 ⟨[.int .i64 x0]⟩ w (Ret fun v w8 => v = .bool r ∧ St w w8 []) := by
  refine Calls.into Try.func245 rfl 5 rfl rfl _ rfl ?_
  unfold m_spec_l11Def at hm
  have hS := St.start w
  refine WP.seq ?_
  refine WP.region ?_
  refine RW.run ttok 1 rfl ?_
  refine RW.nil ?_
  refine WP.seq ?_
  refine WP.region ?_
  refine RW.run ttok 1 rfl ?_
  obtain ⟨r1, hx2, hm⟩ := bind_some hm
  refine RW.call rfl rfl rfl enters67 (spec_l00In_ok (hE.trans hS.ext)  hx2) (fun v3 w4 hR5 => ?_)
  obtain ⟨rfl, hR6⟩ := hR5
  have hS7 := hS.join hR6
  refine RW.run ttok 1 rfl ?_
  refine RW.nil ?_
  refine WP.ret ?_
  cases hm
  exact ⟨_, .cons (.tmp rfl) .nil, rfl, hS7⟩

theorem enters229 : Enters Try.prog 229 := ⟨_, _, Try.func229, rfl, by kernel_rfl⟩
def m_spec_l11Content_j3 (fuel : Nat) (t76 : Unit) : Option Bool := some true
def m_spec_l11Content_b1 (fuel : Nat) (x0 : D.Agent) (s75 : Int) : Option (Rd (Int) (Unit) (Bool)) := (if (decide (s75 < (x0.Data.length : Int))) = true then ((idx x0.Data s75).bind fun x91 => ((m_spec_l11Def fuel x91).bind fun r97 => (if (!r97) = true then some (.ret false) else some (.next (w64 (s75 + 1)))))) else some (.brk ()))
def m_spec_l11Content_j2 (fuel : Nat) (x0 : D.Agent) (t70 : Bool) : Option Bool := (if t70 = true then some false else ((iter (m_spec_l11Content_b1 fuel x0) fuel 0).bind fun o => aft o (m_spec_l11Content_j3 fuel)))
def m_spec_l11Content_j1 (fuel : Nat) (x0 : D.Agent) (t65 : Bool) : Option Bool := (if t65 = true then (if (x0.Value != 0) = true then m_spec_l11Content_j2 fuel x0 true else (if (x0.Kind == 11) = true then (if ((x0.Data.length : Int) != 2) = true then m_spec_l11Content_j2 fuel x0 true else (if (x0.Kind == 10) = true then ((m_spec_l00In fuel (x0.Data.length : Int) 1 4).bind fun r108 => m_spec_l11Content_j2 fuel x0 (!r108)) else m_spec_l11Content_j2 fuel x0 false)) else (if (x0.Kind == 10) = true then ((m_spec_l00In fuel (x0.Data.length : Int) 1 4).bind fun r116 => m_spec_l11Content_j2 fuel x0 (!r116)) else m_spec_l11Content_j2 fuel x0 false))) else (if (x0.Value == 0) = true then some ((x0.Data.length : Int) == 0) else some false))
def m_spec_l11Content (fuel : Nat) (x0 : D.Agent) : Option (Bool) := (if (x0.Kind == 6) = true then (if ((x0.Data.length : Int) == 0) = true then ((m_spec_l00In fuel x0.Value (-2147483648) 2147483647).bind fun r11 => some r11) else some false) else (if (x0.Kind == 7) = true then (if ((x0.Data.length : Int) == 0) = true then ((m_spec_l00In fuel x0.Value 1 6).bind fun r19 => some r19) else some false) else (if (x0.Kind == 8) = true then (if ((x0.Data.length : Int) == 1) = true then ((m_spec_l00In fuel x0.Value 1 6).bind fun r27 => (if r27 = true then ((idx x0.Data 0).bind fun x35 => ((m_spec_l00In fuel x35 (-2147483648) 2147483647).bind fun r41 => some r41)) else some false)) else some false) else (if (x0.Kind == 9) = true then (if ((x0.Data.length : Int) == 0) = true then ((m_spec_l00In fuel x0.Value 0 3).bind fun r49 => some r49) else some false) else (if (x0.Kind == 12) = true then (if ((x0.Data.length : Int) == 0) = true then ((m_spec_l11Def fuel x0.Value).bind fun r57 => some r57) else some false) else (if (x0.Kind == 10) = true then m_spec_l11Content_j1 fuel x0 (x0.Kind == 10) else m_spec_l11Content_j1 fuel x0 (x0.Kind == 11)))))))

set_option maxRecDepth 100000 in
theorem spec_l11Content_ok {W w : World} (hE : Ext W w) {p0_ : Addr} {c0_ : List Value} {x0 : D.Agent} (h0_ : ty206.ro W c0_ x0) (g0_ : At W p0_ c0_) {fuel : Nat} {r : Bool} (hm : m_spec_l11Content fuel x0 = some r) :
    Calls Try.prog 229 ⟨[.pointer (some p0_)]⟩ w (Ret fun v w8 => v = .bool r ∧ St w w8 []) := by
  obtain ⟨A1, k2, A4, k5, e7, h3, h6⟩ := ty206_open h0_; subst e7
  refine Calls.into Try.func229 rfl 162 rfl rfl _ rfl ?_
  unfold m_spec_l11Content at hm
  have hS := St.start w
  refine WP.seq ?_
  refine WP.region ?_
  refine RW.run ttok 1 rfl ?_
  refine RW.nil ?_
  refine WP.seq ?_
  refine WP.seq ?_
  refine WP.region ?_
  refine RW.run ttok 3 rfl ?_
  refine RW.load1 ttok rfl rfl rfl rfl rfl (At.ext (hE.trans hS.ext) g0_) 0 rfl rfl rfl rfl ?_
  refine RW.nil ?_
  refine WP.block ?_
  refine WP.seq ?_
  refine WP.region ?_
  refine RW.run ttok 2 rfl ?_
  refine RW.nil ?_
  refine WP.cond (x0.Kind == 6) rfl (fun hc => ?_) (fun hc => ?_)
  · skip
    rw [if_pos hc] at hm
    refine WP.seq ?_
    refine WP.region ?_
    refine RW.run ttok 3 rfl ?_
    refine RW.load1 ttok rfl rfl rfl rfl rfl (At.ext (hE.trans hS.ext) g0_) 3 rfl rfl rfl rfl ?_
    refine RW.run ttok 3 rfl ?_
    by_cases hg10 : ((x0.Data.length : Int) == 0) = true
    · skip
      rw [if_pos hg10] at hm
      refine RW.know 16 rfl (congrArg Value.bool hg10) ?_
      refine RW.run ttok 3 rfl ?_
      refine RW.load1 ttok rfl rfl rfl rfl rfl (At.ext (hE.trans hS.ext) g0_) 2 rfl rfl rfl rfl ?_
      obtain ⟨r11, hx12, hm⟩ := bind_some hm
      refine RW.call rfl rfl rfl enters67 (spec_l00In_ok (hE.trans hS.ext)  hx12) (fun v13 w14 hR15 => ?_)
      obtain ⟨rfl, hR16⟩ := hR15
      have hS17 := hS.join hR16
      refine RW.run ttok 2 rfl ?_
      refine RW.nil ?_
      refine WP.ret ?_
      cases hm
      exact ⟨_, .cons (.tmp rfl) .nil, rfl, hS17⟩
    · skip
      rw [if_neg hg10] at hm
      refine RW.know 16 rfl (congrArg Value.bool (Bool.eq_false_iff.2 hg10)) ?_
      refine RW.run ttok 7 rfl ?_
      refine RW.nil ?_
      refine WP.ret ?_
      cases hm
      exact ⟨_, .cons (.tmp rfl) .nil, rfl, hS⟩
  · skip
    rw [if_neg (not_t hc)] at hm
    refine WP.seq ?_
    refine WP.region ?_
    refine RW.run ttok 2 rfl ?_
    refine RW.nil ?_
    refine WP.cond (x0.Kind == 7) rfl (fun hc => ?_) (fun hc => ?_)
    · skip
      rw [if_pos hc] at hm
      refine WP.seq ?_
      refine WP.region ?_
      refine RW.run ttok 3 rfl ?_
      refine RW.load1 ttok rfl rfl rfl rfl rfl (At.ext (hE.trans hS.ext) g0_) 3 rfl rfl rfl rfl ?_
      refine RW.run ttok 3 rfl ?_
      by_cases hg18 : ((x0.Data.length : Int) == 0) = true
      · skip
        rw [if_pos hg18] at hm
        refine RW.know 31 rfl (congrArg Value.bool hg18) ?_
        refine RW.run ttok 3 rfl ?_
        refine RW.load1 ttok rfl rfl rfl rfl rfl (At.ext (hE.trans hS.ext) g0_) 2 rfl rfl rfl rfl ?_
        obtain ⟨r19, hx20, hm⟩ := bind_some hm
        refine RW.call rfl rfl rfl enters67 (spec_l00In_ok (hE.trans hS.ext)  hx20) (fun v21 w22 hR23 => ?_)
        obtain ⟨rfl, hR24⟩ := hR23
        have hS25 := hS.join hR24
        refine RW.run ttok 2 rfl ?_
        refine RW.nil ?_
        refine WP.ret ?_
        cases hm
        exact ⟨_, .cons (.tmp rfl) .nil, rfl, hS25⟩
      · skip
        rw [if_neg hg18] at hm
        refine RW.know 31 rfl (congrArg Value.bool (Bool.eq_false_iff.2 hg18)) ?_
        refine RW.run ttok 7 rfl ?_
        refine RW.nil ?_
        refine WP.ret ?_
        cases hm
        exact ⟨_, .cons (.tmp rfl) .nil, rfl, hS⟩
    · skip
      rw [if_neg (not_t hc)] at hm
      refine WP.seq ?_
      refine WP.region ?_
      refine RW.run ttok 2 rfl ?_
      refine RW.nil ?_
      refine WP.cond (x0.Kind == 8) rfl (fun hc => ?_) (fun hc => ?_)
      · skip
        rw [if_pos hc] at hm
        refine WP.seq ?_
        refine WP.region ?_
        refine RW.run ttok 3 rfl ?_
        refine RW.load1 ttok rfl rfl rfl rfl rfl (At.ext (hE.trans hS.ext) g0_) 3 rfl rfl rfl rfl ?_
        refine RW.run ttok 3 rfl ?_
        by_cases hg26 : ((x0.Data.length : Int) == 1) = true
        · skip
          rw [if_pos hg26] at hm
          refine RW.know 46 rfl (congrArg Value.bool hg26) ?_
          refine RW.run ttok 3 rfl ?_
          refine RW.load1 ttok rfl rfl rfl rfl rfl (At.ext (hE.trans hS.ext) g0_) 2 rfl rfl rfl rfl ?_
          obtain ⟨r27, hx28, hm⟩ := bind_some hm
          refine RW.call rfl rfl rfl enters67 (spec_l00In_ok (hE.trans hS.ext)  hx28) (fun v29 w30 hR31 => ?_)
          obtain ⟨rfl, hR32⟩ := hR31
          have hS33 := hS.join hR32
          refine RW.run ttok 2 rfl ?_
          by_cases hg34 : r27 = true
          · skip
            rw [if_pos hg34] at hm
            refine RW.know 53 rfl (congrArg Value.bool hg34) ?_
            refine RW.run ttok 3 rfl ?_
            refine RW.load1 ttok rfl rfl rfl rfl rfl (At.ext (hE.trans hS33.ext) g0_) 3 rfl rfl rfl rfl ?_
            obtain ⟨x35, hx36, hm⟩ := bind_some hm
            refine RW.idx ttok (hE.trans hS33.ext) rfl rfl rfl rfl rfl rfl (by decide) rfl rfl h3 (idx_some hx36).1 (idx_some hx36).2 rfl rfl (fun p37 es38 ha39 hr40 => ?_)
            cases hr40
            refine RW.load1 ttok rfl rfl rfl rfl rfl (At.ext (hE.trans hS33.ext) ha39) 0 rfl rfl rfl rfl ?_
            obtain ⟨r41, hx42, hm⟩ := bind_some hm
            refine RW.call rfl rfl rfl enters67 (spec_l00In_ok (hE.trans hS33.ext)  hx42) (fun v43 w44 hR45 => ?_)
            obtain ⟨rfl, hR46⟩ := hR45
            have hS47 := hS33.join hR46
            refine RW.run ttok 2 rfl ?_
            refine RW.nil ?_
            refine WP.ret ?_
            cases hm
            exact ⟨_, .cons (.tmp rfl) .nil, rfl, hS47⟩
          · skip
            rw [if_neg hg34] at hm
            refine RW.know 53 rfl (congrArg Value.bool (Bool.eq_false_iff.2 hg34)) ?_
            refine RW.run ttok 9 rfl ?_
            refine RW.nil ?_
            refine WP.ret ?_
            cases hm
            exact ⟨_, .cons (.tmp rfl) .nil, rfl, hS33⟩
        · skip
          rw [if_neg hg26] at hm
          refine RW.know 46 rfl (congrArg Value.bool (Bool.eq_false_iff.2 hg26)) ?_
          refine RW.run ttok 16 rfl ?_
          refine RW.nil ?_
          refine WP.ret ?_
          cases hm
          exact ⟨_, .cons (.tmp rfl) .nil, rfl, hS⟩
      · skip
        rw [if_neg (not_t hc)] at hm
        refine WP.seq ?_
        refine WP.region ?_
        refine RW.run ttok 2 rfl ?_
        refine RW.nil ?_
        refine WP.cond (x0.Kind == 9) rfl (fun hc => ?_) (fun hc => ?_)
        · skip
          rw [if_pos hc] at hm
          refine WP.seq ?_
          refine WP.region ?_
          refine RW.run ttok 3 rfl ?_
          refine RW.load1 ttok rfl rfl rfl rfl rfl (At.ext (hE.trans hS.ext) g0_) 3 rfl rfl rfl rfl ?_
          refine RW.run ttok 3 rfl ?_
          by_cases hg48 : ((x0.Data.length : Int) == 0) = true
          · skip
            rw [if_pos hg48] at hm
            refine RW.know 70 rfl (congrArg Value.bool hg48) ?_
            refine RW.run ttok 3 rfl ?_
            refine RW.load1 ttok rfl rfl rfl rfl rfl (At.ext (hE.trans hS.ext) g0_) 2 rfl rfl rfl rfl ?_
            obtain ⟨r49, hx50, hm⟩ := bind_some hm
            refine RW.call rfl rfl rfl enters67 (spec_l00In_ok (hE.trans hS.ext)  hx50) (fun v51 w52 hR53 => ?_)
            obtain ⟨rfl, hR54⟩ := hR53
            have hS55 := hS.join hR54
            refine RW.run ttok 2 rfl ?_
            refine RW.nil ?_
            refine WP.ret ?_
            cases hm
            exact ⟨_, .cons (.tmp rfl) .nil, rfl, hS55⟩
          · skip
            rw [if_neg hg48] at hm
            refine RW.know 70 rfl (congrArg Value.bool (Bool.eq_false_iff.2 hg48)) ?_
            refine RW.run ttok 7 rfl ?_
            refine RW.nil ?_
            refine WP.ret ?_
            cases hm
            exact ⟨_, .cons (.tmp rfl) .nil, rfl, hS⟩
        · skip
          rw [if_neg (not_t hc)] at hm
          refine WP.seq ?_
          refine WP.region ?_
          refine RW.run ttok 2 rfl ?_
          refine RW.nil ?_
          refine WP.cond (x0.Kind == 12) rfl (fun hc => ?_) (fun hc => ?_)
          · skip
            rw [if_pos hc] at hm
            refine WP.seq ?_
            refine WP.region ?_
            refine RW.run ttok 3 rfl ?_
            refine RW.load1 ttok rfl rfl rfl rfl rfl (At.ext (hE.trans hS.ext) g0_) 3 rfl rfl rfl rfl ?_
            refine RW.run ttok 3 rfl ?_
            by_cases hg56 : ((x0.Data.length : Int) == 0) = true
            · skip
              rw [if_pos hg56] at hm
              refine RW.know 85 rfl (congrArg Value.bool hg56) ?_
              refine RW.run ttok 3 rfl ?_
              refine RW.load1 ttok rfl rfl rfl rfl rfl (At.ext (hE.trans hS.ext) g0_) 2 rfl rfl rfl rfl ?_
              obtain ⟨r57, hx58, hm⟩ := bind_some hm
              refine RW.call rfl rfl rfl enters245 (spec_l11Def_ok (hE.trans hS.ext)  hx58) (fun v59 w60 hR61 => ?_)
              obtain ⟨rfl, hR62⟩ := hR61
              have hS63 := hS.join hR62
              refine RW.run ttok 2 rfl ?_
              refine RW.nil ?_
              refine WP.ret ?_
              cases hm
              exact ⟨_, .cons (.tmp rfl) .nil, rfl, hS63⟩
            · skip
              rw [if_neg hg56] at hm
              refine RW.know 85 rfl (congrArg Value.bool (Bool.eq_false_iff.2 hg56)) ?_
              refine RW.run ttok 7 rfl ?_
              refine RW.nil ?_
              refine WP.ret ?_
              cases hm
              exact ⟨_, .cons (.tmp rfl) .nil, rfl, hS⟩
          · skip
            rw [if_neg (not_t hc)] at hm
            refine WP.seq ?_
            refine WP.seq ?_
            refine WP.region ?_
            refine RW.run ttok 2 rfl ?_
            refine RW.nil ?_
            refine WP.cut (fun (t65 : Bool) F w9 => m_spec_l11Content_j1 fuel x0 t65 = some r ∧ Ext w w9 ∧ St w w9 [] ∧ F = [(0, .pointer (some p0_)), (92, .bool t65)]) ?_ ?_
            · skip
              rintro t65 F w68 ⟨hm, hE66, hS67, rfl⟩
              unfold m_spec_l11Content_j1 at hm
              refine WP.cond t65 rfl (fun hc => ?_) (fun hc => ?_)
              · skip
                rw [if_pos hc] at hm
                refine WP.seq ?_
                refine WP.seq ?_
                refine WP.cut (fun (t70 : Bool) F w9 => m_spec_l11Content_j2 fuel x0 t70 = some r ∧ Ext w68 w9 ∧ St w w9 [] ∧ F = [(0, .pointer (some p0_)), (130, .bool t70)]) ?_ ?_
                · skip
                  rintro t70 F w73 ⟨hm, hE71, hS72, rfl⟩
                  unfold m_spec_l11Content_j2 at hm
                  refine WP.cond t70 rfl (fun hc => ?_) (fun hc => ?_)
                  · skip
                    rw [if_pos hc] at hm
                    refine WP.seq ?_
                    refine WP.region ?_
                    refine RW.run ttok 1 rfl ?_
                    refine RW.nil ?_
                    refine WP.ret ?_
                    cases hm
                    exact ⟨_, .cons (.tmp rfl) .nil, rfl, hS72⟩
                  · skip
                    rw [if_neg (not_t hc)] at hm
                    refine WP.skip ?_
                    refine WP.seq ?_
                    refine WP.seq ?_
                    refine WP.region ?_
                    refine RW.run ttok 1 rfl ?_
                    refine RW.nil ?_
                    obtain ⟨o82, hl83, hm⟩ := bind_some hm
                    refine WP.cut (fun (t76 : Unit) F w9 => o82 = .inl t76 ∧ Ext w73 w9 ∧ St w w9 [] ∧ F = []) ?_ ?_
                    · skip
                      rintro t76 F w81 ⟨ho85, hE80, hS84, rfl⟩
                      subst ho85
                      rw [aft_inl] at hm
                      unfold m_spec_l11Content_j3 at hm
                      refine WP.seq ?_
                      refine WP.region ?_
                      refine RW.run ttok 1 rfl ?_
                      refine RW.nil ?_
                      refine WP.ret ?_
                      cases hm
                      exact ⟨_, .cons (.tmp rfl) .nil, rfl, hS84⟩
                    · skip
                      refine WP.block ?_
                      refine WP.weak [(0, .pointer (some p0_)), (3, .int .i64 0)] ⟨rfl, rfl, trivial⟩ ?_
                      refine WP.iter (fun (s75 : Int) F w9 => Ext w73 w9 ∧ St w w9 [] ∧ F = [(0, .pointer (some p0_)), (3, .int .i64 s75)]) _ hl83 ⟨(Ext.refl _), hS72, rfl⟩ ?_
                      rintro s75 F w90 _ o88 ⟨hE79, hS89, rfl⟩ hb86 ho87
                      unfold m_spec_l11Content_b1 at hb86
                      refine WP.seq ?_
                      refine WP.seq ?_
                      refine WP.region ?_
                      refine RW.run ttok 4 rfl ?_
                      refine RW.load1 ttok rfl rfl rfl rfl rfl (At.ext (hE.trans hS89.ext) g0_) 3 rfl rfl rfl rfl ?_
                      refine RW.run ttok 2 rfl ?_
                      refine RW.nil ?_
                      refine WP.cond (decide (s75 < (x0.Data.length : Int))) rfl (fun hc => ?_) (fun hc => ?_)
                      · skip
                        rw [if_pos hc] at hb86
                        refine WP.skip ?_
                        refine WP.seq ?_
                        refine WP.block ?_
                        refine WP.seq ?_
                        refine WP.region ?_
                        refine RW.run ttok 3 rfl ?_
                        refine RW.load1 ttok rfl rfl rfl rfl rfl (At.ext (hE.trans hS89.ext) g0_) 3 rfl rfl rfl rfl ?_
                        refine RW.run ttok 1 rfl ?_
                        obtain ⟨x91, hx92, hb86⟩ := bind_some hb86
                        refine RW.idx ttok (hE.trans hS89.ext) rfl rfl rfl rfl rfl rfl (by decide) rfl rfl h3 (idx_some hx92).1 (idx_some hx92).2 rfl rfl (fun p93 es94 ha95 hr96 => ?_)
                        cases hr96
                        refine RW.load1 ttok rfl rfl rfl rfl rfl (At.ext (hE.trans hS89.ext) ha95) 0 rfl rfl rfl rfl ?_
                        obtain ⟨r97, hx98, hb86⟩ := bind_some hb86
                        refine RW.call rfl rfl rfl enters245 (spec_l11Def_ok (hE.trans hS89.ext)  hx98) (fun v99 w100 hR101 => ?_)
                        obtain ⟨rfl, hR102⟩ := hR101
                        have hS103 := hS89.join hR102
                        refine RW.run ttok 1 rfl ?_
                        refine RW.nil ?_
                        refine WP.cond (!r97) rfl (fun hc => ?_) (fun hc => ?_)
                        · skip
                          rw [if_pos hc] at hb86
                          refine WP.seq ?_
                          refine WP.region ?_
                          refine RW.run ttok 1 rfl ?_
                          refine RW.nil ?_
                          refine WP.ret ?_
                          cases hb86
                          cases ho87
                          have hm : some _ = some _ := hm
                          cases hm
                          exact ⟨_, .cons (.tmp rfl) .nil, rfl, hS103⟩
                        · skip
                          rw [if_neg (not_t hc)] at hb86
                          refine WP.skip ?_
                          refine WP.region ?_
                          refine RW.run ttok 3 rfl ?_
                          refine RW.nil ?_
                          cases hb86
                          exact ⟨_, [(0, .pointer (some p0_)), (3, .int .i64 (w64 (s75 + 1)))], ⟨rfl, rfl, trivial⟩, rfl, (hE79.trans hR102.ext), hS103, rfl⟩
                      · skip
                        rw [if_neg (not_t hc)] at hb86
                        refine WP.exit ?_
                        cases hb86
                        exact ⟨_, [], trivial, ho87, hE79, hS89, rfl⟩
                · skip
                  refine WP.region ?_
                  refine RW.run ttok 3 rfl ?_
                  refine RW.load1 ttok rfl rfl rfl rfl rfl (At.ext (hE.trans hS67.ext) g0_) 2 rfl rfl rfl rfl ?_
                  refine RW.run ttok 2 rfl ?_
                  by_cases hg104 : (x0.Value != 0) = true
                  · skip
                    rw [if_pos hg104] at hm
                    refine RW.know 100 rfl (congrArg Value.bool hg104) ?_
                    refine RW.run ttok 30 rfl ?_
                    refine RW.nil ?_
                    exact ⟨true, [(0, .pointer (some p0_)), (130, .bool true)], ⟨rfl, rfl, trivial⟩, hm, (Ext.refl _), hS67, rfl⟩
                  · skip
                    rw [if_neg hg104] at hm
                    refine RW.know 100 rfl (congrArg Value.bool (Bool.eq_false_iff.2 hg104)) ?_
                    refine RW.run ttok 3 rfl ?_
                    refine RW.load1 ttok rfl rfl rfl rfl rfl (At.ext (hE.trans hS67.ext) g0_) 0 rfl rfl rfl rfl ?_
                    refine RW.run ttok 2 rfl ?_
                    by_cases hg105 : (x0.Kind == 11) = true
                    · skip
                      rw [if_pos hg105] at hm
                      refine RW.know 106 rfl (congrArg Value.bool hg105) ?_
                      refine RW.run ttok 3 rfl ?_
                      refine RW.load1 ttok rfl rfl rfl rfl rfl (At.ext (hE.trans hS67.ext) g0_) 3 rfl rfl rfl rfl ?_
                      refine RW.run ttok 5 rfl ?_
                      by_cases hg106 : ((x0.Data.length : Int) != 2) = true
                      · skip
                        rw [if_pos hg106] at hm
                        refine RW.know 115 rfl (congrArg Value.bool hg106) ?_
                        refine RW.run ttok 15 rfl ?_
                        refine RW.nil ?_
                        exact ⟨true, [(0, .pointer (some p0_)), (130, .bool true)], ⟨rfl, rfl, trivial⟩, hm, (Ext.refl _), hS67, rfl⟩
                      · skip
                        rw [if_neg hg106] at hm
                        refine RW.know 115 rfl (congrArg Value.bool (Bool.eq_false_iff.2 hg106)) ?_
                        refine RW.run ttok 3 rfl ?_
                        refine RW.load1 ttok rfl rfl rfl rfl rfl (At.ext (hE.trans hS67.ext) g0_) 0 rfl rfl rfl rfl ?_
                        refine RW.run ttok 2 rfl ?_
                        by_cases hg107 : (x0.Kind == 10) = true
                        · skip
                          rw [if_pos hg107] at hm
                          refine RW.know 121 rfl (congrArg Value.bool hg107) ?_
                          refine RW.run ttok 3 rfl ?_
                          refine RW.load1 ttok rfl rfl rfl rfl rfl (At.ext (hE.trans hS67.ext) g0_) 3 rfl rfl rfl rfl ?_
                          refine RW.run ttok 1 rfl ?_
                          obtain ⟨r108, hx109, hm⟩ := bind_some hm
                          refine RW.call rfl rfl rfl enters67 (spec_l00In_ok (hE.trans hS67.ext)  hx109) (fun v110 w111 hR112 => ?_)
                          obtain ⟨rfl, hR113⟩ := hR112
                          have hS114 := hS67.join hR113
                          refine RW.run ttok 3 rfl ?_
                          refine RW.nil ?_
                          exact ⟨!r108, [(0, .pointer (some p0_)), (130, .bool (!r108))], ⟨rfl, rfl, trivial⟩, hm, hR113.ext, hS114, rfl⟩
                        · skip
                          rw [if_neg hg107] at hm
                          refine RW.know 121 rfl (congrArg Value.bool (Bool.eq_false_iff.2 hg107)) ?_
                          refine RW.run ttok 9 rfl ?_
                          refine RW.nil ?_
                          exact ⟨false, [(0, .pointer (some p0_)), (130, .bool false)], ⟨rfl, rfl, trivial⟩, hm, (Ext.refl _), hS67, rfl⟩
                    · skip
                      rw [if_neg hg105] at hm
                      refine RW.know 106 rfl (congrArg Value.bool (Bool.eq_false_iff.2 hg105)) ?_
                      refine RW.run ttok 12 rfl ?_
                      refine RW.load1 ttok rfl rfl rfl rfl rfl (At.ext (hE.trans hS67.ext) g0_) 0 rfl rfl rfl rfl ?_
                      refine RW.run ttok 2 rfl ?_
                      by_cases hg115 : (x0.Kind == 10) = true
                      · skip
                        rw [if_pos hg115] at hm
                        refine RW.know 121 rfl (congrArg Value.bool hg115) ?_
                        refine RW.run ttok 3 rfl ?_
                        refine RW.load1 ttok rfl rfl rfl rfl rfl (At.ext (hE.trans hS67.ext) g0_) 3 rfl rfl rfl rfl ?_
                        refine RW.run ttok 1 rfl ?_
                        obtain ⟨r116, hx117, hm⟩ := bind_some hm
                        refine RW.call rfl rfl rfl enters67 (spec_l00In_ok (hE.trans hS67.ext)  hx117) (fun v118 w119 hR120 => ?_)
                        obtain ⟨rfl, hR121⟩ := hR120
                        have hS122 := hS67.join hR121
                        refine RW.run ttok 3 rfl ?_
                        refine RW.nil ?_
                        exact ⟨!r116, [(0, .pointer (some p0_)), (130, .bool (!r116))], ⟨rfl, rfl, trivial⟩, hm, hR121.ext, hS122, rfl⟩
                      · skip
                        rw [if_neg hg115] at hm
                        refine RW.know 121 rfl (congrArg Value.bool (Bool.eq_false_iff.2 hg115)) ?_
                        refine RW.run ttok 9 rfl ?_
                        refine RW.nil ?_
                        exact ⟨false, [(0, .pointer (some p0_)), (130, .bool false)], ⟨rfl, rfl, trivial⟩, hm, (Ext.refl _), hS67, rfl⟩
              · skip
                rw [if_neg (not_t hc)] at hm
                refine WP.skip ?_
                refine WP.seq ?_
                refine WP.region ?_
                refine RW.run ttok 3 rfl ?_
                refine RW.load1 ttok rfl rfl rfl rfl rfl (At.ext (hE.trans hS67.ext) g0_) 2 rfl rfl rfl rfl ?_
                refine RW.run ttok 2 rfl ?_
                by_cases hg123 : (x0.Value == 0) = true
                · skip
                  rw [if_pos hg123] at hm
                  refine RW.know 154 rfl (congrArg Value.bool hg123) ?_
                  refine RW.run ttok 3 rfl ?_
                  refine RW.load1 ttok rfl rfl rfl rfl rfl (At.ext (hE.trans hS67.ext) g0_) 3 rfl rfl rfl rfl ?_
                  refine RW.run ttok 4 rfl ?_
                  refine RW.nil ?_
                  refine WP.ret ?_
                  cases hm
                  exact ⟨_, .cons (.tmp rfl) .nil, rfl, hS67⟩
                · skip
                  rw [if_neg hg123] at hm
                  refine RW.know 154 rfl (congrArg Value.bool (Bool.eq_false_iff.2 hg123)) ?_
                  refine RW.run ttok 8 rfl ?_
                  refine RW.nil ?_
                  refine WP.ret ?_
                  cases hm
                  exact ⟨_, .cons (.tmp rfl) .nil, rfl, hS67⟩
            · skip
              refine WP.cond (x0.Kind == 10) rfl (fun hc => ?_) (fun hc => ?_)
              · skip
                rw [if_pos hc] at hm
                refine WP.skip ?_
                exact ⟨(x0.Kind == 10), [(0, .pointer (some p0_)), (92, .bool (x0.Kind == 10))], ⟨rfl, rfl, trivial⟩, hm, (Ext.refl _), hS, rfl⟩
              · skip
                rw [if_neg (not_t hc)] at hm
                refine WP.region ?_
                refine RW.run ttok 2 rfl ?_
                refine RW.nil ?_
                exact ⟨(x0.Kind == 11), [(0, .pointer (some p0_)), (92, .bool (x0.Kind == 11))], ⟨rfl, rfl, trivial⟩, hm, (Ext.refl _), hS, rfl⟩

theorem enters205 : Enters Try.prog 205 := ⟨_, _, Try.func205, rfl, by kernel_rfl⟩
def m_spec_l11Agent (fuel : Nat) (x0 : D.Agent) : Option (Bool) := ((m_spec_l11Fields fuel x0).bind fun r12 => ((m_spec_PortsOf fuel x0.Kind r12).bind fun r19 => (if (decide (r19 > 0)) = true then (if ((x0.Ports.length : Int) == r19) = true then ((m_spec_l10Level fuel x0.Kind x0.Level).bind fun r30 => (if r30 = true then ((m_spec_l11Content fuel x0).bind fun r38 => some r38) else some false)) else some false) else some false)))

set_option maxRecDepth 100000 in
theorem spec_l11Agent_ok {W w : World} (hE : Ext W w) {p0_ : Addr} {c0_ : List Value} {x0 : D.Agent} (h0_ : ty206.ro W c0_ x0) (g0_ : At W p0_ c0_) {fuel : Nat} {r : Bool} (hm : m_spec_l11Agent fuel x0 = some r) :
    Calls Try.prog 205 ⟨[.pointer (some p0_)]⟩ w (Ret fun v w8 => v = .bool r ∧ St w w8 []) := by
  obtain ⟨A1, k2, A4, k5, e7, h3, h6⟩ := ty206_open h0_; subst e7
  refine Calls.into Try.func205 rfl 37 rfl rfl _ rfl ?_
  unfold m_spec_l11Agent at hm
  have hS := St.start w
  refine WP.seq ?_
  refine WP.region ?_
  refine RW.run ttok 1 rfl ?_
  refine RW.nil ?_
  refine WP.seq ?_
  refine WP.drawnM 0 mixed 8 (by kernel_rfl) (by kernel_rfl) [([], 255), ([0], 254), ([1], 253), ([2], 251), ([], 255), ([4], 239), ([3, 5, 5], 215), ([6, 6, 0, 1, 2, 3, 4, 5, 6], 191)] (by kernel_rfl) (fun hsk10 => ?_)
  have hS11 := hS.step (Ext.draw _)
  refine DM.run (fuel := 4) ttok hsk10 [0, 1, 2, 4] 23 (by kernel_rfl) (by kernel_rfl) rfl ?_
  refine DM.load1 ttok hsk10 3 31 (by kernel_rfl) (by kernel_rfl) (by kernel_rfl) (by kernel_rfl) rfl (by kernel_rfl) rfl rfl rfl rfl rfl (At.ext (hE.trans hS.ext) g0_) 0 rfl rfl rfl rfl ?_
  obtain ⟨r12, hx13, hm⟩ := bind_some hm
  refine DM.one hsk10 5 (by kernel_rfl) (LM.call hsk10 63 (by kernel_rfl) (by kernel_rfl) rfl rfl rfl rfl enters227 (spec_l11Fields_ok (hE.trans hS11.ext) h0_ g0_ hx13) (fun v14 w15 hR16 => ?_))
  obtain ⟨rfl, hR17⟩ := hR16
  refine ⟨hR17.ext, ?_⟩
  have hS18 := hS11.join hR17
  obtain ⟨r19, hx20, hm⟩ := bind_some hm
  refine DM.one hsk10 6 (by kernel_rfl) (LM.call hsk10 127 (by kernel_rfl) (by kernel_rfl) rfl rfl rfl rfl enters226 (spec_PortsOf_ok (hE.trans hS18.ext)  hx20) (fun v21 w22 hR23 => ?_))
  obtain ⟨rfl, hR24⟩ := hR23
  refine ⟨hR24.ext, ?_⟩
  have hS25 := hS18.join hR24
  refine DM.run (fuel := 0) ttok hsk10 [7] 255 (by kernel_rfl) (by kernel_rfl) rfl ?_
  refine DM.weak [(0, .pointer (some p0_)), (3, .int .i64 r19)] ⟨rfl, rfl, trivial⟩ ?_
  refine DM.done hsk10 (by kernel_rfl) ?_
  refine WP.seq ?_
  refine WP.drawnM 0 mixed 27 (by kernel_rfl) (by kernel_rfl) [([], 134217727), ([0], 134217726), ([1], 134217725), ([2], 134217723), ([3, 2], 134217715), ([4, 2], 134217707), ([5, 2], 134217691), ([6, 2], 134217659), ([2], 134217723), ([7, 8, 2], 134217339), ([2, 9], 134217211), ([10, 2], 134216703), ([11], 134215679), ([12, 11], 134211583), ([13, 11], 134207487), ([14, 11], 134199295), ([11], 134215679), ([16, 11], 134150143), ([17, 11], 134084607), ([18, 11], 133953535), ([15, 19, 11, 11], 133658623), ([11, 20], 133167103), ([21, 20], 132120575), ([22], 130023423), ([23, 22, 22], 121634815), ([22, 24], 113246207), ([25, 24, 0, 1, 2, 3, 4, 5, 6, 7, 8, 9, 10, 11, 12, 13, 14, 15, 16, 17, 18, 19, 20, 21, 22, 23, 24, 25], 100663295)] (by kernel_rfl) (fun hsk26 => ?_)
  have hS27 := hS25.step (Ext.draw _)
  refine DM.run (fuel := 24) ttok hsk26 [0, 1, 2] 7 (by kernel_rfl) (by kernel_rfl) rfl ?_
  by_cases hg28 : (decide (r19 > 0)) = true
  · skip
    rw [if_pos hg28] at hm
    refine DM.know 13 rfl (congrArg Value.bool hg28) ?_
    refine DM.run (fuel := 20) ttok hsk26 [3, 4, 5, 8] 319 (by kernel_rfl) (by kernel_rfl) rfl ?_
    refine DM.load1 ttok hsk26 6 383 (by kernel_rfl) (by kernel_rfl) (by kernel_rfl) (by kernel_rfl) rfl (by kernel_rfl) rfl rfl rfl rfl rfl (At.ext (hE.trans hS25.ext) g0_) 4 rfl rfl rfl rfl ?_
    refine DM.run (fuel := 15) ttok hsk26 [7, 9, 10, 11] 4095 (by kernel_rfl) (by kernel_rfl) rfl ?_
    refine DM.weak [(0, .pointer (some p0_)), (22, .bool ((x0.Ports.length : Int) == r19))] ⟨rfl, rfl, trivial⟩ ?_
    by_cases hg29 : ((x0.Ports.length : Int) == r19) = true
    · skip
      rw [if_pos hg29] at hm
      refine DM.know 22 rfl (congrArg Value.bool hg29) ?_
      refine DM.run (fuel := 9) ttok hsk26 [12, 13, 14, 16, 17, 18] 491519 (by kernel_rfl) (by kernel_rfl) rfl ?_
      refine DM.load1 ttok hsk26 15 524287 (by kernel_rfl) (by kernel_rfl) (by kernel_rfl) (by kernel_rfl) rfl (by kernel_rfl) rfl rfl rfl rfl rfl (At.ext (hE.trans hS25.ext) g0_) 0 rfl rfl rfl rfl ?_
      refine DM.load1 ttok hsk26 19 1048575 (by kernel_rfl) (by kernel_rfl) (by kernel_rfl) (by kernel_rfl) rfl (by kernel_rfl) rfl rfl rfl rfl rfl (At.ext (hE.trans hS25.ext) g0_) 1 rfl rfl rfl rfl ?_
      obtain ⟨r30, hx31, hm⟩ := bind_some hm
      refine DM.one hsk26 20 (by kernel_rfl) (LM.call hsk26 2097151 (by kernel_rfl) (by kernel_rfl) rfl rfl rfl rfl enters228 (spec_l10Level_ok (hE.trans hS27.ext)  hx31) (fun v32 w33 hR34 => ?_))
      obtain ⟨rfl, hR35⟩ := hR34
      refine ⟨hR35.ext, ?_⟩
      have hS36 := hS27.join hR35
      refine DM.run (fuel := 4) ttok hsk26 [21, 22] 8388607 (by kernel_rfl) (by kernel_rfl) rfl ?_
      refine DM.weak [(0, .pointer (some p0_)), (33, .bool r30)] ⟨rfl, rfl, trivial⟩ ?_
      by_cases hg37 : r30 = true
      · skip
        rw [if_pos hg37] at hm
        refine DM.know 33 rfl (congrArg Value.bool hg37) ?_
        refine DM.run (fuel := 3) ttok hsk26 [23] 16777215 (by kernel_rfl) (by kernel_rfl) rfl ?_
        obtain ⟨r38, hx39, hm⟩ := bind_some hm
        refine DM.one hsk26 24 (by kernel_rfl) (LM.call hsk26 33554431 (by kernel_rfl) (by kernel_rfl) rfl rfl rfl rfl enters229 (spec_l11Content_ok (hE.trans hS36.ext) h0_ g0_ hx39) (fun v40 w41 hR42 => ?_))
        obtain ⟨rfl, hR43⟩ := hR42
        refine ⟨hR43.ext, ?_⟩
        have hS44 := hS36.join hR43
        refine DM.run (fuel := 0) ttok hsk26 [25, 26] 134217727 (by kernel_rfl) (by kernel_rfl) rfl ?_
        refine DM.done hsk26 (by kernel_rfl) ?_
        refine WP.ret ?_
        cases hm
        exact ⟨_, .cons (.tmp rfl) .nil, rfl, hS44⟩
      · skip
        rw [if_neg hg37] at hm
        refine DM.know 33 rfl (congrArg Value.bool (Bool.eq_false_iff.2 hg37)) ?_
        refine DM.run (fuel := 0) ttok hsk26 [23, 24, 25, 26] 134217727 (by kernel_rfl) (by kernel_rfl) rfl ?_
        refine DM.done hsk26 (by kernel_rfl) ?_
        refine WP.ret ?_
        cases hm
        exact ⟨_, .cons (.tmp rfl) .nil, rfl, hS36⟩
    · skip
      rw [if_neg hg29] at hm
      refine DM.know 22 rfl (congrArg Value.bool (Bool.eq_false_iff.2 hg29)) ?_
      refine DM.run (fuel := 0) ttok hsk26 [12, 13, 14, 15, 16, 17, 18, 19, 20, 21, 22, 23, 24, 25, 26] 134217727 (by kernel_rfl) (by kernel_rfl) rfl ?_
      refine DM.weak [(2, .bool false)] ⟨rfl, trivial⟩ ?_
      refine DM.done hsk26 (by kernel_rfl) ?_
      refine WP.ret ?_
      cases hm
      exact ⟨_, .cons (.tmp rfl) .nil, rfl, hS27⟩
  · skip
    rw [if_neg hg28] at hm
    refine DM.know 13 rfl (congrArg Value.bool (Bool.eq_false_iff.2 hg28)) ?_
    refine DM.run (fuel := 0) ttok hsk26 [3, 4, 5, 6, 7, 8, 9, 10, 11, 12, 13, 14, 15, 16, 17, 18, 19, 20, 21, 22, 23, 24, 25, 26] 134217727 (by kernel_rfl) (by kernel_rfl) rfl ?_
    refine DM.weak [(2, .bool false)] ⟨rfl, trivial⟩ ?_
    refine DM.done hsk26 (by kernel_rfl) ?_
    refine WP.ret ?_
    cases hm
    exact ⟨_, .cons (.tmp rfl) .nil, rfl, hS27⟩

theorem enters213 : Enters Try.prog 213 := ⟨_, _, Try.func213, rfl, by kernel_rfl⟩
def m_spec_l21Cell (fuel : Nat) (x0 : D.Cell) (x1 : Int) : Option (Bool) := (if (x0.Kind == 0) = true then (if (x0.Level == 0) = true then (if ((x0.Data.length : Int) == 0) = true then (if ((x0.Words.length : Int) == 0) = true then ((m_spec_l00In fuel x0.Value (-1) (w64 (x1 - 1))).bind fun r13 => some r13) else some false) else some false) else some false) else (if (x0.Kind == 13) = true then (if (x0.Level == 0) = true then (if (x0.Value == 0) = true then (if ((x0.Data.length : Int) == 0) = true then some (decide ((x0.Words.length : Int) < 2)) else some false) else some false) else some false) else ((m_spec_l21IsAgent fuel x0).bind fun r23 => (if r23 = true then ((m_spec_l21Agent fuel x0).bind fun r30 => ((m_spec_l11Agent fuel (⟨r30.Kind, r30.Level, r30.Value, r30.Data, r30.Ports⟩ : D.Agent)).bind fun r49 => some r49)) else some false))))

set_option maxRecDepth 100000 in
theorem spec_l21Cell_ok {W w : World} (hE : Ext W w) {p0_ : Addr} {c0_ : List Value} {x0 : D.Cell} {x1 : Int} (h0_ : ty167.ro W c0_ x0) (g0_ : At W p0_ c0_) {fuel : Nat} {r : Bool} (hm : m_spec_l21Cell fuel x0 x1 = some r) :
    Calls Try.prog 213 ⟨[.pointer (some p0_), .int .i64 x1]⟩ w (Ret fun v w8 => v = .bool r ∧ St w w8 []) := by
  obtain ⟨A1, k2, A4, k5, e7, h3, h6⟩ := ty167_open h0_; subst e7
  refine Calls.into Try.func213 rfl 82 rfl rfl _ rfl ?_
  unfold m_spec_l21Cell at hm
  have hS := St.start w
  refine WP.seq ?_
  refine WP.region ?_
  refine RW.run ttok 1 rfl ?_
  refine RW.nil ?_
  refine WP.seq ?_
  refine WP.block ?_
  refine WP.seq ?_
  refine WP.region ?_
  refine RW.run ttok 3 rfl ?_
  refine RW.load1 ttok rfl rfl rfl rfl rfl (At.ext (hE.trans hS.ext) g0_) 0 rfl rfl rfl rfl ?_
  refine RW.run ttok 2 rfl ?_
  refine RW.nil ?_
  refine WP.cond (x0.Kind == 0) rfl (fun hc => ?_) (fun hc => ?_)
  · skip
    rw [if_pos hc] at hm
    refine WP.seq ?_
    refine WP.region ?_
    refine RW.run ttok 3 rfl ?_
    refine RW.load1 ttok rfl rfl rfl rfl rfl (At.ext (hE.trans hS.ext) g0_) 1 rfl rfl rfl rfl ?_
    refine RW.run ttok 2 rfl ?_
    by_cases hg10 : (x0.Level == 0) = true
    · skip
      rw [if_pos hg10] at hm
      refine RW.know 17 rfl (congrArg Value.bool hg10) ?_
      refine RW.run ttok 3 rfl ?_
      refine RW.load1 ttok rfl rfl rfl rfl rfl (At.ext (hE.trans hS.ext) g0_) 3 rfl rfl rfl rfl ?_
      refine RW.run ttok 4 rfl ?_
      by_cases hg11 : ((x0.Data.length : Int) == 0) = true
      · skip
        rw [if_pos hg11] at hm
        refine RW.know 25 rfl (congrArg Value.bool hg11) ?_
        refine RW.run ttok 3 rfl ?_
        refine RW.load1 ttok rfl rfl rfl rfl rfl (At.ext (hE.trans hS.ext) g0_) 4 rfl rfl rfl rfl ?_
        refine RW.run ttok 4 rfl ?_
        by_cases hg12 : ((x0.Words.length : Int) == 0) = true
        · skip
          rw [if_pos hg12] at hm
          refine RW.know 33 rfl (congrArg Value.bool hg12) ?_
          refine RW.run ttok 3 rfl ?_
          refine RW.load1 ttok rfl rfl rfl rfl rfl (At.ext (hE.trans hS.ext) g0_) 2 rfl rfl rfl rfl ?_
          refine RW.run ttok 2 rfl ?_
          obtain ⟨r13, hx14, hm⟩ := bind_some hm
          refine RW.call rfl rfl rfl enters67 (spec_l00In_ok (hE.trans hS.ext)  hx14) (fun v15 w16 hR17 => ?_)
          obtain ⟨rfl, hR18⟩ := hR17
          have hS19 := hS.join hR18
          refine RW.run ttok 2 rfl ?_
          refine RW.nil ?_
          refine WP.ret ?_
          cases hm
          exact ⟨_, .cons (.tmp rfl) .nil, rfl, hS19⟩
        · skip
          rw [if_neg hg12] at hm
          refine RW.know 33 rfl (congrArg Value.bool (Bool.eq_false_iff.2 hg12)) ?_
          refine RW.run ttok 9 rfl ?_
          refine RW.nil ?_
          refine WP.ret ?_
          cases hm
          exact ⟨_, .cons (.tmp rfl) .nil, rfl, hS⟩
      · skip
        rw [if_neg hg11] at hm
        refine RW.know 25 rfl (congrArg Value.bool (Bool.eq_false_iff.2 hg11)) ?_
        refine RW.run ttok 17 rfl ?_
        refine RW.nil ?_
        refine WP.ret ?_
        cases hm
        exact ⟨_, .cons (.tmp rfl) .nil, rfl, hS⟩
    · skip
      rw [if_neg hg10] at hm
      refine RW.know 17 rfl (congrArg Value.bool (Bool.eq_false_iff.2 hg10)) ?_
      refine RW.run ttok 25 rfl ?_
      refine RW.nil ?_
      refine WP.ret ?_
      cases hm
      exact ⟨_, .cons (.tmp rfl) .nil, rfl, hS⟩
  · skip
    rw [if_neg (not_t hc)] at hm
    refine WP.seq ?_
    refine WP.region ?_
    refine RW.run ttok 3 rfl ?_
    refine RW.load1 ttok rfl rfl rfl rfl rfl (At.ext (hE.trans hS.ext) g0_) 0 rfl rfl rfl rfl ?_
    refine RW.run ttok 2 rfl ?_
    refine RW.nil ?_
    refine WP.cond (x0.Kind == 13) rfl (fun hc => ?_) (fun hc => ?_)
    · skip
      rw [if_pos hc] at hm
      refine WP.seq ?_
      refine WP.region ?_
      refine RW.run ttok 3 rfl ?_
      refine RW.load1 ttok rfl rfl rfl rfl rfl (At.ext (hE.trans hS.ext) g0_) 1 rfl rfl rfl rfl ?_
      refine RW.run ttok 2 rfl ?_
      by_cases hg20 : (x0.Level == 0) = true
      · skip
        rw [if_pos hg20] at hm
        refine RW.know 53 rfl (congrArg Value.bool hg20) ?_
        refine RW.run ttok 3 rfl ?_
        refine RW.load1 ttok rfl rfl rfl rfl rfl (At.ext (hE.trans hS.ext) g0_) 2 rfl rfl rfl rfl ?_
        refine RW.run ttok 3 rfl ?_
        by_cases hg21 : (x0.Value == 0) = true
        · skip
          rw [if_pos hg21] at hm
          refine RW.know 60 rfl (congrArg Value.bool hg21) ?_
          refine RW.run ttok 3 rfl ?_
          refine RW.load1 ttok rfl rfl rfl rfl rfl (At.ext (hE.trans hS.ext) g0_) 3 rfl rfl rfl rfl ?_
          refine RW.run ttok 4 rfl ?_
          by_cases hg22 : ((x0.Data.length : Int) == 0) = true
          · skip
            rw [if_pos hg22] at hm
            refine RW.know 68 rfl (congrArg Value.bool hg22) ?_
            refine RW.run ttok 3 rfl ?_
            refine RW.load1 ttok rfl rfl rfl rfl rfl (At.ext (hE.trans hS.ext) g0_) 4 rfl rfl rfl rfl ?_
            refine RW.run ttok 4 rfl ?_
            refine RW.nil ?_
            refine WP.ret ?_
            cases hm
            exact ⟨_, .cons (.tmp rfl) .nil, rfl, hS⟩
          · skip
            rw [if_neg hg22] at hm
            refine RW.know 68 rfl (congrArg Value.bool (Bool.eq_false_iff.2 hg22)) ?_
            refine RW.run ttok 8 rfl ?_
            refine RW.nil ?_
            refine WP.ret ?_
            cases hm
            exact ⟨_, .cons (.tmp rfl) .nil, rfl, hS⟩
        · skip
          rw [if_neg hg21] at hm
          refine RW.know 60 rfl (congrArg Value.bool (Bool.eq_false_iff.2 hg21)) ?_
          refine RW.run ttok 16 rfl ?_
          refine RW.nil ?_
          refine WP.ret ?_
          cases hm
          exact ⟨_, .cons (.tmp rfl) .nil, rfl, hS⟩
      · skip
        rw [if_neg hg20] at hm
        refine RW.know 53 rfl (congrArg Value.bool (Bool.eq_false_iff.2 hg20)) ?_
        refine RW.run ttok 23 rfl ?_
        refine RW.nil ?_
        refine WP.ret ?_
        cases hm
        exact ⟨_, .cons (.tmp rfl) .nil, rfl, hS⟩
    · skip
      rw [if_neg (not_t hc)] at hm
      refine WP.seq ?_
      refine WP.region ?_
      refine RW.run ttok 1 rfl ?_
      obtain ⟨r23, hx24, hm⟩ := bind_some hm
      refine RW.call rfl rfl rfl enters128 (spec_l21IsAgent_ok (hE.trans hS.ext) h0_ g0_ hx24) (fun v25 w26 hR27 => ?_)
      obtain ⟨rfl, hR28⟩ := hR27
      have hS29 := hS.join hR28
      refine RW.run ttok 1 rfl ?_
      refine RW.nil ?_
      refine WP.cond r23 rfl (fun hc => ?_) (fun hc => ?_)
      · skip
        rw [if_pos hc] at hm
        refine WP.seq ?_
        refine WP.region ?_
        refine RW.run ttok 1 rfl ?_
        obtain ⟨r30, hx31, hm⟩ := bind_some hm
        refine RW.call rfl rfl rfl enters194 (spec_l21Agent_ok (hE.trans hS29.ext) h0_ g0_ hx31) (fun v32 w33 hR34 => ?_)
        obtain ⟨A35, k36, A38, k39, rfl, hR40, h37⟩ := hR34
        have hS41 := hS29.join hR40
        refine RW.new ttok hS41 rfl rfl rfl rfl (fun g42 w43 e44 hS45 => ?_)
        have hS46 := hS45.bring 0 rfl
        refine RW.store ttok (A := []) hS46 rfl rfl rfl rfl rfl 0 rfl rfl rfl rfl rfl (fun w47 hS48 => ?_)
        refine RW.nil ?_
        refine WP.seq ?_
        refine WP.region ?_
        obtain ⟨r49, hx50, hm⟩ := bind_some hm
        refine RW.call rfl rfl rfl enters205 (spec_l11Agent_ok (Ext.refl _) (ty206_shut (⟨r30.Kind, r30.Level, r30.Value, r30.Data, r30.Ports⟩ : D.Agent) (ty22.ext (hE.trans hS48.ext) h37) ((hS48.bring 1 rfl).own)) ((hS48.bring 0 rfl).box) hx50) (fun v51 w52 hR53 => ?_)
        obtain ⟨rfl, hR54⟩ := hR53
        have hS55 := hS48.join hR54
        refine RW.run ttok 1 rfl ?_
        refine RW.nil ?_
        refine WP.ret ?_
        cases hm
        exact ⟨_, .cons (.tmp rfl) .nil, rfl, (hS55.taken 0)⟩
      · skip
        rw [if_neg (not_t hc)] at hm
        refine WP.skip ?_
        refine WP.seq ?_
        refine WP.region ?_
        refine RW.run ttok 1 rfl ?_
        refine RW.nil ?_
        refine WP.ret ?_
        cases hm
        exact ⟨_, .cons (.tmp rfl) .nil, rfl, hS29⟩

theorem enters214 : Enters Try.prog 214 := ⟨_, _, Try.func214, rfl, by kernel_rfl⟩
def m_spec_l21Words_j1 (fuel : Nat) (t16 : (List D.Word)) : Option (List D.Word) := some t16
def m_spec_l21Words_b1 (fuel : Nat) (x0 : D.Memory) (s15 : Int × (List D.Word)) : Option (Rd (Int × (List D.Word)) ((List D.Word)) ((List D.Word))) := (if (decide (s15.1 < (x0.Cells.length : Int))) = true then ((idx x0.Cells s15.1).bind fun x34 => (if decide ((s15.2.length : Int) + (x34.Words.length : Int) ≤ 4294967296) = true then some (.next (w64 (s15.1 + 1), (s15.2 ++ x34.Words))) else none)) else some (.brk s15.2))
def m_spec_l21Words (fuel : Nat) (x0 : D.Memory) : Option ((List D.Word)) := ((iter (m_spec_l21Words_b1 fuel x0) fuel (0, ([x0.Root] : (List D.Word)))).bind fun o => aft o (m_spec_l21Words_j1 fuel))

set_option maxRecDepth 100000 in
theorem spec_l21Words_ok {W w : World} (hE : Ext W w) {p0_ : Addr} {c0_ : List Value} {x0 : D.Memory} (h0_ : ty95.ro W c0_ x0) (g0_ : At W p0_ c0_) {fuel : Nat} {r : (List D.Word)} (hm : m_spec_l21Words fuel x0 = some r) :
    Calls Try.prog 214 ⟨[.pointer (some p0_)]⟩ w (Ret fun v w8 => ∃ A0 k0, v = .slice A0 r.length k0 ∧ St w w8 [Own ty165 [.slice A0 r.length k0] r]) := by
  obtain ⟨A1, k2, A4, k5, e7, h3, h6⟩ := ty95_open h0_; subst e7
  refine Calls.into Try.func214 rfl 30 rfl rfl _ rfl ?_
  unfold m_spec_l21Words at hm
  have hS := St.start w
  refine WP.seq ?_
  refine WP.region ?_
  refine RW.run ttok 1 rfl ?_
  refine RW.nil ?_
  refine WP.seq ?_
  refine WP.region ?_
  refine RW.run ttok 3 rfl ?_
  refine RW.loadN ttok rfl rfl rfl rfl rfl (At.sub (At.ext (hE.trans hS.ext) g0_) 2 2) rfl rfl rfl ?_
  refine RW.newSlice (U := ty92) (els := [.int .i64 x0.Root.Tag, .int .i64 x0.Root.At]) (ys := [x0.Root]) ttok (hS.flatEls (U := ty92) (els := [.int .i64 x0.Root.Tag, .int .i64 x0.Root.At]) (ys := [x0.Root]) ⟨[.int .i64 x0.Root.Tag, .int .i64 x0.Root.At], _, [], [], rfl, rfl, (ty92_ownI (c := x0.Root) rfl), ⟨rfl, rfl⟩⟩) rfl rfl rfl rfl rfl rfl rfl rfl rfl rfl rfl rfl (fun A10 k11 w12 e13 hS14 => ?_)
  refine RW.run ttok 1 rfl ?_
  refine RW.nil ?_
  refine WP.seq ?_
  refine WP.seq ?_
  refine WP.region ?_
  refine RW.run ttok 1 rfl ?_
  refine RW.nil ?_
  obtain ⟨o25, hl26, hm⟩ := bind_some hm
  refine WP.cut (fun (t16 : (List D.Word)) F w9 => ∃ A22 k23, o25 = .inl t16 ∧ St w w9 [Own ty165 [.slice A22 t16.length k23] t16] ∧ F = [(3, .slice A22 t16.length k23)]) ?_ ?_
  · skip
    rintro t16 F w24 ⟨A22, k23, ho28, hS27, rfl⟩
    subst ho28
    rw [aft_inl] at hm
    unfold m_spec_l21Words_j1 at hm
    refine WP.seq ?_
    refine WP.region ?_
    refine RW.run ttok 2 rfl ?_
    refine RW.nil ?_
    refine WP.ret ?_
    cases hm
    exact ⟨_, .cons (.tmp rfl) .nil, A22, k23, rfl, hS27⟩
  · skip
    refine WP.block ?_
    refine WP.weak [(0, .pointer (some p0_)), (3, .slice A10 ([x0.Root] : (List D.Word)).length k11), (4, .int .i64 0)] ⟨rfl, rfl, rfl, trivial⟩ ?_
    refine WP.iter (fun (s15 : Int × (List D.Word)) F w9 => ∃ A20 k21, St w w9 [Own ty165 [.slice A20 s15.2.length k21] s15.2] ∧ F = [(0, .pointer (some p0_)), (3, .slice A20 s15.2.length k21), (4, .int .i64 s15.1)]) _ hl26 ⟨A10, k11, hS14, rfl⟩ ?_
    rintro s15 F w33 _ o31 ⟨A20, k21, hS32, rfl⟩ hb29 ho30
    unfold m_spec_l21Words_b1 at hb29
    refine WP.seq ?_
    refine WP.seq ?_
    refine WP.region ?_
    refine RW.run ttok 4 rfl ?_
    refine RW.load1 ttok rfl rfl rfl rfl rfl (At.ext (hE.trans hS32.ext) g0_) 0 rfl rfl rfl rfl ?_
    refine RW.run ttok 2 rfl ?_
    refine RW.nil ?_
    refine WP.cond (decide (s15.1 < (x0.Cells.length : Int))) rfl (fun hc => ?_) (fun hc => ?_)
    · skip
      rw [if_pos hc] at hb29
      refine WP.skip ?_
      refine WP.seq ?_
      refine WP.block ?_
      refine WP.region ?_
      refine RW.run ttok 4 rfl ?_
      refine RW.load1 ttok rfl rfl rfl rfl rfl (At.ext (hE.trans hS32.ext) g0_) 0 rfl rfl rfl rfl ?_
      refine RW.run ttok 1 rfl ?_
      obtain ⟨x34, hx35, hb29⟩ := bind_some hb29
      refine RW.idx ttok (hE.trans hS32.ext) rfl rfl rfl rfl rfl rfl (by decide) rfl rfl h3 (idx_some hx35).1 (idx_some hx35).2 rfl rfl (fun p36 es37 ha38 hr39 => ?_)
      obtain ⟨A40, k41, A43, k44, e46, h42, h45⟩ := ty167_open hr39; subst e46
      refine RW.run ttok 1 rfl ?_
      refine RW.load1 ttok rfl rfl rfl rfl rfl (At.ext (hE.trans hS32.ext) ha38) 4 rfl rfl rfl rfl ?_
      have hS47 := hS32.bring 0 rfl
      by_cases hk48 : decide ((s15.2.length : Int) + (x34.Words.length : Int) ≤ 4294967296) = true
      case neg => rw [if_neg hk48] at hb29; cases hb29
      rw [if_pos hk48] at hb29
      refine RW.appendRo ttok (Flat.map (Flat.pair Flat.int (Flat.pair Flat.int Flat.unit))) hS47 rfl rfl rfl rfl rfl rfl (by decide) rfl rfl (ty165.ext (hE.trans hS47.ext) h45) (of_decide_eq_true hk48) (by decide) rfl rfl (fun A49 k50 w51 hS52 => ?_)
      refine RW.run ttok 1 rfl ?_
      refine RW.nil ?_
      refine WP.region ?_
      refine RW.run ttok 3 rfl ?_
      refine RW.nil ?_
      cases hb29
      exact ⟨_, [(0, .pointer (some p0_)), (3, .slice A49 (s15.2 ++ x34.Words).length k50), (4, .int .i64 (w64 (s15.1 + 1)))], ⟨rfl, rfl, rfl, trivial⟩, rfl, A49, k50, hS52, rfl⟩
    · skip
      rw [if_neg (not_t hc)] at hb29
      refine WP.exit ?_
      cases hb29
      exact ⟨_, [(3, .slice A20 s15.2.length k21)], ⟨rfl, trivial⟩, A20, k21, ho30, hS32, rfl⟩

theorem enters124 : Enters Try.prog 124 := ⟨_, _, Try.func124, rfl, by kernel_rfl⟩
def m_spec_l21Word (fuel : Nat) (x0 : D.Memory) (x1 : D.Word) : Option (Bool) := ((m_spec_l00In fuel x1.At 0 (w64 ((x0.Cells.length : Int) - 1))).bind fun r17 => (if (!r17) = true then some false else ((idx x0.Cells x1.At).bind fun x26 => (if (x1.Tag == 1) = true then ((m_spec_l21IsAgent fuel x26).bind fun r40 => (if r40 = true then some true else (if (x1.Tag == 2) = true then some (x26.Kind == 13) else some false))) else (if (x1.Tag == 2) = true then some (x26.Kind == 13) else some false)))))

set_option maxRecDepth 100000 in
theorem spec_l21Word_ok {W w : World} (hE : Ext W w) {p0_ : Addr} {c0_ : List Value} {x0 : D.Memory} {c1_ : List Value} {x1 : D.Word} (h0_ : ty95.ro W c0_ x0) (g0_ : At W p0_ c0_) (h1_ : ty92.ro W c1_ x1) {fuel : Nat} {r : Bool} (hm : m_spec_l21Word fuel x0 x1 = some r) :
    Calls Try.prog 124 ⟨[.pointer (some p0_), .agg ⟨c1_⟩]⟩ w (Ret fun v w8 => v = .bool r ∧ St w w8 []) := by
  obtain ⟨A1, k2, A4, k5, e7, h3, h6⟩ := ty95_open h0_; subst e7
  have e10 := ty92_open h1_; subst e10
  refine Calls.into Try.func124 rfl 42 rfl rfl _ rfl ?_
  unfold m_spec_l21Word at hm
  have hS := St.start w
  refine WP.seq ?_
  refine WP.region ?_
  refine RW.new ttok hS rfl rfl rfl rfl (fun g11 w12 e13 hS14 => ?_)
  refine RW.run ttok 1 rfl ?_
  refine RW.nil ?_
  refine WP.seq ?_
  refine WP.seq ?_
  refine WP.drawnM 0 mixed 10 (by kernel_rfl) (by kernel_rfl) [([], 1023), ([0], 1022), ([], 1023), ([2], 1019), ([3], 1015), ([4], 1007), ([5], 991), ([6], 959), ([1, 7], 893), ([8], 767)] (by kernel_rfl) (fun hsk15 => ?_)
  have hS16 := hS14.step (Ext.draw _)
  refine DM.run (fuel := 6) ttok hsk15 [0, 2, 3, 4] 29 (by kernel_rfl) (by kernel_rfl) rfl ?_
  refine DM.load1 ttok hsk15 1 31 (by kernel_rfl) (by kernel_rfl) (by kernel_rfl) (by kernel_rfl) rfl (by kernel_rfl) rfl rfl rfl rfl rfl ((hS14.bring 0 rfl).box) 1 rfl rfl rfl rfl ?_
  refine DM.load1 ttok hsk15 5 63 (by kernel_rfl) (by kernel_rfl) (by kernel_rfl) (by kernel_rfl) rfl (by kernel_rfl) rfl rfl rfl rfl rfl (At.ext (hE.trans hS14.ext) g0_) 0 rfl rfl rfl rfl ?_
  refine DM.run (fuel := 2) ttok hsk15 [6, 7] 255 (by kernel_rfl) (by kernel_rfl) rfl ?_
  refine DM.weak [(0, .pointer (some p0_)), (3, .pointer (some ⟨g11, 0, none⟩)), (7, .int .i64 x1.At), (13, .int .i64 (w64 ((x0.Cells.length : Int) - 1)))] ⟨rfl, rfl, rfl, rfl, trivial⟩ ?_
  obtain ⟨r17, hx18, hm⟩ := bind_some hm
  refine DM.one hsk15 8 (by kernel_rfl) (LM.call hsk15 511 (by kernel_rfl) (by kernel_rfl) rfl rfl rfl rfl enters67 (spec_l00In_ok (hE.trans hS16.ext)  hx18) (fun v19 w20 hR21 => ?_))
  obtain ⟨rfl, hR22⟩ := hR21
  refine ⟨hR22.ext, ?_⟩
  have hS23 := hS16.join hR22
  refine DM.run (fuel := 0) ttok hsk15 [9] 1023 (by kernel_rfl) (by kernel_rfl) rfl ?_
  refine DM.done hsk15 (by kernel_rfl) ?_
  refine WP.cond (!r17) rfl (fun hc => ?_) (fun hc => ?_)
  · skip
    rw [if_pos hc] at hm
    refine WP.seq ?_
    refine WP.region ?_
    refine RW.run ttok 1 rfl ?_
    refine RW.nil ?_
    refine WP.ret ?_
    cases hm
    exact ⟨_, .cons (.tmp rfl) .nil, rfl, (hS23.taken 0)⟩
  · skip
    rw [if_neg (not_t hc)] at hm
    refine WP.skip ?_
    refine WP.seq ?_
    refine WP.drawnM 0 mixed 8 (by kernel_rfl) (by kernel_rfl) [([], 255), ([0], 254), ([1], 253), ([2], 251), ([], 255), ([4], 239), ([3, 5], 215), ([6, 0, 1, 2, 3, 4, 5, 6], 191)] (by kernel_rfl) (fun hsk24 => ?_)
    have hS25 := hS23.step (Ext.draw _)
    refine DM.run (fuel := 4) ttok hsk24 [0, 1, 2, 4] 23 (by kernel_rfl) (by kernel_rfl) rfl ?_
    refine DM.weak [(3, .pointer (some ⟨g11, 0, none⟩)), (18, .pointer (some p0_)), (20, .pointer (some ⟨g11, 1, none⟩))] ⟨rfl, rfl, rfl, trivial⟩ ?_
    refine DM.load1 ttok hsk24 3 31 (by kernel_rfl) (by kernel_rfl) (by kernel_rfl) (by kernel_rfl) rfl (by kernel_rfl) rfl rfl rfl rfl rfl (At.ext (hE.trans hS23.ext) g0_) 0 rfl rfl rfl rfl ?_
    refine DM.load1 ttok hsk24 5 63 (by kernel_rfl) (by kernel_rfl) (by kernel_rfl) (by kernel_rfl) rfl (by kernel_rfl) rfl rfl rfl rfl rfl ((hS23.bring 0 rfl).box) 1 rfl rfl rfl rfl ?_
    obtain ⟨x26, hx27, hm⟩ := bind_some hm
    refine DM.idx ttok (hE.trans hS23.ext) hsk24 6 127 (by kernel_rfl) (by kernel_rfl) (by kernel_rfl) (by kernel_rfl) rfl (by kernel_rfl) rfl rfl rfl rfl rfl rfl (by decide) rfl rfl h3 (idx_some hx27).1 (idx_some hx27).2 rfl rfl (fun p28 es29 ha30 hr31 => ?_)
    obtain ⟨A32, k33, A35, k36, e38, h34, h37⟩ := ty167_open hr31; subst e38
    refine DM.run (fuel := 0) ttok hsk24 [7] 255 (by kernel_rfl) (by kernel_rfl) rfl ?_
    refine DM.done hsk24 (by kernel_rfl) ?_
    refine WP.seq ?_
    refine WP.region ?_
    refine RW.run ttok 1 rfl ?_
    refine RW.load1 ttok rfl rfl rfl rfl rfl ((hS25.bring 0 rfl).box) 0 rfl rfl rfl rfl ?_
    refine RW.run ttok 2 rfl ?_
    by_cases hg39 : (x1.Tag == 1) = true
    · skip
      rw [if_pos hg39] at hm
      refine RW.know 26 rfl (congrArg Value.bool hg39) ?_
      refine RW.run ttok 1 rfl ?_
      obtain ⟨r40, hx41, hm⟩ := bind_some hm
      refine RW.call rfl rfl rfl enters128 (spec_l21IsAgent_ok (hE.trans hS25.ext) hr31 ha30 hx41) (fun v42 w43 hR44 => ?_)
      obtain ⟨rfl, hR45⟩ := hR44
      have hS46 := hS25.join hR45
      refine RW.run ttok 2 rfl ?_
      by_cases hg47 : r40 = true
      · skip
        rw [if_pos hg47] at hm
        refine RW.know 30 rfl (congrArg Value.bool hg47) ?_
        refine RW.run ttok 12 rfl ?_
        refine RW.nil ?_
        refine WP.ret ?_
        cases hm
        exact ⟨_, .cons (.tmp rfl) .nil, rfl, (hS46.taken 0)⟩
      · skip
        rw [if_neg hg47] at hm
        refine RW.know 30 rfl (congrArg Value.bool (Bool.eq_false_iff.2 hg47)) ?_
        refine RW.run ttok 1 rfl ?_
        refine RW.load1 ttok rfl rfl rfl rfl rfl ((hS46.bring 0 rfl).box) 0 rfl rfl rfl rfl ?_
        refine RW.run ttok 2 rfl ?_
        by_cases hg48 : (x1.Tag == 2) = true
        · skip
          rw [if_pos hg48] at hm
          refine RW.know 34 rfl (congrArg Value.bool hg48) ?_
          refine RW.run ttok 3 rfl ?_
          refine RW.load1 ttok rfl rfl rfl rfl rfl (At.ext (hE.trans hS46.ext) ha30) 0 rfl rfl rfl rfl ?_
          refine RW.run ttok 4 rfl ?_
          refine RW.nil ?_
          refine WP.ret ?_
          cases hm
          exact ⟨_, .cons (.tmp rfl) .nil, rfl, (hS46.taken 0)⟩
        · skip
          rw [if_neg hg48] at hm
          refine RW.know 34 rfl (congrArg Value.bool (Bool.eq_false_iff.2 hg48)) ?_
          refine RW.run ttok 8 rfl ?_
          refine RW.nil ?_
          refine WP.ret ?_
          cases hm
          exact ⟨_, .cons (.tmp rfl) .nil, rfl, (hS46.taken 0)⟩
    · skip
      rw [if_neg hg39] at hm
      refine RW.know 26 rfl (congrArg Value.bool (Bool.eq_false_iff.2 hg39)) ?_
      refine RW.run ttok 5 rfl ?_
      refine RW.load1 ttok rfl rfl rfl rfl rfl ((hS25.bring 0 rfl).box) 0 rfl rfl rfl rfl ?_
      refine RW.run ttok 2 rfl ?_
      by_cases hg49 : (x1.Tag == 2) = true
      · skip
        rw [if_pos hg49] at hm
        refine RW.know 34 rfl (congrArg Value.bool hg49) ?_
        refine RW.run ttok 3 rfl ?_
        refine RW.load1 ttok rfl rfl rfl rfl rfl (At.ext (hE.trans hS25.ext) ha30) 0 rfl rfl rfl rfl ?_
        refine RW.run ttok 4 rfl ?_
        refine RW.nil ?_
        refine WP.ret ?_
        cases hm
        exact ⟨_, .cons (.tmp rfl) .nil, rfl, (hS25.taken 0)⟩
      · skip
        rw [if_neg hg49] at hm
        refine RW.know 34 rfl (congrArg Value.bool (Bool.eq_false_iff.2 hg49)) ?_
        refine RW.run ttok 8 rfl ?_
        refine RW.nil ?_
        refine WP.ret ?_
        cases hm
        exact ⟨_, .cons (.tmp rfl) .nil, rfl, (hS25.taken 0)⟩

theorem enters125 : Enters Try.prog 125 := ⟨_, _, Try.func125, rfl, by kernel_rfl⟩
def m_spec_l21Resolve_j1 (fuel : Nat) (t20 : Int × Int) : Option (D.Word × Bool) := some ((⟨t20.1, t20.2⟩ : D.Word), false)
def m_spec_l21Resolve_j2 (fuel : Nat) (x0 : D.Memory) (s19 : Int × Int × Int) (t35 : Bool) : Option (Rd (Int × Int × Int) (Int × Int) (D.Word × Bool)) := (if t35 = true then some (.ret ((⟨s19.2.1, s19.2.2⟩ : D.Word), true)) else ((idx x0.Cells s19.2.2).bind fun x45 => ((idx x45.Words 0).bind fun x58 => some (.next (w64 (s19.1 - 1), x58.Tag, x58.At)))))
def m_spec_l21Resolve_b1 (fuel : Nat) (x0 : D.Memory) (s19 : Int × Int × Int) : Option (Rd (Int × Int × Int) (Int × Int) (D.Word × Bool)) := (if (decide (s19.1 ≥ 0)) = true then (if (s19.2.1 != 2) = true then m_spec_l21Resolve_j2 fuel x0 s19 true else ((idx x0.Cells s19.2.2).bind fun x72 => m_spec_l21Resolve_j2 fuel x0 s19 ((x72.Words.length : Int) == 0))) else some (.brk (s19.2.1, s19.2.2)))
def m_spec_l21Resolve (fuel : Nat) (x0 : D.Memory) (x1 : D.Word) : Option (D.Word × Bool) := ((iter (m_spec_l21Resolve_b1 fuel x0) fuel ((x0.Cells.length : Int), x1.Tag, x1.At)).bind fun o => aft o (m_spec_l21Resolve_j1 fuel))

set_option maxRecDepth 100000 in
theorem spec_l21Resolve_ok {W w : World} (hE : Ext W w) {p0_ : Addr} {c0_ : List Value} {x0 : D.Memory} {c1_ : List Value} {x1 : D.Word} (h0_ : ty95.ro W c0_ x0) (g0_ : At W p0_ c0_) (h1_ : ty92.ro W c1_ x1) {fuel : Nat} {r : D.Word × Bool} (hm : m_spec_l21Resolve fuel x0 x1 = some r) :
    Calls Try.prog 125 ⟨[.pointer (some p0_), .agg ⟨c1_⟩]⟩ w (Ret fun v w8 => v = .tuple ⟨[.agg ⟨[.int .i64 r.1.Tag, .int .i64 r.1.At]⟩, .bool r.2]⟩ ∧ St w w8 []) := by
  obtain ⟨A1, k2, A4, k5, e7, h3, h6⟩ := ty95_open h0_; subst e7
  have e10 := ty92_open h1_; subst e10
  refine Calls.into Try.func125 rfl 45 rfl rfl _ rfl ?_
  unfold m_spec_l21Resolve at hm
  have hS := St.start w
  refine WP.seq ?_
  refine WP.region ?_
  refine RW.new ttok hS rfl rfl rfl rfl (fun g11 w12 e13 hS14 => ?_)
  refine RW.new ttok hS14 rfl rfl rfl rfl (fun g15 w16 e17 hS18 => ?_)
  refine RW.run ttok 1 rfl ?_
  refine RW.nil ?_
  refine WP.seq ?_
  refine WP.seq ?_
  refine WP.region ?_
  refine RW.run ttok 3 rfl ?_
  refine RW.load1 ttok rfl rfl rfl rfl rfl (At.ext (hE.trans hS18.ext) g0_) 0 rfl rfl rfl rfl ?_
  refine RW.run ttok 2 rfl ?_
  refine RW.nil ?_
  obtain ⟨o23, hl24, hm⟩ := bind_some hm
  refine WP.cut (fun (t20 : Int × Int) F w9 => o23 = .inl t20 ∧ St w w9 [Box g15 [.int .i64 0, .int .i64 0] 92, Box g11 [.int .i64 t20.1, .int .i64 t20.2] 92] ∧ F = [(3, .pointer (some ⟨g11, 0, none⟩)), (4, .pointer (some ⟨g15, 0, none⟩))]) ?_ ?_
  · skip
    rintro t20 F w22 ⟨ho26, hS25, rfl⟩
    subst ho26
    rw [aft_inl] at hm
    unfold m_spec_l21Resolve_j1 at hm
    refine WP.seq ?_
    refine WP.region ?_
    refine RW.loadN ttok rfl rfl rfl rfl rfl ((hS25.bring 1 rfl).box) rfl rfl rfl ?_
    have hS27 := hS25.bring 0 rfl
    refine RW.store ttok (A := []) hS27 rfl rfl rfl rfl rfl 0 rfl rfl rfl rfl rfl (fun w28 hS29 => ?_)
    refine RW.run ttok 1 rfl ?_
    refine RW.nil ?_
    refine WP.ret ?_
    cases hm
    exact ⟨_, .cons (ResIs.agg ttok rfl rfl rfl ((hS29.bring 0 rfl).box) rfl) (.cons (.tmp rfl) .nil), rfl, (hS29.taken 0)⟩
  · skip
    refine WP.block ?_
    refine WP.weak [(0, .pointer (some p0_)), (3, .pointer (some ⟨g11, 0, none⟩)), (4, .pointer (some ⟨g15, 0, none⟩)), (6, .int .i64 (x0.Cells.length : Int))] ⟨rfl, rfl, rfl, rfl, trivial⟩ ?_
    refine WP.iter (fun (s19 : Int × Int × Int) F w9 => St w w9 [Box g15 [.int .i64 0, .int .i64 0] 92, Box g11 [.int .i64 s19.2.1, .int .i64 s19.2.2] 92] ∧ F = [(0, .pointer (some p0_)), (3, .pointer (some ⟨g11, 0, none⟩)), (4, .pointer (some ⟨g15, 0, none⟩)), (6, .int .i64 s19.1)]) _ hl24 ⟨hS18, rfl⟩ ?_
    rintro s19 F w34 _ o32 ⟨hS33, rfl⟩ hb30 ho31
    unfold m_spec_l21Resolve_b1 at hb30
    refine WP.seq ?_
    refine WP.seq ?_
    refine WP.region ?_
    refine RW.run ttok 2 rfl ?_
    refine RW.nil ?_
    refine WP.cond (decide (s19.1 ≥ 0)) rfl (fun hc => ?_) (fun hc => ?_)
    · skip
      rw [if_pos hc] at hb30
      refine WP.skip ?_
      refine WP.seq ?_
      refine WP.block ?_
      refine WP.seq ?_
      refine WP.seq ?_
      refine WP.cut (fun (t35 : Bool) F w9 => m_spec_l21Resolve_j2 fuel x0 s19 t35 = some o32 ∧ Ext w34 w9 ∧ St w w9 [Box g15 [.int .i64 0, .int .i64 0] 92, Box g11 [.int .i64 s19.2.1, .int .i64 s19.2.2] 92] ∧ F = [(0, .pointer (some p0_)), (3, .pointer (some ⟨g11, 0, none⟩)), (4, .pointer (some ⟨g15, 0, none⟩)), (6, .int .i64 s19.1), (31, .bool t35)]) ?_ ?_
      · skip
        rintro t35 F w38 ⟨hb30, hE36, hS37, rfl⟩
        unfold m_spec_l21Resolve_j2 at hb30
        refine WP.cond t35 rfl (fun hc => ?_) (fun hc => ?_)
        · skip
          rw [if_pos hc] at hb30
          refine WP.seq ?_
          refine WP.region ?_
          refine RW.loadN ttok rfl rfl rfl rfl rfl ((hS37.bring 1 rfl).box) rfl rfl rfl ?_
          have hS40 := hS37.bring 0 rfl
          refine RW.store ttok (A := []) hS40 rfl rfl rfl rfl rfl 0 rfl rfl rfl rfl rfl (fun w41 hS42 => ?_)
          refine RW.run ttok 1 rfl ?_
          refine RW.nil ?_
          refine WP.ret ?_
          cases hb30
          cases ho31
          have hm : some _ = some _ := hm
          cases hm
          exact ⟨_, .cons (ResIs.agg ttok rfl rfl rfl ((hS42.bring 0 rfl).box) rfl) (.cons (.tmp rfl) .nil), rfl, (hS42.taken 0)⟩
        · skip
          rw [if_neg (not_t hc)] at hb30
          refine WP.skip ?_
          refine WP.drawnM 2048 mixed 12 (by kernel_rfl) (by kernel_rfl) [([], 4095), ([0], 4094), ([1], 4093), ([2], 4091), ([], 4095), ([4], 4079), ([3, 5], 4055), ([6], 4031), ([7], 3967), ([8], 3839), ([9], 3583), ([10, 0, 1, 2, 3, 4, 5, 6, 7, 8, 9, 10], 3071)] (by kernel_rfl) (fun hsk43 => ?_)
          have hS44 := hS37.step (Ext.draw _)
          refine DM.run (fuel := 8) ttok hsk43 [0, 1, 2, 4] 23 (by kernel_rfl) (by kernel_rfl) rfl ?_
          refine DM.load1 ttok hsk43 3 31 (by kernel_rfl) (by kernel_rfl) (by kernel_rfl) (by kernel_rfl) rfl (by kernel_rfl) rfl rfl rfl rfl rfl (At.ext (hE.trans hS37.ext) g0_) 0 rfl rfl rfl rfl ?_
          refine DM.load1 ttok hsk43 5 63 (by kernel_rfl) (by kernel_rfl) (by kernel_rfl) (by kernel_rfl) rfl (by kernel_rfl) rfl rfl rfl rfl rfl ((hS37.bring 1 rfl).box) 1 rfl rfl rfl rfl ?_
          obtain ⟨x45, hx46, hb30⟩ := bind_some hb30
          refine DM.idx ttok (hE.trans hS37.ext) hsk43 6 127 (by kernel_rfl) (by kernel_rfl) (by kernel_rfl) (by kernel_rfl) rfl (by kernel_rfl) rfl rfl rfl rfl rfl rfl (by decide) rfl rfl h3 (idx_some hx46).1 (idx_some hx46).2 rfl rfl (fun p47 es48 ha49 hr50 => ?_)
          obtain ⟨A51, k52, A54, k55, e57, h53, h56⟩ := ty167_open hr50; subst e57
          refine DM.run (fuel := 4) ttok hsk43 [7] 255 (by kernel_rfl) (by kernel_rfl) rfl ?_
          refine DM.weak [(0, .pointer (some p0_)), (3, .pointer (some ⟨g11, 0, none⟩)), (4, .pointer (some ⟨g15, 0, none⟩)), (6, .int .i64 s19.1), (40, .pointer (some (p47.add 4)))] ⟨rfl, rfl, rfl, rfl, rfl, trivial⟩ ?_
          refine DM.load1 ttok hsk43 8 511 (by kernel_rfl) (by kernel_rfl) (by kernel_rfl) (by kernel_rfl) rfl (by kernel_rfl) rfl rfl rfl rfl rfl (At.ext (hE.trans hS37.ext) ha49) 4 rfl rfl rfl rfl ?_
          obtain ⟨x58, hx59, hb30⟩ := bind_some hb30
          refine DM.idx ttok (hE.trans hS37.ext) hsk43 9 1023 (by kernel_rfl) (by kernel_rfl) (by kernel_rfl) (by kernel_rfl) rfl (by kernel_rfl) rfl rfl rfl rfl rfl rfl (by decide) rfl rfl h56 (idx_some hx59).1 (idx_some hx59).2 rfl rfl (fun p60 es61 ha62 hr63 => ?_)
          have e65 := ty92_open hr63; subst e65
          refine DM.loadN ttok hsk43 10 2047 (by kernel_rfl) (by kernel_rfl) (by kernel_rfl) (by kernel_rfl) rfl (by kernel_rfl) rfl rfl rfl rfl rfl (At.ext (hE.trans hS37.ext) ha62) rfl rfl rfl ?_
          have hS66 := hS44.bring 1 rfl
          refine DM.one hsk43 11 (by kernel_rfl) (LM.store ttok (A := []) hS66 hsk43 4095 (by kernel_rfl) (by kernel_rfl) rfl rfl rfl rfl rfl rfl 0 rfl rfl rfl rfl rfl (fun w67 hS68 => ?_))
          refine DM.done hsk43 (by kernel_rfl) ?_
          refine WP.region ?_
          refine RW.run ttok 3 rfl ?_
          refine RW.nil ?_
          cases hb30
          exact ⟨_, [(0, .pointer (some p0_)), (3, .pointer (some ⟨g11, 0, none⟩)), (4, .pointer (some ⟨g15, 0, none⟩)), (6, .int .i64 (w64 (s19.1 - 1)))], ⟨rfl, rfl, rfl, rfl, trivial⟩, rfl, ((hS68.bring 0 rfl).bring 1 rfl), rfl⟩
      · skip
        refine WP.drawnM 0 mixed 16 (by kernel_rfl) (by kernel_rfl) [([], 65535), ([0], 65534), ([1], 65533), ([2], 65531), ([3], 65527), ([4, 3], 65511), ([5, 3], 65495), ([6, 3], 65463), ([3], 65527), ([8, 3], 65271), ([7, 9, 3], 64887), ([10, 3], 64503), ([11, 3], 63479), ([12, 3], 61431), ([13, 3], 57335), ([3, 14], 49143)] (by kernel_rfl) (fun hsk69 => ?_)
        have hS70 := hS33.step (Ext.draw _)
        refine DM.run (fuel := 15) ttok hsk69 [0] 1 (by kernel_rfl) (by kernel_rfl) rfl ?_
        refine DM.load1 ttok hsk69 1 3 (by kernel_rfl) (by kernel_rfl) (by kernel_rfl) (by kernel_rfl) rfl (by kernel_rfl) rfl rfl rfl rfl rfl ((hS33.bring 1 rfl).box) 0 rfl rfl rfl rfl ?_
        refine DM.run (fuel := 12) ttok hsk69 [2, 3] 15 (by kernel_rfl) (by kernel_rfl) rfl ?_
        by_cases hg71 : (s19.2.1 != 2) = true
        · skip
          rw [if_pos hg71] at hb30
          refine DM.know 19 rfl (congrArg Value.bool hg71) ?_
          refine DM.run (fuel := 0) ttok hsk69 [4, 5, 6, 7, 8, 9, 10, 11, 12, 13, 14, 15] 65535 (by kernel_rfl) (by kernel_rfl) rfl ?_
          refine DM.weak [(0, .pointer (some p0_)), (3, .pointer (some ⟨g11, 0, none⟩)), (4, .pointer (some ⟨g15, 0, none⟩)), (6, .int .i64 s19.1), (31, .bool true)] ⟨rfl, rfl, rfl, rfl, rfl, trivial⟩ ?_
          refine DM.done hsk69 (by kernel_rfl) ?_
          exact ⟨true, [(0, .pointer (some p0_)), (3, .pointer (some ⟨g11, 0, none⟩)), (4, .pointer (some ⟨g15, 0, none⟩)), (6, .int .i64 s19.1), (31, .bool true)], ⟨rfl, rfl, rfl, rfl, rfl, trivial⟩, hb30, (Ext.draw _), hS70, rfl⟩
        · skip
          rw [if_neg hg71] at hb30
          refine DM.know 19 rfl (congrArg Value.bool (Bool.eq_false_iff.2 hg71)) ?_
          refine DM.run (fuel := 8) ttok hsk69 [4, 5, 6, 8] 383 (by kernel_rfl) (by kernel_rfl) rfl ?_
          refine DM.weak [(0, .pointer (some p0_)), (3, .pointer (some ⟨g11, 0, none⟩)), (4, .pointer (some ⟨g15, 0, none⟩)), (6, .int .i64 s19.1), (19, .bool false), (22, .pointer (some p0_)), (24, .pointer (some ⟨g11, 1, none⟩))] ⟨rfl, rfl, rfl, rfl, rfl, rfl, rfl, trivial⟩ ?_
          refine DM.load1 ttok hsk69 7 511 (by kernel_rfl) (by kernel_rfl) (by kernel_rfl) (by kernel_rfl) rfl (by kernel_rfl) rfl rfl rfl rfl rfl (At.ext (hE.trans hS33.ext) g0_) 0 rfl rfl rfl rfl ?_
          refine DM.load1 ttok hsk69 9 1023 (by kernel_rfl) (by kernel_rfl) (by kernel_rfl) (by kernel_rfl) rfl (by kernel_rfl) rfl rfl rfl rfl rfl ((hS33.bring 1 rfl).box) 1 rfl rfl rfl rfl ?_
          obtain ⟨x72, hx73, hb30⟩ := bind_some hb30
          refine DM.idx ttok (hE.trans hS33.ext) hsk69 10 2047 (by kernel_rfl) (by kernel_rfl) (by kernel_rfl) (by kernel_rfl) rfl (by kernel_rfl) rfl rfl rfl rfl rfl rfl (by decide) rfl rfl h3 (idx_some hx73).1 (idx_some hx73).2 rfl rfl (fun p74 es75 ha76 hr77 => ?_)
          obtain ⟨A78, k79, A81, k82, e84, h80, h83⟩ := ty167_open hr77; subst e84
          refine DM.run (fuel := 4) ttok hsk69 [11] 4095 (by kernel_rfl) (by kernel_rfl) rfl ?_
          refine DM.load1 ttok hsk69 12 8191 (by kernel_rfl) (by kernel_rfl) (by kernel_rfl) (by kernel_rfl) rfl (by kernel_rfl) rfl rfl rfl rfl rfl (At.ext (hE.trans hS33.ext) ha76) 4 rfl rfl rfl rfl ?_
          refine DM.run (fuel := 0) ttok hsk69 [13, 14, 15] 65535 (by kernel_rfl) (by kernel_rfl) rfl ?_
          refine DM.weak [(0, .pointer (some p0_)), (3, .pointer (some ⟨g11, 0, none⟩)), (4, .pointer (some ⟨g15, 0, none⟩)), (6, .int .i64 s19.1), (31, .bool ((x72.Words.length : Int) == 0))] ⟨rfl, rfl, rfl, rfl, rfl, trivial⟩ ?_
          refine DM.done hsk69 (by kernel_rfl) ?_
          exact ⟨((x72.Words.length : Int) == 0), [(0, .pointer (some p0_)), (3, .pointer (some ⟨g11, 0, none⟩)), (4, .pointer (some ⟨g15, 0, none⟩)), (6, .int .i64 s19.1), (31, .bool ((x72.Words.length : Int) == 0))], ⟨rfl, rfl, rfl, rfl, rfl, trivial⟩, hb30, (Ext.draw _), hS70, rfl⟩
    · skip
      rw [if_neg (not_t hc)] at hb30
      refine WP.exit ?_
      cases hb30
      exact ⟨_, [(3, .pointer (some ⟨g11, 0, none⟩)), (4, .pointer (some ⟨g15, 0, none⟩))], ⟨rfl, rfl, trivial⟩, ho31, hS33, rfl⟩

theorem enters215 : Enters Try.prog 215 := ⟨_, _, Try.func215, rfl, by kernel_rfl⟩
def m_spec_l21Chain_j2 (fuel : Nat) (t22 : Int) : Option Bool := some (t22 == (-1))
def m_spec_l21Chain_j3 (fuel : Nat) (x0 : D.Memory) (s21 : Int × Int) (t37 : Bool) : Option (Rd (Int × Int) (Int) (Bool)) := (if t37 = true then some (.ret false) else ((idx x0.Cells s21.2).bind fun x42 => some (.next (w64 (s21.1 - 1), x42.Value))))
def m_spec_l21Chain_b2 (fuel : Nat) (x0 : D.Memory) (s21 : Int × Int) : Option (Rd (Int × Int) (Int) (Bool)) := (if (decide (s21.1 > 0)) = true then ((m_spec_l00In fuel s21.2 0 (w64 ((x0.Cells.length : Int) - 1))).bind fun r55 => (if (!r55) = true then m_spec_l21Chain_j3 fuel x0 s21 true else ((idx x0.Cells s21.2).bind fun x63 => m_spec_l21Chain_j3 fuel x0 s21 (x63.Kind != 0)))) else some (.brk s21.2))
def m_spec_l21Chain_j1 (fuel : Nat) (x0 : D.Memory) (t11 : Int) : Option Bool := ((iter (m_spec_l21Chain_b2 fuel x0) fuel (t11, x0.Free)).bind fun o => aft o (m_spec_l21Chain_j2 fuel))
def m_spec_l21Chain_j4 (fuel : Nat) (s10 : Int × Int) (t95 : Int) : Option (Rd (Int × Int) (Int) (Bool)) := some (.next (t95, w64 (s10.2 + 1)))
def m_spec_l21Chain_b1 (fuel : Nat) (x0 : D.Memory) (s10 : Int × Int) : Option (Rd (Int × Int) (Int) (Bool)) := (if (decide (s10.2 < (x0.Cells.length : Int))) = true then ((idx x0.Cells s10.2).bind fun x82 => (if (x82.Kind == 0) = true then m_spec_l21Chain_j4 fuel s10 (w64 (s10.1 + 1)) else m_spec_l21Chain_j4 fuel s10 s10.1)) else some (.brk s10.1))
def m_spec_l21Chain (fuel : Nat) (x0 : D.Memory) : Option (Bool) := ((iter (m_spec_l21Chain_b1 fuel x0) fuel (0, 0)).bind fun o => aft o (m_spec_l21Chain_j1 fuel x0))

set_option maxRecDepth 100000 in
theorem spec_l21Chain_ok {W w : World} (hE : Ext W w) {p0_ : Addr} {c0_ : List Value} {x0 : D.Memory} (h0_ : ty95.ro W c0_ x0) (g0_ : At W p0_ c0_) {fuel : Nat} {r : Bool} (hm : m_spec_l21Chain fuel x0 = some r) :
    Calls Try.prog 215 ⟨[.pointer (some p0_)]⟩ w (Ret fun v w8 => v = .bool r ∧ St w w8 []) := by
  obtain ⟨A1, k2, A4, k5, e7, h3, h6⟩ := ty95_open h0_; subst e7
  refine Calls.into Try.func215 rfl 64 rfl rfl _ rfl ?_
  unfold m_spec_l21Chain at hm
  have hS := St.start w
  refine WP.seq ?_
  refine WP.region ?_
  refine RW.run ttok 1 rfl ?_
  refine RW.nil ?_
  refine WP.seq ?_
  refine WP.region ?_
  refine RW.run ttok 1 rfl ?_
  refine RW.nil ?_
  refine WP.seq ?_
  refine WP.seq ?_
  refine WP.region ?_
  refine RW.run ttok 1 rfl ?_
  refine RW.nil ?_
  obtain ⟨o17, hl18, hm⟩ := bind_some hm
  refine WP.cut (fun (t11 : Int) F w9 => o17 = .inl t11 ∧ Ext w w9 ∧ St w w9 [] ∧ F = [(0, .pointer (some p0_)), (3, .int .i64 t11)]) ?_ ?_
  · skip
    rintro t11 F w16 ⟨ho20, hE15, hS19, rfl⟩
    subst ho20
    rw [aft_inl] at hm
    unfold m_spec_l21Chain_j1 at hm
    refine WP.seq ?_
    refine WP.region ?_
    refine RW.run ttok 3 rfl ?_
    refine RW.load1 ttok rfl rfl rfl rfl rfl (At.ext (hE.trans hS19.ext) g0_) 1 rfl rfl rfl rfl ?_
    refine RW.run ttok 1 rfl ?_
    refine RW.nil ?_
    refine WP.seq ?_
    obtain ⟨o28, hl29, hm⟩ := bind_some hm
    refine WP.cut (fun (t22 : Int) F w9 => o28 = .inl t22 ∧ Ext w16 w9 ∧ St w w9 [] ∧ F = [(5, .int .i64 t22)]) ?_ ?_
    · skip
      rintro t22 F w27 ⟨ho31, hE26, hS30, rfl⟩
      subst ho31
      rw [aft_inl] at hm
      unfold m_spec_l21Chain_j2 at hm
      refine WP.seq ?_
      refine WP.region ?_
      refine RW.run ttok 3 rfl ?_
      refine RW.nil ?_
      refine WP.ret ?_
      cases hm
      exact ⟨_, .cons (.tmp rfl) .nil, rfl, hS30⟩
    · skip
      refine WP.block ?_
      refine WP.weak [(0, .pointer (some p0_)), (3, .int .i64 t11), (5, .int .i64 x0.Free)] ⟨rfl, rfl, rfl, trivial⟩ ?_
      refine WP.iter (fun (s21 : Int × Int) F w9 => Ext w16 w9 ∧ St w w9 [] ∧ F = [(0, .pointer (some p0_)), (3, .int .i64 s21.1), (5, .int .i64 s21.2)]) _ hl29 ⟨(Ext.refl _), hS19, rfl⟩ ?_
      rintro s21 F w36 _ o34 ⟨hE25, hS35, rfl⟩ hb32 ho33
      unfold m_spec_l21Chain_b2 at hb32
      refine WP.seq ?_
      refine WP.seq ?_
      refine WP.region ?_
      refine RW.run ttok 2 rfl ?_
      refine RW.nil ?_
      refine WP.cond (decide (s21.1 > 0)) rfl (fun hc => ?_) (fun hc => ?_)
      · skip
        rw [if_pos hc] at hb32
        refine WP.skip ?_
        refine WP.seq ?_
        refine WP.block ?_
        refine WP.seq ?_
        refine WP.seq ?_
        refine WP.cut (fun (t37 : Bool) F w9 => m_spec_l21Chain_j3 fuel x0 s21 t37 = some o34 ∧ Ext w36 w9 ∧ St w w9 [] ∧ F = [(0, .pointer (some p0_)), (3, .int .i64 s21.1), (5, .int .i64 s21.2), (53, .bool t37)]) ?_ ?_
        · skip
          rintro t37 F w40 ⟨hb32, hE38, hS39, rfl⟩
          unfold m_spec_l21Chain_j3 at hb32
          refine WP.cond t37 rfl (fun hc => ?_) (fun hc => ?_)
          · skip
            rw [if_pos hc] at hb32
            refine WP.seq ?_
            refine WP.region ?_
            refine RW.run ttok 1 rfl ?_
            refine RW.nil ?_
            refine WP.ret ?_
            cases hb32
            cases ho33
            have hm : some _ = some _ := hm
            cases hm
            exact ⟨_, .cons (.tmp rfl) .nil, rfl, hS39⟩
          · skip
            rw [if_neg (not_t hc)] at hb32
            refine WP.skip ?_
            refine WP.region ?_
            refine RW.run ttok 3 rfl ?_
            refine RW.load1 ttok rfl rfl rfl rfl rfl (At.ext (hE.trans hS39.ext) g0_) 0 rfl rfl rfl rfl ?_
            refine RW.run ttok 1 rfl ?_
            obtain ⟨x42, hx43, hb32⟩ := bind_some hb32
            refine RW.idx ttok (hE.trans hS39.ext) rfl rfl rfl rfl rfl rfl (by decide) rfl rfl h3 (idx_some hx43).1 (idx_some hx43).2 rfl rfl (fun p44 es45 ha46 hr47 => ?_)
            obtain ⟨A48, k49, A51, k52, e54, h50, h53⟩ := ty167_open hr47; subst e54
            refine RW.run ttok 1 rfl ?_
            refine RW.load1 ttok rfl rfl rfl rfl rfl (At.ext (hE.trans hS39.ext) ha46) 2 rfl rfl rfl rfl ?_
            refine RW.run ttok 1 rfl ?_
            refine RW.nil ?_
            refine WP.region ?_
            refine RW.run ttok 3 rfl ?_
            refine RW.nil ?_
            cases hb32
            exact ⟨_, [(0, .pointer (some p0_)), (3, .int .i64 (w64 (s21.1 - 1))), (5, .int .i64 x42.Value)], ⟨rfl, rfl, rfl, trivial⟩, rfl, (hE25.trans hE38), hS39, rfl⟩
        · skip
          refine WP.region ?_
          refine RW.run ttok 4 rfl ?_
          refine RW.load1 ttok rfl rfl rfl rfl rfl (At.ext (hE.trans hS35.ext) g0_) 0 rfl rfl rfl rfl ?_
          refine RW.run ttok 2 rfl ?_
          obtain ⟨r55, hx56, hb32⟩ := bind_some hb32
          refine RW.call rfl rfl rfl enters67 (spec_l00In_ok (hE.trans hS35.ext)  hx56) (fun v57 w58 hR59 => ?_)
          obtain ⟨rfl, hR60⟩ := hR59
          have hS61 := hS35.join hR60
          refine RW.run ttok 2 rfl ?_
          by_cases hg62 : (!r55) = true
          · skip
            rw [if_pos hg62] at hb32
            refine RW.know 43 rfl (congrArg Value.bool hg62) ?_
            refine RW.run ttok 10 rfl ?_
            refine RW.nil ?_
            exact ⟨true, [(0, .pointer (some p0_)), (3, .int .i64 s21.1), (5, .int .i64 s21.2), (53, .bool true)], ⟨rfl, rfl, rfl, rfl, trivial⟩, hb32, hR60.ext, hS61, rfl⟩
          · skip
            rw [if_neg hg62] at hb32
            refine RW.know 43 rfl (congrArg Value.bool (Bool.eq_false_iff.2 hg62)) ?_
            refine RW.run ttok 3 rfl ?_
            refine RW.load1 ttok rfl rfl rfl rfl rfl (At.ext (hE.trans hS61.ext) g0_) 0 rfl rfl rfl rfl ?_
            refine RW.run ttok 1 rfl ?_
            obtain ⟨x63, hx65, hb32⟩ := bind_some hb32
            refine RW.idx ttok (hE.trans hS61.ext) rfl rfl rfl rfl rfl rfl (by decide) rfl rfl h3 (idx_some hx65).1 (idx_some hx65).2 rfl rfl (fun p66 es67 ha68 hr69 => ?_)
            obtain ⟨A70, k71, A73, k74, e76, h72, h75⟩ := ty167_open hr69; subst e76
            refine RW.run ttok 1 rfl ?_
            refine RW.load1 ttok rfl rfl rfl rfl rfl (At.ext (hE.trans hS61.ext) ha68) 0 rfl rfl rfl rfl ?_
            refine RW.run ttok 2 rfl ?_
            refine RW.nil ?_
            exact ⟨(x63.Kind != 0), [(0, .pointer (some p0_)), (3, .int .i64 s21.1), (5, .int .i64 s21.2), (53, .bool (x63.Kind != 0))], ⟨rfl, rfl, rfl, rfl, trivial⟩, hb32, hR60.ext, hS61, rfl⟩
      · skip
        rw [if_neg (not_t hc)] at hb32
        refine WP.exit ?_
        cases hb32
        exact ⟨_, [(5, .int .i64 s21.2)], ⟨rfl, trivial⟩, ho33, hE25, hS35, rfl⟩
  · skip
    refine WP.block ?_
    refine WP.weak [(0, .pointer (some p0_)), (3, .int .i64 0), (4, .int .i64 0)] ⟨rfl, rfl, rfl, trivial⟩ ?_
    refine WP.iter (fun (s10 : Int × Int) F w9 => Ext w w9 ∧ St w w9 [] ∧ F = [(0, .pointer (some p0_)), (3, .int .i64 s10.1), (4, .int .i64 s10.2)]) _ hl18 ⟨(Ext.refl _), hS, rfl⟩ ?_
    rintro s10 F w81 _ o79 ⟨hE14, hS80, rfl⟩ hb77 ho78
    unfold m_spec_l21Chain_b1 at hb77
    refine WP.seq ?_
    refine WP.seq ?_
    refine WP.region ?_
    refine RW.run ttok 4 rfl ?_
    refine RW.load1 ttok rfl rfl rfl rfl rfl (At.ext (hE.trans hS80.ext) g0_) 0 rfl rfl rfl rfl ?_
    refine RW.run ttok 2 rfl ?_
    refine RW.nil ?_
    refine WP.cond (decide (s10.2 < (x0.Cells.length : Int))) rfl (fun hc => ?_) (fun hc => ?_)
    · skip
      rw [if_pos hc] at hb77
      refine WP.skip ?_
      refine WP.seq ?_
      refine WP.block ?_
      refine WP.seq ?_
      refine WP.region ?_
      refine RW.run ttok 3 rfl ?_
      refine RW.load1 ttok rfl rfl rfl rfl rfl (At.ext (hE.trans hS80.ext) g0_) 0 rfl rfl rfl rfl ?_
      refine RW.run ttok 1 rfl ?_
      obtain ⟨x82, hx83, hb77⟩ := bind_some hb77
      refine RW.idx ttok (hE.trans hS80.ext) rfl rfl rfl rfl rfl rfl (by decide) rfl rfl h3 (idx_some hx83).1 (idx_some hx83).2 rfl rfl (fun p84 es85 ha86 hr87 => ?_)
      obtain ⟨A88, k89, A91, k92, e94, h90, h93⟩ := ty167_open hr87; subst e94
      refine RW.run ttok 1 rfl ?_
      refine RW.load1 ttok rfl rfl rfl rfl rfl (At.ext (hE.trans hS80.ext) ha86) 0 rfl rfl rfl rfl ?_
      refine RW.run ttok 1 rfl ?_
      refine RW.nil ?_
      refine WP.cut (fun (t95 : Int) F w9 => m_spec_l21Chain_j4 fuel s10 t95 = some o79 ∧ Ext w81 w9 ∧ St w w9 [] ∧ F = [(0, .pointer (some p0_)), (3, .int .i64 t95), (4, .int .i64 s10.2)]) ?_ ?_
      · skip
        rintro t95 F w98 ⟨hb77, hE96, hS97, rfl⟩
        unfold m_spec_l21Chain_j4 at hb77
        refine WP.region ?_
        refine RW.run ttok 3 rfl ?_
        refine RW.nil ?_
        cases hb77
        exact ⟨_, [(0, .pointer (some p0_)), (3, .int .i64 t95), (4, .int .i64 (w64 (s10.2 + 1)))], ⟨rfl, rfl, rfl, trivial⟩, rfl, (hE14.trans hE96), hS97, rfl⟩
      · skip
        refine WP.cond (x82.Kind == 0) rfl (fun hc => ?_) (fun hc => ?_)
        · skip
          rw [if_pos hc] at hb77
          refine WP.region ?_
          refine RW.run ttok 3 rfl ?_
          refine RW.nil ?_
          exact ⟨w64 (s10.1 + 1), [(0, .pointer (some p0_)), (3, .int .i64 (w64 (s10.1 + 1))), (4, .int .i64 s10.2)], ⟨rfl, rfl, rfl, trivial⟩, hb77, (Ext.refl _), hS80, rfl⟩
        · skip
          rw [if_neg (not_t hc)] at hb77
          refine WP.skip ?_
          exact ⟨s10.1, [(0, .pointer (some p0_)), (3, .int .i64 s10.1), (4, .int .i64 s10.2)], ⟨rfl, rfl, rfl, trivial⟩, hb77, (Ext.refl _), hS80, rfl⟩
    · skip
      rw [if_neg (not_t hc)] at hb77
      refine WP.exit ?_
      cases hb77
      exact ⟨_, [(0, .pointer (some p0_)), (3, .int .i64 s10.1)], ⟨rfl, rfl, trivial⟩, ho78, hE14, hS80, rfl⟩

theorem enters174 : Enters Try.prog 174 := ⟨_, _, Try.func174, rfl, by kernel_rfl⟩
def m_spec_l21With_j5 (fuel : Nat) (x0 : D.Memory) (t67 : Unit) : Option Bool := ((m_spec_l21Chain fuel x0).bind fun r74 => some r74)
def m_spec_l21With_j7 (fuel : Nat) (s66 : Int) (t104 : Unit) : Option (Rd (Int) (Unit) (Bool)) := some (.next (w64 (s66 + 1)))
def m_spec_l21With_j6 (fuel : Nat) (x0 : D.Memory) (s66 : Int) (x86 : D.Cell) (t99 : Bool) : Option (Rd (Int) (Unit) (Bool)) := (if t99 = true then some (.ret false) else (if (x86.Kind == 13) = true then ((m_spec_l21Resolve fuel x0 (⟨2, s66⟩ : D.Word)).bind fun r108 => (if (!r108.2) = true then some (.ret false) else m_spec_l21With_j7 fuel s66 ())) else m_spec_l21With_j7 fuel s66 ()))
def m_spec_l21With_b4 (fuel : Nat) (x0 : D.Memory) (t58 : (List Int)) (s66 : Int) : Option (Rd (Int) (Unit) (Bool)) := (if (decide (s66 < (x0.Cells.length : Int))) = true then ((idx x0.Cells s66).bind fun x86 => ((m_spec_l21IsAgent fuel x86).bind fun r124 => (if r124 = true then ((idx t58 s66).bind fun x132 => (if (x132 != 1) = true then m_spec_l21With_j6 fuel x0 s66 x86 true else (if (x86.Kind == 13) = true then ((idx t58 s66).bind fun x140 => m_spec_l21With_j6 fuel x0 s66 x86 (x140 != (w64 (2 - (x86.Words.length : Int))))) else m_spec_l21With_j6 fuel x0 s66 x86 false))) else (if (x86.Kind == 13) = true then ((idx t58 s66).bind fun x147 => m_spec_l21With_j6 fuel x0 s66 x86 (x147 != (w64 (2 - (x86.Words.length : Int))))) else m_spec_l21With_j6 fuel x0 s66 x86 false)))) else some (.brk ()))
def m_spec_l21With_j4 (fuel : Nat) (x0 : D.Memory) (t58 : (List Int)) : Option Bool := ((iter (m_spec_l21With_b4 fuel x0 t58) fuel 0).bind fun o => aft o (m_spec_l21With_j5 fuel x0))
def m_spec_l21With_j8 (fuel : Nat) (s57 : Int × (List Int)) (x158 : D.Pair) (t172 : Bool) : Option (Rd (Int × (List Int)) ((List Int)) (Bool)) := (if t172 = true then some (.ret false) else ((idx s57.2 x158.A).bind fun x177 => (if decide (0 ≤ x158.A ∧ x158.A.toNat < s57.2.length) = true then ((idx (s57.2.set x158.A.toNat (w64 (x177 + 1))) x158.B).bind fun x192 => (if decide (0 ≤ x158.B ∧ x158.B.toNat < (s57.2.set x158.A.toNat (w64 (x177 + 1))).length) = true then some (.next (w64 (s57.1 + 1), ((s57.2.set x158.A.toNat (w64 (x177 + 1))).set x158.B.toNat (w64 (x192 + 1))))) else none)) else none)))
def m_spec_l21With_b3 (fuel : Nat) (x0 : D.Memory) (x2 : (List D.Pair)) (s57 : Int × (List Int)) : Option (Rd (Int × (List Int)) ((List Int)) (Bool)) := (if (decide (s57.1 < (x2.length : Int))) = true then ((idx x2 s57.1).bind fun x158 => ((m_spec_l00In fuel x158.B 1 (w64 ((x0.Cells.length : Int) - 1))).bind fun r209 => (if (!r209) = true then m_spec_l21With_j8 fuel s57 x158 true else ((m_spec_l00In fuel x158.A 0 (w64 (x158.B - 1))).bind fun r217 => (if (!r217) = true then m_spec_l21With_j8 fuel s57 x158 true else ((idx x0.Cells x158.A).bind fun x225 => ((m_spec_l21IsAgent fuel x225).bind fun r238 => (if (!r238) = true then m_spec_l21With_j8 fuel s57 x158 true else ((idx x0.Cells x158.B).bind fun x246 => ((m_spec_l21IsAgent fuel x246).bind fun r259 => m_spec_l21With_j8 fuel s57 x158 (!r259))))))))))) else some (.brk s57.2))
def m_spec_l21With_j3 (fuel : Nat) (x0 : D.Memory) (x2 : (List D.Pair)) (t50 : (List Int)) : Option Bool := ((iter (m_spec_l21With_b3 fuel x0 x2) fuel (0, t50)).bind fun o => aft o (m_spec_l21With_j4 fuel x0))
def m_spec_l21With_b2 (fuel : Nat) (x0 : D.Memory) (x1 : (List D.Word)) (r34 : (List D.Word)) (s49 : Int × (List Int)) : Option (Rd (Int × (List Int)) ((List Int)) (Bool)) := (if (decide (s49.1 < ((r34 ++ x1).length : Int))) = true then ((idx (r34 ++ x1) s49.1).bind fun x271 => ((m_spec_l21Word fuel x0 x271).bind fun r278 => (if (!r278) = true then some (.ret false) else ((idx (r34 ++ x1) s49.1).bind fun x285 => ((idx s49.2 x285.At).bind fun x292 => (if decide (0 ≤ x285.At ∧ x285.At.toNat < s49.2.length) = true then some (.next (w64 (s49.1 + 1), (s49.2.set x285.At.toNat (w64 (x292 + 1))))) else none)))))) else some (.brk s49.2))
def m_spec_l21With_j2 (fuel : Nat) (x0 : D.Memory) (x1 : (List D.Word)) (x2 : (List D.Pair)) (t21 : (List Int)) : Option Bool := ((m_spec_l21Words fuel x0).bind fun r34 => (if decide ((r34.length : Int) + (x1.length : Int) ≤ 4294967296) = true then ((iter (m_spec_l21With_b2 fuel x0 x1 r34) fuel (0, t21)).bind fun o => aft o (m_spec_l21With_j3 fuel x0 x2)) else none))
def m_spec_l21With_b1 (fuel : Nat) (x0 : D.Memory) (s20 : Int × (List Int)) : Option (Rd (Int × (List Int)) ((List Int)) (Bool)) := (if (decide (s20.1 < (x0.Cells.length : Int))) = true then ((idx x0.Cells s20.1).bind fun x312 => ((m_spec_l21Cell fuel x312 (x0.Cells.length : Int)).bind fun r325 => (if (!r325) = true then some (.ret false) else (if decide ((s20.2.length : Int) + (([0] : (List Int)).length : Int) ≤ 4294967296) = true then some (.next (w64 (s20.1 + 1), (s20.2 ++ ([0] : (List Int))))) else none)))) else some (.brk s20.2))
def m_spec_l21With_j1 (fuel : Nat) (x0 : D.Memory) (x1 : (List D.Word)) (x2 : (List D.Pair)) (t10 : Bool) : Option Bool := (if t10 = true then some false else ((iter (m_spec_l21With_b1 fuel x0) fuel (0, ([] : (List Int)))).bind fun o => aft o (m_spec_l21With_j2 fuel x0 x1 x2)))
def m_spec_l21With (fuel : Nat) (x0 : D.Memory) (x1 : (List D.Word)) (x2 : (List D.Pair)) : Option (Bool) := ((m_spec_l00In fuel (x0.Cells.length : Int) 1 1500).bind fun r343 => (if (!r343) = true then m_spec_l21With_j1 fuel x0 x1 x2 true else m_spec_l21With_j1 fuel x0 x1 x2 (decide ((x2.length : Int) > (x0.Cells.length : Int)))))

set_option maxRecDepth 100000 in
theorem spec_l21With_ok {W w : World} (hE : Ext W w) {p0_ : Addr} {c0_ : List Value} {x0 : D.Memory} {A1_ : Option Addr} {k1_ : Nat} {x1 : (List D.Word)} {A2_ : Option Addr} {k2_ : Nat} {x2 : (List D.Pair)} (h0_ : ty95.ro W c0_ x0) (g0_ : At W p0_ c0_) (h1_ : ty165.ro W [.slice A1_ x1.length k1_] x1) (h2_ : ty93.ro W [.slice A2_ x2.length k2_] x2) {fuel : Nat} {r : Bool} (hm : m_spec_l21With fuel x0 x1 x2 = some r) :
    Calls Try.prog 174 ⟨[.pointer (some p0_), .slice A1_ x1.length k1_, .slice A2_ x2.length k2_]⟩ w (Ret fun v w8 => v = .bool r ∧ St w w8 []) := by
  obtain ⟨A1, k2, A4, k5, e7, h3, h6⟩ := ty95_open h0_; subst e7
  refine Calls.into Try.func174 rfl 202 rfl rfl _ rfl ?_
  unfold m_spec_l21With at hm
  have hS := St.start w
  refine WP.seq ?_
  refine WP.region ?_
  refine RW.run ttok 1 rfl ?_
  refine RW.nil ?_
  refine WP.seq ?_
  refine WP.region ?_
  refine RW.run ttok 3 rfl ?_
  refine RW.load1 ttok rfl rfl rfl rfl rfl (At.ext (hE.trans hS.ext) g0_) 0 rfl rfl rfl rfl ?_
  refine RW.run ttok 2 rfl ?_
  refine RW.nil ?_
  refine WP.seq ?_
  refine WP.seq ?_
  refine WP.cut (fun (t10 : Bool) F w9 => m_spec_l21With_j1 fuel x0 x1 x2 t10 = some r ∧ Ext w w9 ∧ St w w9 [] ∧ F = [(0, .pointer (some p0_)), (1, .slice A1_ x1.length k1_), (2, .slice A2_ x2.length k2_), (7, .int .i64 (x0.Cells.length : Int)), (31, .bool t10)]) ?_ ?_
  · skip
    rintro t10 F w13 ⟨hm, hE11, hS12, rfl⟩
    unfold m_spec_l21With_j1 at hm
    refine WP.cond t10 rfl (fun hc => ?_) (fun hc => ?_)
    · skip
      rw [if_pos hc] at hm
      refine WP.seq ?_
      refine WP.region ?_
      refine RW.run ttok 1 rfl ?_
      refine RW.nil ?_
      refine WP.ret ?_
      cases hm
      exact ⟨_, .cons (.tmp rfl) .nil, rfl, hS12⟩
    · skip
      rw [if_neg (not_t hc)] at hm
      refine WP.skip ?_
      refine WP.seq ?_
      refine WP.region ?_
      refine RW.newSlice0 (U := tInt) ttok hS12 rfl rfl rfl rfl rfl rfl rfl (fun A15 k16 w17 e18 hS19 => ?_)
      refine RW.run ttok 1 rfl ?_
      refine RW.nil ?_
      refine WP.seq ?_
      refine WP.seq ?_
      refine WP.region ?_
      refine RW.run ttok 1 rfl ?_
      refine RW.nil ?_
      obtain ⟨o30, hl31, hm⟩ := bind_some hm
      refine WP.cut (fun (t21 : (List Int)) F w9 => ∃ A27 k28, o30 = .inl t21 ∧ St w w9 [Own ty22 [.slice A27 t21.length k28] t21] ∧ F = [(0, .pointer (some p0_)), (1, .slice A1_ x1.length k1_), (2, .slice A2_ x2.length k2_), (7, .int .i64 (x0.Cells.length : Int)), (8, .slice A27 t21.length k28)]) ?_ ?_
      · skip
        rintro t21 F w29 ⟨A27, k28, ho33, hS32, rfl⟩
        subst ho33
        rw [aft_inl] at hm
        unfold m_spec_l21With_j2 at hm
        refine WP.seq ?_
        refine WP.region ?_
        refine RW.run ttok 1 rfl ?_
        obtain ⟨r34, hx35, hm⟩ := bind_some hm
        refine RW.call rfl rfl rfl enters214 (spec_l21Words_ok (hE.trans hS32.ext) h0_ g0_ hx35) (fun v36 w37 hR38 => ?_)
        obtain ⟨A39, k40, rfl, hR41⟩ := hR38
        have hS42 := hS32.join hR41
        refine RW.run ttok 1 rfl ?_
        have hS43 := hS42.bring 0 rfl
        by_cases hk44 : decide ((r34.length : Int) + (x1.length : Int) ≤ 4294967296) = true
        case neg => rw [if_neg hk44] at hm; cases hm
        rw [if_pos hk44] at hm
        refine RW.appendRo ttok (Flat.map (Flat.pair Flat.int (Flat.pair Flat.int Flat.unit))) hS43 rfl rfl rfl rfl rfl rfl (by decide) rfl rfl (ty165.ext (hE.trans hS43.ext) h1_) (of_decide_eq_true hk44) (by decide) rfl rfl (fun A45 k46 w47 hS48 => ?_)
        refine RW.run ttok 1 rfl ?_
        refine RW.nil ?_
        refine WP.seq ?_
        refine WP.seq ?_
        refine WP.region ?_
        refine RW.run ttok 1 rfl ?_
        refine RW.nil ?_
        obtain ⟨o53, hl54, hm⟩ := bind_some hm
        refine WP.cut (fun (t50 : (List Int)) F w9 => o53 = .inl t50 ∧ St w w9 [Own ty165 [.slice A45 (r34 ++ x1).length k46] (r34 ++ x1), Own ty22 [.slice A27 t21.length k28] t50] ∧ F = [(0, .pointer (some p0_)), (2, .slice A2_ x2.length k2_), (7, .int .i64 (x0.Cells.length : Int)), (8, .slice A27 t21.length k28)]) ?_ ?_
        · skip
          rintro t50 F w52 ⟨ho56, hS55, rfl⟩
          subst ho56
          rw [aft_inl] at hm
          unfold m_spec_l21With_j3 at hm
          refine WP.seq ?_
          refine WP.seq ?_
          refine WP.region ?_
          refine RW.run ttok 1 rfl ?_
          refine RW.nil ?_
          obtain ⟨o61, hl62, hm⟩ := bind_some hm
          refine WP.cut (fun (t58 : (List Int)) F w9 => o61 = .inl t58 ∧ St w w9 [Own ty165 [.slice A45 (r34 ++ x1).length k46] (r34 ++ x1), Own ty22 [.slice A27 t21.length k28] t58] ∧ F = [(0, .pointer (some p0_)), (8, .slice A27 t21.length k28)]) ?_ ?_
          · skip
            rintro t58 F w60 ⟨ho65, hS63, rfl⟩
            subst ho65
            rw [aft_inl] at hm
            unfold m_spec_l21With_j4 at hm
            refine WP.seq ?_
            refine WP.seq ?_
            refine WP.region ?_
            refine RW.run ttok 1 rfl ?_
            refine RW.nil ?_
            obtain ⟨o70, hl71, hm⟩ := bind_some hm
            refine WP.cut (fun (t67 : Unit) F w9 => o70 = .inl t67 ∧ St w w9 [Own ty165 [.slice A45 (r34 ++ x1).length k46] (r34 ++ x1), Own ty22 [.slice A27 t21.length k28] t58] ∧ F = [(0, .pointer (some p0_))]) ?_ ?_
            · skip
              rintro t67 F w69 ⟨ho73, hS72, rfl⟩
              subst ho73
              rw [aft_inl] at hm
              unfold m_spec_l21With_j5 at hm
              refine WP.seq ?_
              refine WP.region ?_
              refine RW.run ttok 1 rfl ?_
              obtain ⟨r74, hx75, hm⟩ := bind_some hm
              refine RW.call rfl rfl rfl enters215 (spec_l21Chain_ok (hE.trans hS72.ext) h0_ g0_ hx75) (fun v76 w77 hR78 => ?_)
              obtain ⟨rfl, hR79⟩ := hR78
              have hS80 := hS72.join hR79
              refine RW.run ttok 1 rfl ?_
              refine RW.nil ?_
              refine WP.ret ?_
              cases hm
              exact ⟨_, .cons (.tmp rfl) .nil, rfl, (hS80.taken 0)⟩
            · skip
              refine WP.block ?_
              refine WP.weak [(0, .pointer (some p0_)), (8, .slice A27 t21.length k28), (14, .int .i64 0)] ⟨rfl, rfl, rfl, trivial⟩ ?_
              refine WP.iter (fun (s66 : Int) F w9 => St w w9 [Own ty165 [.slice A45 (r34 ++ x1).length k46] (r34 ++ x1), Own ty22 [.slice A27 t21.length k28] t58] ∧ F = [(0, .pointer (some p0_)), (8, .slice A27 t21.length k28), (14, .int .i64 s66)]) _ hl71 ⟨hS63, rfl⟩ ?_
              rintro s66 F w85 _ o83 ⟨hS84, rfl⟩ hb81 ho82
              unfold m_spec_l21With_b4 at hb81
              refine WP.seq ?_
              refine WP.seq ?_
              refine WP.region ?_
              refine RW.run ttok 4 rfl ?_
              refine RW.load1 ttok rfl rfl rfl rfl rfl (At.ext (hE.trans hS84.ext) g0_) 0 rfl rfl rfl rfl ?_
              refine RW.run ttok 2 rfl ?_
              refine RW.nil ?_
              refine WP.cond (decide (s66 < (x0.Cells.length : Int))) rfl (fun hc => ?_) (fun hc => ?_)
              · skip
                rw [if_pos hc] at hb81
                refine WP.skip ?_
                refine WP.seq ?_
                refine WP.block ?_
                refine WP.seq ?_
                refine WP.region ?_
                refine RW.run ttok 3 rfl ?_
                refine RW.load1 ttok rfl rfl rfl rfl rfl (At.ext (hE.trans hS84.ext) g0_) 0 rfl rfl rfl rfl ?_
                refine RW.run ttok 1 rfl ?_
                obtain ⟨x86, hx87, hb81⟩ := bind_some hb81
                refine RW.idx ttok (hE.trans hS84.ext) rfl rfl rfl rfl rfl rfl (by decide) rfl rfl h3 (idx_some hx87).1 (idx_some hx87).2 rfl rfl (fun p88 es89 ha90 hr91 => ?_)
                obtain ⟨A92, k93, A95, k96, e98, h94, h97⟩ := ty167_open hr91; subst e98
                refine RW.run ttok 1 rfl ?_
                refine RW.nil ?_
                refine WP.seq ?_
                refine WP.seq ?_
                refine WP.cut (fun (t99 : Bool) F w9 => m_spec_l21With_j6 fuel x0 s66 x86 t99 = some o83 ∧ Ext w85 w9 ∧ St w w9 [Own ty165 [.slice A45 (r34 ++ x1).length k46] (r34 ++ x1), Own ty22 [.slice A27 t21.length k28] t58] ∧ F = [(0, .pointer (some p0_)), (8, .slice A27 t21.length k28), (14, .int .i64 s66), (15, .pointer (some p88)), (185, .bool t99)]) ?_ ?_
                · skip
                  rintro t99 F w102 ⟨hb81, hE100, hS101, rfl⟩
                  unfold m_spec_l21With_j6 at hb81
                  refine WP.cond t99 rfl (fun hc => ?_) (fun hc => ?_)
                  · skip
                    rw [if_pos hc] at hb81
                    refine WP.seq ?_
                    refine WP.region ?_
                    refine RW.run ttok 1 rfl ?_
                    refine RW.nil ?_
                    refine WP.ret ?_
                    cases hb81
                    cases ho82
                    have hm : some _ = some _ := hm
                    cases hm
                    exact ⟨_, .cons (.tmp rfl) .nil, rfl, (hS101.taken 0)⟩
                  · skip
                    rw [if_neg (not_t hc)] at hb81
                    refine WP.skip ?_
                    refine WP.seq ?_
                    refine WP.region ?_
                    refine RW.run ttok 3 rfl ?_
                    refine RW.load1 ttok rfl rfl rfl rfl rfl (At.ext (hE.trans hS101.ext) ha90) 0 rfl rfl rfl rfl ?_
                    refine RW.run ttok 1 rfl ?_
                    refine RW.nil ?_
                    refine WP.cut (fun (t104 : Unit) F w9 => m_spec_l21With_j7 fuel s66 t104 = some o83 ∧ St w w9 [Own ty165 [.slice A45 (r34 ++ x1).length k46] (r34 ++ x1), Own ty22 [.slice A27 t21.length k28] t58] ∧ F = [(0, .pointer (some p0_)), (8, .slice A27 t21.length k28), (14, .int .i64 s66)]) ?_ ?_
                    · skip
                      rintro t104 F w106 ⟨hb81, hS105, rfl⟩
                      unfold m_spec_l21With_j7 at hb81
                      refine WP.region ?_
                      refine RW.run ttok 3 rfl ?_
                      refine RW.nil ?_
                      cases hb81
                      exact ⟨_, [(0, .pointer (some p0_)), (8, .slice A27 t21.length k28), (14, .int .i64 (w64 (s66 + 1)))], ⟨rfl, rfl, rfl, trivial⟩, rfl, hS105, rfl⟩
                    · skip
                      refine WP.cond (x86.Kind == 13) rfl (fun hc => ?_) (fun hc => ?_)
                      · skip
                        rw [if_pos hc] at hb81
                        refine WP.seq ?_
                        refine WP.region ?_
                        refine RW.run ttok 2 rfl ?_
                        refine RW.quiet rfl (Quiet.build ttok rfl rfl rfl rfl rfl) rfl rfl ?_
                        obtain ⟨r108, hx109, hb81⟩ := bind_some hb81
                        refine RW.call rfl rfl rfl enters125 (spec_l21Resolve_ok (hE.trans hS101.ext) h0_ g0_ (ty92_shut (⟨2, s66⟩ : D.Word)) hx109) (fun v110 w111 hR112 => ?_)
                        obtain ⟨rfl, hR113⟩ := hR112
                        have hS114 := hS101.join hR113
                        refine RW.run ttok 3 rfl ?_
                        refine RW.new ttok hS114 rfl rfl rfl rfl (fun g115 w116 e117 hS118 => ?_)
                        have hS119 := hS118.bring 0 rfl
                        refine RW.store ttok (A := []) hS119 rfl rfl rfl rfl rfl 0 rfl rfl rfl rfl rfl (fun w120 hS121 => ?_)
                        refine RW.run ttok 1 rfl ?_
                        refine RW.nil ?_
                        refine WP.seq ?_
                        refine WP.region ?_
                        refine RW.run ttok 2 rfl ?_
                        refine RW.nil ?_
                        refine WP.cond (!r108.2) rfl (fun hc => ?_) (fun hc => ?_)
                        · skip
                          rw [if_pos hc] at hb81
                          refine WP.seq ?_
                          refine WP.region ?_
                          refine RW.run ttok 1 rfl ?_
                          refine RW.nil ?_
                          refine WP.ret ?_
                          cases hb81
                          cases ho82
                          have hm : some _ = some _ := hm
                          cases hm
                          exact ⟨_, .cons (.tmp rfl) .nil, rfl, (hS121.taken 0)⟩
                        · skip
                          rw [if_neg (not_t hc)] at hb81
                          refine WP.skip ?_
                          exact ⟨(), [(0, .pointer (some p0_)), (8, .slice A27 t21.length k28), (14, .int .i64 s66)], ⟨rfl, rfl, rfl, trivial⟩, hb81, (hS121.bring 0 rfl).drop, rfl⟩
                      · skip
                        rw [if_neg (not_t hc)] at hb81
                        refine WP.skip ?_
                        exact ⟨(), [(0, .pointer (some p0_)), (8, .slice A27 t21.length k28), (14, .int .i64 s66)], ⟨rfl, rfl, rfl, trivial⟩, hb81, hS101, rfl⟩
                · skip
                  refine WP.drawnM 0 mixed 29 (by kernel_rfl) (by kernel_rfl) [([], 536870911), ([0], 536870910), ([1, 1], 536870909), ([2], 536870907), ([2], 536870907), ([3, 4, 2], 536870883), ([5, 2], 536870875), ([6, 2], 536870843), ([2, 7], 536870779), ([8, 2], 536870655), ([9], 536870399), ([10, 9], 536869375), ([11, 9], 536868351), ([12, 9], 536866303), ([13, 9], 536862207), ([14, 9, 9], 536854015), ([15], 536838143), ([15], 536838143), ([16, 17, 15], 536641535), ([18, 15], 536575999), ([15], 536838143), ([20, 15], 535789567), ([21, 15], 534740991), ([22, 15], 532643839), ([23, 15], 528449535), ([24, 15], 520060927), ([19, 25, 15], 502759423), ([15, 26, 9], 469728767), ([9, 27], 402652671)] (by kernel_rfl) (fun hsk122 => ?_)
                  have hS123 := hS84.step (Ext.draw _)
                  refine DM.run (fuel := 28) ttok hsk122 [0] 1 (by kernel_rfl) (by kernel_rfl) rfl ?_
                  refine DM.weak [(0, .pointer (some p0_)), (8, .slice A27 t21.length k28), (14, .int .i64 s66), (15, .pointer (some p88)), (157, .pointer (some p88))] ⟨rfl, rfl, rfl, rfl, rfl, trivial⟩ ?_
                  obtain ⟨r124, hx125, hb81⟩ := bind_some hb81
                  refine DM.one hsk122 1 (by kernel_rfl) (LM.call hsk122 3 (by kernel_rfl) (by kernel_rfl) rfl rfl rfl rfl enters128 (spec_l21IsAgent_ok (hE.trans hS123.ext) hr91 ha90 hx125) (fun v126 w127 hR128 => ?_))
                  obtain ⟨rfl, hR129⟩ := hR128
                  refine ⟨hR129.ext, ?_⟩
                  have hS130 := hS123.join hR129
                  refine DM.run (fuel := 26) ttok hsk122 [2] 7 (by kernel_rfl) (by kernel_rfl) rfl ?_
                  by_cases hg131 : r124 = true
                  · skip
                    rw [if_pos hg131] at hb81
                    refine DM.know 159 rfl (congrArg Value.bool hg131) ?_
                    refine DM.run (fuel := 24) ttok hsk122 [3, 4] 31 (by kernel_rfl) (by kernel_rfl) rfl ?_
                    obtain ⟨x132, hx133, hb81⟩ := bind_some hb81
                    refine DM.idx ttok (Ext.refl _) hsk122 5 63 (by kernel_rfl) (by kernel_rfl) (by kernel_rfl) (by kernel_rfl) rfl (by kernel_rfl) rfl rfl rfl rfl rfl rfl (by decide) rfl rfl ((hS84.bring 1 rfl).own) (idx_some hx133).1 (idx_some hx133).2 rfl rfl (fun p134 es135 ha136 hr137 => ?_)
                    cases hr137
                    refine DM.load1 ttok hsk122 6 127 (by kernel_rfl) (by kernel_rfl) (by kernel_rfl) (by kernel_rfl) rfl (by kernel_rfl) rfl rfl rfl rfl rfl ha136 0 rfl rfl rfl rfl ?_
                    refine DM.run (fuel := 19) ttok hsk122 [7, 8, 9] 1023 (by kernel_rfl) (by kernel_rfl) rfl ?_
                    refine DM.weak [(0, .pointer (some p0_)), (8, .slice A27 t21.length k28), (14, .int .i64 s66), (15, .pointer (some p88)), (166, .bool (x132 != 1))] ⟨rfl, rfl, rfl, rfl, rfl, trivial⟩ ?_
                    by_cases hg138 : (x132 != 1) = true
                    · skip
                      rw [if_pos hg138] at hb81
                      refine DM.know 166 rfl (congrArg Value.bool hg138) ?_
                      refine DM.run (fuel := 0) ttok hsk122 [10, 11, 12, 13, 14, 15, 16, 17, 18, 19, 20, 21, 22, 23, 24, 25, 26, 27, 28] 536870911 (by kernel_rfl) (by kernel_rfl) rfl ?_
                      refine DM.weak [(0, .pointer (some p0_)), (8, .slice A27 t21.length k28), (14, .int .i64 s66), (15, .pointer (some p88)), (185, .bool true)] ⟨rfl, rfl, rfl, rfl, rfl, trivial⟩ ?_
                      refine DM.done hsk122 (by kernel_rfl) ?_
                      exact ⟨true, [(0, .pointer (some p0_)), (8, .slice A27 t21.length k28), (14, .int .i64 s66), (15, .pointer (some p88)), (185, .bool true)], ⟨rfl, rfl, rfl, rfl, rfl, trivial⟩, hb81, ((Ext.draw _).trans hR129.ext), hS130, rfl⟩
                    · skip
                      rw [if_neg hg138] at hb81
                      refine DM.know 166 rfl (congrArg Value.bool (Bool.eq_false_iff.2 hg138)) ?_
                      refine DM.run (fuel := 16) ttok hsk122 [10, 11, 12] 8191 (by kernel_rfl) (by kernel_rfl) rfl ?_
                      refine DM.load1 ttok hsk122 13 16383 (by kernel_rfl) (by kernel_rfl) (by kernel_rfl) (by kernel_rfl) rfl (by kernel_rfl) rfl rfl rfl rfl rfl (At.ext (hE.trans hS84.ext) ha90) 0 rfl rfl rfl rfl ?_
                      refine DM.run (fuel := 13) ttok hsk122 [14, 15] 65535 (by kernel_rfl) (by kernel_rfl) rfl ?_
                      by_cases hg139 : (x86.Kind == 13) = true
                      · skip
                        rw [if_pos hg139] at hb81
                        refine DM.know 172 rfl (congrArg Value.bool hg139) ?_
                        refine DM.run (fuel := 8) ttok hsk122 [16, 17, 20, 21, 22] 7602175 (by kernel_rfl) (by kernel_rfl) rfl ?_
                        refine DM.weak [(0, .pointer (some p0_)), (8, .slice A27 t21.length k28), (14, .int .i64 s66), (15, .pointer (some p88)), (166, .bool false), (172, .bool true), (173, .slice A27 t21.length k28), (174, .int .i64 s66), (179, .pointer (some (p88.add 4)))] ⟨rfl, rfl, rfl, rfl, rfl, rfl, rfl, rfl, rfl, trivial⟩ ?_
                        obtain ⟨x140, hx141, hb81⟩ := bind_some hb81
                        refine DM.idx ttok (Ext.refl _) hsk122 18 7864319 (by kernel_rfl) (by kernel_rfl) (by kernel_rfl) (by kernel_rfl) rfl (by kernel_rfl) rfl rfl rfl rfl rfl rfl (by decide) rfl rfl ((hS84.bring 1 rfl).own) (idx_some hx141).1 (idx_some hx141).2 rfl rfl (fun p142 es143 ha144 hr145 => ?_)
                        cases hr145
                        refine DM.load1 ttok hsk122 19 8388607 (by kernel_rfl) (by kernel_rfl) (by kernel_rfl) (by kernel_rfl) rfl (by kernel_rfl) rfl rfl rfl rfl rfl ha144 0 rfl rfl rfl rfl ?_
                        refine DM.load1 ttok hsk122 23 16777215 (by kernel_rfl) (by kernel_rfl) (by kernel_rfl) (by kernel_rfl) rfl (by kernel_rfl) rfl rfl rfl rfl rfl (At.ext (hE.trans hS84.ext) ha90) 4 rfl rfl rfl rfl ?_
                        refine DM.run (fuel := 0) ttok hsk122 [24, 25, 26, 27, 28] 536870911 (by kernel_rfl) (by kernel_rfl) rfl ?_
                        refine DM.weak [(0, .pointer (some p0_)), (8, .slice A27 t21.length k28), (14, .int .i64 s66), (15, .pointer (some p88)), (185, .bool (x140 != (w64 (2 - (x86.Words.length : Int)))))] ⟨rfl, rfl, rfl, rfl, rfl, trivial⟩ ?_
                        refine DM.done hsk122 (by kernel_rfl) ?_
                        exact ⟨(x140 != (w64 (2 - (x86.Words.length : Int)))), [(0, .pointer (some p0_)), (8, .slice A27 t21.length k28), (14, .int .i64 s66), (15, .pointer (some p88)), (185, .bool (x140 != (w64 (2 - (x86.Words.length : Int)))))], ⟨rfl, rfl, rfl, rfl, rfl, trivial⟩, hb81, ((Ext.draw _).trans hR129.ext), hS130, rfl⟩
                      · skip
                        rw [if_neg hg139] at hb81
                        refine DM.know 172 rfl (congrArg Value.bool (Bool.eq_false_iff.2 hg139)) ?_
                        refine DM.run (fuel := 0) ttok hsk122 [16, 17, 18, 19, 20, 21, 22, 23, 24, 25, 26, 27, 28] 536870911 (by kernel_rfl) (by kernel_rfl) rfl ?_
                        refine DM.weak [(0, .pointer (some p0_)), (8, .slice A27 t21.length k28), (14, .int .i64 s66), (15, .pointer (some p88)), (185, .bool false)] ⟨rfl, rfl, rfl, rfl, rfl, trivial⟩ ?_
                        refine DM.done hsk122 (by kernel_rfl) ?_
                        exact ⟨false, [(0, .pointer (some p0_)), (8, .slice A27 t21.length k28), (14, .int .i64 s66), (15, .pointer (some p88)), (185, .bool false)], ⟨rfl, rfl, rfl, rfl, rfl, trivial⟩, hb81, ((Ext.draw _).trans hR129.ext), hS130, rfl⟩
                  · skip
                    rw [if_neg hg131] at hb81
                    refine DM.know 159 rfl (congrArg Value.bool (Bool.eq_false_iff.2 hg131)) ?_
                    refine DM.run (fuel := 16) ttok hsk122 [3, 4, 5, 6, 7, 8, 9, 10, 11, 12] 8191 (by kernel_rfl) (by kernel_rfl) rfl ?_
                    refine DM.weak [(0, .pointer (some p0_)), (8, .slice A27 t21.length k28), (14, .int .i64 s66), (15, .pointer (some p88)), (166, .bool false), (169, .pointer (some p88))] ⟨rfl, rfl, rfl, rfl, rfl, rfl, trivial⟩ ?_
                    refine DM.load1 ttok hsk122 13 16383 (by kernel_rfl) (by kernel_rfl) (by kernel_rfl) (by kernel_rfl) rfl (by kernel_rfl) rfl rfl rfl rfl rfl (At.ext (hE.trans hS84.ext) ha90) 0 rfl rfl rfl rfl ?_
                    refine DM.run (fuel := 13) ttok hsk122 [14, 15] 65535 (by kernel_rfl) (by kernel_rfl) rfl ?_
                    by_cases hg146 : (x86.Kind == 13) = true
                    · skip
                      rw [if_pos hg146] at hb81
                      refine DM.know 172 rfl (congrArg Value.bool hg146) ?_
                      refine DM.run (fuel := 8) ttok hsk122 [16, 17, 20, 21, 22] 7602175 (by kernel_rfl) (by kernel_rfl) rfl ?_
                      obtain ⟨x147, hx148, hb81⟩ := bind_some hb81
                      refine DM.idx ttok (Ext.refl _) hsk122 18 7864319 (by kernel_rfl) (by kernel_rfl) (by kernel_rfl) (by kernel_rfl) rfl (by kernel_rfl) rfl rfl rfl rfl rfl rfl (by decide) rfl rfl ((hS84.bring 1 rfl).own) (idx_some hx148).1 (idx_some hx148).2 rfl rfl (fun p149 es150 ha151 hr152 => ?_)
                      cases hr152
                      refine DM.load1 ttok hsk122 19 8388607 (by kernel_rfl) (by kernel_rfl) (by kernel_rfl) (by kernel_rfl) rfl (by kernel_rfl) rfl rfl rfl rfl rfl ha151 0 rfl rfl rfl rfl ?_
                      refine DM.load1 ttok hsk122 23 16777215 (by kernel_rfl) (by kernel_rfl) (by kernel_rfl) (by kernel_rfl) rfl (by kernel_rfl) rfl rfl rfl rfl rfl (At.ext (hE.trans hS84.ext) ha90) 4 rfl rfl rfl rfl ?_
                      refine DM.run (fuel := 0) ttok hsk122 [24, 25, 26, 27, 28] 536870911 (by kernel_rfl) (by kernel_rfl) rfl ?_
                      refine DM.weak [(0, .pointer (some p0_)), (8, .slice A27 t21.length k28), (14, .int .i64 s66), (15, .pointer (some p88)), (185, .bool (x147 != (w64 (2 - (x86.Words.length : Int)))))] ⟨rfl, rfl, rfl, rfl, rfl, trivial⟩ ?_
                      refine DM.done hsk122 (by kernel_rfl) ?_
                      exact ⟨(x147 != (w64 (2 - (x86.Words.length : Int)))), [(0, .pointer (some p0_)), (8, .slice A27 t21.length k28), (14, .int .i64 s66), (15, .pointer (some p88)), (185, .bool (x147 != (w64 (2 - (x86.Words.length : Int)))))], ⟨rfl, rfl, rfl, rfl, rfl, trivial⟩, hb81, ((Ext.draw _).trans hR129.ext), hS130, rfl⟩
                    · skip
                      rw [if_neg hg146] at hb81
                      refine DM.know 172 rfl (congrArg Value.bool (Bool.eq_false_iff.2 hg146)) ?_
                      refine DM.run (fuel := 0) ttok hsk122 [16, 17, 18, 19, 20, 21, 22, 23, 24, 25, 26, 27, 28] 536870911 (by kernel_rfl) (by kernel_rfl) rfl ?_
                      refine DM.weak [(0, .pointer (some p0_)), (8, .slice A27 t21.length k28), (14, .int .i64 s66), (15, .pointer (some p88)), (185, .bool false)] ⟨rfl, rfl, rfl, rfl, rfl, trivial⟩ ?_
                      refine DM.done hsk122 (by kernel_rfl) ?_
                      exact ⟨false, [(0, .pointer (some p0_)), (8, .slice A27 t21.length k28), (14, .int .i64 s66), (15, .pointer (some p88)), (185, .bool false)], ⟨rfl, rfl, rfl, rfl, rfl, trivial⟩, hb81, ((Ext.draw _).trans hR129.ext), hS130, rfl⟩
              · skip
                rw [if_neg (not_t hc)] at hb81
                refine WP.exit ?_
                cases hb81
                exact ⟨_, [(0, .pointer (some p0_))], ⟨rfl, trivial⟩, ho82, hS84, rfl⟩
          · skip
            refine WP.block ?_
            refine WP.weak [(0, .pointer (some p0_)), (2, .slice A2_ x2.length k2_), (7, .int .i64 (x0.Cells.length : Int)), (8, .slice A27 t21.length k28), (12, .int .i64 0)] ⟨rfl, rfl, rfl, rfl, rfl, trivial⟩ ?_
            refine WP.iter (fun (s57 : Int × (List Int)) F w9 => St w w9 [Own ty165 [.slice A45 (r34 ++ x1).length k46] (r34 ++ x1), Own ty22 [.slice A27 t21.length k28] s57.2] ∧ F = [(0, .pointer (some p0_)), (2, .slice A2_ x2.length k2_), (7, .int .i64 (x0.Cells.length : Int)), (8, .slice A27 t21.length k28), (12, .int .i64 s57.1)]) _ hl62 ⟨hS55, rfl⟩ ?_
            rintro s57 F w157 _ o155 ⟨hS156, rfl⟩ hb153 ho154
            unfold m_spec_l21With_b3 at hb153
            refine WP.seq ?_
            refine WP.seq ?_
            refine WP.region ?_
            refine RW.run ttok 4 rfl ?_
            refine RW.nil ?_
            refine WP.cond (decide (s57.1 < (x2.length : Int))) rfl (fun hc => ?_) (fun hc => ?_)
            · skip
              rw [if_pos hc] at hb153
              refine WP.skip ?_
              refine WP.seq ?_
              refine WP.block ?_
              refine WP.seq ?_
              refine WP.region ?_
              refine RW.run ttok 2 rfl ?_
              obtain ⟨x158, hx159, hb153⟩ := bind_some hb153
              refine RW.idx ttok (hE.trans hS156.ext) rfl rfl rfl rfl rfl rfl (by decide) rfl rfl h2_ (idx_some hx159).1 (idx_some hx159).2 rfl rfl (fun p160 es161 ha162 hr163 => ?_)
              have e164 := ty173_open hr163; subst e164
              refine RW.loadN ttok rfl rfl rfl rfl rfl (At.ext (hE.trans hS156.ext) ha162) rfl rfl rfl ?_
              refine RW.new ttok hS156 rfl rfl rfl rfl (fun g165 w166 e167 hS168 => ?_)
              have hS169 := hS168.bring 0 rfl
              refine RW.store ttok (A := []) hS169 rfl rfl rfl rfl rfl 0 rfl rfl rfl rfl rfl (fun w170 hS171 => ?_)
              refine RW.nil ?_
              refine WP.seq ?_
              refine WP.seq ?_
              refine WP.cut (fun (t172 : Bool) F w9 => m_spec_l21With_j8 fuel s57 x158 t172 = some o155 ∧ Ext w170 w9 ∧ St w w9 [Box g165 [.int .i64 x158.A, .int .i64 x158.B] 173, Own ty165 [.slice A45 (r34 ++ x1).length k46] (r34 ++ x1), Own ty22 [.slice A27 t21.length k28] s57.2] ∧ F = [(0, .pointer (some p0_)), (2, .slice A2_ x2.length k2_), (7, .int .i64 (x0.Cells.length : Int)), (8, .slice A27 t21.length k28), (12, .int .i64 s57.1), (13, .pointer (some ⟨g165, 0, none⟩)), (127, .bool t172)]) ?_ ?_
              · skip
                rintro t172 F w175 ⟨hb153, hE173, hS174, rfl⟩
                unfold m_spec_l21With_j8 at hb153
                refine WP.cond t172 rfl (fun hc => ?_) (fun hc => ?_)
                · skip
                  rw [if_pos hc] at hb153
                  refine WP.seq ?_
                  refine WP.region ?_
                  refine RW.run ttok 1 rfl ?_
                  refine RW.nil ?_
                  refine WP.ret ?_
                  cases hb153
                  cases ho154
                  have hm : some _ = some _ := hm
                  cases hm
                  exact ⟨_, .cons (.tmp rfl) .nil, rfl, (hS174.taken 0)⟩
                · skip
                  rw [if_neg (not_t hc)] at hb153
                  refine WP.skip ?_
                  refine WP.seq ?_
                  refine WP.region ?_
                  refine RW.run ttok 2 rfl ?_
                  refine RW.load1 ttok rfl rfl rfl rfl rfl ((hS174.bring 0 rfl).box) 0 rfl rfl rfl rfl ?_
                  obtain ⟨x177, hx178, hb153⟩ := bind_some hb153
                  refine RW.idx ttok (Ext.refl _) rfl rfl rfl rfl rfl rfl (by decide) rfl rfl ((hS174.bring 2 rfl).own) (idx_some hx178).1 (idx_some hx178).2 rfl rfl (fun p179 es180 ha181 hr182 => ?_)
                  cases hr182
                  refine RW.load1 ttok rfl rfl rfl rfl rfl ha181 0 rfl rfl rfl rfl ?_
                  refine RW.run ttok 1 rfl ?_
                  have hS183 := hS174.bring 2 rfl
                  by_cases hk184 : decide (0 ≤ x158.A ∧ x158.A.toNat < s57.2.length) = true
                  case neg => rw [if_neg hk184] at hb153; cases hb153
                  rw [if_pos hk184] at hb153
                  have hb185 := of_decide_eq_true hk184
                  refine RW.idxOwnN ttok hS183 rfl rfl rfl rfl rfl rfl rfl rfl hb185.1 hb185.2 rfl rfl (fun q186 hq187 => ?_)
                  have hS188 := hS183.flat (T := tInt) (cs := [.int .i64 (w64 (x177 + 1))]) (x := (w64 (x177 + 1))) ⟨rfl, rfl⟩
                  have hS189 := hS188.bring 1 rfl
                  refine RW.storeElN ttok hS189 rfl rfl rfl rfl rfl rfl hb185.2 hq187 rfl rfl (fun w190 hS191 => ?_)
                  refine RW.nil ?_
                  refine WP.region ?_
                  refine RW.run ttok 2 rfl ?_
                  refine RW.load1 ttok rfl rfl rfl rfl rfl ((hS191.bring 1 rfl).box) 1 rfl rfl rfl rfl ?_
                  obtain ⟨x192, hx193, hb153⟩ := bind_some hb153
                  refine RW.idx ttok (Ext.refl _) rfl rfl rfl rfl rfl rfl (by decide) rfl rfl ((hS191.bring 0 rfl).own) (idx_some hx193).1 (idx_some hx193).2 rfl rfl (fun p194 es195 ha196 hr197 => ?_)
                  cases hr197
                  refine RW.load1 ttok rfl rfl rfl rfl rfl ha196 0 rfl rfl rfl rfl ?_
                  refine RW.run ttok 1 rfl ?_
                  have hS198 := hS191.bring 0 rfl
                  by_cases hk199 : decide (0 ≤ x158.B ∧ x158.B.toNat < (s57.2.set x158.A.toNat (w64 (x177 + 1))).length) = true
                  case neg => rw [if_neg hk199] at hb153; cases hb153
                  rw [if_pos hk199] at hb153
                  have hb200 := of_decide_eq_true hk199
                  refine RW.idxOwnN ttok hS198 rfl rfl rfl rfl rfl rfl rfl rfl hb200.1 hb200.2 rfl rfl (fun q201 hq202 => ?_)
                  have hS203 := hS198.flat (T := tInt) (cs := [.int .i64 (w64 (x192 + 1))]) (x := (w64 (x192 + 1))) ⟨rfl, rfl⟩
                  have hS204 := hS203.bring 1 rfl
                  refine RW.storeElN ttok hS204 rfl rfl rfl rfl rfl rfl hb200.2 hq202 rfl rfl (fun w205 hS206 => ?_)
                  refine RW.nil ?_
                  refine WP.region ?_
                  refine RW.run ttok 3 rfl ?_
                  refine RW.nil ?_
                  cases hb153
                  exact ⟨_, [(0, .pointer (some p0_)), (2, .slice A2_ x2.length k2_), (7, .int .i64 (x0.Cells.length : Int)), (8, .slice A27 t21.length k28), (12, .int .i64 (w64 (s57.1 + 1)))], ⟨rfl, rfl, rfl, rfl, rfl, trivial⟩, rfl, (((hS206.bring 0 rfl).bring 2 rfl).taken 2), rfl⟩
              · skip
                refine WP.drawnM 0 mixed 37 (by kernel_rfl) (by kernel_rfl) [([], 137438953471), ([0], 137438953470), ([], 137438953471), ([2], 137438953467), ([1, 3], 137438953461), ([4], 137438953455), ([5, 4], 137438953439), ([6], 137438953407), ([7, 6], 137438953279), ([6], 137438953407), ([9, 6], 137438952895), ([10, 6], 137438952383), ([8, 11, 6, 6], 137438951103), ([12, 6], 137438949311), ([6, 13], 137438945215), ([14, 12], 137438937087), ([15], 137438920703), ([16, 15], 137438855167), ([17, 15], 137438789631), ([18, 15], 137438658559), ([15], 137438920703), ([20, 15], 137437872127), ([19, 21, 15], 137436299263), ([22, 15, 15], 137434726399), ([23, 15], 137430532095), ([15, 24], 137422143487), ([25, 23], 137405399039), ([26], 137371844607), ([27, 26], 137237626879), ([28, 26], 137103409151), ([29, 26], 136834973695), ([26], 137371844607), ([31, 26], 135224360959), ([30, 32, 26], 132003135487), ([33, 26, 26], 128781910015), ([34, 26], 120191975423), ([26, 35], 103012106239)] (by kernel_rfl) (fun hsk207 => ?_)
                have hS208 := hS171.step (Ext.draw _)
                refine DM.run (fuel := 34) ttok hsk207 [0, 2, 3] 13 (by kernel_rfl) (by kernel_rfl) rfl ?_
                refine DM.weak [(0, .pointer (some p0_)), (2, .slice A2_ x2.length k2_), (7, .int .i64 (x0.Cells.length : Int)), (8, .slice A27 t21.length k28), (12, .int .i64 s57.1), (13, .pointer (some ⟨g165, 0, none⟩)), (91, .pointer (some ⟨g165, 1, none⟩)), (94, .int .i64 (w64 ((x0.Cells.length : Int) - 1)))] ⟨rfl, rfl, rfl, rfl, rfl, rfl, rfl, rfl, trivial⟩ ?_
                refine DM.load1 ttok hsk207 1 15 (by kernel_rfl) (by kernel_rfl) (by kernel_rfl) (by kernel_rfl) rfl (by kernel_rfl) rfl rfl rfl rfl rfl ((hS171.bring 0 rfl).box) 1 rfl rfl rfl rfl ?_
                obtain ⟨r209, hx210, hb153⟩ := bind_some hb153
                refine DM.one hsk207 4 (by kernel_rfl) (LM.call hsk207 31 (by kernel_rfl) (by kernel_rfl) rfl rfl rfl rfl enters67 (spec_l00In_ok (hE.trans hS208.ext)  hx210) (fun v211 w212 hR213 => ?_))
                obtain ⟨rfl, hR214⟩ := hR213
                refine ⟨hR214.ext, ?_⟩
                have hS215 := hS208.join hR214
                refine DM.run (fuel := 30) ttok hsk207 [5, 6] 127 (by kernel_rfl) (by kernel_rfl) rfl ?_
                by_cases hg216 : (!r209) = true
                · skip
                  rw [if_pos hg216] at hb153
                  refine DM.know 97 rfl (congrArg Value.bool hg216) ?_
                  refine DM.run (fuel := 0) ttok hsk207 [7, 8, 9, 10, 11, 12, 13, 14, 15, 16, 17, 18, 19, 20, 21, 22, 23, 24, 25, 26, 27, 28, 29, 30, 31, 32, 33, 34, 35, 36] 137438953471 (by kernel_rfl) (by kernel_rfl) rfl ?_
                  refine DM.weak [(0, .pointer (some p0_)), (2, .slice A2_ x2.length k2_), (7, .int .i64 (x0.Cells.length : Int)), (8, .slice A27 t21.length k28), (12, .int .i64 s57.1), (13, .pointer (some ⟨g165, 0, none⟩)), (127, .bool true)] ⟨rfl, rfl, rfl, rfl, rfl, rfl, rfl, trivial⟩ ?_
                  refine DM.done hsk207 (by kernel_rfl) ?_
                  exact ⟨true, [(0, .pointer (some p0_)), (2, .slice A2_ x2.length k2_), (7, .int .i64 (x0.Cells.length : Int)), (8, .slice A27 t21.length k28), (12, .int .i64 s57.1), (13, .pointer (some ⟨g165, 0, none⟩)), (127, .bool true)], ⟨rfl, rfl, rfl, rfl, rfl, rfl, rfl, trivial⟩, hb153, ((Ext.draw _).trans hR214.ext), hS215, rfl⟩
                · skip
                  rw [if_neg hg216] at hb153
                  refine DM.know 97 rfl (congrArg Value.bool (Bool.eq_false_iff.2 hg216)) ?_
                  refine DM.run (fuel := 28) ttok hsk207 [7, 9] 767 (by kernel_rfl) (by kernel_rfl) rfl ?_
                  refine DM.load1 ttok hsk207 8 1023 (by kernel_rfl) (by kernel_rfl) (by kernel_rfl) (by kernel_rfl) rfl (by kernel_rfl) rfl rfl rfl rfl rfl ((hS171.bring 0 rfl).box) 0 rfl rfl rfl rfl ?_
                  refine DM.load1 ttok hsk207 10 2047 (by kernel_rfl) (by kernel_rfl) (by kernel_rfl) (by kernel_rfl) rfl (by kernel_rfl) rfl rfl rfl rfl rfl ((hS171.bring 0 rfl).box) 1 rfl rfl rfl rfl ?_
                  refine DM.run (fuel := 25) ttok hsk207 [11] 4095 (by kernel_rfl) (by kernel_rfl) rfl ?_
                  refine DM.weak [(0, .pointer (some p0_)), (2, .slice A2_ x2.length k2_), (7, .int .i64 (x0.Cells.length : Int)), (8, .slice A27 t21.length k28), (12, .int .i64 s57.1), (13, .pointer (some ⟨g165, 0, none⟩)), (97, .bool false), (99, .int .i64 x158.A), (102, .int .i64 (w64 (x158.B - 1)))] ⟨rfl, rfl, rfl, rfl, rfl, rfl, rfl, rfl, rfl, trivial⟩ ?_
                  obtain ⟨r217, hx218, hb153⟩ := bind_some hb153
                  refine DM.one hsk207 12 (by kernel_rfl) (LM.call hsk207 8191 (by kernel_rfl) (by kernel_rfl) rfl rfl rfl rfl enters67 (spec_l00In_ok (hE.trans hS215.ext)  hx218) (fun v219 w220 hR221 => ?_))
                  obtain ⟨rfl, hR222⟩ := hR221
                  refine ⟨hR222.ext, ?_⟩
                  have hS223 := hS215.join hR222
                  refine DM.run (fuel := 21) ttok hsk207 [13, 14, 15] 65535 (by kernel_rfl) (by kernel_rfl) rfl ?_
                  refine DM.weak [(0, .pointer (some p0_)), (2, .slice A2_ x2.length k2_), (7, .int .i64 (x0.Cells.length : Int)), (8, .slice A27 t21.length k28), (12, .int .i64 s57.1), (13, .pointer (some ⟨g165, 0, none⟩)), (106, .bool (!r217))] ⟨rfl, rfl, rfl, rfl, rfl, rfl, rfl, trivial⟩ ?_
                  by_cases hg224 : (!r217) = true
                  · skip
                    rw [if_pos hg224] at hb153
                    refine DM.know 106 rfl (congrArg Value.bool hg224) ?_
                    refine DM.run (fuel := 0) ttok hsk207 [16, 17, 18, 19, 20, 21, 22, 23, 24, 25, 26, 27, 28, 29, 30, 31, 32, 33, 34, 35, 36] 137438953471 (by kernel_rfl) (by kernel_rfl) rfl ?_
                    refine DM.weak [(0, .pointer (some p0_)), (2, .slice A2_ x2.length k2_), (7, .int .i64 (x0.Cells.length : Int)), (8, .slice A27 t21.length k28), (12, .int .i64 s57.1), (13, .pointer (some ⟨g165, 0, none⟩)), (127, .bool true)] ⟨rfl, rfl, rfl, rfl, rfl, rfl, rfl, trivial⟩ ?_
                    refine DM.done hsk207 (by kernel_rfl) ?_
                    exact ⟨true, [(0, .pointer (some p0_)), (2, .slice A2_ x2.length k2_), (7, .int .i64 (x0.Cells.length : Int)), (8, .slice A27 t21.length k28), (12, .int .i64 s57.1), (13, .pointer (some ⟨g165, 0, none⟩)), (127, .bool true)], ⟨rfl, rfl, rfl, rfl, rfl, rfl, rfl, trivial⟩, hb153, (((Ext.draw _).trans hR214.ext).trans hR222.ext), hS223, rfl⟩
                  · skip
                    rw [if_neg hg224] at hb153
                    refine DM.know 106 rfl (congrArg Value.bool (Bool.eq_false_iff.2 hg224)) ?_
                    refine DM.run (fuel := 17) ttok hsk207 [16, 17, 18, 20] 1572863 (by kernel_rfl) (by kernel_rfl) rfl ?_
                    refine DM.load1 ttok hsk207 19 2097151 (by kernel_rfl) (by kernel_rfl) (by kernel_rfl) (by kernel_rfl) rfl (by kernel_rfl) rfl rfl rfl rfl rfl (At.ext (hE.trans hS171.ext) g0_) 0 rfl rfl rfl rfl ?_
                    refine DM.load1 ttok hsk207 21 4194303 (by kernel_rfl) (by kernel_rfl) (by kernel_rfl) (by kernel_rfl) rfl (by kernel_rfl) rfl rfl rfl rfl rfl ((hS171.bring 0 rfl).box) 0 rfl rfl rfl rfl ?_
                    obtain ⟨x225, hx226, hb153⟩ := bind_some hb153
                    refine DM.idx ttok (hE.trans hS171.ext) hsk207 22 8388607 (by kernel_rfl) (by kernel_rfl) (by kernel_rfl) (by kernel_rfl) rfl (by kernel_rfl) rfl rfl rfl rfl rfl rfl (by decide) rfl rfl h3 (idx_some hx226).1 (idx_some hx226).2 rfl rfl (fun p227 es228 ha229 hr230 => ?_)
                    obtain ⟨A231, k232, A234, k235, e237, h233, h236⟩ := ty167_open hr230; subst e237
                    obtain ⟨r238, hx239, hb153⟩ := bind_some hb153
                    refine DM.one hsk207 23 (by kernel_rfl) (LM.call hsk207 16777215 (by kernel_rfl) (by kernel_rfl) rfl rfl rfl rfl enters128 (spec_l21IsAgent_ok (hE.trans hS223.ext) hr230 ha229 hx239) (fun v240 w241 hR242 => ?_))
                    obtain ⟨rfl, hR243⟩ := hR242
                    refine ⟨hR243.ext, ?_⟩
                    have hS244 := hS223.join hR243
                    refine DM.run (fuel := 10) ttok hsk207 [24, 25, 26] 134217727 (by kernel_rfl) (by kernel_rfl) rfl ?_
                    refine DM.weak [(0, .pointer (some p0_)), (2, .slice A2_ x2.length k2_), (7, .int .i64 (x0.Cells.length : Int)), (8, .slice A27 t21.length k28), (12, .int .i64 s57.1), (13, .pointer (some ⟨g165, 0, none⟩)), (117, .bool (!r238))] ⟨rfl, rfl, rfl, rfl, rfl, rfl, rfl, trivial⟩ ?_
                    by_cases hg245 : (!r238) = true
                    · skip
                      rw [if_pos hg245] at hb153
                      refine DM.know 117 rfl (congrArg Value.bool hg245) ?_
                      refine DM.run (fuel := 0) ttok hsk207 [27, 28, 29, 30, 31, 32, 33, 34, 35, 36] 137438953471 (by kernel_rfl) (by kernel_rfl) rfl ?_
                      refine DM.weak [(0, .pointer (some p0_)), (2, .slice A2_ x2.length k2_), (7, .int .i64 (x0.Cells.length : Int)), (8, .slice A27 t21.length k28), (12, .int .i64 s57.1), (13, .pointer (some ⟨g165, 0, none⟩)), (127, .bool true)] ⟨rfl, rfl, rfl, rfl, rfl, rfl, rfl, trivial⟩ ?_
                      refine DM.done hsk207 (by kernel_rfl) ?_
                      exact ⟨true, [(0, .pointer (some p0_)), (2, .slice A2_ x2.length k2_), (7, .int .i64 (x0.Cells.length : Int)), (8, .slice A27 t21.length k28), (12, .int .i64 s57.1), (13, .pointer (some ⟨g165, 0, none⟩)), (127, .bool true)], ⟨rfl, rfl, rfl, rfl, rfl, rfl, rfl, trivial⟩, hb153, ((((Ext.draw _).trans hR214.ext).trans hR222.ext).trans hR243.ext), hS244, rfl⟩
                    · skip
                      rw [if_neg hg245] at hb153
                      refine DM.know 117 rfl (congrArg Value.bool (Bool.eq_false_iff.2 hg245)) ?_
                      refine DM.run (fuel := 6) ttok hsk207 [27, 28, 29, 31] 3221225471 (by kernel_rfl) (by kernel_rfl) rfl ?_
                      refine DM.load1 ttok hsk207 30 4294967295 (by kernel_rfl) (by kernel_rfl) (by kernel_rfl) (by kernel_rfl) rfl (by kernel_rfl) rfl rfl rfl rfl rfl (At.ext (hE.trans hS171.ext) g0_) 0 rfl rfl rfl rfl ?_
                      refine DM.load1 ttok hsk207 32 8589934591 (by kernel_rfl) (by kernel_rfl) (by kernel_rfl) (by kernel_rfl) rfl (by kernel_rfl) rfl rfl rfl rfl rfl ((hS171.bring 0 rfl).box) 1 rfl rfl rfl rfl ?_
                      obtain ⟨x246, hx247, hb153⟩ := bind_some hb153
                      refine DM.idx ttok (hE.trans hS171.ext) hsk207 33 17179869183 (by kernel_rfl) (by kernel_rfl) (by kernel_rfl) (by kernel_rfl) rfl (by kernel_rfl) rfl rfl rfl rfl rfl rfl (by decide) rfl rfl h3 (idx_some hx247).1 (idx_some hx247).2 rfl rfl (fun p248 es249 ha250 hr251 => ?_)
                      obtain ⟨A252, k253, A255, k256, e258, h254, h257⟩ := ty167_open hr251; subst e258
                      obtain ⟨r259, hx260, hb153⟩ := bind_some hb153
                      refine DM.one hsk207 34 (by kernel_rfl) (LM.call hsk207 34359738367 (by kernel_rfl) (by kernel_rfl) rfl rfl rfl rfl enters128 (spec_l21IsAgent_ok (hE.trans hS244.ext) hr251 ha250 hx260) (fun v261 w262 hR263 => ?_))
                      obtain ⟨rfl, hR264⟩ := hR263
                      refine ⟨hR264.ext, ?_⟩
                      have hS265 := hS244.join hR264
                      refine DM.run (fuel := 0) ttok hsk207 [35, 36] 137438953471 (by kernel_rfl) (by kernel_rfl) rfl ?_
                      refine DM.weak [(0, .pointer (some p0_)), (2, .slice A2_ x2.length k2_), (7, .int .i64 (x0.Cells.length : Int)), (8, .slice A27 t21.length k28), (12, .int .i64 s57.1), (13, .pointer (some ⟨g165, 0, none⟩)), (127, .bool (!r259))] ⟨rfl, rfl, rfl, rfl, rfl, rfl, rfl, trivial⟩ ?_
                      refine DM.done hsk207 (by kernel_rfl) ?_
                      exact ⟨!r259, [(0, .pointer (some p0_)), (2, .slice A2_ x2.length k2_), (7, .int .i64 (x0.Cells.length : Int)), (8, .slice A27 t21.length k28), (12, .int .i64 s57.1), (13, .pointer (some ⟨g165, 0, none⟩)), (127, .bool (!r259))], ⟨rfl, rfl, rfl, rfl, rfl, rfl, rfl, trivial⟩, hb153, (((((Ext.draw _).trans hR214.ext).trans hR222.ext).trans hR243.ext).trans hR264.ext), hS265, rfl⟩
            · skip
              rw [if_neg (not_t hc)] at hb153
              refine WP.exit ?_
              cases hb153
              exact ⟨_, [(0, .pointer (some p0_)), (8, .slice A27 t21.length k28)], ⟨rfl, rfl, trivial⟩, ho154, hS156, rfl⟩
        · skip
          refine WP.block ?_
          refine WP.weak [(0, .pointer (some p0_)), (2, .slice A2_ x2.length k2_), (7, .int .i64 (x0.Cells.length : Int)), (8, .slice A27 t21.length k28), (10, .slice A45 (r34 ++ x1).length k46), (11, .int .i64 0)] ⟨rfl, rfl, rfl, rfl, rfl, rfl, trivial⟩ ?_
          refine WP.iter (fun (s49 : Int × (List Int)) F w9 => St w w9 [Own ty165 [.slice A45 (r34 ++ x1).length k46] (r34 ++ x1), Own ty22 [.slice A27 t21.length k28] s49.2] ∧ F = [(0, .pointer (some p0_)), (2, .slice A2_ x2.length k2_), (7, .int .i64 (x0.Cells.length : Int)), (8, .slice A27 t21.length k28), (10, .slice A45 (r34 ++ x1).length k46), (11, .int .i64 s49.1)]) _ hl54 ⟨hS48, rfl⟩ ?_
          rintro s49 F w270 _ o268 ⟨hS269, rfl⟩ hb266 ho267
          unfold m_spec_l21With_b2 at hb266
          refine WP.seq ?_
          refine WP.seq ?_
          refine WP.region ?_
          refine RW.run ttok 4 rfl ?_
          refine RW.nil ?_
          refine WP.cond (decide (s49.1 < ((r34 ++ x1).length : Int))) rfl (fun hc => ?_) (fun hc => ?_)
          · skip
            rw [if_pos hc] at hb266
            refine WP.skip ?_
            refine WP.seq ?_
            refine WP.block ?_
            refine WP.seq ?_
            refine WP.seq ?_
            refine WP.region ?_
            refine RW.run ttok 3 rfl ?_
            obtain ⟨x271, hx272, hb266⟩ := bind_some hb266
            refine RW.idx ttok (Ext.refl _) rfl rfl rfl rfl rfl rfl (by decide) rfl rfl ((hS269.bring 0 rfl).own) (idx_some hx272).1 (idx_some hx272).2 rfl rfl (fun p273 es274 ha275 hr276 => ?_)
            have e277 := ty92_open hr276; subst e277
            refine RW.loadN ttok rfl rfl rfl rfl rfl ha275 rfl rfl rfl ?_
            obtain ⟨r278, hx279, hb266⟩ := bind_some hb266
            refine RW.call rfl rfl rfl enters124 (spec_l21Word_ok (hE.trans hS269.ext) h0_ g0_ (ty92_shut x271) hx279) (fun v280 w281 hR282 => ?_)
            obtain ⟨rfl, hR283⟩ := hR282
            have hS284 := hS269.join hR283
            refine RW.run ttok 1 rfl ?_
            refine RW.nil ?_
            refine WP.cond (!r278) rfl (fun hc => ?_) (fun hc => ?_)
            · skip
              rw [if_pos hc] at hb266
              refine WP.seq ?_
              refine WP.region ?_
              refine RW.run ttok 1 rfl ?_
              refine RW.nil ?_
              refine WP.ret ?_
              cases hb266
              cases ho267
              have hm : some _ = some _ := hm
              cases hm
              exact ⟨_, .cons (.tmp rfl) .nil, rfl, (hS284.taken 0)⟩
            · skip
              rw [if_neg (not_t hc)] at hb266
              refine WP.skip ?_
              refine WP.region ?_
              refine RW.run ttok 3 rfl ?_
              obtain ⟨x285, hx286, hb266⟩ := bind_some hb266
              refine RW.idx ttok (Ext.refl _) rfl rfl rfl rfl rfl rfl (by decide) rfl rfl ((hS284.bring 0 rfl).own) (idx_some hx286).1 (idx_some hx286).2 rfl rfl (fun p287 es288 ha289 hr290 => ?_)
              have e291 := ty92_open hr290; subst e291
              refine RW.run ttok 1 rfl ?_
              refine RW.load1 ttok rfl rfl rfl rfl rfl ha289 1 rfl rfl rfl rfl ?_
              obtain ⟨x292, hx293, hb266⟩ := bind_some hb266
              refine RW.idx ttok (Ext.refl _) rfl rfl rfl rfl rfl rfl (by decide) rfl rfl ((hS284.bring 1 rfl).own) (idx_some hx293).1 (idx_some hx293).2 rfl rfl (fun p294 es295 ha296 hr297 => ?_)
              cases hr297
              refine RW.load1 ttok rfl rfl rfl rfl rfl ha296 0 rfl rfl rfl rfl ?_
              refine RW.run ttok 1 rfl ?_
              have hS298 := hS284.bring 1 rfl
              by_cases hk299 : decide (0 ≤ x285.At ∧ x285.At.toNat < s49.2.length) = true
              case neg => rw [if_neg hk299] at hb266; cases hb266
              rw [if_pos hk299] at hb266
              have hb300 := of_decide_eq_true hk299
              refine RW.idxOwnN ttok hS298 rfl rfl rfl rfl rfl rfl rfl rfl hb300.1 hb300.2 rfl rfl (fun q301 hq302 => ?_)
              have hS303 := hS298.flat (T := tInt) (cs := [.int .i64 (w64 (x292 + 1))]) (x := (w64 (x292 + 1))) ⟨rfl, rfl⟩
              have hS304 := hS303.bring 1 rfl
              refine RW.storeElN ttok hS304 rfl rfl rfl rfl rfl rfl hb300.2 hq302 rfl rfl (fun w305 hS306 => ?_)
              refine RW.nil ?_
              refine WP.region ?_
              refine RW.run ttok 3 rfl ?_
              refine RW.nil ?_
              cases hb266
              exact ⟨_, [(0, .pointer (some p0_)), (2, .slice A2_ x2.length k2_), (7, .int .i64 (x0.Cells.length : Int)), (8, .slice A27 t21.length k28), (10, .slice A45 (r34 ++ x1).length k46), (11, .int .i64 (w64 (s49.1 + 1)))], ⟨rfl, rfl, rfl, rfl, rfl, rfl, trivial⟩, rfl, ((hS306.bring 0 rfl).bring 1 rfl), rfl⟩
          · skip
            rw [if_neg (not_t hc)] at hb266
            refine WP.exit ?_
            cases hb266
            exact ⟨_, [(0, .pointer (some p0_)), (2, .slice A2_ x2.length k2_), (7, .int .i64 (x0.Cells.length : Int)), (8, .slice A27 t21.length k28)], ⟨rfl, rfl, rfl, rfl, trivial⟩, ho267, hS269, rfl⟩
      · skip
        refine WP.block ?_
        refine WP.weak [(0, .pointer (some p0_)), (1, .slice A1_ x1.length k1_), (2, .slice A2_ x2.length k2_), (7, .int .i64 (x0.Cells.length : Int)), (8, .slice A15 ([] : (List Int)).length k16), (9, .int .i64 0)] ⟨rfl, rfl, rfl, rfl, rfl, rfl, trivial⟩ ?_
        refine WP.iter (fun (s20 : Int × (List Int)) F w9 => ∃ A25 k26, St w w9 [Own ty22 [.slice A25 s20.2.length k26] s20.2] ∧ F = [(0, .pointer (some p0_)), (1, .slice A1_ x1.length k1_), (2, .slice A2_ x2.length k2_), (7, .int .i64 (x0.Cells.length : Int)), (8, .slice A25 s20.2.length k26), (9, .int .i64 s20.1)]) _ hl31 ⟨A15, k16, hS19, rfl⟩ ?_
        rintro s20 F w311 _ o309 ⟨A25, k26, hS310, rfl⟩ hb307 ho308
        unfold m_spec_l21With_b1 at hb307
        refine WP.seq ?_
        refine WP.seq ?_
        refine WP.region ?_
        refine RW.run ttok 4 rfl ?_
        refine RW.load1 ttok rfl rfl rfl rfl rfl (At.ext (hE.trans hS310.ext) g0_) 0 rfl rfl rfl rfl ?_
        refine RW.run ttok 2 rfl ?_
        refine RW.nil ?_
        refine WP.cond (decide (s20.1 < (x0.Cells.length : Int))) rfl (fun hc => ?_) (fun hc => ?_)
        · skip
          rw [if_pos hc] at hb307
          refine WP.skip ?_
          refine WP.seq ?_
          refine WP.block ?_
          refine WP.seq ?_
          refine WP.seq ?_
          refine WP.region ?_
          refine RW.run ttok 3 rfl ?_
          refine RW.load1 ttok rfl rfl rfl rfl rfl (At.ext (hE.trans hS310.ext) g0_) 0 rfl rfl rfl rfl ?_
          refine RW.run ttok 1 rfl ?_
          obtain ⟨x312, hx313, hb307⟩ := bind_some hb307
          refine RW.idx ttok (hE.trans hS310.ext) rfl rfl rfl rfl rfl rfl (by decide) rfl rfl h3 (idx_some hx313).1 (idx_some hx313).2 rfl rfl (fun p314 es315 ha316 hr317 => ?_)
          obtain ⟨A318, k319, A321, k322, e324, h320, h323⟩ := ty167_open hr317; subst e324
          refine RW.run ttok 1 rfl ?_
          obtain ⟨r325, hx326, hb307⟩ := bind_some hb307
          refine RW.call rfl rfl rfl enters213 (spec_l21Cell_ok (hE.trans hS310.ext) hr317 ha316 hx326) (fun v327 w328 hR329 => ?_)
          obtain ⟨rfl, hR330⟩ := hR329
          have hS331 := hS310.join hR330
          refine RW.run ttok 1 rfl ?_
          refine RW.nil ?_
          refine WP.cond (!r325) rfl (fun hc => ?_) (fun hc => ?_)
          · skip
            rw [if_pos hc] at hb307
            refine WP.seq ?_
            refine WP.region ?_
            refine RW.run ttok 1 rfl ?_
            refine RW.nil ?_
            refine WP.ret ?_
            cases hb307
            cases ho308
            have hm : some _ = some _ := hm
            cases hm
            exact ⟨_, .cons (.tmp rfl) .nil, rfl, (hS331.taken 0)⟩
          · skip
            rw [if_neg (not_t hc)] at hb307
            refine WP.skip ?_
            refine WP.region ?_
            refine RW.run ttok 1 rfl ?_
            refine RW.newSlice (U := tInt) (els := [.int .i64 0]) (ys := [0]) ttok (hS331.flatEls (U := tInt) (els := [.int .i64 0]) (ys := [0]) ⟨[.int .i64 0], _, [], [], rfl, rfl, ⟨rfl, rfl⟩, ⟨rfl, rfl⟩⟩) rfl rfl rfl rfl rfl rfl rfl rfl rfl rfl rfl rfl (fun A332 k333 w334 e335 hS336 => ?_)
            have hS337 := hS336.bring 1 rfl
            by_cases hk338 : decide ((s20.2.length : Int) + (([0] : (List Int)).length : Int) ≤ 4294967296) = true
            case neg => rw [if_neg hk338] at hb307; cases hb307
            rw [if_pos hk338] at hb307
            refine RW.appendRo ttok Flat.int hS337 rfl rfl rfl rfl rfl rfl (by decide) rfl rfl ((hS337.bring 1 rfl).own) (of_decide_eq_true hk338) (by decide) rfl rfl (fun A339 k340 w341 hS342 => ?_)
            refine RW.run ttok 1 rfl ?_
            refine RW.nil ?_
            refine WP.region ?_
            refine RW.run ttok 3 rfl ?_
            refine RW.nil ?_
            cases hb307
            exact ⟨_, [(0, .pointer (some p0_)), (1, .slice A1_ x1.length k1_), (2, .slice A2_ x2.length k2_), (7, .int .i64 (x0.Cells.length : Int)), (8, .slice A339 (s20.2 ++ ([0] : (List Int))).length k340), (9, .int .i64 (w64 (s20.1 + 1)))], ⟨rfl, rfl, rfl, rfl, rfl, rfl, trivial⟩, rfl, A339, k340, (hS342.taken 1), rfl⟩
        · skip
          rw [if_neg (not_t hc)] at hb307
          refine WP.exit ?_
          cases hb307
          exact ⟨_, [(0, .pointer (some p0_)), (1, .slice A1_ x1.length k1_), (2, .slice A2_ x2.length k2_), (7, .int .i64 (x0.Cells.length : Int)), (8, .slice A25 s20.2.length k26)], ⟨rfl, rfl, rfl, rfl, rfl, trivial⟩, A25, k26, ho308, hS310, rfl⟩
  · skip
    refine WP.region ?_
    refine RW.run ttok 1 rfl ?_
    obtain ⟨r343, hx344, hm⟩ := bind_some hm
    refine RW.call rfl rfl rfl enters67 (spec_l00In_ok (hE.trans hS.ext)  hx344) (fun v345 w346 hR347 => ?_)
    obtain ⟨rfl, hR348⟩ := hR347
    have hS349 := hS.join hR348
    refine RW.run ttok 2 rfl ?_
    by_cases hg350 : (!r343) = true
    · skip
      rw [if_pos hg350] at hm
      refine RW.know 26 rfl (congrArg Value.bool hg350) ?_
      refine RW.run ttok 5 rfl ?_
      refine RW.nil ?_
      exact ⟨true, [(0, .pointer (some p0_)), (1, .slice A1_ x1.length k1_), (2, .slice A2_ x2.length k2_), (7, .int .i64 (x0.Cells.length : Int)), (31, .bool true)], ⟨rfl, rfl, rfl, rfl, rfl, trivial⟩, hm, hR348.ext, hS349, rfl⟩
    · skip
      rw [if_neg hg350] at hm
      refine RW.know 26 rfl (congrArg Value.bool (Bool.eq_false_iff.2 hg350)) ?_
      refine RW.run ttok 5 rfl ?_
      refine RW.nil ?_
      exact ⟨decide ((x2.length : Int) > (x0.Cells.length : Int)), [(0, .pointer (some p0_)), (1, .slice A1_ x1.length k1_), (2, .slice A2_ x2.length k2_), (7, .int .i64 (x0.Cells.length : Int)), (31, .bool (decide ((x2.length : Int) > (x0.Cells.length : Int))))], ⟨rfl, rfl, rfl, rfl, rfl, trivial⟩, hm, hR348.ext, hS349, rfl⟩

end Go.E
