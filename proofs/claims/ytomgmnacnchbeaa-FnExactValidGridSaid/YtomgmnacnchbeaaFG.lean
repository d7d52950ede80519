/- Models of functions and proofs that the code runs as they say (written by program). Conditions: the model gives a value. -/
import Derived.Test.YtomgmnacnchbeaaFA
namespace Go.E
open Go.RowKit Go.Proofs
set_option linter.unusedVariables false
set_option linter.unusedSimpArgs false
set_option maxHeartbeats 2000000

theorem enters120 : Enters Try.prog 120 := ⟨_, _, Try.func120, rfl, by kernel_rfl⟩
def m_laws_szInt64S (fuel : Nat) (x0 : (List Int)) (x1 : Int) : Option (Int) := (if (decide ((w64 (x1 - (x0.length : Int))) < 0)) = true then some (-1) else some (w64 (x1 - (x0.length : Int))))

set_option maxRecDepth 100000 in
theorem laws_szInt64S_ok {W w : World} (hE : Ext W w) {A0_ : Option Addr} {k0_ : Nat} {x0 : (List Int)} {x1 : Int} (h0_ : ty103.ro W [.slice A0_ x0.length k0_] x0) {fuel : Nat} {r : Int} (hm : m_laws_szInt64S fuel x0 x1 = some r) :
    Calls Try.prog 120 ⟨[.slice A0_ x0.length k0_, .int .i64 x1]⟩ w (Ret fun v w8 => v = .int .i64 r ∧ St w w8 []) := by
  refine Calls.into Try.func120 rfl 12 rfl rfl _ rfl ?_
  unfold m_laws_szInt64S at hm
  have hS := St.start w
  refine WP.seq ?_
  refine WP.region ?_
  refine RW.run ttok 1 rfl ?_
  refine RW.nil ?_
  refine WP.seq ?_
  refine WP.region ?_
  refine RW.run ttok 5 rfl ?_
  refine RW.nil ?_
  refine WP.seq ?_
  refine WP.seq ?_
  refine WP.region ?_
  refine RW.run ttok 2 rfl ?_
  refine RW.nil ?_
  refine WP.cond (decide ((w64 (x1 - (x0.length : Int))) < 0)) rfl (fun hc => ?_) (fun hc => ?_)
  · skip
    rw [if_pos hc] at hm
    refine WP.seq ?_
    refine WP.region ?_
    refine RW.run ttok 1 rfl ?_
    refine RW.nil ?_
    refine WP.ret ?_
    cases hm
    exact ⟨_, .cons (.tmp rfl) .nil, rfl, hS⟩
  · skip
    rw [if_neg (not_t hc)] at hm
    refine WP.skip ?_
    refine WP.seq ?_
    refine WP.region ?_
    refine RW.run ttok 2 rfl ?_
    refine RW.nil ?_
    refine WP.ret ?_
    cases hm
    exact ⟨_, .cons (.tmp rfl) .nil, rfl, hS⟩

theorem enters264 : Enters Try.prog 264 := ⟨_, _, Try.func264, rfl, by kernel_rfl⟩
def m_laws_szAddressS (fuel : Nat) (x0 : (List D.Address)) (x1 : Int) : Option (Int) := (if (decide ((w64 (x1 - (x0.length : Int))) < 0)) = true then some (-1) else some (w64 (x1 - (x0.length : Int))))

set_option maxRecDepth 100000 in
theorem laws_szAddressS_ok {W w : World} (hE : Ext W w) {A0_ : Option Addr} {k0_ : Nat} {x0 : (List D.Address)} {x1 : Int} (h0_ : ty304.ro W [.slice A0_ x0.length k0_] x0) {fuel : Nat} {r : Int} (hm : m_laws_szAddressS fuel x0 x1 = some r) :
    Calls Try.prog 264 ⟨[.slice A0_ x0.length k0_, .int .i64 x1]⟩ w (Ret fun v w8 => v = .int .i64 r ∧ St w w8 []) := by
  refine Calls.into Try.func264 rfl 12 rfl rfl _ rfl ?_
  unfold m_laws_szAddressS at hm
  have hS := St.start w
  refine WP.seq ?_
  refine WP.region ?_
  refine RW.run ttok 1 rfl ?_
  refine RW.nil ?_
  refine WP.seq ?_
  refine WP.region ?_
  refine RW.run ttok 5 rfl ?_
  refine RW.nil ?_
  refine WP.seq ?_
  refine WP.seq ?_
  refine WP.region ?_
  refine RW.run ttok 2 rfl ?_
  refine RW.nil ?_
  refine WP.cond (decide ((w64 (x1 - (x0.length : Int))) < 0)) rfl (fun hc => ?_) (fun hc => ?_)
  · skip
    rw [if_pos hc] at hm
    refine WP.seq ?_
    refine WP.region ?_
    refine RW.run ttok 1 rfl ?_
    refine RW.nil ?_
    refine WP.ret ?_
    cases hm
    exact ⟨_, .cons (.tmp rfl) .nil, rfl, hS⟩
  · skip
    rw [if_neg (not_t hc)] at hm
    refine WP.skip ?_
    refine WP.seq ?_
    refine WP.region ?_
    refine RW.run ttok 2 rfl ?_
    refine RW.nil ?_
    refine WP.ret ?_
    cases hm
    exact ⟨_, .cons (.tmp rfl) .nil, rfl, hS⟩

theorem enters244 : Enters Try.prog 244 := ⟨_, _, Try.func244, rfl, by kernel_rfl⟩
def m_laws_szShardCell (fuel : Nat) (x0 : D.ShardCell) (x1 : Int) : Option (Int) := ((m_laws_szInt64S fuel x0.Data x1).bind fun r14 => (if (decide (r14 < 0)) = true then some (-1) else ((m_laws_szAddressS fuel x0.Aux r14).bind fun r21 => (if (decide (r21 < 0)) = true then some (-1) else some r21))))

set_option maxRecDepth 100000 in
theorem laws_szShardCell_ok {W w : World} (hE : Ext W w) {c0_ : List Value} {x0 : D.ShardCell} {x1 : Int} (h0_ : ty306.ro W c0_ x0) {fuel : Nat} {r : Int} (hm : m_laws_szShardCell fuel x0 x1 = some r) :
    Calls Try.prog 244 ⟨[.agg ⟨c0_⟩, .int .i64 x1]⟩ w (Ret fun v w8 => v = .int .i64 r ∧ St w w8 []) := by
  obtain ⟨A1, k2, A4, k5, e7, h3, h6⟩ := ty306_open h0_; subst e7
  refine Calls.into Try.func244 rfl 18 rfl rfl _ rfl ?_
  unfold m_laws_szShardCell at hm
  have hS := St.start w
  refine WP.seq ?_
  refine WP.region ?_
  refine RW.new ttok hS rfl rfl rfl rfl (fun g10 w11 e12 hS13 => ?_)
  refine RW.run ttok 1 rfl ?_
  refine RW.nil ?_
  refine WP.seq ?_
  refine WP.region ?_
  refine RW.run ttok 1 rfl ?_
  refine RW.load1 ttok rfl rfl rfl rfl rfl ((hS13.bring 0 rfl).box) 3 rfl rfl rfl rfl ?_
  refine RW.run ttok 1 rfl ?_
  obtain ⟨r14, hx15, hm⟩ := bind_some hm
  refine RW.call rfl rfl rfl enters120 (laws_szInt64S_ok (hE.trans hS13.ext) h3 hx15) (fun v16 w17 hR18 => ?_)
  obtain ⟨rfl, hR19⟩ := hR18
  have hS20 := hS13.join hR19
  refine RW.run ttok 1 rfl ?_
  refine RW.nil ?_
  refine WP.seq ?_
  refine WP.seq ?_
  refine WP.region ?_
  refine RW.run ttok 2 rfl ?_
  refine RW.nil ?_
  refine WP.cond (decide (r14 < 0)) rfl (fun hc => ?_) (fun hc => ?_)
  · skip
    rw [if_pos hc] at hm
    refine WP.seq ?_
    refine WP.region ?_
    refine RW.run ttok 1 rfl ?_
    refine RW.nil ?_
    refine WP.ret ?_
    cases hm
    exact ⟨_, .cons (.tmp rfl) .nil, rfl, (hS20.taken 0)⟩
  · skip
    rw [if_neg (not_t hc)] at hm
    refine WP.skip ?_
    refine WP.seq ?_
    refine WP.region ?_
    refine RW.run ttok 1 rfl ?_
    refine RW.load1 ttok rfl rfl rfl rfl rfl ((hS20.bring 0 rfl).box) 4 rfl rfl rfl rfl ?_
    refine RW.run ttok 1 rfl ?_
    obtain ⟨r21, hx22, hm⟩ := bind_some hm
    refine RW.call rfl rfl rfl enters264 (laws_szAddressS_ok (hE.trans hS20.ext) h6 hx22) (fun v23 w24 hR25 => ?_)
    obtain ⟨rfl, hR26⟩ := hR25
    have hS27 := hS20.join hR26
    refine RW.run ttok 1 rfl ?_
    refine RW.nil ?_
    refine WP.seq ?_
    refine WP.seq ?_
    refine WP.region ?_
    refine RW.run ttok 2 rfl ?_
    refine RW.nil ?_
    refine WP.cond (decide (r21 < 0)) rfl (fun hc => ?_) (fun hc => ?_)
    · skip
      rw [if_pos hc] at hm
      refine WP.seq ?_
      refine WP.region ?_
      refine RW.run ttok 1 rfl ?_
      refine RW.nil ?_
      refine WP.ret ?_
      cases hm
      exact ⟨_, .cons (.tmp rfl) .nil, rfl, (hS27.taken 0)⟩
    · skip
      rw [if_neg (not_t hc)] at hm
      refine WP.skip ?_
      refine WP.seq ?_
      refine WP.region ?_
      refine RW.run ttok 2 rfl ?_
      refine RW.nil ?_
      refine WP.ret ?_
      cases hm
      exact ⟨_, .cons (.tmp rfl) .nil, rfl, (hS27.taken 0)⟩

theorem enters183 : Enters Try.prog 183 := ⟨_, _, Try.func183, rfl, by kernel_rfl⟩
def m_laws_szShardCellS_j1 (fuel : Nat) (t2 : Int) : Option Int := some t2
def m_laws_szShardCellS_b1 (fuel : Nat) (x0 : (List D.ShardCell)) (s1 : Int × Int) : Option (Rd (Int × Int) (Int) (Int)) := (if (decide (s1.2 < (x0.length : Int))) = true then ((idx x0 s1.2).bind fun x19 => ((m_laws_szShardCell fuel x19 s1.1).bind fun r32 => (if (decide (r32 < 0)) = true then some (.ret (-1)) else some (.next (r32, w64 (s1.2 + 1)))))) else some (.brk s1.1))
def m_laws_szShardCellS (fuel : Nat) (x0 : (List D.ShardCell)) (x1 : Int) : Option (Int) := (if (decide ((w64 (x1 - (x0.length : Int))) < 0)) = true then some (-1) else ((iter (m_laws_szShardCellS_b1 fuel x0) fuel (w64 (x1 - (x0.length : Int)), 0)).bind fun o => aft o (m_laws_szShardCellS_j1 fuel)))

set_option maxRecDepth 100000 in
theorem laws_szShardCellS_ok {W w : World} (hE : Ext W w) {A0_ : Option Addr} {k0_ : Nat} {x0 : (List D.ShardCell)} {x1 : Int} (h0_ : ty187.ro W [.slice A0_ x0.length k0_] x0) {fuel : Nat} {r : Int} (hm : m_laws_szShardCellS fuel x0 x1 = some r) :
    Calls Try.prog 183 ⟨[.slice A0_ x0.length k0_, .int .i64 x1]⟩ w (Ret fun v w8 => v = .int .i64 r ∧ St w w8 []) := by
  refine Calls.into Try.func183 rfl 27 rfl rfl _ rfl ?_
  unfold m_laws_szShardCellS at hm
  have hS := St.start w
  refine WP.seq ?_
  refine WP.region ?_
  refine RW.run ttok 1 rfl ?_
  refine RW.nil ?_
  refine WP.seq ?_
  refine WP.region ?_
  refine RW.run ttok 5 rfl ?_
  refine RW.nil ?_
  refine WP.seq ?_
  refine WP.seq ?_
  refine WP.region ?_
  refine RW.run ttok 2 rfl ?_
  refine RW.nil ?_
  refine WP.cond (decide ((w64 (x1 - (x0.length : Int))) < 0)) rfl (fun hc => ?_) (fun hc => ?_)
  · skip
    rw [if_pos hc] at hm
    refine WP.seq ?_
    refine WP.region ?_
    refine RW.run ttok 1 rfl ?_
    refine RW.nil ?_
    refine WP.ret ?_
    cases hm
    exact ⟨_, .cons (.tmp rfl) .nil, rfl, hS⟩
  · skip
    rw [if_neg (not_t hc)] at hm
    refine WP.skip ?_
    refine WP.seq ?_
    refine WP.seq ?_
    refine WP.region ?_
    refine RW.run ttok 1 rfl ?_
    refine RW.nil ?_
    obtain ⟨o10, hl11, hm⟩ := bind_some hm
    refine WP.cut (fun (t2 : Int) F w9 => o10 = .inl t2 ∧ Ext w w9 ∧ St w w9 [] ∧ F = [(1, .int .i64 t2)]) ?_ ?_
    · skip
      rintro t2 F w7 ⟨ho13, hE6, hS12, rfl⟩
      subst ho13
      rw [aft_inl] at hm
      unfold m_laws_szShardCellS_j1 at hm
      refine WP.seq ?_
      refine WP.region ?_
      refine RW.run ttok 2 rfl ?_
      refine RW.nil ?_
      refine WP.ret ?_
      cases hm
      exact ⟨_, .cons (.tmp rfl) .nil, rfl, hS12⟩
    · skip
      refine WP.block ?_
      refine WP.weak [(0, .slice A0_ x0.length k0_), (1, .int .i64 (w64 (x1 - (x0.length : Int)))), (5, .int .i64 0)] ⟨rfl, rfl, rfl, trivial⟩ ?_
      refine WP.iter (fun (s1 : Int × Int) F w9 => Ext w w9 ∧ St w w9 [] ∧ F = [(0, .slice A0_ x0.length k0_), (1, .int .i64 s1.1), (5, .int .i64 s1.2)]) _ hl11 ⟨(Ext.refl _), hS, rfl⟩ ?_
      rintro s1 F w18 _ o16 ⟨hE5, hS17, rfl⟩ hb14 ho15
      unfold m_laws_szShardCellS_b1 at hb14
      refine WP.seq ?_
      refine WP.seq ?_
      refine WP.region ?_
      refine RW.run ttok 4 rfl ?_
      refine RW.nil ?_
      refine WP.cond (decide (s1.2 < (x0.length : Int))) rfl (fun hc => ?_) (fun hc => ?_)
      · skip
        rw [if_pos hc] at hb14
        refine WP.skip ?_
        refine WP.seq ?_
        refine WP.block ?_
        refine WP.seq ?_
        refine WP.region ?_
        refine RW.run ttok 2 rfl ?_
        obtain ⟨x19, hx20, hb14⟩ := bind_some hb14
        refine RW.idx ttok (hE.trans hS17.ext) rfl rfl rfl rfl rfl rfl (by decide) rfl rfl h0_ (idx_some hx20).1 (idx_some hx20).2 rfl rfl (fun p21 es22 ha23 hr24 => ?_)
        obtain ⟨A25, k26, A28, k29, e31, h27, h30⟩ := ty306_open hr24; subst e31
        refine RW.loadN ttok rfl rfl rfl rfl rfl (At.ext (hE.trans hS17.ext) ha23) rfl rfl rfl ?_
        refine RW.run ttok 1 rfl ?_
        obtain ⟨r32, hx33, hb14⟩ := bind_some hb14
        refine RW.call rfl rfl rfl enters244 (laws_szShardCell_ok (hE.trans hS17.ext) hr24 hx33) (fun v34 w35 hR36 => ?_)
        obtain ⟨rfl, hR37⟩ := hR36
        have hS38 := hS17.join hR37
        refine RW.run ttok 1 rfl ?_
        refine RW.nil ?_
        refine WP.seq ?_
        refine WP.region ?_
        refine RW.run ttok 2 rfl ?_
        refine RW.nil ?_
        refine WP.cond (decide (r32 < 0)) rfl (fun hc => ?_) (fun hc => ?_)
        · skip
          rw [if_pos hc] at hb14
          refine WP.seq ?_
          refine WP.region ?_
          refine RW.run ttok 1 rfl ?_
          refine RW.nil ?_
          refine WP.ret ?_
          cases hb14
          cases ho15
          have hm : some _ = some _ := hm
          cases hm
          exact ⟨_, .cons (.tmp rfl) .nil, rfl, hS38⟩
        · skip
          rw [if_neg (not_t hc)] at hb14
          refine WP.skip ?_
          refine WP.region ?_
          refine RW.run ttok 3 rfl ?_
          refine RW.nil ?_
          cases hb14
          exact ⟨_, [(0, .slice A0_ x0.length k0_), (1, .int .i64 r32), (5, .int .i64 (w64 (s1.2 + 1)))], ⟨rfl, rfl, rfl, trivial⟩, rfl, (hE5.trans hR37.ext), hS38, rfl⟩
      · skip
        rw [if_neg (not_t hc)] at hb14
        refine WP.exit ?_
        cases hb14
        exact ⟨_, [(1, .int .i64 s1.1)], ⟨rfl, trivial⟩, ho15, hE5, hS17, rfl⟩

theorem enters184 : Enters Try.prog 184 := ⟨_, _, Try.func184, rfl, by kernel_rfl⟩
def m_laws_szShardVarS (fuel : Nat) (x0 : (List D.ShardVar)) (x1 : Int) : Option (Int) := (if (decide ((w64 (x1 - (x0.length : Int))) < 0)) = true then some (-1) else some (w64 (x1 - (x0.length : Int))))

set_option maxRecDepth 100000 in
theorem laws_szShardVarS_ok {W w : World} (hE : Ext W w) {A0_ : Option Addr} {k0_ : Nat} {x0 : (List D.ShardVar)} {x1 : Int} (h0_ : ty188.ro W [.slice A0_ x0.length k0_] x0) {fuel : Nat} {r : Int} (hm : m_laws_szShardVarS fuel x0 x1 = some r) :
    Calls Try.prog 184 ⟨[.slice A0_ x0.length k0_, .int .i64 x1]⟩ w (Ret fun v w8 => v = .int .i64 r ∧ St w w8 []) := by
  refine Calls.into Try.func184 rfl 12 rfl rfl _ rfl ?_
  unfold m_laws_szShardVarS at hm
  have hS := St.start w
  refine WP.seq ?_
  refine WP.region ?_
  refine RW.run ttok 1 rfl ?_
  refine RW.nil ?_
  refine WP.seq ?_
  refine WP.region ?_
  refine RW.run ttok 5 rfl ?_
  refine RW.nil ?_
  refine WP.seq ?_
  refine WP.seq ?_
  refine WP.region ?_
  refine RW.run ttok 2 rfl ?_
  refine RW.nil ?_
  refine WP.cond (decide ((w64 (x1 - (x0.length : Int))) < 0)) rfl (fun hc => ?_) (fun hc => ?_)
  · skip
    rw [if_pos hc] at hm
    refine WP.seq ?_
    refine WP.region ?_
    refine RW.run ttok 1 rfl ?_
    refine RW.nil ?_
    refine WP.ret ?_
    cases hm
    exact ⟨_, .cons (.tmp rfl) .nil, rfl, hS⟩
  · skip
    rw [if_neg (not_t hc)] at hm
    refine WP.skip ?_
    refine WP.seq ?_
    refine WP.region ?_
    refine RW.run ttok 2 rfl ?_
    refine RW.nil ?_
    refine WP.ret ?_
    cases hm
    exact ⟨_, .cons (.tmp rfl) .nil, rfl, hS⟩

theorem enters185 : Enters Try.prog 185 := ⟨_, _, Try.func185, rfl, by kernel_rfl⟩
def m_laws_szShardRedexS (fuel : Nat) (x0 : (List D.ShardRedex)) (x1 : Int) : Option (Int) := (if (decide ((w64 (x1 - (x0.length : Int))) < 0)) = true then some (-1) else some (w64 (x1 - (x0.length : Int))))

set_option maxRecDepth 100000 in
theorem laws_szShardRedexS_ok {W w : World} (hE : Ext W w) {A0_ : Option Addr} {k0_ : Nat} {x0 : (List D.ShardRedex)} {x1 : Int} (h0_ : ty189.ro W [.slice A0_ x0.length k0_] x0) {fuel : Nat} {r : Int} (hm : m_laws_szShardRedexS fuel x0 x1 = some r) :
    Calls Try.prog 185 ⟨[.slice A0_ x0.length k0_, .int .i64 x1]⟩ w (Ret fun v w8 => v = .int .i64 r ∧ St w w8 []) := by
  refine Calls.into Try.func185 rfl 12 rfl rfl _ rfl ?_
  unfold m_laws_szShardRedexS at hm
  have hS := St.start w
  refine WP.seq ?_
  refine WP.region ?_
  refine RW.run ttok 1 rfl ?_
  refine RW.nil ?_
  refine WP.seq ?_
  refine WP.region ?_
  refine RW.run ttok 5 rfl ?_
  refine RW.nil ?_
  refine WP.seq ?_
  refine WP.seq ?_
  refine WP.region ?_
  refine RW.run ttok 2 rfl ?_
  refine RW.nil ?_
  refine WP.cond (decide ((w64 (x1 - (x0.length : Int))) < 0)) rfl (fun hc => ?_) (fun hc => ?_)
  · skip
    rw [if_pos hc] at hm
    refine WP.seq ?_
    refine WP.region ?_
    refine RW.run ttok 1 rfl ?_
    refine RW.nil ?_
    refine WP.ret ?_
    cases hm
    exact ⟨_, .cons (.tmp rfl) .nil, rfl, hS⟩
  · skip
    rw [if_neg (not_t hc)] at hm
    refine WP.skip ?_
    refine WP.seq ?_
    refine WP.region ?_
    refine RW.run ttok 2 rfl ?_
    refine RW.nil ?_
    refine WP.ret ?_
    cases hm
    exact ⟨_, .cons (.tmp rfl) .nil, rfl, hS⟩

theorem enters130 : Enters Try.prog 130 := ⟨_, _, Try.func130, rfl, by kernel_rfl⟩
def m_laws_szShard (fuel : Nat) (x0 : D.Shard) (x1 : Int) : Option (Int) := ((m_laws_szShardCellS fuel x0.Cells x1).bind fun r17 => (if (decide (r17 < 0)) = true then some (-1) else ((m_laws_szShardVarS fuel x0.Vars r17).bind fun r24 => (if (decide (r24 < 0)) = true then some (-1) else ((m_laws_szShardRedexS fuel x0.Redexes r24).bind fun r31 => (if (decide (r31 < 0)) = true then some (-1) else some r31))))))

set_option maxRecDepth 100000 in
theorem laws_szShard_ok {W w : World} (hE : Ext W w) {c0_ : List Value} {x0 : D.Shard} {x1 : Int} (h0_ : ty191.ro W c0_ x0) {fuel : Nat} {r : Int} (hm : m_laws_szShard fuel x0 x1 = some r) :
    Calls Try.prog 130 ⟨[.agg ⟨c0_⟩, .int .i64 x1]⟩ w (Ret fun v w8 => v = .int .i64 r ∧ St w w8 []) := by
  obtain ⟨A1, k2, A4, k5, A7, k10, e12, h3, h6, h11⟩ := ty191_open h0_; subst e12
  refine Calls.into Try.func130 rfl 24 rfl rfl _ rfl ?_
  unfold m_laws_szShard at hm
  have hS := St.start w
  refine WP.seq ?_
  refine WP.region ?_
  refine RW.new ttok hS rfl rfl rfl rfl (fun g13 w14 e15 hS16 => ?_)
  refine RW.run ttok 1 rfl ?_
  refine RW.nil ?_
  refine WP.seq ?_
  refine WP.region ?_
  refine RW.run ttok 1 rfl ?_
  refine RW.load1 ttok rfl rfl rfl rfl rfl ((hS16.bring 0 rfl).box) 0 rfl rfl rfl rfl ?_
  refine RW.run ttok 1 rfl ?_
  obtain ⟨r17, hx18, hm⟩ := bind_some hm
  refine RW.call rfl rfl rfl enters183 (laws_szShardCellS_ok (hE.trans hS16.ext) h3 hx18) (fun v19 w20 hR21 => ?_)
  obtain ⟨rfl, hR22⟩ := hR21
  have hS23 := hS16.join hR22
  refine RW.run ttok 1 rfl ?_
  refine RW.nil ?_
  refine WP.seq ?_
  refine WP.seq ?_
  refine WP.region ?_
  refine RW.run ttok 2 rfl ?_
  refine RW.nil ?_
  refine WP.cond (decide (r17 < 0)) rfl (fun hc => ?_) (fun hc => ?_)
  · skip
    rw [if_pos hc] at hm
    refine WP.seq ?_
    refine WP.region ?_
    refine RW.run ttok 1 rfl ?_
    refine RW.nil ?_
    refine WP.ret ?_
    cases hm
    exact ⟨_, .cons (.tmp rfl) .nil, rfl, (hS23.taken 0)⟩
  · skip
    rw [if_neg (not_t hc)] at hm
    refine WP.skip ?_
    refine WP.seq ?_
    refine WP.region ?_
    refine RW.run ttok 1 rfl ?_
    refine RW.load1 ttok rfl rfl rfl rfl rfl ((hS23.bring 0 rfl).box) 1 rfl rfl rfl rfl ?_
    refine RW.run ttok 1 rfl ?_
    obtain ⟨r24, hx25, hm⟩ := bind_some hm
    refine RW.call rfl rfl rfl enters184 (laws_szShardVarS_ok (hE.trans hS23.ext) h6 hx25) (fun v26 w27 hR28 => ?_)
    obtain ⟨rfl, hR29⟩ := hR28
    have hS30 := hS23.join hR29
    refine RW.run ttok 1 rfl ?_
    refine RW.nil ?_
    refine WP.seq ?_
    refine WP.seq ?_
    refine WP.region ?_
    refine RW.run ttok 2 rfl ?_
    refine RW.nil ?_
    refine WP.cond (decide (r24 < 0)) rfl (fun hc => ?_) (fun hc => ?_)
    · skip
      rw [if_pos hc] at hm
      refine WP.seq ?_
      refine WP.region ?_
      refine RW.run ttok 1 rfl ?_
      refine RW.nil ?_
      refine WP.ret ?_
      cases hm
      exact ⟨_, .cons (.tmp rfl) .nil, rfl, (hS30.taken 0)⟩
    · skip
      rw [if_neg (not_t hc)] at hm
      refine WP.skip ?_
      refine WP.seq ?_
      refine WP.region ?_
      refine RW.run ttok 1 rfl ?_
      refine RW.load1 ttok rfl rfl rfl rfl rfl ((hS30.bring 0 rfl).box) 2 rfl rfl rfl rfl ?_
      refine RW.run ttok 1 rfl ?_
      obtain ⟨r31, hx32, hm⟩ := bind_some hm
      refine RW.call rfl rfl rfl enters185 (laws_szShardRedexS_ok (hE.trans hS30.ext) h11 hx32) (fun v33 w34 hR35 => ?_)
      obtain ⟨rfl, hR36⟩ := hR35
      have hS37 := hS30.join hR36
      refine RW.run ttok 1 rfl ?_
      refine RW.nil ?_
      refine WP.seq ?_
      refine WP.seq ?_
      refine WP.region ?_
      refine RW.run ttok 2 rfl ?_
      refine RW.nil ?_
      refine WP.cond (decide (r31 < 0)) rfl (fun hc => ?_) (fun hc => ?_)
      · skip
        rw [if_pos hc] at hm
        refine WP.seq ?_
        refine WP.region ?_
        refine RW.run ttok 1 rfl ?_
        refine RW.nil ?_
        refine WP.ret ?_
        cases hm
        exact ⟨_, .cons (.tmp rfl) .nil, rfl, (hS37.taken 0)⟩
      · skip
        rw [if_neg (not_t hc)] at hm
        refine WP.skip ?_
        refine WP.seq ?_
        refine WP.region ?_
        refine RW.run ttok 2 rfl ?_
        refine RW.nil ?_
        refine WP.ret ?_
        cases hm
        exact ⟨_, .cons (.tmp rfl) .nil, rfl, (hS37.taken 0)⟩

theorem enters71 : Enters Try.prog 71 := ⟨_, _, Try.func71, rfl, by kernel_rfl⟩
def m_laws_szShardS_j1 (fuel : Nat) (t2 : Int) : Option Int := some t2
def m_laws_szShardS_b1 (fuel : Nat) (x0 : (List D.Shard)) (s1 : Int × Int) : Option (Rd (Int × Int) (Int) (Int)) := (if (decide (s1.2 < (x0.length : Int))) = true then ((idx x0 s1.2).bind fun x19 => ((m_laws_szShard fuel x19 s1.1).bind fun r35 => (if (decide (r35 < 0)) = true then some (.ret (-1)) else some (.next (r35, w64 (s1.2 + 1)))))) else some (.brk s1.1))
def m_laws_szShardS (fuel : Nat) (x0 : (List D.Shard)) (x1 : Int) : Option (Int) := (if (decide ((w64 (x1 - (x0.length : Int))) < 0)) = true then some (-1) else ((iter (m_laws_szShardS_b1 fuel x0) fuel (w64 (x1 - (x0.length : Int)), 0)).bind fun o => aft o (m_laws_szShardS_j1 fuel)))

set_option maxRecDepth 100000 in
theorem laws_szShardS_ok {W w : World} (hE : Ext W w) {A0_ : Option Addr} {k0_ : Nat} {x0 : (List D.Shard)} {x1 : Int} (h0_ : ty54.ro W [.slice A0_ x0.length k0_] x0) {fuel : Nat} {r : Int} (hm : m_laws_szShardS fuel x0 x1 = some r) :
    Calls Try.prog 71 ⟨[.slice A0_ x0.length k0_, .int .i64 x1]⟩ w (Ret fun v w8 => v = .int .i64 r ∧ St w w8 []) := by
  refine Calls.into Try.func71 rfl 27 rfl rfl _ rfl ?_
  unfold m_laws_szShardS at hm
  have hS := St.start w
  refine WP.seq ?_
  refine WP.region ?_
  refine RW.run ttok 1 rfl ?_
  refine RW.nil ?_
  refine WP.seq ?_
  refine WP.region ?_
  refine RW.run ttok 5 rfl ?_
  refine RW.nil ?_
  refine WP.seq ?_
  refine WP.seq ?_
  refine WP.region ?_
  refine RW.run ttok 2 rfl ?_
  refine RW.nil ?_
  refine WP.cond (decide ((w64 (x1 - (x0.length : Int))) < 0)) rfl (fun hc => ?_) (fun hc => ?_)
  · skip
    rw [if_pos hc] at hm
    refine WP.seq ?_
    refine WP.region ?_
    refine RW.run ttok 1 rfl ?_
    refine RW.nil ?_
    refine WP.ret ?_
    cases hm
    exact ⟨_, .cons (.tmp rfl) .nil, rfl, hS⟩
  · skip
    rw [if_neg (not_t hc)] at hm
    refine WP.skip ?_
    refine WP.seq ?_
    refine WP.seq ?_
    refine WP.region ?_
    refine RW.run ttok 1 rfl ?_
    refine RW.nil ?_
    obtain ⟨o10, hl11, hm⟩ := bind_some hm
    refine WP.cut (fun (t2 : Int) F w9 => o10 = .inl t2 ∧ Ext w w9 ∧ St w w9 [] ∧ F = [(1, .int .i64 t2)]) ?_ ?_
    · skip
      rintro t2 F w7 ⟨ho13, hE6, hS12, rfl⟩
      subst ho13
      rw [aft_inl] at hm
      unfold m_laws_szShardS_j1 at hm
      refine WP.seq ?_
      refine WP.region ?_
      refine RW.run ttok 2 rfl ?_
      refine RW.nil ?_
      refine WP.ret ?_
      cases hm
      exact ⟨_, .cons (.tmp rfl) .nil, rfl, hS12⟩
    · skip
      refine WP.block ?_
      refine WP.weak [(0, .slice A0_ x0.length k0_), (1, .int .i64 (w64 (x1 - (x0.length : Int)))), (5, .int .i64 0)] ⟨rfl, rfl, rfl, trivial⟩ ?_
      refine WP.iter (fun (s1 : Int × Int) F w9 => Ext w w9 ∧ St w w9 [] ∧ F = [(0, .slice A0_ x0.length k0_), (1, .int .i64 s1.1), (5, .int .i64 s1.2)]) _ hl11 ⟨(Ext.refl _), hS, rfl⟩ ?_
      rintro s1 F w18 _ o16 ⟨hE5, hS17, rfl⟩ hb14 ho15
      unfold m_laws_szShardS_b1 at hb14
      refine WP.seq ?_
      refine WP.seq ?_
      refine WP.region ?_
      refine RW.run ttok 4 rfl ?_
      refine RW.nil ?_
      refine WP.cond (decide (s1.2 < (x0.length : Int))) rfl (fun hc => ?_) (fun hc => ?_)
      · skip
        rw [if_pos hc] at hb14
        refine WP.skip ?_
        refine WP.seq ?_
        refine WP.block ?_
        refine WP.seq ?_
        refine WP.region ?_
        refine RW.run ttok 2 rfl ?_
        obtain ⟨x19, hx20, hb14⟩ := bind_some hb14
        refine RW.idx ttok (hE.trans hS17.ext) rfl rfl rfl rfl rfl rfl (by decide) rfl rfl h0_ (idx_some hx20).1 (idx_some hx20).2 rfl rfl (fun p21 es22 ha23 hr24 => ?_)
        obtain ⟨A25, k26, A28, k29, A31, k32, e34, h27, h30, h33⟩ := ty191_open hr24; subst e34
        refine RW.loadN ttok rfl rfl rfl rfl rfl (At.ext (hE.trans hS17.ext) ha23) rfl rfl rfl ?_
        refine RW.run ttok 1 rfl ?_
        obtain ⟨r35, hx36, hb14⟩ := bind_some hb14
        refine RW.call rfl rfl rfl enters130 (laws_szShard_ok (hE.trans hS17.ext) hr24 hx36) (fun v37 w38 hR39 => ?_)
        obtain ⟨rfl, hR40⟩ := hR39
        have hS41 := hS17.join hR40
        refine RW.run ttok 1 rfl ?_
        refine RW.nil ?_
        refine WP.seq ?_
        refine WP.region ?_
        refine RW.run ttok 2 rfl ?_
        refine RW.nil ?_
        refine WP.cond (decide (r35 < 0)) rfl (fun hc => ?_) (fun hc => ?_)
        · skip
          rw [if_pos hc] at hb14
          refine WP.seq ?_
          refine WP.region ?_
          refine RW.run ttok 1 rfl ?_
          refine RW.nil ?_
          refine WP.ret ?_
          cases hb14
          cases ho15
          have hm : some _ = some _ := hm
          cases hm
          exact ⟨_, .cons (.tmp rfl) .nil, rfl, hS41⟩
        · skip
          rw [if_neg (not_t hc)] at hb14
          refine WP.skip ?_
          refine WP.region ?_
          refine RW.run ttok 3 rfl ?_
          refine RW.nil ?_
          cases hb14
          exact ⟨_, [(0, .slice A0_ x0.length k0_), (1, .int .i64 r35), (5, .int .i64 (w64 (s1.2 + 1)))], ⟨rfl, rfl, rfl, trivial⟩, rfl, (hE5.trans hR40.ext), hS41, rfl⟩
      · skip
        rw [if_neg (not_t hc)] at hb14
        refine WP.exit ?_
        cases hb14
        exact ⟨_, [(1, .int .i64 s1.1)], ⟨rfl, trivial⟩, ho15, hE5, hS17, rfl⟩

theorem enters30 : Enters Try.prog 30 := ⟨_, _, Try.func30, rfl, by kernel_rfl⟩
def m_laws_szGrid (fuel : Nat) (x0 : D.Grid) (x1 : Int) : Option (Int) := ((m_laws_szShardS fuel x0.Shards x1).bind fun r11 => (if (decide (r11 < 0)) = true then some (-1) else some r11))

set_option maxRecDepth 100000 in
theorem laws_szGrid_ok {W w : World} (hE : Ext W w) {c0_ : List Value} {x0 : D.Grid} {x1 : Int} (h0_ : ty58.ro W c0_ x0) {fuel : Nat} {r : Int} (hm : m_laws_szGrid fuel x0 x1 = some r) :
    Calls Try.prog 30 ⟨[.agg ⟨c0_⟩, .int .i64 x1]⟩ w (Ret fun v w8 => v = .int .i64 r ∧ St w w8 []) := by
  obtain ⟨A1, k2, e4, h3⟩ := ty58_open h0_; subst e4
  refine Calls.into Try.func30 rfl 12 rfl rfl _ rfl ?_
  unfold m_laws_szGrid at hm
  have hS := St.start w
  refine WP.seq ?_
  refine WP.region ?_
  refine RW.new ttok hS rfl rfl rfl rfl (fun g5 w6 e7 hS10 => ?_)
  refine RW.run ttok 1 rfl ?_
  refine RW.nil ?_
  refine WP.seq ?_
  refine WP.region ?_
  refine RW.run ttok 1 rfl ?_
  refine RW.load1 ttok rfl rfl rfl rfl rfl ((hS10.bring 0 rfl).box) 0 rfl rfl rfl rfl ?_
  refine RW.run ttok 1 rfl ?_
  obtain ⟨r11, hx12, hm⟩ := bind_some hm
  refine RW.call rfl rfl rfl enters71 (laws_szShardS_ok (hE.trans hS10.ext) h3 hx12) (fun v13 w14 hR15 => ?_)
  obtain ⟨rfl, hR16⟩ := hR15
  have hS17 := hS10.join hR16
  refine RW.run ttok 1 rfl ?_
  refine RW.nil ?_
  refine WP.seq ?_
  refine WP.seq ?_
  refine WP.region ?_
  refine RW.run ttok 2 rfl ?_
  refine RW.nil ?_
  refine WP.cond (decide (r11 < 0)) rfl (fun hc => ?_) (fun hc => ?_)
  · skip
    rw [if_pos hc] at hm
    refine WP.seq ?_
    refine WP.region ?_
    refine RW.run ttok 1 rfl ?_
    refine RW.nil ?_
    refine WP.ret ?_
    cases hm
    exact ⟨_, .cons (.tmp rfl) .nil, rfl, (hS17.taken 0)⟩
  · skip
    rw [if_neg (not_t hc)] at hm
    refine WP.skip ?_
    refine WP.seq ?_
    refine WP.region ?_
    refine RW.run ttok 2 rfl ?_
    refine RW.nil ?_
    refine WP.ret ?_
    cases hm
    exact ⟨_, .cons (.tmp rfl) .nil, rfl, (hS17.taken 0)⟩

theorem enters123 : Enters Try.prog 123 := ⟨_, _, Try.func123, rfl, by kernel_rfl⟩
def m_laws_toInt64S_j1 (fuel : Nat) (t11 : (List Int)) : Option (List Int) := some t11
def m_laws_toInt64S_b1 (fuel : Nat) (x0 : (List Int)) (s10 : Int × (List Int)) : Option (Rd (Int × (List Int)) ((List Int)) ((List Int))) := (if (decide (s10.1 < (x0.length : Int))) = true then ((idx x0 s10.1).bind fun x25 => (if decide (0 ≤ s10.1 ∧ s10.1.toNat < s10.2.length) = true then some (.next (w64 (s10.1 + 1), (s10.2.set s10.1.toNat x25))) else none)) else some (.brk s10.2))
def m_laws_toInt64S (fuel : Nat) (x0 : (List Int)) : Option ((List Int)) := (if decide (0 ≤ (x0.length : Int) ∧ (x0.length : Int) ≤ 4294967296) = true then ((iter (m_laws_toInt64S_b1 fuel x0) fuel (0, (List.replicate (x0.length : Int).toNat (0 : Int)))).bind fun o => aft o (m_laws_toInt64S_j1 fuel)) else none)

set_option maxRecDepth 100000 in
theorem laws_toInt64S_ok {W w : World} (hE : Ext W w) {A0_ : Option Addr} {k0_ : Nat} {x0 : (List Int)} (h0_ : ty103.ro W [.slice A0_ x0.length k0_] x0) {fuel : Nat} {r : (List Int)} (hm : m_laws_toInt64S fuel x0 = some r) :
    Calls Try.prog 123 ⟨[.slice A0_ x0.length k0_]⟩ w (Ret fun v w8 => ∃ A0 k0, v = .slice A0 r.length k0 ∧ St w w8 [Own ty103 [.slice A0 r.length k0] r]) := by
  refine Calls.into Try.func123 rfl 22 rfl rfl _ rfl ?_
  unfold m_laws_toInt64S at hm
  have hS := St.start w
  refine WP.seq ?_
  refine WP.region ?_
  refine RW.run ttok 1 rfl ?_
  refine RW.nil ?_
  refine WP.seq ?_
  refine WP.region ?_
  refine RW.run ttok 2 rfl ?_
  by_cases hk1 : decide (0 ≤ (x0.length : Int) ∧ (x0.length : Int) ≤ 4294967296) = true
  case neg => rw [if_neg hk1] at hm; cases hm
  rw [if_pos hk1] at hm
  have hz7 := of_decide_eq_true hk1
  refine RW.make (U := tInt) ttok (0 : Int) hS rfl rfl rfl rfl rfl rfl rfl rfl hz7.1 (by have := hz7.2; show _ * (8 : Int) ≤ _; omega) (by have := hz7.2; simp only [maxLen]; omega) (fun _ => ⟨rfl, rfl⟩) rfl rfl (fun A2 k3 w4 e5 hS6 => ?_)
  refine RW.run ttok 1 rfl ?_
  refine RW.nil ?_
  refine WP.seq ?_
  refine WP.seq ?_
  refine WP.region ?_
  refine RW.run ttok 1 rfl ?_
  refine RW.nil ?_
  obtain ⟨o14, hl15, hm⟩ := bind_some hm
  refine WP.cut (fun (t11 : (List Int)) F w9 => o14 = .inl t11 ∧ St w w9 [Own ty103 [.slice A2 (List.replicate (x0.length : Int).toNat (0 : Int)).length k3] t11] ∧ F = [(3, .slice A2 (List.replicate (x0.length : Int).toNat (0 : Int)).length k3)]) ?_ ?_
  · skip
    rintro t11 F w13 ⟨ho17, hS16, rfl⟩
    subst ho17
    rw [aft_inl] at hm
    unfold m_laws_toInt64S_j1 at hm
    refine WP.seq ?_
    refine WP.region ?_
    refine RW.run ttok 2 rfl ?_
    refine RW.nil ?_
    refine WP.ret ?_
    cases hm
    have hn18 := (hS16.bring 0 rfl).lenEq
    have hS19 := (hS16.bring 0 rfl).reLen hn18
    exact ⟨_, .cons (.tmp rfl) .nil, A2, k3, (by first | (simp only [hn18]; done) | (simp only [hn18]; rfl)), hS19⟩
  · skip
    refine WP.block ?_
    refine WP.weak [(0, .slice A0_ x0.length k0_), (3, .slice A2 (List.replicate (x0.length : Int).toNat (0 : Int)).length k3), (4, .int .i64 0)] ⟨rfl, rfl, rfl, trivial⟩ ?_
    refine WP.iter (fun (s10 : Int × (List Int)) F w9 => St w w9 [Own ty103 [.slice A2 (List.replicate (x0.length : Int).toNat (0 : Int)).length k3] s10.2] ∧ F = [(0, .slice A0_ x0.length k0_), (3, .slice A2 (List.replicate (x0.length : Int).toNat (0 : Int)).length k3), (4, .int .i64 s10.1)]) _ hl15 ⟨hS6, rfl⟩ ?_
    rintro s10 F w24 _ o22 ⟨hS23, rfl⟩ hb20 ho21
    unfold m_laws_toInt64S_b1 at hb20
    refine WP.seq ?_
    refine WP.seq ?_
    refine WP.region ?_
    refine RW.run ttok 4 rfl ?_
    refine RW.nil ?_
    refine WP.cond (decide (s10.1 < (x0.length : Int))) rfl (fun hc => ?_) (fun hc => ?_)
    · skip
      rw [if_pos hc] at hb20
      refine WP.skip ?_
      refine WP.seq ?_
      refine WP.block ?_
      refine WP.region ?_
      refine RW.run ttok 4 rfl ?_
      obtain ⟨x25, hx26, hb20⟩ := bind_some hb20
      refine RW.idx ttok (hE.trans hS23.ext) rfl rfl rfl rfl rfl rfl (by decide) rfl rfl h0_ (idx_some hx26).1 (idx_some hx26).2 rfl rfl (fun p27 es28 ha29 hr30 => ?_)
      cases hr30
      refine RW.load1 ttok rfl rfl rfl rfl rfl (At.ext (hE.trans hS23.ext) ha29) 0 rfl rfl rfl rfl ?_
      have hS31 := hS23.bring 0 rfl
      by_cases hk32 : decide (0 ≤ s10.1 ∧ s10.1.toNat < s10.2.length) = true
      case neg => rw [if_neg hk32] at hb20; cases hb20
      rw [if_pos hk32] at hb20
      have hb33 := of_decide_eq_true hk32
      refine RW.idxOwnN ttok hS31 rfl rfl rfl rfl rfl rfl rfl rfl hb33.1 hb33.2 rfl rfl (fun q34 hq35 => ?_)
      have hS36 := hS31.flat (T := tInt) (cs := [.int .i64 x25]) (x := x25) ⟨rfl, rfl⟩
      have hS37 := hS36.bring 1 rfl
      refine RW.storeElN ttok hS37 rfl rfl rfl rfl rfl rfl hb33.2 hq35 rfl rfl (fun w38 hS39 => ?_)
      refine RW.nil ?_
      refine WP.region ?_
      refine RW.run ttok 3 rfl ?_
      refine RW.nil ?_
      cases hb20
      exact ⟨_, [(0, .slice A0_ x0.length k0_), (3, .slice A2 (List.replicate (x0.length : Int).toNat (0 : Int)).length k3), (4, .int .i64 (w64 (s10.1 + 1)))], ⟨rfl, rfl, rfl, trivial⟩, rfl, hS39, rfl⟩
    · skip
      rw [if_neg (not_t hc)] at hb20
      refine WP.exit ?_
      cases hb20
      exact ⟨_, [(3, .slice A2 (List.replicate (x0.length : Int).toNat (0 : Int)).length k3)], ⟨rfl, trivial⟩, ho21, hS23, rfl⟩

theorem enters74 : Enters Try.prog 74 := ⟨_, _, Try.func74, rfl, by kernel_rfl⟩
def m_laws_toAddress (fuel : Nat) (x0 : D.Address) : Option (D.Address) := some (⟨x0.Machine, x0.Kind, x0.Index⟩ : D.Address)

set_option maxRecDepth 100000 in
theorem laws_toAddress_ok {W w : World} (hE : Ext W w) {c0_ : List Value} {x0 : D.Address} (h0_ : ty56.ro W c0_ x0) {fuel : Nat} {r : D.Address} (hm : m_laws_toAddress fuel x0 = some r) :
    Calls Try.prog 74 ⟨[.agg ⟨c0_⟩]⟩ w (Ret fun v w8 => v = .agg ⟨[.int .i64 r.Machine, .int .i64 r.Kind, .int .i64 r.Index]⟩ ∧ St w w8 []) := by
  have e1 := ty56_open h0_; subst e1
  refine Calls.into Try.func74 rfl 14 rfl rfl _ rfl ?_
  unfold m_laws_toAddress at hm
  have hS := St.start w
  refine WP.seq ?_
  refine WP.region ?_
  refine RW.new ttok hS rfl rfl rfl rfl (fun g2 w3 e4 hS5 => ?_)
  refine RW.new ttok hS5 rfl rfl rfl rfl (fun g6 w7 e10 hS11 => ?_)
  refine RW.nil ?_
  refine WP.seq ?_
  refine WP.region ?_
  refine RW.new ttok hS11 rfl rfl rfl rfl (fun g12 w13 e14 hS15 => ?_)
  refine RW.nil ?_
  refine WP.seq ?_
  refine WP.region ?_
  refine RW.run ttok 1 rfl ?_
  refine RW.load1 ttok rfl rfl rfl rfl rfl ((hS15.bring 2 rfl).box) 0 rfl rfl rfl rfl ?_
  refine RW.run ttok 1 rfl ?_
  have hS16 := hS15.bring 0 rfl
  refine RW.store ttok (A := []) hS16 rfl rfl rfl rfl rfl 0 rfl rfl rfl rfl rfl (fun w17 hS18 => ?_)
  refine RW.nil ?_
  refine WP.seq ?_
  refine WP.region ?_
  refine RW.run ttok 1 rfl ?_
  refine RW.load1 ttok rfl rfl rfl rfl rfl ((hS18.bring 2 rfl).box) 1 rfl rfl rfl rfl ?_
  refine RW.run ttok 1 rfl ?_
  have hS19 := hS18.bring 0 rfl
  refine RW.store ttok (A := []) hS19 rfl rfl rfl rfl rfl 1 rfl rfl rfl rfl rfl (fun w20 hS21 => ?_)
  refine RW.nil ?_
  refine WP.seq ?_
  refine WP.region ?_
  refine RW.run ttok 1 rfl ?_
  refine RW.load1 ttok rfl rfl rfl rfl rfl ((hS21.bring 2 rfl).box) 2 rfl rfl rfl rfl ?_
  refine RW.run ttok 1 rfl ?_
  have hS22 := hS21.bring 0 rfl
  refine RW.store ttok (A := []) hS22 rfl rfl rfl rfl rfl 2 rfl rfl rfl rfl rfl (fun w23 hS24 => ?_)
  refine RW.nil ?_
  refine WP.seq ?_
  refine WP.region ?_
  refine RW.loadN ttok rfl rfl rfl rfl rfl ((hS24.bring 0 rfl).box) rfl rfl rfl ?_
  have hS25 := hS24.bring 1 rfl
  refine RW.store ttok (A := []) hS25 rfl rfl rfl rfl rfl 0 rfl rfl rfl rfl rfl (fun w26 hS27 => ?_)
  refine RW.nil ?_
  refine WP.ret ?_
  cases hm
  exact ⟨_, .cons (ResIs.agg ttok rfl rfl rfl ((hS27.bring 0 rfl).box) rfl) .nil, rfl, (hS27.taken 0)⟩

theorem enters265 : Enters Try.prog 265 := ⟨_, _, Try.func265, rfl, by kernel_rfl⟩
def m_laws_toAddressS_j1 (fuel : Nat) (t11 : (List D.Address)) : Option (List D.Address) := some t11
def m_laws_toAddressS_b1 (fuel : Nat) (x0 : (List D.Address)) (s10 : Int × (List D.Address)) : Option (Rd (Int × (List D.Address)) ((List D.Address)) ((List D.Address))) := (if (decide (s10.1 < (x0.length : Int))) = true then ((idx x0 s10.1).bind fun x25 => ((m_laws_toAddress fuel x25).bind fun r32 => (if decide (0 ≤ s10.1 ∧ s10.1.toNat < s10.2.length) = true then some (.next (w64 (s10.1 + 1), (s10.2.set s10.1.toNat r32))) else none))) else some (.brk s10.2))
def m_laws_toAddressS (fuel : Nat) (x0 : (List D.Address)) : Option ((List D.Address)) := (if decide (0 ≤ (x0.length : Int) ∧ (x0.length : Int) ≤ 4294967296) = true then ((iter (m_laws_toAddressS_b1 fuel x0) fuel (0, (List.replicate (x0.length : Int).toNat (⟨(0 : Int), (0 : Int), (0 : Int)⟩ : D.Address)))).bind fun o => aft o (m_laws_toAddressS_j1 fuel)) else none)

set_option maxRecDepth 100000 in
theorem laws_toAddressS_ok {W w : World} (hE : Ext W w) {A0_ : Option Addr} {k0_ : Nat} {x0 : (List D.Address)} (h0_ : ty304.ro W [.slice A0_ x0.length k0_] x0) {fuel : Nat} {r : (List D.Address)} (hm : m_laws_toAddressS fuel x0 = some r) :
    Calls Try.prog 265 ⟨[.slice A0_ x0.length k0_]⟩ w (Ret fun v w8 => ∃ A0 k0, v = .slice A0 r.length k0 ∧ St w w8 [Own ty246 [.slice A0 r.length k0] r]) := by
  refine Calls.into Try.func265 rfl 23 rfl rfl _ rfl ?_
  unfold m_laws_toAddressS at hm
  have hS := St.start w
  refine WP.seq ?_
  refine WP.region ?_
  refine RW.run ttok 1 rfl ?_
  refine RW.nil ?_
  refine WP.seq ?_
  refine WP.region ?_
  refine RW.run ttok 2 rfl ?_
  by_cases hk1 : decide (0 ≤ (x0.length : Int) ∧ (x0.length : Int) ≤ 4294967296) = true
  case neg => rw [if_neg hk1] at hm; cases hm
  rw [if_pos hk1] at hm
  have hz7 := of_decide_eq_true hk1
  refine RW.make (U := ty62) ttok (⟨(0 : Int), (0 : Int), (0 : Int)⟩ : D.Address) hS rfl rfl rfl rfl rfl rfl rfl rfl hz7.1 (by have := hz7.2; show _ * (24 : Int) ≤ _; omega) (by have := hz7.2; simp only [maxLen]; omega) (fun _ => (ty62_ownI (c := (⟨(0 : Int), (0 : Int), (0 : Int)⟩ : D.Address)) rfl)) rfl rfl (fun A2 k3 w4 e5 hS6 => ?_)
  refine RW.run ttok 1 rfl ?_
  refine RW.nil ?_
  refine WP.seq ?_
  refine WP.seq ?_
  refine WP.region ?_
  refine RW.run ttok 1 rfl ?_
  refine RW.nil ?_
  obtain ⟨o14, hl15, hm⟩ := bind_some hm
  refine WP.cut (fun (t11 : (List D.Address)) F w9 => o14 = .inl t11 ∧ St w w9 [Own ty246 [.slice A2 (List.replicate (x0.length : Int).toNat (⟨(0 : Int), (0 : Int), (0 : Int)⟩ : D.Address)).length k3] t11] ∧ F = [(3, .slice A2 (List.replicate (x0.length : Int).toNat (⟨(0 : Int), (0 : Int), (0 : Int)⟩ : D.Address)).length k3)]) ?_ ?_
  · skip
    rintro t11 F w13 ⟨ho17, hS16, rfl⟩
    subst ho17
    rw [aft_inl] at hm
    unfold m_laws_toAddressS_j1 at hm
    refine WP.seq ?_
    refine WP.region ?_
    refine RW.run ttok 2 rfl ?_
    refine RW.nil ?_
    refine WP.ret ?_
    cases hm
    have hn18 := (hS16.bring 0 rfl).lenEq
    have hS19 := (hS16.bring 0 rfl).reLen hn18
    exact ⟨_, .cons (.tmp rfl) .nil, A2, k3, (by first | (simp only [hn18]; done) | (simp only [hn18]; rfl)), hS19⟩
  · skip
    refine WP.block ?_
    refine WP.weak [(0, .slice A0_ x0.length k0_), (3, .slice A2 (List.replicate (x0.length : Int).toNat (⟨(0 : Int), (0 : Int), (0 : Int)⟩ : D.Address)).length k3), (4, .int .i64 0)] ⟨rfl, rfl, rfl, trivial⟩ ?_
    refine WP.iter (fun (s10 : Int × (List D.Address)) F w9 => St w w9 [Own ty246 [.slice A2 (List.replicate (x0.length : Int).toNat (⟨(0 : Int), (0 : Int), (0 : Int)⟩ : D.Address)).length k3] s10.2] ∧ F = [(0, .slice A0_ x0.length k0_), (3, .slice A2 (List.replicate (x0.length : Int).toNat (⟨(0 : Int), (0 : Int), (0 : Int)⟩ : D.Address)).length k3), (4, .int .i64 s10.1)]) _ hl15 ⟨hS6, rfl⟩ ?_
    rintro s10 F w24 _ o22 ⟨hS23, rfl⟩ hb20 ho21
    unfold m_laws_toAddressS_b1 at hb20
    refine WP.seq ?_
    refine WP.seq ?_
    refine WP.region ?_
    refine RW.run ttok 4 rfl ?_
    refine RW.nil ?_
    refine WP.cond (decide (s10.1 < (x0.length : Int))) rfl (fun hc => ?_) (fun hc => ?_)
    · skip
      rw [if_pos hc] at hb20
      refine WP.skip ?_
      refine WP.seq ?_
      refine WP.block ?_
      refine WP.region ?_
      refine RW.run ttok 4 rfl ?_
      obtain ⟨x25, hx26, hb20⟩ := bind_some hb20
      refine RW.idx ttok (hE.trans hS23.ext) rfl rfl rfl rfl rfl rfl (by decide) rfl rfl h0_ (idx_some hx26).1 (idx_some hx26).2 rfl rfl (fun p27 es28 ha29 hr30 => ?_)
      have e31 := ty56_open hr30; subst e31
      refine RW.loadN ttok rfl rfl rfl rfl rfl (At.ext (hE.trans hS23.ext) ha29) rfl rfl rfl ?_
      obtain ⟨r32, hx33, hb20⟩ := bind_some hb20
      refine RW.call rfl rfl rfl enters74 (laws_toAddress_ok (hE.trans hS23.ext) hr30 hx33) (fun v34 w35 hR36 => ?_)
      obtain ⟨rfl, hR37⟩ := hR36
      have hS38 := hS23.join hR37
      have hS39 := hS38.bring 0 rfl
      by_cases hk40 : decide (0 ≤ s10.1 ∧ s10.1.toNat < s10.2.length) = true
      case neg => rw [if_neg hk40] at hb20; cases hb20
      rw [if_pos hk40] at hb20
      have hb41 := of_decide_eq_true hk40
      refine RW.idxOwnN ttok hS39 rfl rfl rfl rfl rfl rfl rfl rfl hb41.1 hb41.2 rfl rfl (fun q42 hq43 => ?_)
      have hS44 := ty62_shutS (c := r32) (B := _) hS39
      have hS45 := hS44.bring 1 rfl
      refine RW.storeElN ttok hS45 rfl rfl rfl rfl rfl rfl hb41.2 hq43 rfl rfl (fun w46 hS47 => ?_)
      refine RW.nil ?_
      refine WP.region ?_
      refine RW.run ttok 3 rfl ?_
      refine RW.nil ?_
      cases hb20
      exact ⟨_, [(0, .slice A0_ x0.length k0_), (3, .slice A2 (List.replicate (x0.length : Int).toNat (⟨(0 : Int), (0 : Int), (0 : Int)⟩ : D.Address)).length k3), (4, .int .i64 (w64 (s10.1 + 1)))], ⟨rfl, rfl, rfl, trivial⟩, rfl, hS47, rfl⟩
    · skip
      rw [if_neg (not_t hc)] at hb20
      refine WP.exit ?_
      cases hb20
      exact ⟨_, [(3, .slice A2 (List.replicate (x0.length : Int).toNat (⟨(0 : Int), (0 : Int), (0 : Int)⟩ : D.Address)).length k3)], ⟨rfl, trivial⟩, ho21, hS23, rfl⟩

theorem enters246 : Enters Try.prog 246 := ⟨_, _, Try.func246, rfl, by kernel_rfl⟩
def m_laws_toShardCell (fuel : Nat) (x0 : D.ShardCell) : Option (D.ShardCell) := ((m_laws_toInt64S fuel x0.Data).bind fun r31 => ((m_laws_toAddressS fuel x0.Aux).bind fun r43 => some (⟨x0.Kind, x0.Level, x0.Value, r31, r43⟩ : D.ShardCell)))

set_option maxRecDepth 100000 in
theorem laws_toShardCell_ok {W w : World} (hE : Ext W w) {c0_ : List Value} {x0 : D.ShardCell} (h0_ : ty306.ro W c0_ x0) {fuel : Nat} {r : D.ShardCell} (hm : m_laws_toShardCell fuel x0 = some r) :
    Calls Try.prog 246 ⟨[.agg ⟨c0_⟩]⟩ w (Ret fun v w8 => ∃ A0 k0 A1 k1, v = .agg ⟨[.int .i64 r.Kind, .int .i64 r.Level, .int .i64 r.Value, .slice A0 r.Data.length k0, .slice A1 r.Aux.length k1]⟩ ∧ St w w8 [Own ty103 [.slice A0 r.Data.length k0] r.Data, Own ty246 [.slice A1 r.Aux.length k1] r.Aux]) := by
  obtain ⟨A1, k2, A4, k5, e7, h3, h6⟩ := ty306_open h0_; subst e7
  refine Calls.into Try.func246 rfl 22 rfl rfl _ rfl ?_
  unfold m_laws_toShardCell at hm
  have hS := St.start w
  refine WP.seq ?_
  refine WP.region ?_
  refine RW.new ttok hS rfl rfl rfl rfl (fun g10 w11 e12 hS13 => ?_)
  refine RW.new ttok hS13 rfl rfl rfl rfl (fun g14 w15 e16 hS17 => ?_)
  refine RW.nil ?_
  refine WP.seq ?_
  refine WP.region ?_
  refine RW.new ttok hS17 rfl rfl rfl rfl (fun g18 w19 e20 hS21 => ?_)
  refine RW.nil ?_
  refine WP.seq ?_
  refine WP.region ?_
  refine RW.run ttok 1 rfl ?_
  refine RW.load1 ttok rfl rfl rfl rfl rfl ((hS21.bring 2 rfl).box) 0 rfl rfl rfl rfl ?_
  refine RW.run ttok 1 rfl ?_
  have hS22 := hS21.bring 0 rfl
  refine RW.store ttok (A := []) hS22 rfl rfl rfl rfl rfl 0 rfl rfl rfl rfl rfl (fun w23 hS24 => ?_)
  refine RW.nil ?_
  refine WP.seq ?_
  refine WP.region ?_
  refine RW.run ttok 1 rfl ?_
  refine RW.load1 ttok rfl rfl rfl rfl rfl ((hS24.bring 2 rfl).box) 1 rfl rfl rfl rfl ?_
  refine RW.run ttok 1 rfl ?_
  have hS25 := hS24.bring 0 rfl
  refine RW.store ttok (A := []) hS25 rfl rfl rfl rfl rfl 1 rfl rfl rfl rfl rfl (fun w26 hS27 => ?_)
  refine RW.nil ?_
  refine WP.seq ?_
  refine WP.region ?_
  refine RW.run ttok 1 rfl ?_
  refine RW.load1 ttok rfl rfl rfl rfl rfl ((hS27.bring 2 rfl).box) 2 rfl rfl rfl rfl ?_
  refine RW.run ttok 1 rfl ?_
  have hS28 := hS27.bring 0 rfl
  refine RW.store ttok (A := []) hS28 rfl rfl rfl rfl rfl 2 rfl rfl rfl rfl rfl (fun w29 hS30 => ?_)
  refine RW.nil ?_
  refine WP.seq ?_
  refine WP.region ?_
  refine RW.run ttok 1 rfl ?_
  refine RW.load1 ttok rfl rfl rfl rfl rfl ((hS30.bring 2 rfl).box) 3 rfl rfl rfl rfl ?_
  obtain ⟨r31, hx32, hm⟩ := bind_some hm
  refine RW.call rfl rfl rfl enters123 (laws_toInt64S_ok (hE.trans hS30.ext) h3 hx32) (fun v33 w34 hR35 => ?_)
  obtain ⟨A36, k37, rfl, hR38⟩ := hR35
  have hS39 := hS30.join hR38
  refine RW.run ttok 1 rfl ?_
  have hS40 := hS39.bring 1 rfl
  refine RW.store ttok (A := []) hS40 rfl rfl rfl rfl rfl 3 rfl rfl rfl rfl rfl (fun w41 hS42 => ?_)
  refine RW.nil ?_
  refine WP.seq ?_
  refine WP.region ?_
  refine RW.run ttok 1 rfl ?_
  refine RW.load1 ttok rfl rfl rfl rfl rfl ((hS42.bring 3 rfl).box) 4 rfl rfl rfl rfl ?_
  obtain ⟨r43, hx44, hm⟩ := bind_some hm
  refine RW.call rfl rfl rfl enters265 (laws_toAddressS_ok (hE.trans hS42.ext) h6 hx44) (fun v45 w46 hR47 => ?_)
  obtain ⟨A48, k49, rfl, hR50⟩ := hR47
  have hS51 := hS42.join hR50
  refine RW.run ttok 1 rfl ?_
  have hS52 := hS51.bring 1 rfl
  refine RW.store ttok (A := []) hS52 rfl rfl rfl rfl rfl 4 rfl rfl rfl rfl rfl (fun w53 hS54 => ?_)
  refine RW.nil ?_
  refine WP.seq ?_
  refine WP.region ?_
  refine RW.loadN ttok rfl rfl rfl rfl rfl ((hS54.bring 0 rfl).box) rfl rfl rfl ?_
  have hS55 := hS54.bring 3 rfl
  refine RW.store ttok (A := []) hS55 rfl rfl rfl rfl rfl 0 rfl rfl rfl rfl rfl (fun w56 hS57 => ?_)
  refine RW.nil ?_
  refine WP.ret ?_
  cases hm
  exact ⟨_, .cons (ResIs.agg ttok rfl rfl rfl ((hS57.bring 0 rfl).box) rfl) .nil, A36, k37, A48, k49, rfl, (((hS57.bring 2 rfl).bring 3 rfl).taken 2)⟩

theorem enters193 : Enters Try.prog 193 := ⟨_, _, Try.func193, rfl, by kernel_rfl⟩
def m_laws_toShardCellS_j1 (fuel : Nat) (t11 : (List D.ShardCell)) : Option (List D.ShardCell) := some t11
def m_laws_toShardCellS_b1 (fuel : Nat) (x0 : (List D.ShardCell)) (s10 : Int × (List D.ShardCell)) : Option (Rd (Int × (List D.ShardCell)) ((List D.ShardCell)) ((List D.ShardCell))) := (if (decide (s10.1 < (x0.length : Int))) = true then ((idx x0 s10.1).bind fun x25 => ((m_laws_toShardCell fuel x25).bind fun r38 => (if decide (0 ≤ s10.1 ∧ s10.1.toNat < s10.2.length) = true then some (.next (w64 (s10.1 + 1), (s10.2.set s10.1.toNat r38))) else none))) else some (.brk s10.2))
def m_laws_toShardCellS (fuel : Nat) (x0 : (List D.ShardCell)) : Option ((List D.ShardCell)) := (if decide (0 ≤ (x0.length : Int) ∧ (x0.length : Int) ≤ 4294967296) = true then ((iter (m_laws_toShardCellS_b1 fuel x0) fuel (0, (List.replicate (x0.length : Int).toNat (⟨(0 : Int), (0 : Int), (0 : Int), ([] : (List Int)), ([] : (List D.Address))⟩ : D.ShardCell)))).bind fun o => aft o (m_laws_toShardCellS_j1 fuel)) else none)

set_option maxRecDepth 100000 in
theorem laws_toShardCellS_ok {W w : World} (hE : Ext W w) {A0_ : Option Addr} {k0_ : Nat} {x0 : (List D.ShardCell)} (h0_ : ty187.ro W [.slice A0_ x0.length k0_] x0) {fuel : Nat} {r : (List D.ShardCell)} (hm : m_laws_toShardCellS fuel x0 = some r) :
    Calls Try.prog 193 ⟨[.slice A0_ x0.length k0_]⟩ w (Ret fun v w8 => ∃ A0 k0, v = .slice A0 r.length k0 ∧ St w w8 [Own ty196 [.slice A0 r.length k0] r]) := by
  refine Calls.into Try.func193 rfl 23 rfl rfl _ rfl ?_
  unfold m_laws_toShardCellS at hm
  have hS := St.start w
  refine WP.seq ?_
  refine WP.region ?_
  refine RW.run ttok 1 rfl ?_
  refine RW.nil ?_
  refine WP.seq ?_
  refine WP.region ?_
  refine RW.run ttok 2 rfl ?_
  by_cases hk1 : decide (0 ≤ (x0.length : Int) ∧ (x0.length : Int) ≤ 4294967296) = true
  case neg => rw [if_neg hk1] at hm; cases hm
  rw [if_pos hk1] at hm
  have hz7 := of_decide_eq_true hk1
  refine RW.make (U := ty248) ttok (⟨(0 : Int), (0 : Int), (0 : Int), ([] : (List Int)), ([] : (List D.Address))⟩ : D.ShardCell) hS rfl rfl rfl rfl rfl rfl rfl rfl hz7.1 (by have := hz7.2; show _ * (72 : Int) ≤ _; omega) (by have := hz7.2; simp only [maxLen]; omega) (fun _ => (ty248_ownI (c := (⟨(0 : Int), (0 : Int), (0 : Int), ([] : (List Int)), ([] : (List D.Address))⟩ : D.ShardCell)) ⟨[], [], rfl, (slNilOwn tInt 2 _), ⟨[], [], rfl, (slNilOwn ty62 62 _), rfl⟩⟩)) rfl rfl (fun A2 k3 w4 e5 hS6 => ?_)
  refine RW.run ttok 1 rfl ?_
  refine RW.nil ?_
  refine WP.seq ?_
  refine WP.seq ?_
  refine WP.region ?_
  refine RW.run ttok 1 rfl ?_
  refine RW.nil ?_
  obtain ⟨o14, hl15, hm⟩ := bind_some hm
  refine WP.cut (fun (t11 : (List D.ShardCell)) F w9 => o14 = .inl t11 ∧ St w w9 [Own ty196 [.slice A2 (List.replicate (x0.length : Int).toNat (⟨(0 : Int), (0 : Int), (0 : Int), ([] : (List Int)), ([] : (List D.Address))⟩ : D.ShardCell)).length k3] t11] ∧ F = [(3, .slice A2 (List.replicate (x0.length : Int).toNat (⟨(0 : Int), (0 : Int), (0 : Int), ([] : (List Int)), ([] : (List D.Address))⟩ : D.ShardCell)).length k3)]) ?_ ?_
  · skip
    rintro t11 F w13 ⟨ho17, hS16, rfl⟩
    subst ho17
    rw [aft_inl] at hm
    unfold m_laws_toShardCellS_j1 at hm
    refine WP.seq ?_
    refine WP.region ?_
    refine RW.run ttok 2 rfl ?_
    refine RW.nil ?_
    refine WP.ret ?_
    cases hm
    have hn18 := (hS16.bring 0 rfl).lenEq
    have hS19 := (hS16.bring 0 rfl).reLen hn18
    exact ⟨_, .cons (.tmp rfl) .nil, A2, k3, (by first | (simp only [hn18]; done) | (simp only [hn18]; rfl)), hS19⟩
  · skip
    refine WP.block ?_
    refine WP.weak [(0, .slice A0_ x0.length k0_), (3, .slice A2 (List.replicate (x0.length : Int).toNat (⟨(0 : Int), (0 : Int), (0 : Int), ([] : (List Int)), ([] : (List D.Address))⟩ : D.ShardCell)).length k3), (4, .int .i64 0)] ⟨rfl, rfl, rfl, trivial⟩ ?_
    refine WP.iter (fun (s10 : Int × (List D.ShardCell)) F w9 => St w w9 [Own ty196 [.slice A2 (List.replicate (x0.length : Int).toNat (⟨(0 : Int), (0 : Int), (0 : Int), ([] : (List Int)), ([] : (List D.Address))⟩ : D.ShardCell)).length k3] s10.2] ∧ F = [(0, .slice A0_ x0.length k0_), (3, .slice A2 (List.replicate (x0.length : Int).toNat (⟨(0 : Int), (0 : Int), (0 : Int), ([] : (List Int)), ([] : (List D.Address))⟩ : D.ShardCell)).length k3), (4, .int .i64 s10.1)]) _ hl15 ⟨hS6, rfl⟩ ?_
    rintro s10 F w24 _ o22 ⟨hS23, rfl⟩ hb20 ho21
    unfold m_laws_toShardCellS_b1 at hb20
    refine WP.seq ?_
    refine WP.seq ?_
    refine WP.region ?_
    refine RW.run ttok 4 rfl ?_
    refine RW.nil ?_
    refine WP.cond (decide (s10.1 < (x0.length : Int))) rfl (fun hc => ?_) (fun hc => ?_)
    · skip
      rw [if_pos hc] at hb20
      refine WP.skip ?_
      refine WP.seq ?_
      refine WP.block ?_
      refine WP.region ?_
      refine RW.run ttok 4 rfl ?_
      obtain ⟨x25, hx26, hb20⟩ := bind_some hb20
      refine RW.idx ttok (hE.trans hS23.ext) rfl rfl rfl rfl rfl rfl (by decide) rfl rfl h0_ (idx_some hx26).1 (idx_some hx26).2 rfl rfl (fun p27 es28 ha29 hr30 => ?_)
      obtain ⟨A31, k32, A34, k35, e37, h33, h36⟩ := ty306_open hr30; subst e37
      refine RW.loadN ttok rfl rfl rfl rfl rfl (At.ext (hE.trans hS23.ext) ha29) rfl rfl rfl ?_
      obtain ⟨r38, hx39, hb20⟩ := bind_some hb20
      refine RW.call rfl rfl rfl enters246 (laws_toShardCell_ok (hE.trans hS23.ext) hr30 hx39) (fun v40 w41 hR42 => ?_)
      obtain ⟨A43, k44, A45, k46, rfl, hR47⟩ := hR42
      have hS48 := hS23.join hR47
      have hS49 := hS48.bring 2 rfl
      by_cases hk50 : decide (0 ≤ s10.1 ∧ s10.1.toNat < s10.2.length) = true
      case neg => rw [if_neg hk50] at hb20; cases hb20
      rw [if_pos hk50] at hb20
      have hb51 := of_decide_eq_true hk50
      refine RW.idxOwnN ttok hS49 rfl rfl rfl rfl rfl rfl rfl rfl hb51.1 hb51.2 rfl rfl (fun q52 hq53 => ?_)
      have hS54 := hS49.bring 2 rfl
      have hS55 := hS54.bring 2 rfl
      have hS56 := ty248_shutS (c := r38) (B := _) hS55
      have hS57 := hS56.bring 1 rfl
      refine RW.storeElN ttok hS57 rfl rfl rfl rfl rfl rfl hb51.2 hq53 rfl rfl (fun w58 hS59 => ?_)
      refine RW.nil ?_
      refine WP.region ?_
      refine RW.run ttok 3 rfl ?_
      refine RW.nil ?_
      cases hb20
      exact ⟨_, [(0, .slice A0_ x0.length k0_), (3, .slice A2 (List.replicate (x0.length : Int).toNat (⟨(0 : Int), (0 : Int), (0 : Int), ([] : (List Int)), ([] : (List D.Address))⟩ : D.ShardCell)).length k3), (4, .int .i64 (w64 (s10.1 + 1)))], ⟨rfl, rfl, rfl, trivial⟩, rfl, hS59, rfl⟩
    · skip
      rw [if_neg (not_t hc)] at hb20
      refine WP.exit ?_
      cases hb20
      exact ⟨_, [(3, .slice A2 (List.replicate (x0.length : Int).toNat (⟨(0 : Int), (0 : Int), (0 : Int), ([] : (List Int)), ([] : (List D.Address))⟩ : D.ShardCell)).length k3)], ⟨rfl, trivial⟩, ho21, hS23, rfl⟩

theorem enters247 : Enters Try.prog 247 := ⟨_, _, Try.func247, rfl, by kernel_rfl⟩
def m_laws_toShardVar (fuel : Nat) (x0 : D.ShardVar) : Option (D.ShardVar) := ((m_laws_toAddress fuel x0.Held).bind fun r22 => some (⟨x0.Used, x0.Full, (⟨r22.Machine, r22.Kind, r22.Index⟩ : D.Address)⟩ : D.ShardVar))

set_option maxRecDepth 100000 in
theorem laws_toShardVar_ok {W w : World} (hE : Ext W w) {c0_ : List Value} {x0 : D.ShardVar} (h0_ : ty311.ro W c0_ x0) {fuel : Nat} {r : D.ShardVar} (hm : m_laws_toShardVar fuel x0 = some r) :
    Calls Try.prog 247 ⟨[.agg ⟨c0_⟩]⟩ w (Ret fun v w8 => v = .agg ⟨[.bool r.Used, .bool r.Full, .int .i64 r.Held.Machine, .int .i64 r.Held.Kind, .int .i64 r.Held.Index]⟩ ∧ St w w8 []) := by
  have e1 := ty311_open h0_; subst e1
  refine Calls.into Try.func247 rfl 15 rfl rfl _ rfl ?_
  unfold m_laws_toShardVar at hm
  have hS := St.start w
  refine WP.seq ?_
  refine WP.region ?_
  refine RW.new ttok hS rfl rfl rfl rfl (fun g2 w3 e4 hS5 => ?_)
  refine RW.new ttok hS5 rfl rfl rfl rfl (fun g6 w7 e10 hS11 => ?_)
  refine RW.nil ?_
  refine WP.seq ?_
  refine WP.region ?_
  refine RW.new ttok hS11 rfl rfl rfl rfl (fun g12 w13 e14 hS15 => ?_)
  refine RW.nil ?_
  refine WP.seq ?_
  refine WP.region ?_
  refine RW.run ttok 1 rfl ?_
  refine RW.load1 ttok rfl rfl rfl rfl rfl ((hS15.bring 2 rfl).box) 0 rfl rfl rfl rfl ?_
  refine RW.run ttok 1 rfl ?_
  have hS16 := hS15.bring 0 rfl
  refine RW.store ttok (A := []) hS16 rfl rfl rfl rfl rfl 0 rfl rfl rfl rfl rfl (fun w17 hS18 => ?_)
  refine RW.nil ?_
  refine WP.seq ?_
  refine WP.region ?_
  refine RW.run ttok 1 rfl ?_
  refine RW.load1 ttok rfl rfl rfl rfl rfl ((hS18.bring 2 rfl).box) 1 rfl rfl rfl rfl ?_
  refine RW.run ttok 1 rfl ?_
  have hS19 := hS18.bring 0 rfl
  refine RW.store ttok (A := []) hS19 rfl rfl rfl rfl rfl 1 rfl rfl rfl rfl rfl (fun w20 hS21 => ?_)
  refine RW.nil ?_
  refine WP.seq ?_
  refine WP.region ?_
  refine RW.run ttok 1 rfl ?_
  refine RW.loadN ttok rfl rfl rfl rfl rfl (At.sub ((hS21.bring 2 rfl).box) 2 3) rfl rfl rfl ?_
  obtain ⟨r22, hx23, hm⟩ := bind_some hm
  refine RW.call rfl rfl rfl enters74 (laws_toAddress_ok (hE.trans hS21.ext) (ty56_shut x0.Held) hx23) (fun v24 w25 hR26 => ?_)
  obtain ⟨rfl, hR27⟩ := hR26
  have hS28 := hS21.join hR27
  refine RW.run ttok 1 rfl ?_
  have hS29 := hS28.bring 0 rfl
  refine RW.store ttok (A := []) hS29 rfl rfl rfl rfl rfl 2 rfl rfl rfl rfl rfl (fun w30 hS31 => ?_)
  refine RW.nil ?_
  refine WP.seq ?_
  refine WP.region ?_
  refine RW.loadN ttok rfl rfl rfl rfl rfl ((hS31.bring 0 rfl).box) rfl rfl rfl ?_
  have hS32 := hS31.bring 1 rfl
  refine RW.store ttok (A := []) hS32 rfl rfl rfl rfl rfl 0 rfl rfl rfl rfl rfl (fun w33 hS34 => ?_)
  refine RW.nil ?_
  refine WP.ret ?_
  cases hm
  exact ⟨_, .cons (ResIs.agg ttok rfl rfl rfl ((hS34.bring 0 rfl).box) rfl) .nil, rfl, (hS34.taken 0)⟩

theorem enters194 : Enters Try.prog 194 := ⟨_, _, Try.func194, rfl, by kernel_rfl⟩
def m_laws_toShardVarS_j1 (fuel : Nat) (t11 : (List D.ShardVar)) : Option (List D.ShardVar) := some t11
def m_laws_toShardVarS_b1 (fuel : Nat) (x0 : (List D.ShardVar)) (s10 : Int × (List D.ShardVar)) : Option (Rd (Int × (List D.ShardVar)) ((List D.ShardVar)) ((List D.ShardVar))) := (if (decide (s10.1 < (x0.length : Int))) = true then ((idx x0 s10.1).bind fun x25 => ((m_laws_toShardVar fuel x25).bind fun r32 => (if decide (0 ≤ s10.1 ∧ s10.1.toNat < s10.2.length) = true then some (.next (w64 (s10.1 + 1), (s10.2.set s10.1.toNat r32))) else none))) else some (.brk s10.2))
def m_laws_toShardVarS (fuel : Nat) (x0 : (List D.ShardVar)) : Option ((List D.ShardVar)) := (if decide (0 ≤ (x0.length : Int) ∧ (x0.length : Int) ≤ 4294967296) = true then ((iter (m_laws_toShardVarS_b1 fuel x0) fuel (0, (List.replicate (x0.length : Int).toNat (⟨false, false, (⟨(0 : Int), (0 : Int), (0 : Int)⟩ : D.Address)⟩ : D.ShardVar)))).bind fun o => aft o (m_laws_toShardVarS_j1 fuel)) else none)

set_option maxRecDepth 100000 in
theorem laws_toShardVarS_ok {W w : World} (hE : Ext W w) {A0_ : Option Addr} {k0_ : Nat} {x0 : (List D.ShardVar)} (h0_ : ty188.ro W [.slice A0_ x0.length k0_] x0) {fuel : Nat} {r : (List D.ShardVar)} (hm : m_laws_toShardVarS fuel x0 = some r) :
    Calls Try.prog 194 ⟨[.slice A0_ x0.length k0_]⟩ w (Ret fun v w8 => ∃ A0 k0, v = .slice A0 r.length k0 ∧ St w w8 [Own ty197 [.slice A0 r.length k0] r]) := by
  refine Calls.into Try.func194 rfl 23 rfl rfl _ rfl ?_
  unfold m_laws_toShardVarS at hm
  have hS := St.start w
  refine WP.seq ?_
  refine WP.region ?_
  refine RW.run ttok 1 rfl ?_
  refine RW.nil ?_
  refine WP.seq ?_
  refine WP.region ?_
  refine RW.run ttok 2 rfl ?_
  by_cases hk1 : decide (0 ≤ (x0.length : Int) ∧ (x0.length : Int) ≤ 4294967296) = true
  case neg => rw [if_neg hk1] at hm; cases hm
  rw [if_pos hk1] at hm
  have hz7 := of_decide_eq_true hk1
  refine RW.make (U := ty250) ttok (⟨false, false, (⟨(0 : Int), (0 : Int), (0 : Int)⟩ : D.Address)⟩ : D.ShardVar) hS rfl rfl rfl rfl rfl rfl rfl rfl hz7.1 (by have := hz7.2; show _ * (32 : Int) ≤ _; omega) (by have := hz7.2; simp only [maxLen]; omega) (fun _ => (ty250_ownI (c := (⟨false, false, (⟨(0 : Int), (0 : Int), (0 : Int)⟩ : D.Address)⟩ : D.ShardVar)) rfl)) rfl rfl (fun A2 k3 w4 e5 hS6 => ?_)
  refine RW.run ttok 1 rfl ?_
  refine RW.nil ?_
  refine WP.seq ?_
  refine WP.seq ?_
  refine WP.region ?_
  refine RW.run ttok 1 rfl ?_
  refine RW.nil ?_
  obtain ⟨o14, hl15, hm⟩ := bind_some hm
  refine WP.cut (fun (t11 : (List D.ShardVar)) F w9 => o14 = .inl t11 ∧ St w w9 [Own ty197 [.slice A2 (List.replicate (x0.length : Int).toNat (⟨false, false, (⟨(0 : Int), (0 : Int), (0 : Int)⟩ : D.Address)⟩ : D.ShardVar)).length k3] t11] ∧ F = [(3, .slice A2 (List.replicate (x0.length : Int).toNat (⟨false, false, (⟨(0 : Int), (0 : Int), (0 : Int)⟩ : D.Address)⟩ : D.ShardVar)).length k3)]) ?_ ?_
  · skip
    rintro t11 F w13 ⟨ho17, hS16, rfl⟩
    subst ho17
    rw [aft_inl] at hm
    unfold m_laws_toShardVarS_j1 at hm
    refine WP.seq ?_
    refine WP.region ?_
    refine RW.run ttok 2 rfl ?_
    refine RW.nil ?_
    refine WP.ret ?_
    cases hm
    have hn18 := (hS16.bring 0 rfl).lenEq
    have hS19 := (hS16.bring 0 rfl).reLen hn18
    exact ⟨_, .cons (.tmp rfl) .nil, A2, k3, (by first | (simp only [hn18]; done) | (simp only [hn18]; rfl)), hS19⟩
  · skip
    refine WP.block ?_
    refine WP.weak [(0, .slice A0_ x0.length k0_), (3, .slice A2 (List.replicate (x0.length : Int).toNat (⟨false, false, (⟨(0 : Int), (0 : Int), (0 : Int)⟩ : D.Address)⟩ : D.ShardVar)).length k3), (4, .int .i64 0)] ⟨rfl, rfl, rfl, trivial⟩ ?_
    refine WP.iter (fun (s10 : Int × (List D.ShardVar)) F w9 => St w w9 [Own ty197 [.slice A2 (List.replicate (x0.length : Int).toNat (⟨false, false, (⟨(0 : Int), (0 : Int), (0 : Int)⟩ : D.Address)⟩ : D.ShardVar)).length k3] s10.2] ∧ F = [(0, .slice A0_ x0.length k0_), (3, .slice A2 (List.replicate (x0.length : Int).toNat (⟨false, false, (⟨(0 : Int), (0 : Int), (0 : Int)⟩ : D.Address)⟩ : D.ShardVar)).length k3), (4, .int .i64 s10.1)]) _ hl15 ⟨hS6, rfl⟩ ?_
    rintro s10 F w24 _ o22 ⟨hS23, rfl⟩ hb20 ho21
    unfold m_laws_toShardVarS_b1 at hb20
    refine WP.seq ?_
    refine WP.seq ?_
    refine WP.region ?_
    refine RW.run ttok 4 rfl ?_
    refine RW.nil ?_
    refine WP.cond (decide (s10.1 < (x0.length : Int))) rfl (fun hc => ?_) (fun hc => ?_)
    · skip
      rw [if_pos hc] at hb20
      refine WP.skip ?_
      refine WP.seq ?_
      refine WP.block ?_
      refine WP.region ?_
      refine RW.run ttok 4 rfl ?_
      obtain ⟨x25, hx26, hb20⟩ := bind_some hb20
      refine RW.idx ttok (hE.trans hS23.ext) rfl rfl rfl rfl rfl rfl (by decide) rfl rfl h0_ (idx_some hx26).1 (idx_some hx26).2 rfl rfl (fun p27 es28 ha29 hr30 => ?_)
      have e31 := ty311_open hr30; subst e31
      refine RW.loadN ttok rfl rfl rfl rfl rfl (At.ext (hE.trans hS23.ext) ha29) rfl rfl rfl ?_
      obtain ⟨r32, hx33, hb20⟩ := bind_some hb20
      refine RW.call rfl rfl rfl enters247 (laws_toShardVar_ok (hE.trans hS23.ext) hr30 hx33) (fun v34 w35 hR36 => ?_)
      obtain ⟨rfl, hR37⟩ := hR36
      have hS38 := hS23.join hR37
      have hS39 := hS38.bring 0 rfl
      by_cases hk40 : decide (0 ≤ s10.1 ∧ s10.1.toNat < s10.2.length) = true
      case neg => rw [if_neg hk40] at hb20; cases hb20
      rw [if_pos hk40] at hb20
      have hb41 := of_decide_eq_true hk40
      refine RW.idxOwnN ttok hS39 rfl rfl rfl rfl rfl rfl rfl rfl hb41.1 hb41.2 rfl rfl (fun q42 hq43 => ?_)
      have hS44 := ty250_shutS (c := r32) (B := _) hS39
      have hS45 := hS44.bring 1 rfl
      refine RW.storeElN ttok hS45 rfl rfl rfl rfl rfl rfl hb41.2 hq43 rfl rfl (fun w46 hS47 => ?_)
      refine RW.nil ?_
      refine WP.region ?_
      refine RW.run ttok 3 rfl ?_
      refine RW.nil ?_
      cases hb20
      exact ⟨_, [(0, .slice A0_ x0.length k0_), (3, .slice A2 (List.replicate (x0.length : Int).toNat (⟨false, false, (⟨(0 : Int), (0 : Int), (0 : Int)⟩ : D.Address)⟩ : D.ShardVar)).length k3), (4, .int .i64 (w64 (s10.1 + 1)))], ⟨rfl, rfl, rfl, trivial⟩, rfl, hS47, rfl⟩
    · skip
      rw [if_neg (not_t hc)] at hb20
      refine WP.exit ?_
      cases hb20
      exact ⟨_, [(3, .slice A2 (List.replicate (x0.length : Int).toNat (⟨false, false, (⟨(0 : Int), (0 : Int), (0 : Int)⟩ : D.Address)⟩ : D.ShardVar)).length k3)], ⟨rfl, trivial⟩, ho21, hS23, rfl⟩

theorem enters248 : Enters Try.prog 248 := ⟨_, _, Try.func248, rfl, by kernel_rfl⟩
def m_laws_toShardRedex (fuel : Nat) (x0 : D.ShardRedex) : Option (D.ShardRedex) := ((m_laws_toAddress fuel x0.A).bind fun r16 => ((m_laws_toAddress fuel x0.B).bind fun r26 => some (⟨(⟨r16.Machine, r16.Kind, r16.Index⟩ : D.Address), (⟨r26.Machine, r26.Kind, r26.Index⟩ : D.Address)⟩ : D.ShardRedex)))

set_option maxRecDepth 100000 in
theorem laws_toShardRedex_ok {W w : World} (hE : Ext W w) {c0_ : List Value} {x0 : D.ShardRedex} (h0_ : ty314.ro W c0_ x0) {fuel : Nat} {r : D.ShardRedex} (hm : m_laws_toShardRedex fuel x0 = some r) :
    Calls Try.prog 248 ⟨[.agg ⟨c0_⟩]⟩ w (Ret fun v w8 => v = .agg ⟨[.int .i64 r.A.Machine, .int .i64 r.A.Kind, .int .i64 r.A.Index, .int .i64 r.B.Machine, .int .i64 r.B.Kind, .int .i64 r.B.Index]⟩ ∧ St w w8 []) := by
  have e1 := ty314_open h0_; subst e1
  refine Calls.into Try.func248 rfl 13 rfl rfl _ rfl ?_
  unfold m_laws_toShardRedex at hm
  have hS := St.start w
  refine WP.seq ?_
  refine WP.region ?_
  refine RW.new ttok hS rfl rfl rfl rfl (fun g2 w3 e4 hS5 => ?_)
  refine RW.new ttok hS5 rfl rfl rfl rfl (fun g6 w7 e10 hS11 => ?_)
  refine RW.nil ?_
  refine WP.seq ?_
  refine WP.region ?_
  refine RW.new ttok hS11 rfl rfl rfl rfl (fun g12 w13 e14 hS15 => ?_)
  refine RW.nil ?_
  refine WP.seq ?_
  refine WP.region ?_
  refine RW.run ttok 1 rfl ?_
  refine RW.loadN ttok rfl rfl rfl rfl rfl (At.sub ((hS15.bring 2 rfl).box) 0 3) rfl rfl rfl ?_
  obtain ⟨r16, hx17, hm⟩ := bind_some hm
  refine RW.call rfl rfl rfl enters74 (laws_toAddress_ok (hE.trans hS15.ext) (ty56_shut x0.A) hx17) (fun v18 w19 hR20 => ?_)
  obtain ⟨rfl, hR21⟩ := hR20
  have hS22 := hS15.join hR21
  refine RW.run ttok 1 rfl ?_
  have hS23 := hS22.bring 0 rfl
  refine RW.store ttok (A := []) hS23 rfl rfl rfl rfl rfl 0 rfl rfl rfl rfl rfl (fun w24 hS25 => ?_)
  refine RW.nil ?_
  refine WP.seq ?_
  refine WP.region ?_
  refine RW.run ttok 1 rfl ?_
  refine RW.loadN ttok rfl rfl rfl rfl rfl (At.sub ((hS25.bring 2 rfl).box) 3 3) rfl rfl rfl ?_
  obtain ⟨r26, hx27, hm⟩ := bind_some hm
  refine RW.call rfl rfl rfl enters74 (laws_toAddress_ok (hE.trans hS25.ext) (ty56_shut x0.B) hx27) (fun v28 w29 hR30 => ?_)
  obtain ⟨rfl, hR31⟩ := hR30
  have hS32 := hS25.join hR31
  refine RW.run ttok 1 rfl ?_
  have hS33 := hS32.bring 0 rfl
  refine RW.store ttok (A := []) hS33 rfl rfl rfl rfl rfl 3 rfl rfl rfl rfl rfl (fun w34 hS35 => ?_)
  refine RW.nil ?_
  refine WP.seq ?_
  refine WP.region ?_
  refine RW.loadN ttok rfl rfl rfl rfl rfl ((hS35.bring 0 rfl).box) rfl rfl rfl ?_
  have hS36 := hS35.bring 1 rfl
  refine RW.store ttok (A := []) hS36 rfl rfl rfl rfl rfl 0 rfl rfl rfl rfl rfl (fun w37 hS38 => ?_)
  refine RW.nil ?_
  refine WP.ret ?_
  cases hm
  exact ⟨_, .cons (ResIs.agg ttok rfl rfl rfl ((hS38.bring 0 rfl).box) rfl) .nil, rfl, (hS38.taken 0)⟩

theorem enters195 : Enters Try.prog 195 := ⟨_, _, Try.func195, rfl, by kernel_rfl⟩
def m_laws_toShardRedexS_j1 (fuel : Nat) (t11 : (List D.ShardRedex)) : Option (List D.ShardRedex) := some t11
def m_laws_toShardRedexS_b1 (fuel : Nat) (x0 : (List D.ShardRedex)) (s10 : Int × (List D.ShardRedex)) : Option (Rd (Int × (List D.ShardRedex)) ((List D.ShardRedex)) ((List D.ShardRedex))) := (if (decide (s10.1 < (x0.length : Int))) = true then ((idx x0 s10.1).bind fun x25 => ((m_laws_toShardRedex fuel x25).bind fun r32 => (if decide (0 ≤ s10.1 ∧ s10.1.toNat < s10.2.length) = true then some (.next (w64 (s10.1 + 1), (s10.2.set s10.1.toNat r32))) else none))) else some (.brk s10.2))
def m_laws_toShardRedexS (fuel : Nat) (x0 : (List D.ShardRedex)) : Option ((List D.ShardRedex)) := (if decide (0 ≤ (x0.length : Int) ∧ (x0.length : Int) ≤ 4294967296) = true then ((iter (m_laws_toShardRedexS_b1 fuel x0) fuel (0, (List.replicate (x0.length : Int).toNat (⟨(⟨(0 : Int), (0 : Int), (0 : Int)⟩ : D.Address), (⟨(0 : Int), (0 : Int), (0 : Int)⟩ : D.Address)⟩ : D.ShardRedex)))).bind fun o => aft o (m_laws_toShardRedexS_j1 fuel)) else none)

set_option maxRecDepth 100000 in
theorem laws_toShardRedexS_ok {W w : World} (hE : Ext W w) {A0_ : Option Addr} {k0_ : Nat} {x0 : (List D.ShardRedex)} (h0_ : ty189.ro W [.slice A0_ x0.length k0_] x0) {fuel : Nat} {r : (List D.ShardRedex)} (hm : m_laws_toShardRedexS fuel x0 = some r) :
    Calls Try.prog 195 ⟨[.slice A0_ x0.length k0_]⟩ w (Ret fun v w8 => ∃ A0 k0, v = .slice A0 r.length k0 ∧ St w w8 [Own ty198 [.slice A0 r.length k0] r]) := by
  refine Calls.into Try.func195 rfl 23 rfl rfl _ rfl ?_
  unfold m_laws_toShardRedexS at hm
  have hS := St.start w
  refine WP.seq ?_
  refine WP.region ?_
  refine RW.run ttok 1 rfl ?_
  refine RW.nil ?_
  refine WP.seq ?_
  refine WP.region ?_
  refine RW.run ttok 2 rfl ?_
  by_cases hk1 : decide (0 ≤ (x0.length : Int) ∧ (x0.length : Int) ≤ 4294967296) = true
  case neg => rw [if_neg hk1] at hm; cases hm
  rw [if_pos hk1] at hm
  have hz7 := of_decide_eq_true hk1
  refine RW.make (U := ty261) ttok (⟨(⟨(0 : Int), (0 : Int), (0 : Int)⟩ : D.Address), (⟨(0 : Int), (0 : Int), (0 : Int)⟩ : D.Address)⟩ : D.ShardRedex) hS rfl rfl rfl rfl rfl rfl rfl rfl hz7.1 (by have := hz7.2; show _ * (48 : Int) ≤ _; omega) (by have := hz7.2; simp only [maxLen]; omega) (fun _ => (ty261_ownI (c := (⟨(⟨(0 : Int), (0 : Int), (0 : Int)⟩ : D.Address), (⟨(0 : Int), (0 : Int), (0 : Int)⟩ : D.Address)⟩ : D.ShardRedex)) rfl)) rfl rfl (fun A2 k3 w4 e5 hS6 => ?_)
  refine RW.run ttok 1 rfl ?_
  refine RW.nil ?_
  refine WP.seq ?_
  refine WP.seq ?_
  refine WP.region ?_
  refine RW.run ttok 1 rfl ?_
  refine RW.nil ?_
  obtain ⟨o14, hl15, hm⟩ := bind_some hm
  refine WP.cut (fun (t11 : (List D.ShardRedex)) F w9 => o14 = .inl t11 ∧ St w w9 [Own ty198 [.slice A2 (List.replicate (x0.length : Int).toNat (⟨(⟨(0 : Int), (0 : Int), (0 : Int)⟩ : D.Address), (⟨(0 : Int), (0 : Int), (0 : Int)⟩ : D.Address)⟩ : D.ShardRedex)).length k3] t11] ∧ F = [(3, .slice A2 (List.replicate (x0.length : Int).toNat (⟨(⟨(0 : Int), (0 : Int), (0 : Int)⟩ : D.Address), (⟨(0 : Int), (0 : Int), (0 : Int)⟩ : D.Address)⟩ : D.ShardRedex)).length k3)]) ?_ ?_
  · skip
    rintro t11 F w13 ⟨ho17, hS16, rfl⟩
    subst ho17
    rw [aft_inl] at hm
    unfold m_laws_toShardRedexS_j1 at hm
    refine WP.seq ?_
    refine WP.region ?_
    refine RW.run ttok 2 rfl ?_
    refine RW.nil ?_
    refine WP.ret ?_
    cases hm
    have hn18 := (hS16.bring 0 rfl).lenEq
    have hS19 := (hS16.bring 0 rfl).reLen hn18
    exact ⟨_, .cons (.tmp rfl) .nil, A2, k3, (by first | (simp only [hn18]; done) | (simp only [hn18]; rfl)), hS19⟩
  · skip
    refine WP.block ?_
    refine WP.weak [(0, .slice A0_ x0.length k0_), (3, .slice A2 (List.replicate (x0.length : Int).toNat (⟨(⟨(0 : Int), (0 : Int), (0 : Int)⟩ : D.Address), (⟨(0 : Int), (0 : Int), (0 : Int)⟩ : D.Address)⟩ : D.ShardRedex)).length k3), (4, .int .i64 0)] ⟨rfl, rfl, rfl, trivial⟩ ?_
    refine WP.iter (fun (s10 : Int × (List D.ShardRedex)) F w9 => St w w9 [Own ty198 [.slice A2 (List.replicate (x0.length : Int).toNat (⟨(⟨(0 : Int), (0 : Int), (0 : Int)⟩ : D.Address), (⟨(0 : Int), (0 : Int), (0 : Int)⟩ : D.Address)⟩ : D.ShardRedex)).length k3] s10.2] ∧ F = [(0, .slice A0_ x0.length k0_), (3, .slice A2 (List.replicate (x0.length : Int).toNat (⟨(⟨(0 : Int), (0 : Int), (0 : Int)⟩ : D.Address), (⟨(0 : Int), (0 : Int), (0 : Int)⟩ : D.Address)⟩ : D.ShardRedex)).length k3), (4, .int .i64 s10.1)]) _ hl15 ⟨hS6, rfl⟩ ?_
    rintro s10 F w24 _ o22 ⟨hS23, rfl⟩ hb20 ho21
    unfold m_laws_toShardRedexS_b1 at hb20
    refine WP.seq ?_
    refine WP.seq ?_
    refine WP.region ?_
    refine RW.run ttok 4 rfl ?_
    refine RW.nil ?_
    refine WP.cond (decide (s10.1 < (x0.length : Int))) rfl (fun hc => ?_) (fun hc => ?_)
    · skip
      rw [if_pos hc] at hb20
      refine WP.skip ?_
      refine WP.seq ?_
      refine WP.block ?_
      refine WP.region ?_
      refine RW.run ttok 4 rfl ?_
      obtain ⟨x25, hx26, hb20⟩ := bind_some hb20
      refine RW.idx ttok (hE.trans hS23.ext) rfl rfl rfl rfl rfl rfl (by decide) rfl rfl h0_ (idx_some hx26).1 (idx_some hx26).2 rfl rfl (fun p27 es28 ha29 hr30 => ?_)
      have e31 := ty314_open hr30; subst e31
      refine RW.loadN ttok rfl rfl rfl rfl rfl (At.ext (hE.trans hS23.ext) ha29) rfl rfl rfl ?_
      obtain ⟨r32, hx33, hb20⟩ := bind_some hb20
      refine RW.call rfl rfl rfl enters248 (laws_toShardRedex_ok (hE.trans hS23.ext) hr30 hx33) (fun v34 w35 hR36 => ?_)
      obtain ⟨rfl, hR37⟩ := hR36
      have hS38 := hS23.join hR37
      have hS39 := hS38.bring 0 rfl
      by_cases hk40 : decide (0 ≤ s10.1 ∧ s10.1.toNat < s10.2.length) = true
      case neg => rw [if_neg hk40] at hb20; cases hb20
      rw [if_pos hk40] at hb20
      have hb41 := of_decide_eq_true hk40
      refine RW.idxOwnN ttok hS39 rfl rfl rfl rfl rfl rfl rfl rfl hb41.1 hb41.2 rfl rfl (fun q42 hq43 => ?_)
      have hS44 := ty261_shutS (c := r32) (B := _) hS39
      have hS45 := hS44.bring 1 rfl
      refine RW.storeElN ttok hS45 rfl rfl rfl rfl rfl rfl hb41.2 hq43 rfl rfl (fun w46 hS47 => ?_)
      refine RW.nil ?_
      refine WP.region ?_
      refine RW.run ttok 3 rfl ?_
      refine RW.nil ?_
      cases hb20
      exact ⟨_, [(0, .slice A0_ x0.length k0_), (3, .slice A2 (List.replicate (x0.length : Int).toNat (⟨(⟨(0 : Int), (0 : Int), (0 : Int)⟩ : D.Address), (⟨(0 : Int), (0 : Int), (0 : Int)⟩ : D.Address)⟩ : D.ShardRedex)).length k3), (4, .int .i64 (w64 (s10.1 + 1)))], ⟨rfl, rfl, rfl, trivial⟩, rfl, hS47, rfl⟩
    · skip
      rw [if_neg (not_t hc)] at hb20
      refine WP.exit ?_
      cases hb20
      exact ⟨_, [(3, .slice A2 (List.replicate (x0.length : Int).toNat (⟨(⟨(0 : Int), (0 : Int), (0 : Int)⟩ : D.Address), (⟨(0 : Int), (0 : Int), (0 : Int)⟩ : D.Address)⟩ : D.ShardRedex)).length k3)], ⟨rfl, trivial⟩, ho21, hS23, rfl⟩

theorem enters135 : Enters Try.prog 135 := ⟨_, _, Try.func135, rfl, by kernel_rfl⟩
def m_laws_toShard (fuel : Nat) (x0 : D.Shard) : Option (D.Shard) := ((m_laws_toShardCellS fuel x0.Cells).bind fun r25 => ((m_laws_toShardVarS fuel x0.Vars).bind fun r37 => ((m_laws_toShardRedexS fuel x0.Redexes).bind fun r49 => some (⟨r25, r37, r49⟩ : D.Shard))))

set_option maxRecDepth 100000 in
theorem laws_toShard_ok {W w : World} (hE : Ext W w) {c0_ : List Value} {x0 : D.Shard} (h0_ : ty191.ro W c0_ x0) {fuel : Nat} {r : D.Shard} (hm : m_laws_toShard fuel x0 = some r) :
    Calls Try.prog 135 ⟨[.agg ⟨c0_⟩]⟩ w (Ret fun v w8 => ∃ A0 k0 A1 k1 A2 k2, v = .agg ⟨[.slice A0 r.Cells.length k0, .slice A1 r.Vars.length k1, .slice A2 r.Redexes.length k2]⟩ ∧ St w w8 [Own ty196 [.slice A0 r.Cells.length k0] r.Cells, Own ty197 [.slice A1 r.Vars.length k1] r.Vars, Own ty198 [.slice A2 r.Redexes.length k2] r.Redexes]) := by
  obtain ⟨A1, k2, A4, k5, A7, k10, e12, h3, h6, h11⟩ := ty191_open h0_; subst e12
  refine Calls.into Try.func135 rfl 17 rfl rfl _ rfl ?_
  unfold m_laws_toShard at hm
  have hS := St.start w
  refine WP.seq ?_
  refine WP.region ?_
  refine RW.new ttok hS rfl rfl rfl rfl (fun g13 w14 e15 hS16 => ?_)
  refine RW.new ttok hS16 rfl rfl rfl rfl (fun g17 w18 e19 hS20 => ?_)
  refine RW.nil ?_
  refine WP.seq ?_
  refine WP.region ?_
  refine RW.new ttok hS20 rfl rfl rfl rfl (fun g21 w22 e23 hS24 => ?_)
  refine RW.nil ?_
  refine WP.seq ?_
  refine WP.region ?_
  refine RW.run ttok 1 rfl ?_
  refine RW.load1 ttok rfl rfl rfl rfl rfl ((hS24.bring 2 rfl).box) 0 rfl rfl rfl rfl ?_
  obtain ⟨r25, hx26, hm⟩ := bind_some hm
  refine RW.call rfl rfl rfl enters193 (laws_toShardCellS_ok (hE.trans hS24.ext) h3 hx26) (fun v27 w28 hR29 => ?_)
  obtain ⟨A30, k31, rfl, hR32⟩ := hR29
  have hS33 := hS24.join hR32
  refine RW.run ttok 1 rfl ?_
  have hS34 := hS33.bring 1 rfl
  refine RW.store ttok (A := []) hS34 rfl rfl rfl rfl rfl 0 rfl rfl rfl rfl rfl (fun w35 hS36 => ?_)
  refine RW.nil ?_
  refine WP.seq ?_
  refine WP.region ?_
  refine RW.run ttok 1 rfl ?_
  refine RW.load1 ttok rfl rfl rfl rfl rfl ((hS36.bring 3 rfl).box) 1 rfl rfl rfl rfl ?_
  obtain ⟨r37, hx38, hm⟩ := bind_some hm
  refine RW.call rfl rfl rfl enters194 (laws_toShardVarS_ok (hE.trans hS36.ext) h6 hx38) (fun v39 w40 hR41 => ?_)
  obtain ⟨A42, k43, rfl, hR44⟩ := hR41
  have hS45 := hS36.join hR44
  refine RW.run ttok 1 rfl ?_
  have hS46 := hS45.bring 1 rfl
  refine RW.store ttok (A := []) hS46 rfl rfl rfl rfl rfl 1 rfl rfl rfl rfl rfl (fun w47 hS48 => ?_)
  refine RW.nil ?_
  refine WP.seq ?_
  refine WP.region ?_
  refine RW.run ttok 1 rfl ?_
  refine RW.load1 ttok rfl rfl rfl rfl rfl ((hS48.bring 4 rfl).box) 2 rfl rfl rfl rfl ?_
  obtain ⟨r49, hx50, hm⟩ := bind_some hm
  refine RW.call rfl rfl rfl enters195 (laws_toShardRedexS_ok (hE.trans hS48.ext) h11 hx50) (fun v51 w52 hR53 => ?_)
  obtain ⟨A54, k55, rfl, hR56⟩ := hR53
  have hS57 := hS48.join hR56
  refine RW.run ttok 1 rfl ?_
  have hS58 := hS57.bring 1 rfl
  refine RW.store ttok (A := []) hS58 rfl rfl rfl rfl rfl 2 rfl rfl rfl rfl rfl (fun w59 hS60 => ?_)
  refine RW.nil ?_
  refine WP.seq ?_
  refine WP.region ?_
  refine RW.loadN ttok rfl rfl rfl rfl rfl ((hS60.bring 0 rfl).box) rfl rfl rfl ?_
  have hS61 := hS60.bring 4 rfl
  refine RW.store ttok (A := []) hS61 rfl rfl rfl rfl rfl 0 rfl rfl rfl rfl rfl (fun w62 hS63 => ?_)
  refine RW.nil ?_
  refine WP.ret ?_
  cases hm
  exact ⟨_, .cons (ResIs.agg ttok rfl rfl rfl ((hS63.bring 0 rfl).box) rfl) .nil, A30, k31, A42, k43, A54, k55, rfl, ((((hS63.bring 2 rfl).bring 3 rfl).bring 4 rfl).taken 3)⟩

theorem enters73 : Enters Try.prog 73 := ⟨_, _, Try.func73, rfl, by kernel_rfl⟩
def m_laws_toShardS_j1 (fuel : Nat) (t11 : (List D.Shard)) : Option (List D.Shard) := some t11
def m_laws_toShardS_b1 (fuel : Nat) (x0 : (List D.Shard)) (s10 : Int × (List D.Shard)) : Option (Rd (Int × (List D.Shard)) ((List D.Shard)) ((List D.Shard))) := (if (decide (s10.1 < (x0.length : Int))) = true then ((idx x0 s10.1).bind fun x25 => ((m_laws_toShard fuel x25).bind fun r41 => (if decide (0 ≤ s10.1 ∧ s10.1.toNat < s10.2.length) = true then some (.next (w64 (s10.1 + 1), (s10.2.set s10.1.toNat r41))) else none))) else some (.brk s10.2))
def m_laws_toShardS (fuel : Nat) (x0 : (List D.Shard)) : Option ((List D.Shard)) := (if decide (0 ≤ (x0.length : Int) ∧ (x0.length : Int) ≤ 4294967296) = true then ((iter (m_laws_toShardS_b1 fuel x0) fuel (0, (List.replicate (x0.length : Int).toNat (⟨([] : (List D.ShardCell)), ([] : (List D.ShardVar)), ([] : (List D.ShardRedex))⟩ : D.Shard)))).bind fun o => aft o (m_laws_toShardS_j1 fuel)) else none)

set_option maxRecDepth 100000 in
theorem laws_toShardS_ok {W w : World} (hE : Ext W w) {A0_ : Option Addr} {k0_ : Nat} {x0 : (List D.Shard)} (h0_ : ty54.ro W [.slice A0_ x0.length k0_] x0) {fuel : Nat} {r : (List D.Shard)} (hm : m_laws_toShardS fuel x0 = some r) :
    Calls Try.prog 73 ⟨[.slice A0_ x0.length k0_]⟩ w (Ret fun v w8 => ∃ A0 k0, v = .slice A0 r.length k0 ∧ St w w8 [Own ty61 [.slice A0 r.length k0] r]) := by
  refine Calls.into Try.func73 rfl 23 rfl rfl _ rfl ?_
  unfold m_laws_toShardS at hm
  have hS := St.start w
  refine WP.seq ?_
  refine WP.region ?_
  refine RW.run ttok 1 rfl ?_
  refine RW.nil ?_
  refine WP.seq ?_
  refine WP.region ?_
  refine RW.run ttok 2 rfl ?_
  by_cases hk1 : decide (0 ≤ (x0.length : Int) ∧ (x0.length : Int) ≤ 4294967296) = true
  case neg => rw [if_neg hk1] at hm; cases hm
  rw [if_pos hk1] at hm
  have hz7 := of_decide_eq_true hk1
  refine RW.make (U := ty200) ttok (⟨([] : (List D.ShardCell)), ([] : (List D.ShardVar)), ([] : (List D.ShardRedex))⟩ : D.Shard) hS rfl rfl rfl rfl rfl rfl rfl rfl hz7.1 (by have := hz7.2; show _ * (72 : Int) ≤ _; omega) (by have := hz7.2; simp only [maxLen]; omega) (fun _ => (ty200_ownI (c := (⟨([] : (List D.ShardCell)), ([] : (List D.ShardVar)), ([] : (List D.ShardRedex))⟩ : D.Shard)) ⟨[], [], rfl, (slNilOwn ty248 248 _), ⟨[], [], rfl, (slNilOwn ty250 250 _), ⟨[], [], rfl, (slNilOwn ty261 261 _), rfl⟩⟩⟩)) rfl rfl (fun A2 k3 w4 e5 hS6 => ?_)
  refine RW.run ttok 1 rfl ?_
  refine RW.nil ?_
  refine WP.seq ?_
  refine WP.seq ?_
  refine WP.region ?_
  refine RW.run ttok 1 rfl ?_
  refine RW.nil ?_
  obtain ⟨o14, hl15, hm⟩ := bind_some hm
  refine WP.cut (fun (t11 : (List D.Shard)) F w9 => o14 = .inl t11 ∧ St w w9 [Own ty61 [.slice A2 (List.replicate (x0.length : Int).toNat (⟨([] : (List D.ShardCell)), ([] : (List D.ShardVar)), ([] : (List D.ShardRedex))⟩ : D.Shard)).length k3] t11] ∧ F = [(3, .slice A2 (List.replicate (x0.length : Int).toNat (⟨([] : (List D.ShardCell)), ([] : (List D.ShardVar)), ([] : (List D.ShardRedex))⟩ : D.Shard)).length k3)]) ?_ ?_
  · skip
    rintro t11 F w13 ⟨ho17, hS16, rfl⟩
    subst ho17
    rw [aft_inl] at hm
    unfold m_laws_toShardS_j1 at hm
    refine WP.seq ?_
    refine WP.region ?_
    refine RW.run ttok 2 rfl ?_
    refine RW.nil ?_
    refine WP.ret ?_
    cases hm
    have hn18 := (hS16.bring 0 rfl).lenEq
    have hS19 := (hS16.bring 0 rfl).reLen hn18
    exact ⟨_, .cons (.tmp rfl) .nil, A2, k3, (by first | (simp only [hn18]; done) | (simp only [hn18]; rfl)), hS19⟩
  · skip
    refine WP.block ?_
    refine WP.weak [(0, .slice A0_ x0.length k0_), (3, .slice A2 (List.replicate (x0.length : Int).toNat (⟨([] : (List D.ShardCell)), ([] : (List D.ShardVar)), ([] : (List D.ShardRedex))⟩ : D.Shard)).length k3), (4, .int .i64 0)] ⟨rfl, rfl, rfl, trivial⟩ ?_
    refine WP.iter (fun (s10 : Int × (List D.Shard)) F w9 => St w w9 [Own ty61 [.slice A2 (List.replicate (x0.length : Int).toNat (⟨([] : (List D.ShardCell)), ([] : (List D.ShardVar)), ([] : (List D.ShardRedex))⟩ : D.Shard)).length k3] s10.2] ∧ F = [(0, .slice A0_ x0.length k0_), (3, .slice A2 (List.replicate (x0.length : Int).toNat (⟨([] : (List D.ShardCell)), ([] : (List D.ShardVar)), ([] : (List D.ShardRedex))⟩ : D.Shard)).length k3), (4, .int .i64 s10.1)]) _ hl15 ⟨hS6, rfl⟩ ?_
    rintro s10 F w24 _ o22 ⟨hS23, rfl⟩ hb20 ho21
    unfold m_laws_toShardS_b1 at hb20
    refine WP.seq ?_
    refine WP.seq ?_
    refine WP.region ?_
    refine RW.run ttok 4 rfl ?_
    refine RW.nil ?_
    refine WP.cond (decide (s10.1 < (x0.length : Int))) rfl (fun hc => ?_) (fun hc => ?_)
    · skip
      rw [if_pos hc] at hb20
      refine WP.skip ?_
      refine WP.seq ?_
      refine WP.block ?_
      refine WP.region ?_
      refine RW.run ttok 4 rfl ?_
      obtain ⟨x25, hx26, hb20⟩ := bind_some hb20
      refine RW.idx ttok (hE.trans hS23.ext) rfl rfl rfl rfl rfl rfl (by decide) rfl rfl h0_ (idx_some hx26).1 (idx_some hx26).2 rfl rfl (fun p27 es28 ha29 hr30 => ?_)
      obtain ⟨A31, k32, A34, k35, A37, k38, e40, h33, h36, h39⟩ := ty191_open hr30; subst e40
      refine RW.loadN ttok rfl rfl rfl rfl rfl (At.ext (hE.trans hS23.ext) ha29) rfl rfl rfl ?_
      obtain ⟨r41, hx42, hb20⟩ := bind_some hb20
      refine RW.call rfl rfl rfl enters135 (laws_toShard_ok (hE.trans hS23.ext) hr30 hx42) (fun v43 w44 hR45 => ?_)
      obtain ⟨A46, k47, A48, k49, A50, k51, rfl, hR52⟩ := hR45
      have hS53 := hS23.join hR52
      have hS54 := hS53.bring 3 rfl
      by_cases hk55 : decide (0 ≤ s10.1 ∧ s10.1.toNat < s10.2.length) = true
      case neg => rw [if_neg hk55] at hb20; cases hb20
      rw [if_pos hk55] at hb20
      have hb56 := of_decide_eq_true hk55
      refine RW.idxOwnN ttok hS54 rfl rfl rfl rfl rfl rfl rfl rfl hb56.1 hb56.2 rfl rfl (fun q57 hq58 => ?_)
      have hS59 := hS54.bring 3 rfl
      have hS60 := hS59.bring 3 rfl
      have hS61 := hS60.bring 3 rfl
      have hS62 := ty200_shutS (c := r41) (B := _) hS61
      have hS63 := hS62.bring 1 rfl
      refine RW.storeElN ttok hS63 rfl rfl rfl rfl rfl rfl hb56.2 hq58 rfl rfl (fun w65 hS66 => ?_)
      refine RW.nil ?_
      refine WP.region ?_
      refine RW.run ttok 3 rfl ?_
      refine RW.nil ?_
      cases hb20
      exact ⟨_, [(0, .slice A0_ x0.length k0_), (3, .slice A2 (List.replicate (x0.length : Int).toNat (⟨([] : (List D.ShardCell)), ([] : (List D.ShardVar)), ([] : (List D.ShardRedex))⟩ : D.Shard)).length k3), (4, .int .i64 (w64 (s10.1 + 1)))], ⟨rfl, rfl, rfl, trivial⟩, rfl, hS66, rfl⟩
    · skip
      rw [if_neg (not_t hc)] at hb20
      refine WP.exit ?_
      cases hb20
      exact ⟨_, [(3, .slice A2 (List.replicate (x0.length : Int).toNat (⟨([] : (List D.ShardCell)), ([] : (List D.ShardVar)), ([] : (List D.ShardRedex))⟩ : D.Shard)).length k3)], ⟨rfl, trivial⟩, ho21, hS23, rfl⟩

theorem enters32 : Enters Try.prog 32 := ⟨_, _, Try.func32, rfl, by kernel_rfl⟩
def m_laws_toGrid (fuel : Nat) (x0 : D.Grid) : Option (D.Grid) := ((m_laws_toShardS fuel x0.Shards).bind fun r19 => ((m_laws_toAddress fuel x0.Root).bind fun r31 => some (⟨r19, (⟨r31.Machine, r31.Kind, r31.Index⟩ : D.Address)⟩ : D.Grid)))

set_option maxRecDepth 100000 in
theorem laws_toGrid_ok {W w : World} (hE : Ext W w) {c0_ : List Value} {x0 : D.Grid} (h0_ : ty58.ro W c0_ x0) {fuel : Nat} {r : D.Grid} (hm : m_laws_toGrid fuel x0 = some r) :
    Calls Try.prog 32 ⟨[.agg ⟨c0_⟩]⟩ w (Ret fun v w8 => ∃ A0 k0, v = .agg ⟨[.slice A0 r.Shards.length k0, .int .i64 r.Root.Machine, .int .i64 r.Root.Kind, .int .i64 r.Root.Index]⟩ ∧ St w w8 [Own ty61 [.slice A0 r.Shards.length k0] r.Shards]) := by
  obtain ⟨A1, k2, e4, h3⟩ := ty58_open h0_; subst e4
  refine Calls.into Try.func32 rfl 13 rfl rfl _ rfl ?_
  unfold m_laws_toGrid at hm
  have hS := St.start w
  refine WP.seq ?_
  refine WP.region ?_
  refine RW.new ttok hS rfl rfl rfl rfl (fun g5 w6 e7 hS10 => ?_)
  refine RW.new ttok hS10 rfl rfl rfl rfl (fun g11 w12 e13 hS14 => ?_)
  refine RW.nil ?_
  refine WP.seq ?_
  refine WP.region ?_
  refine RW.new ttok hS14 rfl rfl rfl rfl (fun g15 w16 e17 hS18 => ?_)
  refine RW.nil ?_
  refine WP.seq ?_
  refine WP.region ?_
  refine RW.run ttok 1 rfl ?_
  refine RW.load1 ttok rfl rfl rfl rfl rfl ((hS18.bring 2 rfl).box) 0 rfl rfl rfl rfl ?_
  obtain ⟨r19, hx20, hm⟩ := bind_some hm
  refine RW.call rfl rfl rfl enters73 (laws_toShardS_ok (hE.trans hS18.ext) h3 hx20) (fun v21 w22 hR23 => ?_)
  obtain ⟨A24, k25, rfl, hR26⟩ := hR23
  have hS27 := hS18.join hR26
  refine RW.run ttok 1 rfl ?_
  have hS28 := hS27.bring 1 rfl
  refine RW.store ttok (A := []) hS28 rfl rfl rfl rfl rfl 0 rfl rfl rfl rfl rfl (fun w29 hS30 => ?_)
  refine RW.nil ?_
  refine WP.seq ?_
  refine WP.region ?_
  refine RW.run ttok 1 rfl ?_
  refine RW.loadN ttok rfl rfl rfl rfl rfl (At.sub ((hS30.bring 3 rfl).box) 1 3) rfl rfl rfl ?_
  obtain ⟨r31, hx32, hm⟩ := bind_some hm
  refine RW.call rfl rfl rfl enters74 (laws_toAddress_ok (hE.trans hS30.ext) (ty56_shut x0.Root) hx32) (fun v33 w34 hR35 => ?_)
  obtain ⟨rfl, hR36⟩ := hR35
  have hS37 := hS30.join hR36
  refine RW.run ttok 1 rfl ?_
  have hS38 := hS37.bring 0 rfl
  refine RW.store ttok (A := []) hS38 rfl rfl rfl rfl rfl 1 rfl rfl rfl rfl rfl (fun w39 hS40 => ?_)
  refine RW.nil ?_
  refine WP.seq ?_
  refine WP.region ?_
  refine RW.loadN ttok rfl rfl rfl rfl rfl ((hS40.bring 0 rfl).box) rfl rfl rfl ?_
  have hS41 := hS40.bring 2 rfl
  refine RW.store ttok (A := []) hS41 rfl rfl rfl rfl rfl 0 rfl rfl rfl rfl rfl (fun w42 hS43 => ?_)
  refine RW.nil ?_
  refine WP.ret ?_
  cases hm
  exact ⟨_, .cons (ResIs.agg ttok rfl rfl rfl ((hS43.bring 0 rfl).box) rfl) .nil, A24, k25, rfl, ((hS43.bring 2 rfl).taken 1)⟩

theorem enters161 : Enters Try.prog 161 := ⟨_, _, Try.func161, rfl, by kernel_rfl⟩
def m_spec_l00Own (fuel : Nat) (x0 : (List Int)) : Option ((List Int)) := (if decide ((([] : (List Int)).length : Int) + (x0.length : Int) ≤ 4294967296) = true then some (([] : (List Int)) ++ x0) else none)

set_option maxRecDepth 100000 in
theorem spec_l00Own_ok {W w : World} (hE : Ext W w) {A0_ : Option Addr} {k0_ : Nat} {x0 : (List Int)} (h0_ : ty103.ro W [.slice A0_ x0.length k0_] x0) {fuel : Nat} {r : (List Int)} (hm : m_spec_l00Own fuel x0 = some r) :
    Calls Try.prog 161 ⟨[.slice A0_ x0.length k0_]⟩ w (Ret fun v w8 => ∃ A0 k0, v = .slice A0 r.length k0 ∧ St w w8 [Own ty103 [.slice A0 r.length k0] r]) := by
  refine Calls.into Try.func161 rfl 6 rfl rfl _ rfl ?_
  unfold m_spec_l00Own at hm
  have hS := St.start w
  refine WP.seq ?_
  refine WP.region ?_
  refine RW.run ttok 1 rfl ?_
  refine RW.nil ?_
  refine WP.seq ?_
  refine WP.region ?_
  refine RW.newSlice0 (U := tInt) ttok hS rfl rfl rfl rfl rfl rfl rfl (fun A1 k2 w3 e4 hS5 => ?_)
  refine RW.run ttok 1 rfl ?_
  have hS6 := hS5.bring 0 rfl
  by_cases hk7 : decide ((([] : (List Int)).length : Int) + (x0.length : Int) ≤ 4294967296) = true
  case neg => rw [if_neg hk7] at hm; cases hm
  rw [if_pos hk7] at hm
  refine RW.appendRo ttok Flat.int hS6 rfl rfl rfl rfl rfl rfl (by decide) rfl rfl (ty103.ext (hE.trans hS6.ext) h0_) (of_decide_eq_true hk7) (by decide) rfl rfl (fun A10 k11 w12 hS13 => ?_)
  refine RW.run ttok 1 rfl ?_
  refine RW.nil ?_
  refine WP.ret ?_
  cases hm
  exact ⟨_, .cons (.tmp rfl) .nil, A10, k11, rfl, hS13⟩

theorem enters245 : Enters Try.prog 245 := ⟨_, _, Try.func245, rfl, by kernel_rfl⟩
def m_spec_l27Agent (fuel : Nat) (x0 : D.ShardCell) : Option (D.Agent) := ((m_spec_l00Own fuel x0.Data).bind fun r16 => (if decide (0 ≤ (w64 ((x0.Aux.length : Int) + 1)) ∧ (w64 ((x0.Aux.length : Int) + 1)) ≤ 4294967296) = true then some (⟨x0.Kind, x0.Level, x0.Value, r16, (List.replicate (w64 ((x0.Aux.length : Int) + 1)).toNat (⟨(0 : Int), (0 : Int)⟩ : D.Port))⟩ : D.Agent) else none))

set_option maxRecDepth 100000 in
theorem spec_l27Agent_ok {W w : World} (hE : Ext W w) {p0_ : Addr} {c0_ : List Value} {x0 : D.ShardCell} (h0_ : ty248.ro W c0_ x0) (g0_ : At W p0_ c0_) {fuel : Nat} {r : D.Agent} (hm : m_spec_l27Agent fuel x0 = some r) :
    Calls Try.prog 245 ⟨[.pointer (some p0_)]⟩ w (Ret fun v w8 => ∃ A0 k0 A1 k1, v = .agg ⟨[.int .i64 r.Kind, .int .i64 r.Level, .int .i64 r.Value, .slice A0 r.Data.length k0, .slice A1 r.Ports.length k1]⟩ ∧ St w w8 [Own ty103 [.slice A0 r.Data.length k0] r.Data, Own ty110 [.slice A1 r.Ports.length k1] r.Ports]) := by
  obtain ⟨A1, k2, A4, k5, e7, h3, h6⟩ := ty248_open h0_; subst e7
  refine Calls.into Try.func245 rfl 28 rfl rfl _ rfl ?_
  unfold m_spec_l27Agent at hm
  have hS := St.start w
  refine WP.seq ?_
  refine WP.region ?_
  refine RW.new ttok hS rfl rfl rfl rfl (fun g10 w11 e12 hS13 => ?_)
  refine RW.nil ?_
  refine WP.seq ?_
  refine WP.drawnM 33554432 mixed 26 (by kernel_rfl) (by kernel_rfl) [([], 67108863), ([0], 67108862), ([1], 67108861), ([2], 67108859), ([], 67108863), ([4], 67108847), ([5], 67108831), ([6], 67108799), ([], 67108863), ([8], 67108607), ([9], 67108351), ([10], 67107839), ([], 67108863), ([12], 67104767), ([13], 67100671), ([14], 67092479), ([15], 67076095), ([], 67108863), ([17], 66977791), ([18], 66846719), ([19], 66584575), ([20], 66060287), ([21], 65011711), ([22, 22], 62914559), ([3, 7, 11, 16, 23], 58652535), ([24, 16, 0, 1, 2, 3, 4, 5, 6, 7, 8, 9, 10, 11, 12, 13, 14, 15, 16, 17, 18, 19, 20, 21, 22, 23, 24], 50331647)] (by kernel_rfl) hS13.ext (fun hsk14 => ?_)
  have hS15 := hS13.step (Ext.draw _)
  refine DM.run (fuel := 11) ttok hsk14 [0, 1, 2, 4, 5, 6, 8, 9, 10, 12, 13, 14, 17, 18, 19] 948087 (by kernel_rfl) (by kernel_rfl) rfl ?_
  refine DM.weak [(2, .pointer (some ⟨g10, 0, none⟩)), (5, .pointer (some p0_)), (9, .pointer (some (p0_.add 1))), (13, .pointer (some (p0_.add 2))), (17, .pointer (some (p0_.add 3))), (22, .pointer (some (p0_.add 4)))] ⟨rfl, rfl, rfl, rfl, rfl, rfl, trivial⟩ ?_
  refine DM.load1 ttok hsk14 3 948095 (by kernel_rfl) (by kernel_rfl) (by kernel_rfl) (by kernel_rfl) rfl (by kernel_rfl) rfl rfl rfl rfl rfl (At.ext (hE.trans hS13.ext) g0_) 0 rfl rfl rfl rfl ?_
  refine DM.load1 ttok hsk14 7 948223 (by kernel_rfl) (by kernel_rfl) (by kernel_rfl) (by kernel_rfl) rfl (by kernel_rfl) rfl rfl rfl rfl rfl (At.ext (hE.trans hS13.ext) g0_) 1 rfl rfl rfl rfl ?_
  refine DM.load1 ttok hsk14 11 950271 (by kernel_rfl) (by kernel_rfl) (by kernel_rfl) (by kernel_rfl) rfl (by kernel_rfl) rfl rfl rfl rfl rfl (At.ext (hE.trans hS13.ext) g0_) 2 rfl rfl rfl rfl ?_
  refine DM.load1 ttok hsk14 15 983039 (by kernel_rfl) (by kernel_rfl) (by kernel_rfl) (by kernel_rfl) rfl (by kernel_rfl) rfl rfl rfl rfl rfl (At.ext (hE.trans hS13.ext) g0_) 3 rfl rfl rfl rfl ?_
  refine DM.load1 ttok hsk14 20 2031615 (by kernel_rfl) (by kernel_rfl) (by kernel_rfl) (by kernel_rfl) rfl (by kernel_rfl) rfl rfl rfl rfl rfl (At.ext (hE.trans hS13.ext) g0_) 4 rfl rfl rfl rfl ?_
  refine DM.run (fuel := 4) ttok hsk14 [21, 22] 8323071 (by kernel_rfl) (by kernel_rfl) rfl ?_
  refine DM.weak [(2, .pointer (some ⟨g10, 0, none⟩)), (6, .int .i64 x0.Kind), (10, .int .i64 x0.Level), (14, .int .i64 x0.Value), (18, .slice A1 x0.Data.length k2), (25, .int .i64 (w64 ((x0.Aux.length : Int) + 1)))] ⟨rfl, rfl, rfl, rfl, rfl, rfl, trivial⟩ ?_
  obtain ⟨r16, hx17, hm⟩ := bind_some hm
  by_cases hk25 : decide (0 ≤ (w64 ((x0.Aux.length : Int) + 1)) ∧ (w64 ((x0.Aux.length : Int) + 1)) ≤ 4294967296) = true
  case neg => rw [if_neg hk25] at hm; cases hm
  rw [if_pos hk25] at hm
  refine DM.all hsk14 [16, 23] (by kernel_rfl) (by simp) ?_
  intro i35 hi36
  simp only [List.mem_cons, List.not_mem_nil, or_false] at hi36
  rcases hi36 with rfl | rfl
  · skip
    refine LM.call hsk14 8388607 (by kernel_rfl) (by kernel_rfl) rfl rfl rfl rfl enters161 (spec_l00Own_ok (hE.trans hS15.ext) h3 hx17) (fun v37 w38 hR39 => ?_)
    obtain ⟨A40, k41, rfl, hR42⟩ := hR39
    refine ⟨hR42.ext, ?_⟩
    have hS43 := hS15.join hR42
    have hz49 := of_decide_eq_true hk25
    refine DM.one hsk14 23 (by kernel_rfl) (LM.make (U := ty38) ttok (⟨(0 : Int), (0 : Int)⟩ : D.Port) hS43 hsk14 16777215 (by kernel_rfl) (by kernel_rfl) rfl rfl rfl rfl rfl rfl rfl rfl rfl hz49.1 (by have := hz49.2; show _ * (16 : Int) ≤ _; omega) (by have := hz49.2; simp only [maxLen]; omega) (fun _ => (ty38_ownI (c := (⟨(0 : Int), (0 : Int)⟩ : D.Port)) rfl)) rfl rfl (fun A44 k45 w46 e47 hS48 => ?_))
    refine DM.quietP hsk14 24 33554431 (by kernel_rfl) (by kernel_rfl) rfl (by kernel_rfl) rfl (fun _ => Quiet.build ttok rfl rfl rfl rfl rfl) rfl rfl ?_
    have hS50 := hS48.bring 2 rfl
    refine DM.one hsk14 25 (by kernel_rfl) (LM.store ttok (A := []) hS50 hsk14 67108863 (by kernel_rfl) (by kernel_rfl) rfl rfl rfl rfl rfl rfl 0 rfl rfl rfl rfl rfl (fun w51 hS52 => ?_))
    refine DM.done hsk14 (by kernel_rfl) ?_
    refine WP.ret ?_
    cases hm
    exact ⟨_, .cons (ResIs.agg ttok rfl rfl rfl ((hS52.bring 0 rfl).box) rfl) .nil, A40, k41, A44, k45, rfl, (((hS52.bring 1 rfl).bring 2 rfl).taken 2)⟩
  · skip
    have hz58 := of_decide_eq_true hk25
    refine LM.make (U := ty38) ttok (⟨(0 : Int), (0 : Int)⟩ : D.Port) hS15 hsk14 16711679 (by kernel_rfl) (by kernel_rfl) rfl rfl rfl rfl rfl rfl rfl rfl rfl hz58.1 (by have := hz58.2; show _ * (16 : Int) ≤ _; omega) (by have := hz58.2; simp only [maxLen]; omega) (fun _ => (ty38_ownI (c := (⟨(0 : Int), (0 : Int)⟩ : D.Port)) rfl)) rfl rfl (fun A53 k54 w55 e56 hS57 => ?_)
    refine DM.one hsk14 16 (by kernel_rfl) (LM.call hsk14 16777215 (by kernel_rfl) (by kernel_rfl) rfl rfl rfl rfl enters161 (spec_l00Own_ok (hE.trans hS57.ext) h3 hx17) (fun v59 w60 hR61 => ?_))
    obtain ⟨A62, k63, rfl, hR65⟩ := hR61
    refine ⟨hR65.ext, ?_⟩
    have hS66 := hS57.join hR65
    refine DM.quietP hsk14 24 33554431 (by kernel_rfl) (by kernel_rfl) rfl (by kernel_rfl) rfl (fun _ => Quiet.build ttok rfl rfl rfl rfl rfl) rfl rfl ?_
    have hS67 := hS66.bring 2 rfl
    refine DM.one hsk14 25 (by kernel_rfl) (LM.store ttok (A := []) hS67 hsk14 67108863 (by kernel_rfl) (by kernel_rfl) rfl rfl rfl rfl rfl rfl 0 rfl rfl rfl rfl rfl (fun w68 hS69 => ?_))
    refine DM.done hsk14 (by kernel_rfl) ?_
    refine WP.ret ?_
    cases hm
    exact ⟨_, .cons (ResIs.agg ttok rfl rfl rfl ((hS69.bring 0 rfl).box) rfl) .nil, A62, k63, A53, k54, rfl, (hS69.bring 0 rfl).drop⟩

theorem enters186 : Enters Try.prog 186 := ⟨_, _, Try.func186, rfl, by kernel_rfl⟩
def m_spec_l27CellOk (fuel : Nat) (x0 : D.ShardCell) : Option (Bool) := (if (x0.Kind == 0) = true then (if (x0.Level == 0) = true then (if (x0.Value == 0) = true then (if ((x0.Data.length : Int) == 0) = true then some ((x0.Aux.length : Int) == 0) else some false) else some false) else some false) else (if (decide ((x0.Aux.length : Int) > 3)) = true then some false else ((m_spec_l27Agent fuel x0).bind fun r13 => (if (x0.Kind != 1) = true then ((m_spec_l11Agent fuel (⟨r13.Kind, r13.Level, r13.Value, r13.Data, r13.Ports⟩ : D.Agent)).bind fun r32 => some r32) else some false))))

set_option maxRecDepth 100000 in
theorem spec_l27CellOk_ok {W w : World} (hE : Ext W w) {p0_ : Addr} {c0_ : List Value} {x0 : D.ShardCell} (h0_ : ty248.ro W c0_ x0) (g0_ : At W p0_ c0_) {fuel : Nat} {r : Bool} (hm : m_spec_l27CellOk fuel x0 = some r) :
    Calls Try.prog 186 ⟨[.pointer (some p0_)]⟩ w (Ret fun v w8 => v = .bool r ∧ St w w8 []) := by
  obtain ⟨A1, k2, A4, k5, e7, h3, h6⟩ := ty248_open h0_; subst e7
  refine Calls.into Try.func186 rfl 53 rfl rfl _ rfl ?_
  unfold m_spec_l27CellOk at hm
  have hS := St.start w
  refine WP.seq ?_
  refine WP.region ?_
  refine RW.run ttok 1 rfl ?_
  refine RW.nil ?_
  refine WP.seq ?_
  refine WP.seq ?_
  refine WP.region ?_
  refine RW.run ttok 3 rfl ?_
  refine RW.load1 ttok rfl rfl rfl rfl rfl (At.ext (hE.trans hS.ext) g0_) 0 rfl rfl rfl rfl ?_
  refine RW.run ttok 1 rfl ?_
  refine RW.nil ?_
  refine WP.cond (x0.Kind == 0) rfl (fun hc => ?_) (fun hc => ?_)
  · skip
    rw [if_pos hc] at hm
    refine WP.seq ?_
    refine WP.region ?_
    refine RW.run ttok 3 rfl ?_
    refine RW.load1 ttok rfl rfl rfl rfl rfl (At.ext (hE.trans hS.ext) g0_) 1 rfl rfl rfl rfl ?_
    refine RW.run ttok 2 rfl ?_
    by_cases hg10 : (x0.Level == 0) = true
    · skip
      rw [if_pos hg10] at hm
      refine RW.know 14 rfl (congrArg Value.bool hg10) ?_
      refine RW.run ttok 3 rfl ?_
      refine RW.load1 ttok rfl rfl rfl rfl rfl (At.ext (hE.trans hS.ext) g0_) 2 rfl rfl rfl rfl ?_
      refine RW.run ttok 3 rfl ?_
      by_cases hg11 : (x0.Value == 0) = true
      · skip
        rw [if_pos hg11] at hm
        refine RW.know 21 rfl (congrArg Value.bool hg11) ?_
        refine RW.run ttok 3 rfl ?_
        refine RW.load1 ttok rfl rfl rfl rfl rfl (At.ext (hE.trans hS.ext) g0_) 3 rfl rfl rfl rfl ?_
        refine RW.run ttok 4 rfl ?_
        by_cases hg12 : ((x0.Data.length : Int) == 0) = true
        · skip
          rw [if_pos hg12] at hm
          refine RW.know 29 rfl (congrArg Value.bool hg12) ?_
          refine RW.run ttok 3 rfl ?_
          refine RW.load1 ttok rfl rfl rfl rfl rfl (At.ext (hE.trans hS.ext) g0_) 4 rfl rfl rfl rfl ?_
          refine RW.run ttok 4 rfl ?_
          refine RW.nil ?_
          refine WP.ret ?_
          cases hm
          exact ⟨_, .cons (.tmp rfl) .nil, rfl, hS⟩
        · skip
          rw [if_neg hg12] at hm
          refine RW.know 29 rfl (congrArg Value.bool (Bool.eq_false_iff.2 hg12)) ?_
          refine RW.run ttok 8 rfl ?_
          refine RW.nil ?_
          refine WP.ret ?_
          cases hm
          exact ⟨_, .cons (.tmp rfl) .nil, rfl, hS⟩
      · skip
        rw [if_neg hg11] at hm
        refine RW.know 21 rfl (congrArg Value.bool (Bool.eq_false_iff.2 hg11)) ?_
        refine RW.run ttok 16 rfl ?_
        refine RW.nil ?_
        refine WP.ret ?_
        cases hm
        exact ⟨_, .cons (.tmp rfl) .nil, rfl, hS⟩
    · skip
      rw [if_neg hg10] at hm
      refine RW.know 14 rfl (congrArg Value.bool (Bool.eq_false_iff.2 hg10)) ?_
      refine RW.run ttok 23 rfl ?_
      refine RW.nil ?_
      refine WP.ret ?_
      cases hm
      exact ⟨_, .cons (.tmp rfl) .nil, rfl, hS⟩
  · skip
    rw [if_neg (not_t hc)] at hm
    refine WP.skip ?_
    refine WP.seq ?_
    refine WP.seq ?_
    refine WP.region ?_
    refine RW.run ttok 3 rfl ?_
    refine RW.load1 ttok rfl rfl rfl rfl rfl (At.ext (hE.trans hS.ext) g0_) 4 rfl rfl rfl rfl ?_
    refine RW.run ttok 2 rfl ?_
    refine RW.nil ?_
    refine WP.cond (decide ((x0.Aux.length : Int) > 3)) rfl (fun hc => ?_) (fun hc => ?_)
    · skip
      rw [if_pos hc] at hm
      refine WP.seq ?_
      refine WP.region ?_
      refine RW.run ttok 1 rfl ?_
      refine RW.nil ?_
      refine WP.ret ?_
      cases hm
      exact ⟨_, .cons (.tmp rfl) .nil, rfl, hS⟩
    · skip
      rw [if_neg (not_t hc)] at hm
      refine WP.skip ?_
      refine WP.seq ?_
      refine WP.region ?_
      refine RW.run ttok 1 rfl ?_
      obtain ⟨r13, hx14, hm⟩ := bind_some hm
      refine RW.call rfl rfl rfl enters245 (spec_l27Agent_ok (hE.trans hS.ext) h0_ g0_ hx14) (fun v15 w16 hR17 => ?_)
      obtain ⟨A18, k19, A20, k21, rfl, hR22⟩ := hR17
      have hS23 := hS.join hR22
      refine RW.new ttok hS23 rfl rfl rfl rfl (fun g24 w25 e26 hS27 => ?_)
      have hS28 := hS27.bring 0 rfl
      refine RW.store ttok (A := []) hS28 rfl rfl rfl rfl rfl 0 rfl rfl rfl rfl rfl (fun w29 hS30 => ?_)
      refine RW.nil ?_
      refine WP.seq ?_
      refine WP.region ?_
      refine RW.run ttok 3 rfl ?_
      refine RW.load1 ttok rfl rfl rfl rfl rfl (At.ext (hE.trans hS30.ext) g0_) 0 rfl rfl rfl rfl ?_
      refine RW.run ttok 2 rfl ?_
      by_cases hg31 : (x0.Kind != 1) = true
      · skip
        rw [if_pos hg31] at hm
        refine RW.know 50 rfl (congrArg Value.bool hg31) ?_
        obtain ⟨r32, hx33, hm⟩ := bind_some hm
        refine RW.call rfl rfl rfl enters122 (spec_l11Agent_ok (Ext.refl _) (ty112_shut (⟨r13.Kind, r13.Level, r13.Value, r13.Data, r13.Ports⟩ : D.Agent) ((hS30.bring 1 rfl).own) ((hS30.bring 2 rfl).own)) ((hS30.bring 0 rfl).box) hx33) (fun v34 w35 hR36 => ?_)
        obtain ⟨rfl, hR37⟩ := hR36
        have hS38 := hS30.join hR37
        refine RW.run ttok 2 rfl ?_
        refine RW.nil ?_
        refine WP.ret ?_
        cases hm
        exact ⟨_, .cons (.tmp rfl) .nil, rfl, (hS38.taken 0)⟩
      · skip
        rw [if_neg hg31] at hm
        refine RW.know 50 rfl (congrArg Value.bool (Bool.eq_false_iff.2 hg31)) ?_
        refine RW.run ttok 3 rfl ?_
        refine RW.nil ?_
        refine WP.ret ?_
        cases hm
        exact ⟨_, .cons (.tmp rfl) .nil, rfl, (hS30.taken 0)⟩

theorem enters131 : Enters Try.prog 131 := ⟨_, _, Try.func131, rfl, by kernel_rfl⟩
def m_spec_l27Pieces_j1 (fuel : Nat) (t22 : Unit) : Option Bool := some true
def m_spec_l27Pieces_j4 (fuel : Nat) (s21 : Int) (t68 : Unit) : Option (Rd (Int) (Unit) (Bool)) := some (.next (w64 (s21 + 1)))
def m_spec_l27Pieces_j5 (fuel : Nat) (s67 : Int) (t94 : Bool) : Option (Rd (Int) (Unit) (Rd (Int) (Unit) (Bool))) := (if t94 = true then some (.ret (.ret false)) else some (.next (w64 (s67 + 1))))
def m_spec_l27Pieces_b3 (fuel : Nat) (x34 : D.Shard) (s67 : Int) : Option (Rd (Int) (Unit) (Rd (Int) (Unit) (Bool))) := (if (decide (s67 < (x34.Vars.length : Int))) = true then ((idx x34.Vars s67).bind fun x80 => (if x80.Full = true then (if (!x80.Used) = true then m_spec_l27Pieces_j5 fuel s67 true else (if (!x80.Full) = true then m_spec_l27Pieces_j5 fuel s67 (!(((x80.Held.Machine : Int) == 0) && (((x80.Held.Kind : Int) == 0) && (((x80.Held.Index : Int) == 0) && true)))) else m_spec_l27Pieces_j5 fuel s67 false)) else (if (!x80.Full) = true then m_spec_l27Pieces_j5 fuel s67 (!(((x80.Held.Machine : Int) == 0) && (((x80.Held.Kind : Int) == 0) && (((x80.Held.Index : Int) == 0) && true)))) else m_spec_l27Pieces_j5 fuel s67 false))) else some (.brk ()))
def m_spec_l27Pieces_j3 (fuel : Nat) (s21 : Int) (x34 : D.Shard) (t56 : Unit) : Option (Rd (Int) (Unit) (Bool)) := ((iter (m_spec_l27Pieces_b3 fuel x34) fuel 0).bind fun o => aft o (m_spec_l27Pieces_j4 fuel s21))
def m_spec_l27Pieces_b2 (fuel : Nat) (x34 : D.Shard) (s55 : Int) : Option (Rd (Int) (Unit) (Rd (Int) (Unit) (Bool))) := (if (decide (s55 < (x34.Cells.length : Int))) = true then ((idx x34.Cells s55).bind fun x108 => ((m_spec_l27CellOk fuel x108).bind fun r121 => (if (!r121) = true then some (.ret (.ret false)) else some (.next (w64 (s55 + 1)))))) else some (.brk ()))
def m_spec_l27Pieces_j2 (fuel : Nat) (s21 : Int) (x34 : D.Shard) (t50 : Bool) : Option (Rd (Int) (Unit) (Bool)) := (if t50 = true then some (.ret false) else ((iter (m_spec_l27Pieces_b2 fuel x34) fuel 0).bind fun o => aft o (m_spec_l27Pieces_j3 fuel s21 x34)))
def m_spec_l27Pieces_b1 (fuel : Nat) (x0 : D.Grid) (s21 : Int) : Option (Rd (Int) (Unit) (Bool)) := (if (decide (s21 < (x0.Shards.length : Int))) = true then ((idx x0.Shards s21).bind fun x34 => (if (decide ((x34.Cells.length : Int) > 400)) = true then m_spec_l27Pieces_j2 fuel s21 x34 true else (if (decide ((x34.Vars.length : Int) > 400)) = true then m_spec_l27Pieces_j2 fuel s21 x34 true else m_spec_l27Pieces_j2 fuel s21 x34 (decide ((x34.Redexes.length : Int) > 400))))) else some (.brk ()))
def m_spec_l27Pieces (fuel : Nat) (x0 : D.Grid) : Option (Bool) := ((m_spec_l00In fuel (x0.Shards.length : Int) 1 4).bind fun r5 => (if (!r5) = true then some false else ((iter (m_spec_l27Pieces_b1 fuel x0) fuel 0).bind fun o => aft o (m_spec_l27Pieces_j1 fuel))))

set_option maxRecDepth 100000 in
theorem spec_l27Pieces_ok {W w : World} (hE : Ext W w) {p0_ : Addr} {c0_ : List Value} {x0 : D.Grid} (h0_ : ty64.ro W c0_ x0) (g0_ : At W p0_ c0_) {fuel : Nat} {r : Bool} (hm : m_spec_l27Pieces fuel x0 = some r) :
    Calls Try.prog 131 ⟨[.pointer (some p0_)]⟩ w (Ret fun v w8 => v = .bool r ∧ St w w8 []) := by
  obtain ⟨A1, k2, e4, h3⟩ := ty64_open h0_; subst e4
  refine Calls.into Try.func131 rfl 105 rfl rfl _ rfl ?_
  unfold m_spec_l27Pieces at hm
  have hS := St.start w
  refine WP.seq ?_
  refine WP.region ?_
  refine RW.run ttok 1 rfl ?_
  refine RW.nil ?_
  refine WP.seq ?_
  refine WP.seq ?_
  refine WP.region ?_
  refine RW.run ttok 3 rfl ?_
  refine RW.load1 ttok rfl rfl rfl rfl rfl (At.ext (hE.trans hS.ext) g0_) 0 rfl rfl rfl rfl ?_
  refine RW.run ttok 1 rfl ?_
  obtain ⟨r5, hx6, hm⟩ := bind_some hm
  refine RW.call rfl rfl rfl enters102 (spec_l00In_ok (hE.trans hS.ext)  hx6) (fun v7 w10 hR11 => ?_)
  obtain ⟨rfl, hR12⟩ := hR11
  have hS13 := hS.join hR12
  refine RW.run ttok 1 rfl ?_
  refine RW.nil ?_
  refine WP.cond (!r5) rfl (fun hc => ?_) (fun hc => ?_)
  · skip
    rw [if_pos hc] at hm
    refine WP.seq ?_
    refine WP.region ?_
    refine RW.run ttok 1 rfl ?_
    refine RW.nil ?_
    refine WP.ret ?_
    cases hm
    exact ⟨_, .cons (.tmp rfl) .nil, rfl, hS13⟩
  · skip
    rw [if_neg (not_t hc)] at hm
    refine WP.skip ?_
    refine WP.seq ?_
    refine WP.region ?_
    refine RW.quiet rfl (Quiet.build ttok rfl rfl rfl rfl rfl) rfl rfl ?_
    refine RW.new ttok hS13 rfl rfl rfl rfl (fun g14 w15 e16 hS17 => ?_)
    have hS18 := hS17.bring 0 rfl
    refine RW.store ttok (A := []) hS18 rfl rfl rfl rfl rfl 0 rfl rfl rfl rfl rfl (fun w19 hS20 => ?_)
    refine RW.nil ?_
    refine WP.seq ?_
    refine WP.seq ?_
    refine WP.region ?_
    refine RW.run ttok 1 rfl ?_
    refine RW.nil ?_
    obtain ⟨o25, hl26, hm⟩ := bind_some hm
    refine WP.cut (fun (t22 : Unit) F w9 => o25 = .inl t22 ∧ St w w9 [Box g14 [.int .i64 0, .int .i64 0, .int .i64 0] 62] ∧ F = []) ?_ ?_
    · skip
      rintro t22 F w24 ⟨ho28, hS27, rfl⟩
      subst ho28
      rw [aft_inl] at hm
      unfold m_spec_l27Pieces_j1 at hm
      refine WP.seq ?_
      refine WP.region ?_
      refine RW.run ttok 1 rfl ?_
      refine RW.nil ?_
      refine WP.ret ?_
      cases hm
      exact ⟨_, .cons (.tmp rfl) .nil, rfl, (hS27.taken 0)⟩
    · skip
      refine WP.block ?_
      refine WP.weak [(0, .pointer (some p0_)), (3, .pointer (some ⟨g14, 0, none⟩)), (4, .int .i64 0)] ⟨rfl, rfl, rfl, trivial⟩ ?_
      refine WP.iter (fun (s21 : Int) F w9 => St w w9 [Box g14 [.int .i64 0, .int .i64 0, .int .i64 0] 62] ∧ F = [(0, .pointer (some p0_)), (3, .pointer (some ⟨g14, 0, none⟩)), (4, .int .i64 s21)]) _ hl26 ⟨hS20, rfl⟩ ?_
      rintro s21 F w33 _ o31 ⟨hS32, rfl⟩ hb29 ho30
      unfold m_spec_l27Pieces_b1 at hb29
      refine WP.seq ?_
      refine WP.seq ?_
      refine WP.region ?_
      refine RW.run ttok 4 rfl ?_
      refine RW.load1 ttok rfl rfl rfl rfl rfl (At.ext (hE.trans hS32.ext) g0_) 0 rfl rfl rfl rfl ?_
      refine RW.run ttok 2 rfl ?_
      refine RW.nil ?_
      refine WP.cond (decide (s21 < (x0.Shards.length : Int))) rfl (fun hc => ?_) (fun hc => ?_)
      · skip
        rw [if_pos hc] at hb29
        refine WP.skip ?_
        refine WP.seq ?_
        refine WP.block ?_
        refine WP.seq ?_
        refine WP.region ?_
        refine RW.run ttok 3 rfl ?_
        refine RW.load1 ttok rfl rfl rfl rfl rfl (At.ext (hE.trans hS32.ext) g0_) 0 rfl rfl rfl rfl ?_
        refine RW.run ttok 1 rfl ?_
        obtain ⟨x34, hx35, hb29⟩ := bind_some hb29
        refine RW.idx ttok (hE.trans hS32.ext) rfl rfl rfl rfl rfl rfl (by decide) rfl rfl h3 (idx_some hx35).1 (idx_some hx35).2 rfl rfl (fun p36 es37 ha38 hr39 => ?_)
        obtain ⟨A40, k41, A43, k44, A46, k47, e49, h42, h45, h48⟩ := ty200_open hr39; subst e49
        refine RW.run ttok 1 rfl ?_
        refine RW.nil ?_
        refine WP.seq ?_
        refine WP.seq ?_
        refine WP.cut (fun (t50 : Bool) F w9 => m_spec_l27Pieces_j2 fuel s21 x34 t50 = some o31 ∧ Ext w33 w9 ∧ St w w9 [Box g14 [.int .i64 0, .int .i64 0, .int .i64 0] 62] ∧ F = [(0, .pointer (some p0_)), (3, .pointer (some ⟨g14, 0, none⟩)), (4, .int .i64 s21), (5, .pointer (some p36)), (53, .bool t50)]) ?_ ?_
        · skip
          rintro t50 F w53 ⟨hb29, hE51, hS52, rfl⟩
          unfold m_spec_l27Pieces_j2 at hb29
          refine WP.cond t50 rfl (fun hc => ?_) (fun hc => ?_)
          · skip
            rw [if_pos hc] at hb29
            refine WP.seq ?_
            refine WP.region ?_
            refine RW.run ttok 1 rfl ?_
            refine RW.nil ?_
            refine WP.ret ?_
            cases hb29
            cases ho30
            have hm : some _ = some _ := hm
            cases hm
            exact ⟨_, .cons (.tmp rfl) .nil, rfl, (hS52.taken 0)⟩
          · skip
            rw [if_neg (not_t hc)] at hb29
            refine WP.skip ?_
            refine WP.seq ?_
            refine WP.seq ?_
            refine WP.region ?_
            refine RW.run ttok 1 rfl ?_
            refine RW.nil ?_
            obtain ⟨o62, hl63, hb29⟩ := bind_some hb29
            refine WP.cut (fun (t56 : Unit) F w9 => o62 = .inl t56 ∧ Ext w53 w9 ∧ St w w9 [Box g14 [.int .i64 0, .int .i64 0, .int .i64 0] 62] ∧ F = [(0, .pointer (some p0_)), (3, .pointer (some ⟨g14, 0, none⟩)), (4, .int .i64 s21), (5, .pointer (some p36))]) ?_ ?_
            · skip
              rintro t56 F w61 ⟨ho66, hE60, hS65, rfl⟩
              subst ho66
              rw [aft_inl] at hb29
              unfold m_spec_l27Pieces_j3 at hb29
              refine WP.seq ?_
              refine WP.region ?_
              refine RW.run ttok 1 rfl ?_
              refine RW.nil ?_
              obtain ⟨o71, hl72, hb29⟩ := bind_some hb29
              refine WP.cut (fun (t68 : Unit) F w9 => o71 = .inl t68 ∧ St w w9 [Box g14 [.int .i64 0, .int .i64 0, .int .i64 0] 62] ∧ F = [(0, .pointer (some p0_)), (3, .pointer (some ⟨g14, 0, none⟩)), (4, .int .i64 s21)]) ?_ ?_
              · skip
                rintro t68 F w70 ⟨ho74, hS73, rfl⟩
                subst ho74
                rw [aft_inl] at hb29
                unfold m_spec_l27Pieces_j4 at hb29
                refine WP.region ?_
                refine RW.run ttok 3 rfl ?_
                refine RW.nil ?_
                cases hb29
                exact ⟨_, [(0, .pointer (some p0_)), (3, .pointer (some ⟨g14, 0, none⟩)), (4, .int .i64 (w64 (s21 + 1)))], ⟨rfl, rfl, rfl, trivial⟩, rfl, hS73, rfl⟩
              · skip
                refine WP.block ?_
                refine WP.weak [(0, .pointer (some p0_)), (3, .pointer (some ⟨g14, 0, none⟩)), (4, .int .i64 s21), (5, .pointer (some p36)), (7, .int .i64 0)] ⟨rfl, rfl, rfl, rfl, rfl, trivial⟩ ?_
                refine WP.iter (fun (s67 : Int) F w9 => St w w9 [Box g14 [.int .i64 0, .int .i64 0, .int .i64 0] 62] ∧ F = [(0, .pointer (some p0_)), (3, .pointer (some ⟨g14, 0, none⟩)), (4, .int .i64 s21), (5, .pointer (some p36)), (7, .int .i64 s67)]) _ hl72 ⟨hS65, rfl⟩ ?_
                rintro s67 F w79 _ o77 ⟨hS78, rfl⟩ hb75 ho76
                unfold m_spec_l27Pieces_b3 at hb75
                refine WP.seq ?_
                refine WP.seq ?_
                refine WP.region ?_
                refine RW.run ttok 4 rfl ?_
                refine RW.load1 ttok rfl rfl rfl rfl rfl (At.ext (hE.trans hS78.ext) ha38) 1 rfl rfl rfl rfl ?_
                refine RW.run ttok 2 rfl ?_
                refine RW.nil ?_
                refine WP.cond (decide (s67 < (x34.Vars.length : Int))) rfl (fun hc => ?_) (fun hc => ?_)
                · skip
                  rw [if_pos hc] at hb75
                  refine WP.skip ?_
                  refine WP.seq ?_
                  refine WP.block ?_
                  refine WP.seq ?_
                  refine WP.region ?_
                  refine RW.run ttok 3 rfl ?_
                  refine RW.load1 ttok rfl rfl rfl rfl rfl (At.ext (hE.trans hS78.ext) ha38) 1 rfl rfl rfl rfl ?_
                  refine RW.run ttok 1 rfl ?_
                  obtain ⟨x80, hx81, hb75⟩ := bind_some hb75
                  refine RW.idx ttok (hE.trans hS78.ext) rfl rfl rfl rfl rfl rfl (by decide) rfl rfl h45 (idx_some hx81).1 (idx_some hx81).2 rfl rfl (fun p82 es83 ha84 hr85 => ?_)
                  have e86 := ty250_open hr85; subst e86
                  refine RW.loadN ttok rfl rfl rfl rfl rfl (At.ext (hE.trans hS78.ext) ha84) rfl rfl rfl ?_
                  refine RW.new ttok hS78 rfl rfl rfl rfl (fun g87 w88 e89 hS90 => ?_)
                  have hS91 := hS90.bring 0 rfl
                  refine RW.store ttok (A := []) hS91 rfl rfl rfl rfl rfl 0 rfl rfl rfl rfl rfl (fun w92 hS93 => ?_)
                  refine RW.nil ?_
                  refine WP.seq ?_
                  refine WP.cut (fun (t94 : Bool) F w9 => m_spec_l27Pieces_j5 fuel s67 t94 = some o77 ∧ Ext w92 w9 ∧ St w w9 [Box g87 [.bool x80.Used, .bool x80.Full, .int .i64 x80.Held.Machine, .int .i64 x80.Held.Kind, .int .i64 x80.Held.Index] 250, Box g14 [.int .i64 0, .int .i64 0, .int .i64 0] 62] ∧ F = [(0, .pointer (some p0_)), (3, .pointer (some ⟨g14, 0, none⟩)), (4, .int .i64 s21), (5, .pointer (some p36)), (7, .int .i64 s67), (104, .bool t94)]) ?_ ?_
                  · skip
                    rintro t94 F w97 ⟨hb75, hE95, hS96, rfl⟩
                    unfold m_spec_l27Pieces_j5 at hb75
                    refine WP.cond t94 rfl (fun hc => ?_) (fun hc => ?_)
                    · skip
                      rw [if_pos hc] at hb75
                      refine WP.seq ?_
                      refine WP.region ?_
                      refine RW.run ttok 1 rfl ?_
                      refine RW.nil ?_
                      refine WP.ret ?_
                      cases hb75
                      cases ho76
                      have hb29 : some _ = some _ := hb29
                      cases hb29
                      cases ho30
                      have hm : some _ = some _ := hm
                      cases hm
                      exact ⟨_, .cons (.tmp rfl) .nil, rfl, (hS96.taken 0)⟩
                    · skip
                      rw [if_neg (not_t hc)] at hb75
                      refine WP.skip ?_
                      refine WP.region ?_
                      refine RW.run ttok 3 rfl ?_
                      refine RW.nil ?_
                      cases hb75
                      exact ⟨_, [(0, .pointer (some p0_)), (3, .pointer (some ⟨g14, 0, none⟩)), (4, .int .i64 s21), (5, .pointer (some p36)), (7, .int .i64 (w64 (s67 + 1)))], ⟨rfl, rfl, rfl, rfl, rfl, trivial⟩, rfl, ((hS96.bring 1 rfl).taken 1), rfl⟩
                  · skip
                    refine WP.region ?_
                    refine RW.run ttok 1 rfl ?_
                    refine RW.load1 ttok rfl rfl rfl rfl rfl ((hS93.bring 0 rfl).box) 1 rfl rfl rfl rfl ?_
                    refine RW.run ttok 1 rfl ?_
                    by_cases hg99 : x80.Full = true
                    · skip
                      rw [if_pos hg99] at hb75
                      refine RW.know 89 rfl (congrArg Value.bool hg99) ?_
                      refine RW.run ttok 1 rfl ?_
                      refine RW.load1 ttok rfl rfl rfl rfl rfl ((hS93.bring 0 rfl).box) 0 rfl rfl rfl rfl ?_
                      refine RW.run ttok 3 rfl ?_
                      by_cases hg100 : (!x80.Used) = true
                      · skip
                        rw [if_pos hg100] at hb75
                        refine RW.know 94 rfl (congrArg Value.bool hg100) ?_
                        refine RW.run ttok 10 rfl ?_
                        refine RW.nil ?_
                        exact ⟨true, [(0, .pointer (some p0_)), (3, .pointer (some ⟨g14, 0, none⟩)), (4, .int .i64 s21), (5, .pointer (some p36)), (7, .int .i64 s67), (104, .bool true)], ⟨rfl, rfl, rfl, rfl, rfl, rfl, trivial⟩, hb75, (Ext.refl _), hS93, rfl⟩
                      · skip
                        rw [if_neg hg100] at hb75
                        refine RW.know 94 rfl (congrArg Value.bool (Bool.eq_false_iff.2 hg100)) ?_
                        refine RW.run ttok 1 rfl ?_
                        refine RW.load1 ttok rfl rfl rfl rfl rfl ((hS93.bring 0 rfl).box) 1 rfl rfl rfl rfl ?_
                        refine RW.run ttok 2 rfl ?_
                        by_cases hg101 : (!x80.Full) = true
                        · skip
                          rw [if_pos hg101] at hb75
                          refine RW.know 98 rfl (congrArg Value.bool hg101) ?_
                          refine RW.run ttok 1 rfl ?_
                          refine RW.loadN ttok rfl rfl rfl rfl rfl (At.sub ((hS93.bring 0 rfl).box) 2 3) rfl rfl rfl ?_
                          refine RW.loadN ttok rfl rfl rfl rfl rfl ((hS93.bring 1 rfl).box) rfl rfl rfl ?_
                          refine RW.run ttok 3 rfl ?_
                          refine RW.nil ?_
                          exact ⟨!(((x80.Held.Machine : Int) == 0) && (((x80.Held.Kind : Int) == 0) && (((x80.Held.Index : Int) == 0) && true))), [(0, .pointer (some p0_)), (3, .pointer (some ⟨g14, 0, none⟩)), (4, .int .i64 s21), (5, .pointer (some p36)), (7, .int .i64 s67), (104, .bool (!(((x80.Held.Machine : Int) == 0) && (((x80.Held.Kind : Int) == 0) && (((x80.Held.Index : Int) == 0) && true)))))], ⟨rfl, rfl, rfl, rfl, rfl, rfl, trivial⟩, hb75, (Ext.refl _), hS93, rfl⟩
                        · skip
                          rw [if_neg hg101] at hb75
                          refine RW.know 98 rfl (congrArg Value.bool (Bool.eq_false_iff.2 hg101)) ?_
                          refine RW.run ttok 6 rfl ?_
                          refine RW.nil ?_
                          exact ⟨false, [(0, .pointer (some p0_)), (3, .pointer (some ⟨g14, 0, none⟩)), (4, .int .i64 s21), (5, .pointer (some p36)), (7, .int .i64 s67), (104, .bool false)], ⟨rfl, rfl, rfl, rfl, rfl, rfl, trivial⟩, hb75, (Ext.refl _), hS93, rfl⟩
                    · skip
                      rw [if_neg hg99] at hb75
                      refine RW.know 89 rfl (congrArg Value.bool (Bool.eq_false_iff.2 hg99)) ?_
                      refine RW.run ttok 6 rfl ?_
                      refine RW.load1 ttok rfl rfl rfl rfl rfl ((hS93.bring 0 rfl).box) 1 rfl rfl rfl rfl ?_
                      refine RW.run ttok 2 rfl ?_
                      by_cases hg102 : (!x80.Full) = true
                      · skip
                        rw [if_pos hg102] at hb75
                        refine RW.know 98 rfl (congrArg Value.bool hg102) ?_
                        refine RW.run ttok 1 rfl ?_
                        refine RW.loadN ttok rfl rfl rfl rfl rfl (At.sub ((hS93.bring 0 rfl).box) 2 3) rfl rfl rfl ?_
                        refine RW.loadN ttok rfl rfl rfl rfl rfl ((hS93.bring 1 rfl).box) rfl rfl rfl ?_
                        refine RW.run ttok 3 rfl ?_
                        refine RW.nil ?_
                        exact ⟨!(((x80.Held.Machine : Int) == 0) && (((x80.Held.Kind : Int) == 0) && (((x80.Held.Index : Int) == 0) && true))), [(0, .pointer (some p0_)), (3, .pointer (some ⟨g14, 0, none⟩)), (4, .int .i64 s21), (5, .pointer (some p36)), (7, .int .i64 s67), (104, .bool (!(((x80.Held.Machine : Int) == 0) && (((x80.Held.Kind : Int) == 0) && (((x80.Held.Index : Int) == 0) && true)))))], ⟨rfl, rfl, rfl, rfl, rfl, rfl, trivial⟩, hb75, (Ext.refl _), hS93, rfl⟩
                      · skip
                        rw [if_neg hg102] at hb75
                        refine RW.know 98 rfl (congrArg Value.bool (Bool.eq_false_iff.2 hg102)) ?_
                        refine RW.run ttok 6 rfl ?_
                        refine RW.nil ?_
                        exact ⟨false, [(0, .pointer (some p0_)), (3, .pointer (some ⟨g14, 0, none⟩)), (4, .int .i64 s21), (5, .pointer (some p36)), (7, .int .i64 s67), (104, .bool false)], ⟨rfl, rfl, rfl, rfl, rfl, rfl, trivial⟩, hb75, (Ext.refl _), hS93, rfl⟩
                · skip
                  rw [if_neg (not_t hc)] at hb75
                  refine WP.exit ?_
                  cases hb75
                  exact ⟨_, [(0, .pointer (some p0_)), (3, .pointer (some ⟨g14, 0, none⟩)), (4, .int .i64 s21)], ⟨rfl, rfl, rfl, trivial⟩, ho76, hS78, rfl⟩
            · skip
              refine WP.block ?_
              refine WP.weak [(0, .pointer (some p0_)), (3, .pointer (some ⟨g14, 0, none⟩)), (4, .int .i64 s21), (5, .pointer (some p36)), (6, .int .i64 0)] ⟨rfl, rfl, rfl, rfl, rfl, trivial⟩ ?_
              refine WP.iter (fun (s55 : Int) F w9 => Ext w53 w9 ∧ St w w9 [Box g14 [.int .i64 0, .int .i64 0, .int .i64 0] 62] ∧ F = [(0, .pointer (some p0_)), (3, .pointer (some ⟨g14, 0, none⟩)), (4, .int .i64 s21), (5, .pointer (some p36)), (6, .int .i64 s55)]) _ hl63 ⟨(Ext.refl _), hS52, rfl⟩ ?_
              rintro s55 F w107 _ o105 ⟨hE59, hS106, rfl⟩ hb103 ho104
              unfold m_spec_l27Pieces_b2 at hb103
              refine WP.seq ?_
              refine WP.seq ?_
              refine WP.region ?_
              refine RW.run ttok 4 rfl ?_
              refine RW.load1 ttok rfl rfl rfl rfl rfl (At.ext (hE.trans hS106.ext) ha38) 0 rfl rfl rfl rfl ?_
              refine RW.run ttok 2 rfl ?_
              refine RW.nil ?_
              refine WP.cond (decide (s55 < (x34.Cells.length : Int))) rfl (fun hc => ?_) (fun hc => ?_)
              · skip
                rw [if_pos hc] at hb103
                refine WP.skip ?_
                refine WP.seq ?_
                refine WP.block ?_
                refine WP.seq ?_
                refine WP.region ?_
                refine RW.run ttok 3 rfl ?_
                refine RW.load1 ttok rfl rfl rfl rfl rfl (At.ext (hE.trans hS106.ext) ha38) 0 rfl rfl rfl rfl ?_
                refine RW.run ttok 1 rfl ?_
                obtain ⟨x108, hx109, hb103⟩ := bind_some hb103
                refine RW.idx ttok (hE.trans hS106.ext) rfl rfl rfl rfl rfl rfl (by decide) rfl rfl h42 (idx_some hx109).1 (idx_some hx109).2 rfl rfl (fun p110 es111 ha112 hr113 => ?_)
                obtain ⟨A114, k115, A117, k118, e120, h116, h119⟩ := ty248_open hr113; subst e120
                obtain ⟨r121, hx122, hb103⟩ := bind_some hb103
                refine RW.call rfl rfl rfl enters186 (spec_l27CellOk_ok (hE.trans hS106.ext) hr113 ha112 hx122) (fun v123 w124 hR125 => ?_)
                obtain ⟨rfl, hR126⟩ := hR125
                have hS127 := hS106.join hR126
                refine RW.run ttok 1 rfl ?_
                refine RW.nil ?_
                refine WP.cond (!r121) rfl (fun hc => ?_) (fun hc => ?_)
                · skip
                  rw [if_pos hc] at hb103
                  refine WP.seq ?_
                  refine WP.region ?_
                  refine RW.run ttok 1 rfl ?_
                  refine RW.nil ?_
                  refine WP.ret ?_
                  cases hb103
                  cases ho104
                  have hb29 : some _ = some _ := hb29
                  cases hb29
                  cases ho30
                  have hm : some _ = some _ := hm
                  cases hm
                  exact ⟨_, .cons (.tmp rfl) .nil, rfl, (hS127.taken 0)⟩
                · skip
                  rw [if_neg (not_t hc)] at hb103
                  refine WP.skip ?_
                  refine WP.region ?_
                  refine RW.run ttok 3 rfl ?_
                  refine RW.nil ?_
                  cases hb103
                  exact ⟨_, [(0, .pointer (some p0_)), (3, .pointer (some ⟨g14, 0, none⟩)), (4, .int .i64 s21), (5, .pointer (some p36)), (6, .int .i64 (w64 (s55 + 1)))], ⟨rfl, rfl, rfl, rfl, rfl, trivial⟩, rfl, (hE59.trans hR126.ext), hS127, rfl⟩
              · skip
                rw [if_neg (not_t hc)] at hb103
                refine WP.exit ?_
                cases hb103
                exact ⟨_, [(0, .pointer (some p0_)), (3, .pointer (some ⟨g14, 0, none⟩)), (4, .int .i64 s21), (5, .pointer (some p36))], ⟨rfl, rfl, rfl, rfl, trivial⟩, ho104, hE59, hS106, rfl⟩
        · skip
          refine WP.region ?_
          refine RW.run ttok 3 rfl ?_
          refine RW.load1 ttok rfl rfl rfl rfl rfl (At.ext (hE.trans hS32.ext) ha38) 0 rfl rfl rfl rfl ?_
          refine RW.run ttok 3 rfl ?_
          by_cases hg128 : (decide ((x34.Cells.length : Int) > 400)) = true
          · skip
            rw [if_pos hg128] at hb29
            refine RW.know 38 rfl (congrArg Value.bool hg128) ?_
            refine RW.run ttok 15 rfl ?_
            refine RW.nil ?_
            exact ⟨true, [(0, .pointer (some p0_)), (3, .pointer (some ⟨g14, 0, none⟩)), (4, .int .i64 s21), (5, .pointer (some p36)), (53, .bool true)], ⟨rfl, rfl, rfl, rfl, rfl, trivial⟩, hb29, (Ext.refl _), hS32, rfl⟩
          · skip
            rw [if_neg hg128] at hb29
            refine RW.know 38 rfl (congrArg Value.bool (Bool.eq_false_iff.2 hg128)) ?_
            refine RW.run ttok 3 rfl ?_
            refine RW.load1 ttok rfl rfl rfl rfl rfl (At.ext (hE.trans hS32.ext) ha38) 1 rfl rfl rfl rfl ?_
            refine RW.run ttok 4 rfl ?_
            by_cases hg129 : (decide ((x34.Vars.length : Int) > 400)) = true
            · skip
              rw [if_pos hg129] at hb29
              refine RW.know 46 rfl (congrArg Value.bool hg129) ?_
              refine RW.run ttok 7 rfl ?_
              refine RW.nil ?_
              exact ⟨true, [(0, .pointer (some p0_)), (3, .pointer (some ⟨g14, 0, none⟩)), (4, .int .i64 s21), (5, .pointer (some p36)), (53, .bool true)], ⟨rfl, rfl, rfl, rfl, rfl, trivial⟩, hb29, (Ext.refl _), hS32, rfl⟩
            · skip
              rw [if_neg hg129] at hb29
              refine RW.know 46 rfl (congrArg Value.bool (Bool.eq_false_iff.2 hg129)) ?_
              refine RW.run ttok 3 rfl ?_
              refine RW.load1 ttok rfl rfl rfl rfl rfl (At.ext (hE.trans hS32.ext) ha38) 2 rfl rfl rfl rfl ?_
              refine RW.run ttok 3 rfl ?_
              refine RW.nil ?_
              exact ⟨decide ((x34.Redexes.length : Int) > 400), [(0, .pointer (some p0_)), (3, .pointer (some ⟨g14, 0, none⟩)), (4, .int .i64 s21), (5, .pointer (some p36)), (53, .bool (decide ((x34.Redexes.length : Int) > 400)))], ⟨rfl, rfl, rfl, rfl, rfl, trivial⟩, hb29, (Ext.refl _), hS32, rfl⟩
      · skip
        rw [if_neg (not_t hc)] at hb29
        refine WP.exit ?_
        cases hb29
        exact ⟨_, [], trivial, ho30, hS32, rfl⟩

theorem enters187 : Enters Try.prog 187 := ⟨_, _, Try.func187, rfl, by kernel_rfl⟩
def m_spec_l27Links_cell_j1 (fuel : Nat) (x0 : D.l27Links) (x1 : D.ShardCell) (t11 : (List D.Port)) : Option (Int × D.l27Links) := ((m_spec_l27Agent fuel x1).bind fun r26 => (if decide ((x0.agents.length : Int) + (([r26] : (List D.Agent)).length : Int) ≤ 4294967296) = true then some ((x0.ports.length : Int), (⟨(x0.agents ++ ([r26] : (List D.Agent))), t11, x0.cells, x0.vars, x0.ends, x0.pairs⟩ : D.l27Links)) else none))
def m_spec_l27Links_cell_b1 (fuel : Nat) (x0 : D.l27Links) (x1 : D.ShardCell) (s10 : Int × (List D.Port)) : Option (Rd (Int × (List D.Port)) ((List D.Port)) (Int × D.l27Links)) := (if (decide (s10.1 ≤ (x1.Aux.length : Int))) = true then (if decide ((s10.2.length : Int) + (([(⟨(x0.agents.length : Int), s10.1⟩ : D.Port)] : (List D.Port)).length : Int) ≤ 4294967296) = true then some (.next (w64 (s10.1 + 1), (s10.2 ++ ([(⟨(x0.agents.length : Int), s10.1⟩ : D.Port)] : (List D.Port))))) else none) else some (.brk s10.2))
def m_spec_l27Links_cell (fuel : Nat) (x0 : D.l27Links) (x1 : D.ShardCell) : Option (Int × D.l27Links) := (if (x1.Kind == 0) = true then some ((x0.ports.length : Int), x0) else ((iter (m_spec_l27Links_cell_b1 fuel x0 x1) fuel (0, x0.ports)).bind fun o => aft o (m_spec_l27Links_cell_j1 fuel x0 x1)))

set_option maxRecDepth 100000 in
theorem spec_l27Links_cell_ok {W w : World} {RR : List Res} {g0_ : Nat} {x0 : D.l27Links} {A0_0 : Option Addr} {k0_0 : Nat} {A0_1 : Option Addr} {k0_1 : Nat} {A0_2 : Option Addr} {k0_2 : Nat} {A0_3 : Option Addr} {k0_3 : Nat} {A0_4 : Option Addr} {k0_4 : Nat} {A0_5 : Option Addr} {k0_5 : Nat} {p1_ : Addr} {c1_ : List Value} {x1 : D.ShardCell} (hS : St W w (Box g0_ [.slice A0_0 x0.agents.length k0_0, .slice A0_1 x0.ports.length k0_1, .slice A0_2 x0.cells.length k0_2, .slice A0_3 x0.vars.length k0_3, .slice A0_4 x0.ends.length k0_4, .slice A0_5 x0.pairs.length k0_5] 253 :: Own ty28 [.slice A0_0 x0.agents.length k0_0] x0.agents :: Own ty110 [.slice A0_1 x0.ports.length k0_1] x0.ports :: Own ty251 [.slice A0_2 x0.cells.length k0_2] x0.cells :: Own ty251 [.slice A0_3 x0.vars.length k0_3] x0.vars :: Own ty251 [.slice A0_4 x0.ends.length k0_4] x0.ends :: Own ty251 [.slice A0_5 x0.pairs.length k0_5] x0.pairs :: RR)) (h1_ : ty248.ro W c1_ x1) (g1_ : At W p1_ c1_) {fuel : Nat} {r : Int × D.l27Links} (hm : m_spec_l27Links_cell fuel x0 x1 = some r) :
    Calls Try.prog 187 ⟨[.pointer (some ⟨g0_, 0, none⟩), .pointer (some p1_)]⟩ w (Ret fun v w8 => ∃ A0 k0 A1 k1 A2 k2 A3 k3 A4 k4 A5 k5, v = .int .i64 r.1 ∧ St W w8 (Box g0_ [.slice A0 r.2.agents.length k0, .slice A1 r.2.ports.length k1, .slice A2 r.2.cells.length k2, .slice A3 r.2.vars.length k3, .slice A4 r.2.ends.length k4, .slice A5 r.2.pairs.length k5] 253 :: Own ty28 [.slice A0 r.2.agents.length k0] r.2.agents :: Own ty110 [.slice A1 r.2.ports.length k1] r.2.ports :: Own ty251 [.slice A2 r.2.cells.length k2] r.2.cells :: Own ty251 [.slice A3 r.2.vars.length k3] r.2.vars :: Own ty251 [.slice A4 r.2.ends.length k4] r.2.ends :: Own ty251 [.slice A5 r.2.pairs.length k5] r.2.pairs :: RR)) := by
  obtain ⟨A1, k2, A4, k5, e7, h3, h6⟩ := ty248_open h1_; subst e7
  refine Calls.into Try.func187 rfl 55 rfl rfl _ rfl ?_
  unfold m_spec_l27Links_cell at hm
  refine WP.seq ?_
  refine WP.region ?_
  refine RW.run ttok 1 rfl ?_
  refine RW.nil ?_
  refine WP.seq ?_
  refine WP.region ?_
  refine RW.run ttok 3 rfl ?_
  refine RW.load1 ttok rfl rfl rfl rfl rfl ((hS.bring 0 rfl).box) 1 rfl rfl rfl rfl ?_
  refine RW.run ttok 2 rfl ?_
  refine RW.nil ?_
  refine WP.seq ?_
  refine WP.seq ?_
  refine WP.region ?_
  refine RW.run ttok 3 rfl ?_
  refine RW.load1 ttok rfl rfl rfl rfl rfl (At.ext hS.ext g1_) 0 rfl rfl rfl rfl ?_
  refine RW.run ttok 1 rfl ?_
  refine RW.nil ?_
  refine WP.cond (x1.Kind == 0) rfl (fun hc => ?_) (fun hc => ?_)
  · skip
    rw [if_pos hc] at hm
    refine WP.seq ?_
    refine WP.region ?_
    refine RW.run ttok 2 rfl ?_
    refine RW.nil ?_
    refine WP.ret ?_
    cases hm
    exact ⟨_, .cons (.tmp rfl) .nil, A0_0, k0_0, A0_1, k0_1, A0_2, k0_2, A0_3, k0_3, A0_4, k0_4, A0_5, k0_5, rfl, hS⟩
  · skip
    rw [if_neg (not_t hc)] at hm
    refine WP.skip ?_
    refine WP.seq ?_
    refine WP.seq ?_
    refine WP.region ?_
    refine RW.run ttok 1 rfl ?_
    refine RW.nil ?_
    obtain ⟨o20, hl21, hm⟩ := bind_some hm
    refine WP.cut (fun (t11 : (List D.Port)) F w9 => ∃ A17 k18, o20 = .inl t11 ∧ St W w9 (Box g0_ [.slice A0_0 x0.agents.length k0_0, .slice A17 t11.length k18, .slice A0_2 x0.cells.length k0_2, .slice A0_3 x0.vars.length k0_3, .slice A0_4 x0.ends.length k0_4, .slice A0_5 x0.pairs.length k0_5] 253 :: Own ty28 [.slice A0_0 x0.agents.length k0_0] x0.agents :: Own ty110 [.slice A17 t11.length k18] t11 :: Own ty251 [.slice A0_2 x0.cells.length k0_2] x0.cells :: Own ty251 [.slice A0_3 x0.vars.length k0_3] x0.vars :: Own ty251 [.slice A0_4 x0.ends.length k0_4] x0.ends :: Own ty251 [.slice A0_5 x0.pairs.length k0_5] x0.pairs :: RR) ∧ F = [(0, .pointer (some ⟨g0_, 0, none⟩)), (1, .pointer (some p1_)), (5, .int .i64 (x0.ports.length : Int))]) ?_ ?_
    · skip
      rintro t11 F w19 ⟨A17, k18, ho23, hS22, rfl⟩
      subst ho23
      rw [aft_inl] at hm
      unfold m_spec_l27Links_cell_j1 at hm
      refine WP.seq ?_
      refine WP.drawnM 2304 mixed 12 (by kernel_rfl) (by kernel_rfl) [([], 4095), ([], 4095), ([1], 4093), ([2], 4091), ([3], 4087), ([], 4095), ([5], 4063), ([6], 4031), ([4, 7, 6], 3951), ([0, 0, 1, 2, 3, 4, 5, 6, 7, 8], 4094), ([9, 0, 1, 2, 3, 4, 5, 6, 7, 8], 3583), ([10, 8, 8, 0, 1, 2, 3, 4, 5, 6, 7, 8], 2815)] (by kernel_rfl) hS22.ext (fun hsk24 => ?_)
      have hS25 := hS22.step (Ext.draw _)
      refine DM.run (fuel := 7) ttok hsk24 [0, 1, 2, 3, 5] 47 (by kernel_rfl) (by kernel_rfl) rfl ?_
      refine DM.load1 ttok hsk24 4 63 (by kernel_rfl) (by kernel_rfl) (by kernel_rfl) (by kernel_rfl) rfl (by kernel_rfl) rfl rfl rfl rfl rfl ((hS22.bring 0 rfl).box) 0 rfl rfl rfl rfl ?_
      obtain ⟨r26, hx27, hm⟩ := bind_some hm
      refine DM.one hsk24 6 (by kernel_rfl) (LM.call hsk24 127 (by kernel_rfl) (by kernel_rfl) rfl rfl rfl rfl enters245 (spec_l27Agent_ok hS25.ext h1_ g1_ hx27) (fun v28 w29 hR30 => ?_))
      obtain ⟨A31, k32, A33, k34, rfl, hR35⟩ := hR30
      refine ⟨hR35.ext, ?_⟩
      have hS36 := hS25.join hR35
      have hS37 := St.noEl ty112 hS36
      have hS38 := hS37.bring 2 rfl
      have hS39 := hS38.bring 2 rfl
      have hS40 := ty112_shutS (c := r26) (B := _) hS39
      have hS41 := St.consEl hS40
      refine DM.one hsk24 7 (by kernel_rfl) (LM.newSlice (U := ty112) (els := [.int .i64 r26.Kind, .int .i64 r26.Level, .int .i64 r26.Value, .slice A31 r26.Data.length k32, .slice A33 r26.Ports.length k34]) (ys := [r26]) ttok hS41 hsk24 255 (by kernel_rfl) (by kernel_rfl) rfl rfl rfl rfl rfl rfl rfl rfl rfl rfl rfl rfl rfl (fun A42 k43 w44 e45 hS46 => ?_))
      have hS47 := hS46.bring 2 rfl
      have hS48 := hS47.bring 1 rfl
      by_cases hk49 : decide ((x0.agents.length : Int) + (([r26] : (List D.Agent)).length : Int) ≤ 4294967296) = true
      case neg => rw [if_neg hk49] at hm; cases hm
      rw [if_pos hk49] at hm
      refine DM.one hsk24 8 (by kernel_rfl) (LM.appendOwn ttok hS48 hsk24 511 (by kernel_rfl) (by kernel_rfl) rfl rfl rfl rfl rfl rfl rfl (by decide) rfl rfl (of_decide_eq_true hk49) (by decide) rfl rfl (fun A50 k51 w52 hS53 => ?_))
      refine DM.run (fuel := 1) ttok hsk24 [9, 10] 2047 (by kernel_rfl) (by kernel_rfl) rfl ?_
      refine DM.weak [(5, .int .i64 (x0.ports.length : Int)), (51, .slice A50 (x0.agents ++ ([r26] : (List D.Agent))).length k51), (53, .pointer (some ⟨g0_, 0, none⟩))] ⟨rfl, rfl, rfl, trivial⟩ ?_
      have hS54 := hS53.bring 1 rfl
      refine DM.one hsk24 11 (by kernel_rfl) (LM.store ttok (A := []) hS54 hsk24 4095 (by kernel_rfl) (by kernel_rfl) rfl rfl rfl rfl rfl rfl 0 rfl rfl rfl rfl rfl (fun w55 hS56 => ?_))
      refine DM.done hsk24 (by kernel_rfl) ?_
      refine WP.seq ?_
      refine WP.region ?_
      refine RW.run ttok 2 rfl ?_
      refine RW.nil ?_
      refine WP.ret ?_
      cases hm
      exact ⟨_, .cons (.tmp rfl) .nil, A50, k51, A17, k18, A0_2, k0_2, A0_3, k0_3, A0_4, k0_4, A0_5, k0_5, rfl, hS56⟩
    · skip
      refine WP.block ?_
      refine WP.weak [(0, .pointer (some ⟨g0_, 0, none⟩)), (1, .pointer (some p1_)), (5, .int .i64 (x0.ports.length : Int)), (6, .int .i64 0)] ⟨rfl, rfl, rfl, rfl, trivial⟩ ?_
      refine WP.iter (fun (s10 : Int × (List D.Port)) F w9 => ∃ A15 k16, St W w9 (Box g0_ [.slice A0_0 x0.agents.length k0_0, .slice A15 s10.2.length k16, .slice A0_2 x0.cells.length k0_2, .slice A0_3 x0.vars.length k0_3, .slice A0_4 x0.ends.length k0_4, .slice A0_5 x0.pairs.length k0_5] 253 :: Own ty28 [.slice A0_0 x0.agents.length k0_0] x0.agents :: Own ty110 [.slice A15 s10.2.length k16] s10.2 :: Own ty251 [.slice A0_2 x0.cells.length k0_2] x0.cells :: Own ty251 [.slice A0_3 x0.vars.length k0_3] x0.vars :: Own ty251 [.slice A0_4 x0.ends.length k0_4] x0.ends :: Own ty251 [.slice A0_5 x0.pairs.length k0_5] x0.pairs :: RR) ∧ F = [(0, .pointer (some ⟨g0_, 0, none⟩)), (1, .pointer (some p1_)), (5, .int .i64 (x0.ports.length : Int)), (6, .int .i64 s10.1)]) _ hl21 ⟨A0_1, k0_1, hS, rfl⟩ ?_
      rintro s10 F w61 _ o59 ⟨A15, k16, hS60, rfl⟩ hb57 ho58
      unfold m_spec_l27Links_cell_b1 at hb57
      refine WP.seq ?_
      refine WP.seq ?_
      refine WP.region ?_
      refine RW.run ttok 4 rfl ?_
      refine RW.load1 ttok rfl rfl rfl rfl rfl (At.ext hS60.ext g1_) 4 rfl rfl rfl rfl ?_
      refine RW.run ttok 2 rfl ?_
      refine RW.nil ?_
      refine WP.cond (decide (s10.1 ≤ (x1.Aux.length : Int))) rfl (fun hc => ?_) (fun hc => ?_)
      · skip
        rw [if_pos hc] at hb57
        refine WP.skip ?_
        refine WP.seq ?_
        refine WP.block ?_
        refine WP.drawnM 73728 mixed 17 (by kernel_rfl) (by kernel_rfl) [([], 131071), ([], 131071), ([1], 131069), ([2], 131067), ([3], 131063), ([], 131071), ([5], 131039), ([6], 131007), ([7], 130943), ([8], 130815), ([], 131071), ([9, 10], 129535), ([11], 129023), ([4, 12], 126959), ([0, 0, 1, 2, 3, 4, 5, 6, 7, 8, 9, 10, 11, 12, 13], 131070), ([14, 0, 1, 2, 3, 4, 5, 6, 7, 8, 9, 10, 11, 12, 13], 114687), ([15, 13, 13, 0, 1, 2, 3, 4, 5, 6, 7, 8, 9, 10, 11, 12, 13], 90111)] (by kernel_rfl) hS60.ext (fun hsk62 => ?_)
        have hS63 := hS60.step (Ext.draw _)
        refine DM.run (fuel := 9) ttok hsk62 [0, 1, 2, 3, 5, 6, 7, 10] 1263 (by kernel_rfl) (by kernel_rfl) rfl ?_
        refine DM.weak [(0, .pointer (some ⟨g0_, 0, none⟩)), (1, .pointer (some p1_)), (5, .int .i64 (x0.ports.length : Int)), (6, .int .i64 s10.1), (27, .pointer (some ⟨g0_, 0, none⟩)), (30, .pointer (some ⟨g0_, 1, none⟩)), (34, .pointer (some ⟨g0_, 0, none⟩)), (37, .int .i64 s10.1)] ⟨rfl, rfl, rfl, rfl, rfl, rfl, rfl, rfl, trivial⟩ ?_
        refine DM.load1 ttok hsk62 4 1279 (by kernel_rfl) (by kernel_rfl) (by kernel_rfl) (by kernel_rfl) rfl (by kernel_rfl) rfl rfl rfl rfl rfl ((hS60.bring 0 rfl).box) 1 rfl rfl rfl rfl ?_
        refine DM.one hsk62 8 (by kernel_rfl) (LM.quietL hsk62 1535 (by kernel_rfl) (by kernel_rfl) rfl rfl (Quiet.load1 ttok rfl rfl rfl rfl ((hS63.bring 0 rfl).box) 0 rfl rfl) rfl rfl ?_)
        refine DM.run (fuel := 6) ttok hsk62 [9] 2047 (by kernel_rfl) (by kernel_rfl) rfl ?_
        refine DM.quietP hsk62 11 4095 (by kernel_rfl) (by kernel_rfl) rfl (by kernel_rfl) rfl (fun _ => Quiet.build ttok rfl rfl rfl rfl rfl) rfl rfl ?_
        refine DM.one hsk62 12 (by kernel_rfl) (LM.newSlice (U := ty38) (els := [.int .i64 (x0.agents.length : Int), .int .i64 s10.1]) (ys := [(⟨(x0.agents.length : Int), s10.1⟩ : D.Port)]) ttok (hS63.flatEls (U := ty38) (els := [.int .i64 (x0.agents.length : Int), .int .i64 s10.1]) (ys := [(⟨(x0.agents.length : Int), s10.1⟩ : D.Port)]) ⟨[.int .i64 (x0.agents.length : Int), .int .i64 s10.1], _, [], [], rfl, rfl, (ty38_ownI (c := (⟨(x0.agents.length : Int), s10.1⟩ : D.Port)) rfl), ⟨rfl, rfl⟩⟩) hsk62 8191 (by kernel_rfl) (by kernel_rfl) rfl rfl rfl rfl rfl rfl rfl rfl rfl rfl rfl rfl rfl (fun A65 k66 w67 e68 hS69 => ?_))
        have hS70 := hS69.bring 3 rfl
        by_cases hk71 : decide ((s10.2.length : Int) + (([(⟨(x0.agents.length : Int), s10.1⟩ : D.Port)] : (List D.Port)).length : Int) ≤ 4294967296) = true
        case neg => rw [if_neg hk71] at hb57; cases hb57
        rw [if_pos hk71] at hb57
        refine DM.one hsk62 13 (by kernel_rfl) (LM.appendRo ttok (Flat.map (Flat.pair Flat.int (Flat.pair Flat.int Flat.unit))) hS70 hsk62 16383 (by kernel_rfl) (by kernel_rfl) rfl rfl rfl rfl rfl rfl rfl (by decide) rfl rfl ((hS70.bring 1 rfl).own) (of_decide_eq_true hk71) (by decide) rfl rfl (fun A72 k73 w74 hS75 => ?_))
        refine DM.run (fuel := 1) ttok hsk62 [14, 15] 65535 (by kernel_rfl) (by kernel_rfl) rfl ?_
        refine DM.weak [(0, .pointer (some ⟨g0_, 0, none⟩)), (1, .pointer (some p1_)), (5, .int .i64 (x0.ports.length : Int)), (6, .int .i64 s10.1), (40, .slice A72 (s10.2 ++ ([(⟨(x0.agents.length : Int), s10.1⟩ : D.Port)] : (List D.Port))).length k73), (42, .pointer (some ⟨g0_, 1, none⟩))] ⟨rfl, rfl, rfl, rfl, rfl, rfl, trivial⟩ ?_
        have hS76 := hS75.bring 2 rfl
        refine DM.one hsk62 16 (by kernel_rfl) (LM.store ttok (A := []) hS76 hsk62 131071 (by kernel_rfl) (by kernel_rfl) rfl rfl rfl rfl rfl rfl 1 rfl rfl rfl rfl rfl (fun w77 hS78 => ?_))
        refine DM.done hsk62 (by kernel_rfl) ?_
        refine WP.region ?_
        refine RW.run ttok 3 rfl ?_
        refine RW.nil ?_
        cases hb57
        exact ⟨_, [(0, .pointer (some ⟨g0_, 0, none⟩)), (1, .pointer (some p1_)), (5, .int .i64 (x0.ports.length : Int)), (6, .int .i64 (w64 (s10.1 + 1)))], ⟨rfl, rfl, rfl, rfl, trivial⟩, rfl, A72, k73, ((((hS78.bring 2 rfl).drop.bring 1 rfl).bring 2 rfl).bring 2 rfl), rfl⟩
      · skip
        rw [if_neg (not_t hc)] at hb57
        refine WP.exit ?_
        cases hb57
        exact ⟨_, [(0, .pointer (some ⟨g0_, 0, none⟩)), (1, .pointer (some p1_)), (5, .int .i64 (x0.ports.length : Int))], ⟨rfl, rfl, rfl, trivial⟩, A15, k16, ho58, hS60, rfl⟩

theorem enters132 : Enters Try.prog 132 := ⟨_, _, Try.func132, rfl, by kernel_rfl⟩
def m_spec_l27Begin_j3 (fuel : Nat) (t84 : (List Int) × (List (List Int)) × (List (List Int)) × (List (List Int)) × (List (List Int)) × (List D.Port) × (List D.Agent)) (t134 : Int × (List (List Int))) : Option (D.l27Links × (List Int)) := (if decide (0 ≤ t134.1 ∧ t134.1 ≤ 4294967296) = true then some ((⟨t84.2.2.2.2.2.2, t84.2.2.2.2.2.1, t84.2.1, t134.2, (List.replicate t134.1.toNat ([] : (List Int))), t84.2.2.2.2.1⟩ : D.l27Links), t84.1) else none)
def m_spec_l27Begin_j4 (fuel : Nat) (s133 : Int × Int × (List (List Int))) (t168 : Int × (List Int)) : Option (Rd (Int × Int × (List (List Int))) (Int × (List (List Int))) (D.l27Links × (List Int))) := (if decide ((s133.2.2.length : Int) + (([t168.2] : (List (List Int))).length : Int) ≤ 4294967296) = true then some (.next (t168.1, w64 (s133.2.1 + 1), (s133.2.2 ++ ([t168.2] : (List (List Int)))))) else none)
def m_spec_l27Begin_b4 (fuel : Nat) (x0 : D.Grid) (s133 : Int × Int × (List (List Int))) (s167 : Int × Int × (List Int)) : Option (Rd (Int × Int × (List Int)) (Int × (List Int)) (Rd (Int × Int × (List (List Int))) (Int × (List (List Int))) (D.l27Links × (List Int)))) := ((idx x0.Shards s133.2.1).bind fun x204 => (if (decide (s167.2.1 < (x204.Vars.length : Int))) = true then (if decide ((s167.2.2.length : Int) + (([s167.1] : (List Int)).length : Int) ≤ 4294967296) = true then some (.next (w64 (s167.1 + 1), w64 (s167.2.1 + 1), (s167.2.2 ++ ([s167.1] : (List Int))))) else none) else some (.brk (s167.1, s167.2.2))))
def m_spec_l27Begin_b3 (fuel : Nat) (x0 : D.Grid) (s133 : Int × Int × (List (List Int))) : Option (Rd (Int × Int × (List (List Int))) (Int × (List (List Int))) (D.l27Links × (List Int))) := (if (decide (s133.2.1 < (x0.Shards.length : Int))) = true then ((iter (m_spec_l27Begin_b4 fuel x0 s133) fuel (s133.1, 0, ([] : (List Int)))).bind fun o => aft o (m_spec_l27Begin_j4 fuel s133)) else some (.brk (s133.1, s133.2.2)))
def m_spec_l27Begin_j2 (fuel : Nat) (x0 : D.Grid) (t84 : (List Int) × (List (List Int)) × (List (List Int)) × (List (List Int)) × (List (List Int)) × (List D.Port) × (List D.Agent)) : Option (D.l27Links × (List Int)) := ((iter (m_spec_l27Begin_b3 fuel x0) fuel ((t84.2.2.2.2.2.1.length : Int), 0, t84.2.2.1)).bind fun o => aft o (m_spec_l27Begin_j3 fuel t84))
def m_spec_l27Begin_b2 (fuel : Nat) (x1 : (List D.ShardCell)) (s83 : Int × (List Int) × (List (List Int)) × (List (List Int)) × (List (List Int)) × (List (List Int)) × (List D.Port) × (List D.Agent)) : Option (Rd (Int × (List Int) × (List (List Int)) × (List (List Int)) × (List (List Int)) × (List (List Int)) × (List D.Port) × (List D.Agent)) ((List Int) × (List (List Int)) × (List (List Int)) × (List (List Int)) × (List (List Int)) × (List D.Port) × (List D.Agent)) (D.l27Links × (List Int))) := (if (decide (s83.1 < (x1.length : Int))) = true then ((idx x1 s83.1).bind fun x236 => ((m_spec_l27Links_cell fuel (⟨s83.2.2.2.2.2.2.2, s83.2.2.2.2.2.2.1, s83.2.2.1, s83.2.2.2.1, s83.2.2.2.2.1, s83.2.2.2.2.2.1⟩ : D.l27Links) x236).bind fun r249 => (if decide ((s83.2.1.length : Int) + (([r249.1] : (List Int)).length : Int) ≤ 4294967296) = true then some (.next (w64 (s83.1 + 1), (s83.2.1 ++ ([r249.1] : (List Int))), r249.2.cells, r249.2.vars, r249.2.ends, r249.2.pairs, r249.2.ports, r249.2.agents)) else none))) else some (.brk (s83.2.1, s83.2.2.1, s83.2.2.2.1, s83.2.2.2.2.1, s83.2.2.2.2.2.1, s83.2.2.2.2.2.2.1, s83.2.2.2.2.2.2.2)))
def m_spec_l27Begin_j1 (fuel : Nat) (x0 : D.Grid) (x1 : (List D.ShardCell)) (t34 : (List (List Int)) × (List (List Int)) × (List (List Int)) × (List (List Int)) × (List D.Port) × (List D.Agent)) : Option (D.l27Links × (List Int)) := ((iter (m_spec_l27Begin_b2 fuel x1) fuel (0, ([] : (List Int)), t34.1, t34.2.1, t34.2.2.1, t34.2.2.2.1, t34.2.2.2.2.1, t34.2.2.2.2.2)).bind fun o => aft o (m_spec_l27Begin_j2 fuel x0))
def m_spec_l27Begin_j5 (fuel : Nat) (s33 : Int × (List (List Int)) × (List (List Int)) × (List (List Int)) × (List (List Int)) × (List D.Port) × (List D.Agent)) (t293 : (List Int) × (List (List Int)) × (List (List Int)) × (List (List Int)) × (List (List Int)) × (List D.Port) × (List D.Agent)) : Option (Rd (Int × (List (List Int)) × (List (List Int)) × (List (List Int)) × (List (List Int)) × (List D.Port) × (List D.Agent)) ((List (List Int)) × (List (List Int)) × (List (List Int)) × (List (List Int)) × (List D.Port) × (List D.Agent)) (D.l27Links × (List Int))) := (if decide ((t293.2.1.length : Int) + (([t293.1] : (List (List Int))).length : Int) ≤ 4294967296) = true then some (.next (w64 (s33.1 + 1), (t293.2.1 ++ ([t293.1] : (List (List Int)))), t293.2.2.1, t293.2.2.2.1, t293.2.2.2.2.1, t293.2.2.2.2.2.1, t293.2.2.2.2.2.2)) else none)
def m_spec_l27Begin_b5 (fuel : Nat) (x0 : D.Grid) (s33 : Int × (List (List Int)) × (List (List Int)) × (List (List Int)) × (List (List Int)) × (List D.Port) × (List D.Agent)) (s292 : Int × (List Int) × (List (List Int)) × (List (List Int)) × (List (List Int)) × (List (List Int)) × (List D.Port) × (List D.Agent)) : Option (Rd (Int × (List Int) × (List (List Int)) × (List (List Int)) × (List (List Int)) × (List (List Int)) × (List D.Port) × (List D.Agent)) ((List Int) × (List (List Int)) × (List (List Int)) × (List (List Int)) × (List (List Int)) × (List D.Port) × (List D.Agent)) (Rd (Int × (List (List Int)) × (List (List Int)) × (List (List Int)) × (List (List Int)) × (List D.Port) × (List D.Agent)) ((List (List Int)) × (List (List Int)) × (List (List Int)) × (List (List Int)) × (List D.Port) × (List D.Agent)) (D.l27Links × (List Int)))) := ((idx x0.Shards s33.1).bind fun x365 => (if (decide (s292.1 < (x365.Cells.length : Int))) = true then ((idx x0.Shards s33.1).bind fun x381 => ((idx x381.Cells s292.1).bind fun x397 => ((m_spec_l27Links_cell fuel (⟨s292.2.2.2.2.2.2.2, s292.2.2.2.2.2.2.1, s292.2.2.1, s292.2.2.2.1, s292.2.2.2.2.1, s292.2.2.2.2.2.1⟩ : D.l27Links) x397).bind fun r410 => (if decide ((s292.2.1.length : Int) + (([r410.1] : (List Int)).length : Int) ≤ 4294967296) = true then some (.next (w64 (s292.1 + 1), (s292.2.1 ++ ([r410.1] : (List Int))), r410.2.cells, r410.2.vars, r410.2.ends, r410.2.pairs, r410.2.ports, r410.2.agents)) else none)))) else some (.brk (s292.2.1, s292.2.2.1, s292.2.2.2.1, s292.2.2.2.2.1, s292.2.2.2.2.2.1, s292.2.2.2.2.2.2.1, s292.2.2.2.2.2.2.2))))
def m_spec_l27Begin_b1 (fuel : Nat) (x0 : D.Grid) (s33 : Int × (List (List Int)) × (List (List Int)) × (List (List Int)) × (List (List Int)) × (List D.Port) × (List D.Agent)) : Option (Rd (Int × (List (List Int)) × (List (List Int)) × (List (List Int)) × (List (List Int)) × (List D.Port) × (List D.Agent)) ((List (List Int)) × (List (List Int)) × (List (List Int)) × (List (List Int)) × (List D.Port) × (List D.Agent)) (D.l27Links × (List Int))) := (if (decide (s33.1 < (x0.Shards.length : Int))) = true then ((iter (m_spec_l27Begin_b5 fuel x0 s33) fuel (0, ([] : (List Int)), s33.2.1, s33.2.2.1, s33.2.2.2.1, s33.2.2.2.2.1, s33.2.2.2.2.2.1, s33.2.2.2.2.2.2)).bind fun o => aft o (m_spec_l27Begin_j5 fuel s33)) else some (.brk (s33.2.1, s33.2.2.1, s33.2.2.2.1, s33.2.2.2.2.1, s33.2.2.2.2.2.1, s33.2.2.2.2.2.2)))
def m_spec_l27Begin (fuel : Nat) (x0 : D.Grid) (x1 : (List D.ShardCell)) : Option (D.l27Links × (List Int)) := (if decide (0 ≤ (1 : Int) ∧ (1 : Int) ≤ 4294967296) = true then ((iter (m_spec_l27Begin_b1 fuel x0) fuel (0, [], [], [], [], ([(⟨0, 0⟩ : D.Port)] : (List D.Port)), ([(⟨1, 0, 0, [], (List.replicate (1 : Int).toNat (⟨(0 : Int), (0 : Int)⟩ : D.Port))⟩ : D.Agent)] : (List D.Agent)))).bind fun o => aft o (m_spec_l27Begin_j1 fuel x0 x1)) else none)

set_option maxRecDepth 100000 in
theorem spec_l27Begin_ok {W w : World} (hE : Ext W w) {p0_ : Addr} {c0_ : List Value} {x0 : D.Grid} {A1_ : Option Addr} {k1_ : Nat} {x1 : (List D.ShardCell)} (h0_ : ty64.ro W c0_ x0) (g0_ : At W p0_ c0_) (h1_ : ty196.ro W [.slice A1_ x1.length k1_] x1) {fuel : Nat} {r : D.l27Links × (List Int)} (hm : m_spec_l27Begin fuel x0 x1 = some r) :
    Calls Try.prog 132 ⟨[.pointer (some p0_), .slice A1_ x1.length k1_]⟩ w (Ret fun v w8 => ∃ g0 A1 k1 A2 k2 A3 k3 A4 k4 A5 k5 A6 k6 A7 k7, v = .tuple ⟨[.pointer (some ⟨g0, 0, none⟩), .slice A7 r.2.length k7]⟩ ∧ St w w8 [Box g0 [.slice A1 r.1.agents.length k1, .slice A2 r.1.ports.length k2, .slice A3 r.1.cells.length k3, .slice A4 r.1.vars.length k4, .slice A5 r.1.ends.length k5, .slice A6 r.1.pairs.length k6] 253, Own ty28 [.slice A1 r.1.agents.length k1] r.1.agents, Own ty110 [.slice A2 r.1.ports.length k2] r.1.ports, Own ty251 [.slice A3 r.1.cells.length k3] r.1.cells, Own ty251 [.slice A4 r.1.vars.length k4] r.1.vars, Own ty251 [.slice A5 r.1.ends.length k5] r.1.ends, Own ty251 [.slice A6 r.1.pairs.length k6] r.1.pairs, Own ty103 [.slice A7 r.2.length k7] r.2]) := by
  obtain ⟨A1, k2, e4, h3⟩ := ty64_open h0_; subst e4
  refine Calls.into Try.func132 rfl 137 rfl rfl _ rfl ?_
  unfold m_spec_l27Begin at hm
  have hS := St.start w
  refine WP.seq ?_
  refine WP.region ?_
  refine RW.run ttok 2 rfl ?_
  refine RW.nil ?_
  refine WP.seq ?_
  refine WP.region ?_
  by_cases hk5 : decide (0 ≤ (1 : Int) ∧ (1 : Int) ≤ 4294967296) = true
  case neg => rw [if_neg hk5] at hm; cases hm
  rw [if_pos hk5] at hm
  have hz13 := of_decide_eq_true hk5
  refine RW.make (U := ty38) ttok (⟨(0 : Int), (0 : Int)⟩ : D.Port) hS rfl rfl rfl rfl rfl rfl rfl rfl hz13.1 (by have := hz13.2; show _ * (16 : Int) ≤ _; omega) (by have := hz13.2; simp only [maxLen]; omega) (fun _ => (ty38_ownI (c := (⟨(0 : Int), (0 : Int)⟩ : D.Port)) rfl)) rfl rfl (fun A6 k7 w10 e11 hS12 => ?_)
  refine RW.quiet rfl (Quiet.build ttok rfl rfl rfl rfl rfl) rfl rfl ?_
  have hS14 := St.noEl ty112 hS12
  have hS15 := hS14.bring 1 rfl
  have hS16 := hS15.nilSl tInt 2
  have hS17 := ty112_shutS (c := (⟨1, 0, 0, [], (List.replicate (1 : Int).toNat (⟨(0 : Int), (0 : Int)⟩ : D.Port))⟩ : D.Agent)) (B := _) hS16
  have hS18 := St.consEl hS17
  refine RW.newSlice (U := ty112) (els := [.int .i64 1, .int .i64 0, .int .i64 0, .slice none 0 0, .slice A6 (List.replicate (1 : Int).toNat (⟨(0 : Int), (0 : Int)⟩ : D.Port)).length k7]) (ys := [(⟨1, 0, 0, [], (List.replicate (1 : Int).toNat (⟨(0 : Int), (0 : Int)⟩ : D.Port))⟩ : D.Agent)]) ttok hS18 rfl rfl rfl rfl rfl rfl rfl rfl rfl rfl rfl rfl (fun A19 k20 w21 e22 hS23 => ?_)
  refine RW.quiet rfl (Quiet.build ttok rfl rfl rfl rfl rfl) rfl rfl ?_
  refine RW.newSlice (U := ty38) (els := [.int .i64 0, .int .i64 0]) (ys := [(⟨0, 0⟩ : D.Port)]) ttok (hS23.flatEls (U := ty38) (els := [.int .i64 0, .int .i64 0]) (ys := [(⟨0, 0⟩ : D.Port)]) ⟨[.int .i64 0, .int .i64 0], _, [], [], rfl, rfl, (ty38_ownI (c := (⟨0, 0⟩ : D.Port)) rfl), ⟨rfl, rfl⟩⟩) rfl rfl rfl rfl rfl rfl rfl rfl rfl rfl rfl rfl (fun A24 k25 w26 e27 hS28 => ?_)
  refine RW.quiet rfl (Quiet.build ttok rfl rfl rfl rfl rfl) rfl rfl ?_
  refine RW.new ttok hS28 rfl rfl rfl rfl (fun g29 w30 e31 hS32 => ?_)
  refine RW.run ttok 1 rfl ?_
  refine RW.nil ?_
  refine WP.seq ?_
  refine WP.seq ?_
  refine WP.region ?_
  refine RW.run ttok 1 rfl ?_
  refine RW.nil ?_
  obtain ⟨o74, hl75, hm⟩ := bind_some hm
  refine WP.cut (fun (t34 : (List (List Int)) × (List (List Int)) × (List (List Int)) × (List (List Int)) × (List D.Port) × (List D.Agent)) F w9 => ∃ A60 k61 A62 k63 A65 k66 A67 k68 A69 k70 A71 k72, o74 = .inl t34 ∧ St w w9 [Own ty251 [.slice A60 t34.1.length k61] t34.1, Own ty251 [.slice A62 t34.2.1.length k63] t34.2.1, Own ty251 [.slice A65 t34.2.2.1.length k66] t34.2.2.1, Own ty251 [.slice A67 t34.2.2.2.1.length k68] t34.2.2.2.1, Box g29 [.slice A71 t34.2.2.2.2.2.length k72, .slice A69 t34.2.2.2.2.1.length k70, .slice A60 t34.1.length k61, .slice A62 t34.2.1.length k63, .slice A65 t34.2.2.1.length k66, .slice A67 t34.2.2.2.1.length k68] 253, Own ty110 [.slice A69 t34.2.2.2.2.1.length k70] t34.2.2.2.2.1, Own ty28 [.slice A71 t34.2.2.2.2.2.length k72] t34.2.2.2.2.2] ∧ F = [(0, .pointer (some p0_)), (1, .slice A1_ x1.length k1_), (6, .pointer (some ⟨g29, 0, none⟩))]) ?_ ?_
  · skip
    rintro t34 F w73 ⟨A60, k61, A62, k63, A65, k66, A67, k68, A69, k70, A71, k72, ho77, hS76, rfl⟩
    subst ho77
    rw [aft_inl] at hm
    unfold m_spec_l27Begin_j1 at hm
    refine WP.seq ?_
    refine WP.region ?_
    refine RW.newSlice0 (U := tInt) ttok hS76 rfl rfl rfl rfl rfl rfl rfl (fun A78 k79 w80 e81 hS82 => ?_)
    refine RW.run ttok 1 rfl ?_
    refine RW.nil ?_
    refine WP.seq ?_
    refine WP.seq ?_
    refine WP.region ?_
    refine RW.run ttok 1 rfl ?_
    refine RW.nil ?_
    obtain ⟨o129, hl130, hm⟩ := bind_some hm
    refine WP.cut (fun (t84 : (List Int) × (List (List Int)) × (List (List Int)) × (List (List Int)) × (List (List Int)) × (List D.Port) × (List D.Agent)) F w9 => ∃ A114 k115 A116 k117 A118 k119 A120 k121 A122 k123 A124 k125 A126 k127, o129 = .inl t84 ∧ St w w9 [Own ty103 [.slice A114 t84.1.length k115] t84.1, Own ty251 [.slice A116 t84.2.1.length k117] t84.2.1, Own ty251 [.slice A118 t84.2.2.1.length k119] t84.2.2.1, Own ty251 [.slice A120 t84.2.2.2.1.length k121] t84.2.2.2.1, Own ty251 [.slice A122 t84.2.2.2.2.1.length k123] t84.2.2.2.2.1, Box g29 [.slice A126 t84.2.2.2.2.2.2.length k127, .slice A124 t84.2.2.2.2.2.1.length k125, .slice A116 t84.2.1.length k117, .slice A118 t84.2.2.1.length k119, .slice A120 t84.2.2.2.1.length k121, .slice A122 t84.2.2.2.2.1.length k123] 253, Own ty110 [.slice A124 t84.2.2.2.2.2.1.length k125] t84.2.2.2.2.2.1, Own ty28 [.slice A126 t84.2.2.2.2.2.2.length k127] t84.2.2.2.2.2.2] ∧ F = [(0, .pointer (some p0_)), (6, .pointer (some ⟨g29, 0, none⟩)), (10, .slice A114 t84.1.length k115)]) ?_ ?_
    · skip
      rintro t84 F w128 ⟨A114, k115, A116, k117, A118, k119, A120, k121, A122, k123, A124, k125, A126, k127, ho132, hS131, rfl⟩
      subst ho132
      rw [aft_inl] at hm
      unfold m_spec_l27Begin_j2 at hm
      refine WP.seq ?_
      refine WP.region ?_
      refine RW.run ttok 3 rfl ?_
      refine RW.load1 ttok rfl rfl rfl rfl rfl ((hS131.bring 5 rfl).box) 1 rfl rfl rfl rfl ?_
      refine RW.run ttok 2 rfl ?_
      refine RW.nil ?_
      refine WP.seq ?_
      refine WP.seq ?_
      refine WP.region ?_
      refine RW.run ttok 1 rfl ?_
      refine RW.nil ?_
      obtain ⟨o143, hl144, hm⟩ := bind_some hm
      refine WP.cut (fun (t134 : Int × (List (List Int))) F w9 => ∃ A140 k141, o143 = .inl t134 ∧ St w w9 [Own ty103 [.slice A114 t84.1.length k115] t84.1, Own ty251 [.slice A116 t84.2.1.length k117] t84.2.1, Own ty251 [.slice A140 t134.2.length k141] t134.2, Own ty251 [.slice A120 t84.2.2.2.1.length k121] t84.2.2.2.1, Own ty251 [.slice A122 t84.2.2.2.2.1.length k123] t84.2.2.2.2.1, Box g29 [.slice A126 t84.2.2.2.2.2.2.length k127, .slice A124 t84.2.2.2.2.2.1.length k125, .slice A116 t84.2.1.length k117, .slice A140 t134.2.length k141, .slice A120 t84.2.2.2.1.length k121, .slice A122 t84.2.2.2.2.1.length k123] 253, Own ty110 [.slice A124 t84.2.2.2.2.2.1.length k125] t84.2.2.2.2.2.1, Own ty28 [.slice A126 t84.2.2.2.2.2.2.length k127] t84.2.2.2.2.2.2] ∧ F = [(6, .pointer (some ⟨g29, 0, none⟩)), (10, .slice A114 t84.1.length k115), (12, .int .i64 t134.1)]) ?_ ?_
      · skip
        rintro t134 F w142 ⟨A140, k141, ho146, hS145, rfl⟩
        subst ho146
        rw [aft_inl] at hm
        unfold m_spec_l27Begin_j3 at hm
        refine WP.seq ?_
        refine WP.region ?_
        refine RW.run ttok 2 rfl ?_
        by_cases hk147 : decide (0 ≤ t134.1 ∧ t134.1 ≤ 4294967296) = true
        case neg => rw [if_neg hk147] at hm; cases hm
        rw [if_pos hk147] at hm
        have hz153 := of_decide_eq_true hk147
        refine RW.make (U := ty103) ttok ([] : (List Int)) hS145 rfl rfl rfl rfl rfl rfl rfl rfl hz153.1 (by have := hz153.2; show _ * (24 : Int) ≤ _; omega) (by have := hz153.2; simp only [maxLen]; omega) (fun _ => (slNilOwn tInt 2 _)) rfl rfl (fun A148 k149 w150 e151 hS152 => ?_)
        refine RW.run ttok 2 rfl ?_
        have hS154 := hS152.bring 6 rfl
        refine RW.store ttok (A := []) hS154 rfl rfl rfl rfl rfl 4 rfl rfl rfl rfl rfl (fun w155 hS156 => ?_)
        refine RW.nil ?_
        refine WP.seq ?_
        refine WP.region ?_
        refine RW.run ttok 4 rfl ?_
        refine RW.nil ?_
        refine WP.ret ?_
        cases hm
        exact ⟨_, .cons (.tmp rfl) (.cons (.tmp rfl) .nil), g29, A126, k127, A124, k125, A116, k117, A140, k141, A148, k149, A122, k123, A114, k115, rfl, (((((((((hS156.bring 2 rfl).bring 6 rfl).bring 3 rfl).bring 5 rfl).bring 5 rfl).bring 7 rfl).bring 8 rfl).bring 7 rfl).taken 8)⟩
      · skip
        refine WP.block ?_
        refine WP.weak [(0, .pointer (some p0_)), (6, .pointer (some ⟨g29, 0, none⟩)), (10, .slice A114 t84.1.length k115), (12, .int .i64 (t84.2.2.2.2.2.1.length : Int)), (13, .int .i64 0)] ⟨rfl, rfl, rfl, rfl, rfl, trivial⟩ ?_
        refine WP.iter (fun (s133 : Int × Int × (List (List Int))) F w9 => ∃ A138 k139, St w w9 [Own ty103 [.slice A114 t84.1.length k115] t84.1, Own ty251 [.slice A116 t84.2.1.length k117] t84.2.1, Own ty251 [.slice A138 s133.2.2.length k139] s133.2.2, Own ty251 [.slice A120 t84.2.2.2.1.length k121] t84.2.2.2.1, Own ty251 [.slice A122 t84.2.2.2.2.1.length k123] t84.2.2.2.2.1, Box g29 [.slice A126 t84.2.2.2.2.2.2.length k127, .slice A124 t84.2.2.2.2.2.1.length k125, .slice A116 t84.2.1.length k117, .slice A138 s133.2.2.length k139, .slice A120 t84.2.2.2.1.length k121, .slice A122 t84.2.2.2.2.1.length k123] 253, Own ty110 [.slice A124 t84.2.2.2.2.2.1.length k125] t84.2.2.2.2.2.1, Own ty28 [.slice A126 t84.2.2.2.2.2.2.length k127] t84.2.2.2.2.2.2] ∧ F = [(0, .pointer (some p0_)), (6, .pointer (some ⟨g29, 0, none⟩)), (10, .slice A114 t84.1.length k115), (12, .int .i64 s133.1), (13, .int .i64 s133.2.1)]) _ hl144 ⟨A118, k119, hS131, rfl⟩ ?_
        rintro s133 F w161 _ o159 ⟨A138, k139, hS160, rfl⟩ hb157 ho158
        unfold m_spec_l27Begin_b3 at hb157
        refine WP.seq ?_
        refine WP.seq ?_
        refine WP.region ?_
        refine RW.run ttok 4 rfl ?_
        refine RW.load1 ttok rfl rfl rfl rfl rfl (At.ext (hE.trans hS160.ext) g0_) 0 rfl rfl rfl rfl ?_
        refine RW.run ttok 2 rfl ?_
        refine RW.nil ?_
        refine WP.cond (decide (s133.2.1 < (x0.Shards.length : Int))) rfl (fun hc => ?_) (fun hc => ?_)
        · skip
          rw [if_pos hc] at hb157
          refine WP.skip ?_
          refine WP.seq ?_
          refine WP.block ?_
          refine WP.seq ?_
          refine WP.region ?_
          refine RW.newSlice0 (U := tInt) ttok hS160 rfl rfl rfl rfl rfl rfl rfl (fun A162 k163 w164 e165 hS166 => ?_)
          refine RW.run ttok 1 rfl ?_
          refine RW.nil ?_
          refine WP.seq ?_
          refine WP.seq ?_
          refine WP.region ?_
          refine RW.run ttok 1 rfl ?_
          refine RW.nil ?_
          obtain ⟨o177, hl178, hb157⟩ := bind_some hb157
          refine WP.cut (fun (t168 : Int × (List Int)) F w9 => ∃ A174 k175, o177 = .inl t168 ∧ St w w9 [Own ty103 [.slice A174 t168.2.length k175] t168.2, Own ty103 [.slice A114 t84.1.length k115] t84.1, Own ty251 [.slice A116 t84.2.1.length k117] t84.2.1, Own ty251 [.slice A138 s133.2.2.length k139] s133.2.2, Own ty251 [.slice A120 t84.2.2.2.1.length k121] t84.2.2.2.1, Own ty251 [.slice A122 t84.2.2.2.2.1.length k123] t84.2.2.2.2.1, Box g29 [.slice A126 t84.2.2.2.2.2.2.length k127, .slice A124 t84.2.2.2.2.2.1.length k125, .slice A116 t84.2.1.length k117, .slice A138 s133.2.2.length k139, .slice A120 t84.2.2.2.1.length k121, .slice A122 t84.2.2.2.2.1.length k123] 253, Own ty110 [.slice A124 t84.2.2.2.2.2.1.length k125] t84.2.2.2.2.2.1, Own ty28 [.slice A126 t84.2.2.2.2.2.2.length k127] t84.2.2.2.2.2.2] ∧ F = [(0, .pointer (some p0_)), (6, .pointer (some ⟨g29, 0, none⟩)), (10, .slice A114 t84.1.length k115), (12, .int .i64 t168.1), (13, .int .i64 s133.2.1), (14, .slice A174 t168.2.length k175)]) ?_ ?_
          · skip
            rintro t168 F w176 ⟨A174, k175, ho180, hS179, rfl⟩
            subst ho180
            rw [aft_inl] at hb157
            unfold m_spec_l27Begin_j4 at hb157
            refine WP.region ?_
            refine RW.run ttok 4 rfl ?_
            refine RW.load1 ttok rfl rfl rfl rfl rfl ((hS179.bring 6 rfl).box) 3 rfl rfl rfl rfl ?_
            refine RW.run ttok 1 rfl ?_
            have hS181 := St.noEl ty103 hS179
            have hS182 := hS181.bring 1 rfl
            have hS183 := St.consEl hS182
            refine RW.newSlice (U := ty103) (els := [.slice A174 t168.2.length k175]) (ys := [t168.2]) ttok hS183 rfl rfl rfl rfl rfl rfl rfl rfl rfl rfl rfl rfl (fun A184 k185 w186 e187 hS188 => ?_)
            have hS189 := hS188.bring 3 rfl
            have hS190 := hS189.bring 1 rfl
            by_cases hk191 : decide ((s133.2.2.length : Int) + (([t168.2] : (List (List Int))).length : Int) ≤ 4294967296) = true
            case neg => rw [if_neg hk191] at hb157; cases hb157
            rw [if_pos hk191] at hb157
            refine RW.appendOwn ttok hS190 rfl rfl rfl rfl rfl rfl (by decide) rfl rfl (of_decide_eq_true hk191) (by decide) rfl rfl (fun A192 k193 w194 hS195 => ?_)
            refine RW.run ttok 2 rfl ?_
            have hS196 := hS195.bring 5 rfl
            refine RW.store ttok (A := []) hS196 rfl rfl rfl rfl rfl 3 rfl rfl rfl rfl rfl (fun w197 hS198 => ?_)
            refine RW.nil ?_
            refine WP.region ?_
            refine RW.run ttok 3 rfl ?_
            refine RW.nil ?_
            cases hb157
            exact ⟨_, [(0, .pointer (some p0_)), (6, .pointer (some ⟨g29, 0, none⟩)), (10, .slice A114 t84.1.length k115), (12, .int .i64 t168.1), (13, .int .i64 (w64 (s133.2.1 + 1)))], ⟨rfl, rfl, rfl, rfl, rfl, trivial⟩, rfl, A192, k193, ((((((hS198.bring 0 rfl).bring 5 rfl).bring 5 rfl).bring 3 rfl).bring 5 rfl).bring 5 rfl), rfl⟩
          · skip
            refine WP.block ?_
            refine WP.weak [(0, .pointer (some p0_)), (6, .pointer (some ⟨g29, 0, none⟩)), (10, .slice A114 t84.1.length k115), (12, .int .i64 s133.1), (13, .int .i64 s133.2.1), (14, .slice A162 ([] : (List Int)).length k163), (15, .int .i64 0)] ⟨rfl, rfl, rfl, rfl, rfl, rfl, rfl, trivial⟩ ?_
            refine WP.iter (fun (s167 : Int × Int × (List Int)) F w9 => ∃ A172 k173, St w w9 [Own ty103 [.slice A172 s167.2.2.length k173] s167.2.2, Own ty103 [.slice A114 t84.1.length k115] t84.1, Own ty251 [.slice A116 t84.2.1.length k117] t84.2.1, Own ty251 [.slice A138 s133.2.2.length k139] s133.2.2, Own ty251 [.slice A120 t84.2.2.2.1.length k121] t84.2.2.2.1, Own ty251 [.slice A122 t84.2.2.2.2.1.length k123] t84.2.2.2.2.1, Box g29 [.slice A126 t84.2.2.2.2.2.2.length k127, .slice A124 t84.2.2.2.2.2.1.length k125, .slice A116 t84.2.1.length k117, .slice A138 s133.2.2.length k139, .slice A120 t84.2.2.2.1.length k121, .slice A122 t84.2.2.2.2.1.length k123] 253, Own ty110 [.slice A124 t84.2.2.2.2.2.1.length k125] t84.2.2.2.2.2.1, Own ty28 [.slice A126 t84.2.2.2.2.2.2.length k127] t84.2.2.2.2.2.2] ∧ F = [(0, .pointer (some p0_)), (6, .pointer (some ⟨g29, 0, none⟩)), (10, .slice A114 t84.1.length k115), (12, .int .i64 s167.1), (13, .int .i64 s133.2.1), (14, .slice A172 s167.2.2.length k173), (15, .int .i64 s167.2.1)]) _ hl178 ⟨A162, k163, hS166, rfl⟩ ?_
            rintro s167 F w203 _ o201 ⟨A172, k173, hS202, rfl⟩ hb199 ho200
            unfold m_spec_l27Begin_b4 at hb199
            refine WP.seq ?_
            refine WP.seq ?_
            refine WP.region ?_
            refine RW.run ttok 4 rfl ?_
            refine RW.load1 ttok rfl rfl rfl rfl rfl (At.ext (hE.trans hS202.ext) g0_) 0 rfl rfl rfl rfl ?_
            refine RW.run ttok 1 rfl ?_
            obtain ⟨x204, hx205, hb199⟩ := bind_some hb199
            refine RW.idx ttok (hE.trans hS202.ext) rfl rfl rfl rfl rfl rfl (by decide) rfl rfl h3 (idx_some hx205).1 (idx_some hx205).2 rfl rfl (fun p206 es207 ha208 hr209 => ?_)
            obtain ⟨A210, k211, A213, k214, A216, k217, e219, h212, h215, h218⟩ := ty200_open hr209; subst e219
            refine RW.run ttok 1 rfl ?_
            refine RW.load1 ttok rfl rfl rfl rfl rfl (At.ext (hE.trans hS202.ext) ha208) 1 rfl rfl rfl rfl ?_
            refine RW.run ttok 2 rfl ?_
            refine RW.nil ?_
            refine WP.cond (decide (s167.2.1 < (x204.Vars.length : Int))) rfl (fun hc => ?_) (fun hc => ?_)
            · skip
              rw [if_pos hc] at hb199
              refine WP.skip ?_
              refine WP.seq ?_
              refine WP.block ?_
              refine WP.seq ?_
              refine WP.region ?_
              refine RW.run ttok 2 rfl ?_
              refine RW.newSlice (U := tInt) (els := [.int .i64 s167.1]) (ys := [s167.1]) ttok (hS202.flatEls (U := tInt) (els := [.int .i64 s167.1]) (ys := [s167.1]) ⟨[.int .i64 s167.1], _, [], [], rfl, rfl, ⟨rfl, rfl⟩, ⟨rfl, rfl⟩⟩) rfl rfl rfl rfl rfl rfl rfl rfl rfl rfl rfl rfl (fun A220 k221 w222 e223 hS224 => ?_)
              have hS225 := hS224.bring 1 rfl
              by_cases hk226 : decide ((s167.2.2.length : Int) + (([s167.1] : (List Int)).length : Int) ≤ 4294967296) = true
              case neg => rw [if_neg hk226] at hb199; cases hb199
              rw [if_pos hk226] at hb199
              refine RW.appendRo ttok Flat.int hS225 rfl rfl rfl rfl rfl rfl (by decide) rfl rfl ((hS225.bring 1 rfl).own) (of_decide_eq_true hk226) (by decide) rfl rfl (fun A227 k228 w229 hS230 => ?_)
              refine RW.run ttok 1 rfl ?_
              refine RW.nil ?_
              refine WP.region ?_
              refine RW.run ttok 3 rfl ?_
              refine RW.nil ?_
              refine WP.region ?_
              refine RW.run ttok 3 rfl ?_
              refine RW.nil ?_
              cases hb199
              exact ⟨_, [(0, .pointer (some p0_)), (6, .pointer (some ⟨g29, 0, none⟩)), (10, .slice A114 t84.1.length k115), (12, .int .i64 (w64 (s167.1 + 1))), (13, .int .i64 s133.2.1), (14, .slice A227 (s167.2.2 ++ ([s167.1] : (List Int))).length k228), (15, .int .i64 (w64 (s167.2.1 + 1)))], ⟨rfl, rfl, rfl, rfl, rfl, rfl, rfl, trivial⟩, rfl, A227, k228, (hS230.bring 1 rfl).drop, rfl⟩
            · skip
              rw [if_neg (not_t hc)] at hb199
              refine WP.exit ?_
              cases hb199
              exact ⟨_, [(0, .pointer (some p0_)), (6, .pointer (some ⟨g29, 0, none⟩)), (10, .slice A114 t84.1.length k115), (12, .int .i64 s167.1), (13, .int .i64 s133.2.1), (14, .slice A172 s167.2.2.length k173)], ⟨rfl, rfl, rfl, rfl, rfl, rfl, trivial⟩, A172, k173, ho200, hS202, rfl⟩
        · skip
          rw [if_neg (not_t hc)] at hb157
          refine WP.exit ?_
          cases hb157
          exact ⟨_, [(6, .pointer (some ⟨g29, 0, none⟩)), (10, .slice A114 t84.1.length k115), (12, .int .i64 s133.1)], ⟨rfl, rfl, rfl, trivial⟩, A138, k139, ho158, hS160, rfl⟩
    · skip
      refine WP.block ?_
      refine WP.weak [(0, .pointer (some p0_)), (1, .slice A1_ x1.length k1_), (6, .pointer (some ⟨g29, 0, none⟩)), (10, .slice A78 ([] : (List Int)).length k79), (11, .int .i64 0)] ⟨rfl, rfl, rfl, rfl, rfl, trivial⟩ ?_
      refine WP.iter (fun (s83 : Int × (List Int) × (List (List Int)) × (List (List Int)) × (List (List Int)) × (List (List Int)) × (List D.Port) × (List D.Agent)) F w9 => ∃ A100 k101 A102 k103 A104 k105 A106 k107 A108 k109 A110 k111 A112 k113, St w w9 [Own ty103 [.slice A100 s83.2.1.length k101] s83.2.1, Own ty251 [.slice A102 s83.2.2.1.length k103] s83.2.2.1, Own ty251 [.slice A104 s83.2.2.2.1.length k105] s83.2.2.2.1, Own ty251 [.slice A106 s83.2.2.2.2.1.length k107] s83.2.2.2.2.1, Own ty251 [.slice A108 s83.2.2.2.2.2.1.length k109] s83.2.2.2.2.2.1, Box g29 [.slice A112 s83.2.2.2.2.2.2.2.length k113, .slice A110 s83.2.2.2.2.2.2.1.length k111, .slice A102 s83.2.2.1.length k103, .slice A104 s83.2.2.2.1.length k105, .slice A106 s83.2.2.2.2.1.length k107, .slice A108 s83.2.2.2.2.2.1.length k109] 253, Own ty110 [.slice A110 s83.2.2.2.2.2.2.1.length k111] s83.2.2.2.2.2.2.1, Own ty28 [.slice A112 s83.2.2.2.2.2.2.2.length k113] s83.2.2.2.2.2.2.2] ∧ F = [(0, .pointer (some p0_)), (1, .slice A1_ x1.length k1_), (6, .pointer (some ⟨g29, 0, none⟩)), (10, .slice A100 s83.2.1.length k101), (11, .int .i64 s83.1)]) _ hl130 ⟨A78, k79, A60, k61, A62, k63, A65, k66, A67, k68, A69, k70, A71, k72, hS82, rfl⟩ ?_
      rintro s83 F w235 _ o233 ⟨A100, k101, A102, k103, A104, k105, A106, k107, A108, k109, A110, k111, A112, k113, hS234, rfl⟩ hb231 ho232
      unfold m_spec_l27Begin_b2 at hb231
      refine WP.seq ?_
      refine WP.seq ?_
      refine WP.region ?_
      refine RW.run ttok 4 rfl ?_
      refine RW.nil ?_
      refine WP.cond (decide (s83.1 < (x1.length : Int))) rfl (fun hc => ?_) (fun hc => ?_)
      · skip
        rw [if_pos hc] at hb231
        refine WP.skip ?_
        refine WP.seq ?_
        refine WP.block ?_
        refine WP.region ?_
        refine RW.run ttok 4 rfl ?_
        obtain ⟨x236, hx237, hb231⟩ := bind_some hb231
        refine RW.idx ttok (hE.trans hS234.ext) rfl rfl rfl rfl rfl rfl (by decide) rfl rfl h1_ (idx_some hx237).1 (idx_some hx237).2 rfl rfl (fun p238 es239 ha240 hr241 => ?_)
        obtain ⟨A242, k243, A245, k246, e248, h244, h247⟩ := ty248_open hr241; subst e248
        obtain ⟨r249, hx250, hb231⟩ := bind_some hb231
        refine RW.call rfl rfl rfl enters187 (spec_l27Links_cell_ok (W := w) (RR := _) (x0 := (⟨s83.2.2.2.2.2.2.2, s83.2.2.2.2.2.2.1, s83.2.2.1, s83.2.2.2.1, s83.2.2.2.2.1, s83.2.2.2.2.2.1⟩ : D.l27Links)) (x1 := x236) (((((((hS234.bring 4 rfl).bring 4 rfl).bring 4 rfl).bring 4 rfl).bring 6 rfl).bring 7 rfl).bring 7 rfl) (ty248.ext hE hr241) (At.ext hE ha240) hx250) (fun v251 w252 hR253 => ?_)
        obtain ⟨A254, k255, A256, k257, A258, k259, A260, k261, A262, k263, A264, k265, rfl, hS266⟩ := hR253
        refine RW.newSlice (U := tInt) (els := [.int .i64 r249.1]) (ys := [r249.1]) ttok (hS266.flatEls (U := tInt) (els := [.int .i64 r249.1]) (ys := [r249.1]) ⟨[.int .i64 r249.1], _, [], [], rfl, rfl, ⟨rfl, rfl⟩, ⟨rfl, rfl⟩⟩) rfl rfl rfl rfl rfl rfl rfl rfl rfl rfl rfl rfl (fun A267 k268 w269 e270 hS271 => ?_)
        have hS272 := hS271.bring 8 rfl
        by_cases hk273 : decide ((s83.2.1.length : Int) + (([r249.1] : (List Int)).length : Int) ≤ 4294967296) = true
        case neg => rw [if_neg hk273] at hb231; cases hb231
        rw [if_pos hk273] at hb231
        refine RW.appendRo ttok Flat.int hS272 rfl rfl rfl rfl rfl rfl (by decide) rfl rfl ((hS272.bring 1 rfl).own) (of_decide_eq_true hk273) (by decide) rfl rfl (fun A274 k275 w276 hS277 => ?_)
        refine RW.run ttok 1 rfl ?_
        refine RW.nil ?_
        refine WP.region ?_
        refine RW.run ttok 3 rfl ?_
        refine RW.nil ?_
        cases hb231
        exact ⟨_, [(0, .pointer (some p0_)), (1, .slice A1_ x1.length k1_), (6, .pointer (some ⟨g29, 0, none⟩)), (10, .slice A274 (s83.2.1 ++ ([r249.1] : (List Int))).length k275), (11, .int .i64 (w64 (s83.1 + 1)))], ⟨rfl, rfl, rfl, rfl, rfl, trivial⟩, rfl, A274, k275, A258, k259, A260, k261, A262, k263, A264, k265, A256, k257, A254, k255, (((((((((hS277.bring 3 rfl).bring 4 rfl).bring 4 rfl).bring 8 rfl).bring 8 rfl).bring 8 rfl).bring 8 rfl).bring 7 rfl).taken 8), rfl⟩
      · skip
        rw [if_neg (not_t hc)] at hb231
        refine WP.exit ?_
        cases hb231
        exact ⟨_, [(0, .pointer (some p0_)), (6, .pointer (some ⟨g29, 0, none⟩)), (10, .slice A100 s83.2.1.length k101)], ⟨rfl, rfl, rfl, trivial⟩, A100, k101, A102, k103, A104, k105, A106, k107, A108, k109, A110, k111, A112, k113, ho232, hS234, rfl⟩
  · skip
    refine WP.block ?_
    have hS278 := hS32.nilSl ty103 103
    have hS279 := hS278.nilSl ty103 103
    have hS280 := hS279.nilSl ty103 103
    have hS281 := hS280.nilSl ty103 103
    refine WP.weak [(0, .pointer (some p0_)), (1, .slice A1_ x1.length k1_), (6, .pointer (some ⟨g29, 0, none⟩)), (7, .int .i64 0)] ⟨rfl, rfl, rfl, rfl, trivial⟩ ?_
    refine WP.iter (fun (s33 : Int × (List (List Int)) × (List (List Int)) × (List (List Int)) × (List (List Int)) × (List D.Port) × (List D.Agent)) F w9 => ∃ A48 k49 A50 k51 A52 k53 A54 k55 A56 k57 A58 k59, St w w9 [Own ty251 [.slice A48 s33.2.1.length k49] s33.2.1, Own ty251 [.slice A50 s33.2.2.1.length k51] s33.2.2.1, Own ty251 [.slice A52 s33.2.2.2.1.length k53] s33.2.2.2.1, Own ty251 [.slice A54 s33.2.2.2.2.1.length k55] s33.2.2.2.2.1, Box g29 [.slice A58 s33.2.2.2.2.2.2.length k59, .slice A56 s33.2.2.2.2.2.1.length k57, .slice A48 s33.2.1.length k49, .slice A50 s33.2.2.1.length k51, .slice A52 s33.2.2.2.1.length k53, .slice A54 s33.2.2.2.2.1.length k55] 253, Own ty110 [.slice A56 s33.2.2.2.2.2.1.length k57] s33.2.2.2.2.2.1, Own ty28 [.slice A58 s33.2.2.2.2.2.2.length k59] s33.2.2.2.2.2.2] ∧ F = [(0, .pointer (some p0_)), (1, .slice A1_ x1.length k1_), (6, .pointer (some ⟨g29, 0, none⟩)), (7, .int .i64 s33.1)]) _ hl75 ⟨none, 0, none, 0, none, 0, none, 0, A24, k25, A19, k20, ((((hS281.bring 0 rfl).bring 1 rfl).bring 2 rfl).bring 3 rfl), rfl⟩ ?_
    rintro s33 F w286 _ o284 ⟨A48, k49, A50, k51, A52, k53, A54, k55, A56, k57, A58, k59, hS285, rfl⟩ hb282 ho283
    unfold m_spec_l27Begin_b1 at hb282
    refine WP.seq ?_
    refine WP.seq ?_
    refine WP.region ?_
    refine RW.run ttok 4 rfl ?_
    refine RW.load1 ttok rfl rfl rfl rfl rfl (At.ext (hE.trans hS285.ext) g0_) 0 rfl rfl rfl rfl ?_
    refine RW.run ttok 2 rfl ?_
    refine RW.nil ?_
    refine WP.cond (decide (s33.1 < (x0.Shards.length : Int))) rfl (fun hc => ?_) (fun hc => ?_)
    · skip
      rw [if_pos hc] at hb282
      refine WP.skip ?_
      refine WP.seq ?_
      refine WP.block ?_
      refine WP.seq ?_
      refine WP.region ?_
      refine RW.newSlice0 (U := tInt) ttok hS285 rfl rfl rfl rfl rfl rfl rfl (fun A287 k288 w289 e290 hS291 => ?_)
      refine RW.run ttok 1 rfl ?_
      refine RW.nil ?_
      refine WP.seq ?_
      refine WP.seq ?_
      refine WP.region ?_
      refine RW.run ttok 1 rfl ?_
      refine RW.nil ?_
      obtain ⟨o338, hl339, hb282⟩ := bind_some hb282
      refine WP.cut (fun (t293 : (List Int) × (List (List Int)) × (List (List Int)) × (List (List Int)) × (List (List Int)) × (List D.Port) × (List D.Agent)) F w9 => ∃ A323 k324 A325 k326 A327 k328 A329 k330 A331 k332 A333 k334 A335 k336, o338 = .inl t293 ∧ St w w9 [Own ty103 [.slice A323 t293.1.length k324] t293.1, Own ty251 [.slice A325 t293.2.1.length k326] t293.2.1, Own ty251 [.slice A327 t293.2.2.1.length k328] t293.2.2.1, Own ty251 [.slice A329 t293.2.2.2.1.length k330] t293.2.2.2.1, Own ty251 [.slice A331 t293.2.2.2.2.1.length k332] t293.2.2.2.2.1, Box g29 [.slice A335 t293.2.2.2.2.2.2.length k336, .slice A333 t293.2.2.2.2.2.1.length k334, .slice A325 t293.2.1.length k326, .slice A327 t293.2.2.1.length k328, .slice A329 t293.2.2.2.1.length k330, .slice A331 t293.2.2.2.2.1.length k332] 253, Own ty110 [.slice A333 t293.2.2.2.2.2.1.length k334] t293.2.2.2.2.2.1, Own ty28 [.slice A335 t293.2.2.2.2.2.2.length k336] t293.2.2.2.2.2.2] ∧ F = [(0, .pointer (some p0_)), (1, .slice A1_ x1.length k1_), (6, .pointer (some ⟨g29, 0, none⟩)), (7, .int .i64 s33.1), (8, .slice A323 t293.1.length k324)]) ?_ ?_
      · skip
        rintro t293 F w337 ⟨A323, k324, A325, k326, A327, k328, A329, k330, A331, k332, A333, k334, A335, k336, ho341, hS340, rfl⟩
        subst ho341
        rw [aft_inl] at hb282
        unfold m_spec_l27Begin_j5 at hb282
        refine WP.region ?_
        refine RW.run ttok 4 rfl ?_
        refine RW.load1 ttok rfl rfl rfl rfl rfl ((hS340.bring 5 rfl).box) 2 rfl rfl rfl rfl ?_
        refine RW.run ttok 1 rfl ?_
        have hS342 := St.noEl ty103 hS340
        have hS343 := hS342.bring 1 rfl
        have hS344 := St.consEl hS343
        refine RW.newSlice (U := ty103) (els := [.slice A323 t293.1.length k324]) (ys := [t293.1]) ttok hS344 rfl rfl rfl rfl rfl rfl rfl rfl rfl rfl rfl rfl (fun A345 k346 w347 e348 hS349 => ?_)
        have hS350 := hS349.bring 1 rfl
        have hS351 := hS350.bring 1 rfl
        by_cases hk352 : decide ((t293.2.1.length : Int) + (([t293.1] : (List (List Int))).length : Int) ≤ 4294967296) = true
        case neg => rw [if_neg hk352] at hb282; cases hb282
        rw [if_pos hk352] at hb282
        refine RW.appendOwn ttok hS351 rfl rfl rfl rfl rfl rfl (by decide) rfl rfl (of_decide_eq_true hk352) (by decide) rfl rfl (fun A353 k354 w355 hS356 => ?_)
        refine RW.run ttok 2 rfl ?_
        have hS357 := hS356.bring 4 rfl
        refine RW.store ttok (A := []) hS357 rfl rfl rfl rfl rfl 2 rfl rfl rfl rfl rfl (fun w358 hS359 => ?_)
        refine RW.nil ?_
        refine WP.region ?_
        refine RW.run ttok 3 rfl ?_
        refine RW.nil ?_
        cases hb282
        exact ⟨_, [(0, .pointer (some p0_)), (1, .slice A1_ x1.length k1_), (6, .pointer (some ⟨g29, 0, none⟩)), (7, .int .i64 (w64 (s33.1 + 1)))], ⟨rfl, rfl, rfl, rfl, trivial⟩, rfl, A353, k354, A327, k328, A329, k330, A331, k332, A333, k334, A335, k336, (((((hS359.bring 0 rfl).bring 4 rfl).bring 4 rfl).bring 4 rfl).bring 4 rfl), rfl⟩
      · skip
        refine WP.block ?_
        refine WP.weak [(0, .pointer (some p0_)), (1, .slice A1_ x1.length k1_), (6, .pointer (some ⟨g29, 0, none⟩)), (7, .int .i64 s33.1), (8, .slice A287 ([] : (List Int)).length k288), (9, .int .i64 0)] ⟨rfl, rfl, rfl, rfl, rfl, rfl, trivial⟩ ?_
        refine WP.iter (fun (s292 : Int × (List Int) × (List (List Int)) × (List (List Int)) × (List (List Int)) × (List (List Int)) × (List D.Port) × (List D.Agent)) F w9 => ∃ A309 k310 A311 k312 A313 k314 A315 k316 A317 k318 A319 k320 A321 k322, St w w9 [Own ty103 [.slice A309 s292.2.1.length k310] s292.2.1, Own ty251 [.slice A311 s292.2.2.1.length k312] s292.2.2.1, Own ty251 [.slice A313 s292.2.2.2.1.length k314] s292.2.2.2.1, Own ty251 [.slice A315 s292.2.2.2.2.1.length k316] s292.2.2.2.2.1, Own ty251 [.slice A317 s292.2.2.2.2.2.1.length k318] s292.2.2.2.2.2.1, Box g29 [.slice A321 s292.2.2.2.2.2.2.2.length k322, .slice A319 s292.2.2.2.2.2.2.1.length k320, .slice A311 s292.2.2.1.length k312, .slice A313 s292.2.2.2.1.length k314, .slice A315 s292.2.2.2.2.1.length k316, .slice A317 s292.2.2.2.2.2.1.length k318] 253, Own ty110 [.slice A319 s292.2.2.2.2.2.2.1.length k320] s292.2.2.2.2.2.2.1, Own ty28 [.slice A321 s292.2.2.2.2.2.2.2.length k322] s292.2.2.2.2.2.2.2] ∧ F = [(0, .pointer (some p0_)), (1, .slice A1_ x1.length k1_), (6, .pointer (some ⟨g29, 0, none⟩)), (7, .int .i64 s33.1), (8, .slice A309 s292.2.1.length k310), (9, .int .i64 s292.1)]) _ hl339 ⟨A287, k288, A48, k49, A50, k51, A52, k53, A54, k55, A56, k57, A58, k59, hS291, rfl⟩ ?_
        rintro s292 F w364 _ o362 ⟨A309, k310, A311, k312, A313, k314, A315, k316, A317, k318, A319, k320, A321, k322, hS363, rfl⟩ hb360 ho361
        unfold m_spec_l27Begin_b5 at hb360
        refine WP.seq ?_
        refine WP.seq ?_
        refine WP.region ?_
        refine RW.run ttok 4 rfl ?_
        refine RW.load1 ttok rfl rfl rfl rfl rfl (At.ext (hE.trans hS363.ext) g0_) 0 rfl rfl rfl rfl ?_
        refine RW.run ttok 1 rfl ?_
        obtain ⟨x365, hx366, hb360⟩ := bind_some hb360
        refine RW.idx ttok (hE.trans hS363.ext) rfl rfl rfl rfl rfl rfl (by decide) rfl rfl h3 (idx_some hx366).1 (idx_some hx366).2 rfl rfl (fun p367 es368 ha369 hr370 => ?_)
        obtain ⟨A371, k372, A374, k375, A377, k378, e380, h373, h376, h379⟩ := ty200_open hr370; subst e380
        refine RW.run ttok 1 rfl ?_
        refine RW.load1 ttok rfl rfl rfl rfl rfl (At.ext (hE.trans hS363.ext) ha369) 0 rfl rfl rfl rfl ?_
        refine RW.run ttok 2 rfl ?_
        refine RW.nil ?_
        refine WP.cond (decide (s292.1 < (x365.Cells.length : Int))) rfl (fun hc => ?_) (fun hc => ?_)
        · skip
          rw [if_pos hc] at hb360
          refine WP.skip ?_
          refine WP.seq ?_
          refine WP.block ?_
          refine WP.region ?_
          refine RW.run ttok 5 rfl ?_
          refine RW.load1 ttok rfl rfl rfl rfl rfl (At.ext (hE.trans hS363.ext) g0_) 0 rfl rfl rfl rfl ?_
          refine RW.run ttok 1 rfl ?_
          obtain ⟨x381, hx382, hb360⟩ := bind_some hb360
          refine RW.idx ttok (hE.trans hS363.ext) rfl rfl rfl rfl rfl rfl (by decide) rfl rfl h3 (idx_some hx382).1 (idx_some hx382).2 rfl rfl (fun p383 es384 ha385 hr386 => ?_)
          obtain ⟨A387, k388, A390, k391, A393, k394, e396, h389, h392, h395⟩ := ty200_open hr386; subst e396
          refine RW.run ttok 1 rfl ?_
          refine RW.load1 ttok rfl rfl rfl rfl rfl (At.ext (hE.trans hS363.ext) ha385) 0 rfl rfl rfl rfl ?_
          refine RW.run ttok 1 rfl ?_
          obtain ⟨x397, hx398, hb360⟩ := bind_some hb360
          refine RW.idx ttok (hE.trans hS363.ext) rfl rfl rfl rfl rfl rfl (by decide) rfl rfl h389 (idx_some hx398).1 (idx_some hx398).2 rfl rfl (fun p399 es400 ha401 hr402 => ?_)
          obtain ⟨A403, k404, A406, k407, e409, h405, h408⟩ := ty248_open hr402; subst e409
          obtain ⟨r410, hx411, hb360⟩ := bind_some hb360
          refine RW.call rfl rfl rfl enters187 (spec_l27Links_cell_ok (W := w) (RR := _) (x0 := (⟨s292.2.2.2.2.2.2.2, s292.2.2.2.2.2.2.1, s292.2.2.1, s292.2.2.2.1, s292.2.2.2.2.1, s292.2.2.2.2.2.1⟩ : D.l27Links)) (x1 := x397) (((((((hS363.bring 4 rfl).bring 4 rfl).bring 4 rfl).bring 4 rfl).bring 6 rfl).bring 7 rfl).bring 7 rfl) (ty248.ext hE hr402) (At.ext hE ha401) hx411) (fun v412 w413 hR414 => ?_)
          obtain ⟨A415, k416, A417, k418, A419, k420, A421, k422, A423, k424, A425, k426, rfl, hS427⟩ := hR414
          refine RW.newSlice (U := tInt) (els := [.int .i64 r410.1]) (ys := [r410.1]) ttok (hS427.flatEls (U := tInt) (els := [.int .i64 r410.1]) (ys := [r410.1]) ⟨[.int .i64 r410.1], _, [], [], rfl, rfl, ⟨rfl, rfl⟩, ⟨rfl, rfl⟩⟩) rfl rfl rfl rfl rfl rfl rfl rfl rfl rfl rfl rfl (fun A428 k429 w430 e431 hS432 => ?_)
          have hS433 := hS432.bring 8 rfl
          by_cases hk434 : decide ((s292.2.1.length : Int) + (([r410.1] : (List Int)).length : Int) ≤ 4294967296) = true
          case neg => rw [if_neg hk434] at hb360; cases hb360
          rw [if_pos hk434] at hb360
          refine RW.appendRo ttok Flat.int hS433 rfl rfl rfl rfl rfl rfl (by decide) rfl rfl ((hS433.bring 1 rfl).own) (of_decide_eq_true hk434) (by decide) rfl rfl (fun A435 k436 w437 hS438 => ?_)
          refine RW.run ttok 1 rfl ?_
          refine RW.nil ?_
          refine WP.region ?_
          refine RW.run ttok 3 rfl ?_
          refine RW.nil ?_
          cases hb360
          exact ⟨_, [(0, .pointer (some p0_)), (1, .slice A1_ x1.length k1_), (6, .pointer (some ⟨g29, 0, none⟩)), (7, .int .i64 s33.1), (8, .slice A435 (s292.2.1 ++ ([r410.1] : (List Int))).length k436), (9, .int .i64 (w64 (s292.1 + 1)))], ⟨rfl, rfl, rfl, rfl, rfl, rfl, trivial⟩, rfl, A435, k436, A419, k420, A421, k422, A423, k424, A425, k426, A417, k418, A415, k416, (((((((((hS438.bring 3 rfl).bring 4 rfl).bring 4 rfl).bring 8 rfl).bring 8 rfl).bring 8 rfl).bring 8 rfl).bring 7 rfl).taken 8), rfl⟩
        · skip
          rw [if_neg (not_t hc)] at hb360
          refine WP.exit ?_
          cases hb360
          exact ⟨_, [(0, .pointer (some p0_)), (1, .slice A1_ x1.length k1_), (6, .pointer (some ⟨g29, 0, none⟩)), (7, .int .i64 s33.1), (8, .slice A309 s292.2.1.length k310)], ⟨rfl, rfl, rfl, rfl, rfl, trivial⟩, A309, k310, A311, k312, A313, k314, A315, k316, A317, k318, A319, k320, A321, k322, ho361, hS363, rfl⟩
    · skip
      rw [if_neg (not_t hc)] at hb282
      refine WP.exit ?_
      cases hb282
      exact ⟨_, [(0, .pointer (some p0_)), (1, .slice A1_ x1.length k1_), (6, .pointer (some ⟨g29, 0, none⟩))], ⟨rfl, rfl, rfl, trivial⟩, A48, k49, A50, k51, A52, k53, A54, k55, A56, k57, A58, k59, ho283, hS285, rfl⟩

theorem enters188 : Enters Try.prog 188 := ⟨_, _, Try.func188, rfl, by kernel_rfl⟩
def m_spec_l27Alive (fuel : Nat) (x0 : D.Grid) (x1 : D.Address) : Option (Bool) := ((m_spec_l00In fuel x1.Machine 0 (w64 ((x0.Shards.length : Int) - 1))).bind fun r14 => (if (!r14) = true then some false else ((idx x0.Shards x1.Machine).bind fun x23 => (if (x1.Kind == 1) = true then ((m_spec_l00In fuel x1.Index 0 (w64 ((x23.Cells.length : Int) - 1))).bind fun r41 => (if r41 = true then ((idx x23.Cells x1.Index).bind fun x49 => some (x49.Kind != 0)) else some false)) else (if (x1.Kind == 2) = true then ((m_spec_l00In fuel x1.Index 0 (w64 ((x23.Vars.length : Int) - 1))).bind fun r65 => (if r65 = true then ((idx x23.Vars x1.Index).bind fun x73 => some x73.Used) else some false)) else some false)))))

set_option maxRecDepth 100000 in
theorem spec_l27Alive_ok {W w : World} (hE : Ext W w) {p0_ : Addr} {c0_ : List Value} {x0 : D.Grid} {c1_ : List Value} {x1 : D.Address} (h0_ : ty64.ro W c0_ x0) (g0_ : At W p0_ c0_) (h1_ : ty62.ro W c1_ x1) {fuel : Nat} {r : Bool} (hm : m_spec_l27Alive fuel x0 x1 = some r) :
    Calls Try.prog 188 ⟨[.pointer (some p0_), .agg ⟨c1_⟩]⟩ w (Ret fun v w8 => v = .bool r ∧ St w w8 []) := by
  obtain ⟨A1, k2, e4, h3⟩ := ty64_open h0_; subst e4
  have e5 := ty62_open h1_; subst e5
  refine Calls.into Try.func188 rfl 70 rfl rfl _ rfl ?_
  unfold m_spec_l27Alive at hm
  have hS := St.start w
  refine WP.seq ?_
  refine WP.region ?_
  refine RW.new ttok hS rfl rfl rfl rfl (fun g6 w7 e10 hS11 => ?_)
  refine RW.run ttok 1 rfl ?_
  refine RW.nil ?_
  refine WP.seq ?_
  refine WP.seq ?_
  refine WP.drawnM 0 mixed 10 (by kernel_rfl) (by kernel_rfl) [([], 1023), ([0], 1022), ([], 1023), ([2], 1019), ([3], 1015), ([4], 1007), ([5], 991), ([6], 959), ([1, 7], 893), ([8], 767)] (by kernel_rfl) hS11.ext (fun hsk12 => ?_)
  have hS13 := hS11.step (Ext.draw _)
  refine DM.run (fuel := 6) ttok hsk12 [0, 2, 3, 4] 29 (by kernel_rfl) (by kernel_rfl) rfl ?_
  refine DM.load1 ttok hsk12 1 31 (by kernel_rfl) (by kernel_rfl) (by kernel_rfl) (by kernel_rfl) rfl (by kernel_rfl) rfl rfl rfl rfl rfl ((hS11.bring 0 rfl).box) 0 rfl rfl rfl rfl ?_
  refine DM.load1 ttok hsk12 5 63 (by kernel_rfl) (by kernel_rfl) (by kernel_rfl) (by kernel_rfl) rfl (by kernel_rfl) rfl rfl rfl rfl rfl (At.ext (hE.trans hS11.ext) g0_) 0 rfl rfl rfl rfl ?_
  refine DM.run (fuel := 2) ttok hsk12 [6, 7] 255 (by kernel_rfl) (by kernel_rfl) rfl ?_
  refine DM.weak [(0, .pointer (some p0_)), (3, .pointer (some ⟨g6, 0, none⟩)), (7, .int .i64 x1.Machine), (13, .int .i64 (w64 ((x0.Shards.length : Int) - 1)))] ⟨rfl, rfl, rfl, rfl, trivial⟩ ?_
  obtain ⟨r14, hx15, hm⟩ := bind_some hm
  refine DM.one hsk12 8 (by kernel_rfl) (LM.call hsk12 511 (by kernel_rfl) (by kernel_rfl) rfl rfl rfl rfl enters102 (spec_l00In_ok (hE.trans hS13.ext)  hx15) (fun v16 w17 hR18 => ?_))
  obtain ⟨rfl, hR19⟩ := hR18
  refine ⟨hR19.ext, ?_⟩
  have hS20 := hS13.join hR19
  refine DM.run (fuel := 0) ttok hsk12 [9] 1023 (by kernel_rfl) (by kernel_rfl) rfl ?_
  refine DM.done hsk12 (by kernel_rfl) ?_
  refine WP.cond (!r14) rfl (fun hc => ?_) (fun hc => ?_)
  · skip
    rw [if_pos hc] at hm
    refine WP.seq ?_
    refine WP.region ?_
    refine RW.run ttok 1 rfl ?_
    refine RW.nil ?_
    refine WP.ret ?_
    cases hm
    exact ⟨_, .cons (.tmp rfl) .nil, rfl, (hS20.taken 0)⟩
  · skip
    rw [if_neg (not_t hc)] at hm
    refine WP.skip ?_
    refine WP.seq ?_
    refine WP.drawnM 0 mixed 8 (by kernel_rfl) (by kernel_rfl) [([], 255), ([0], 254), ([1], 253), ([2], 251), ([], 255), ([4], 239), ([3, 5], 215), ([6, 0, 1, 2, 3, 4, 5, 6], 191)] (by kernel_rfl) hS20.ext (fun hsk21 => ?_)
    have hS22 := hS20.step (Ext.draw _)
    refine DM.run (fuel := 4) ttok hsk21 [0, 1, 2, 4] 23 (by kernel_rfl) (by kernel_rfl) rfl ?_
    refine DM.weak [(3, .pointer (some ⟨g6, 0, none⟩)), (18, .pointer (some p0_)), (20, .pointer (some ⟨g6, 0, none⟩))] ⟨rfl, rfl, rfl, trivial⟩ ?_
    refine DM.load1 ttok hsk21 3 31 (by kernel_rfl) (by kernel_rfl) (by kernel_rfl) (by kernel_rfl) rfl (by kernel_rfl) rfl rfl rfl rfl rfl (At.ext (hE.trans hS20.ext) g0_) 0 rfl rfl rfl rfl ?_
    refine DM.load1 ttok hsk21 5 63 (by kernel_rfl) (by kernel_rfl) (by kernel_rfl) (by kernel_rfl) rfl (by kernel_rfl) rfl rfl rfl rfl rfl ((hS20.bring 0 rfl).box) 0 rfl rfl rfl rfl ?_
    obtain ⟨x23, hx24, hm⟩ := bind_some hm
    refine DM.idx ttok (hE.trans hS20.ext) hsk21 6 127 (by kernel_rfl) (by kernel_rfl) (by kernel_rfl) (by kernel_rfl) rfl (by kernel_rfl) rfl rfl rfl rfl rfl rfl (by decide) rfl rfl h3 (idx_some hx24).1 (idx_some hx24).2 rfl rfl (fun p25 es26 ha27 hr28 => ?_)
    obtain ⟨A29, k30, A32, k33, A35, k36, e38, h31, h34, h37⟩ := ty200_open hr28; subst e38
    refine DM.run (fuel := 0) ttok hsk21 [7] 255 (by kernel_rfl) (by kernel_rfl) rfl ?_
    refine DM.done hsk21 (by kernel_rfl) ?_
    refine WP.seq ?_
    refine WP.seq ?_
    refine WP.region ?_
    refine RW.run ttok 1 rfl ?_
    refine RW.load1 ttok rfl rfl rfl rfl rfl ((hS22.bring 0 rfl).box) 1 rfl rfl rfl rfl ?_
    refine RW.nil ?_
    refine WP.block ?_
    refine WP.seq ?_
    refine WP.region ?_
    refine RW.run ttok 2 rfl ?_
    refine RW.nil ?_
    refine WP.cond (x1.Kind == 1) rfl (fun hc => ?_) (fun hc => ?_)
    · skip
      rw [if_pos hc] at hm
      refine WP.seq ?_
      refine WP.drawnM 0 mixed 22 (by kernel_rfl) (by kernel_rfl) [([], 4194303), ([0], 4194302), ([], 4194303), ([2], 4194299), ([3], 4194295), ([4], 4194287), ([5], 4194271), ([6], 4194239), ([1, 7], 4194173), ([8, 8], 4194047), ([9], 4193791), ([10, 9], 4192767), ([11, 9], 4191743), ([12, 9], 4189695), ([9], 4193791), ([14, 9], 4177407), ([13, 15, 9], 4152831), ([16, 9], 4128255), ([17, 9], 4062719), ([18, 9], 3931647), ([9, 19], 3669503), ([20, 9, 0, 1, 2, 3, 4, 5, 6, 7, 8, 9, 10, 11, 12, 13, 14, 15, 16, 17, 18, 19, 20], 3145727)] (by kernel_rfl) hS22.ext (fun hsk39 => ?_)
      have hS40 := hS22.step (Ext.draw _)
      refine DM.run (fuel := 18) ttok hsk39 [0, 2, 3, 4] 29 (by kernel_rfl) (by kernel_rfl) rfl ?_
      refine DM.weak [(3, .pointer (some ⟨g6, 0, none⟩)), (5, .pointer (some p25)), (27, .pointer (some ⟨g6, 2, none⟩)), (31, .pointer (some p25))] ⟨rfl, rfl, rfl, rfl, trivial⟩ ?_
      refine DM.load1 ttok hsk39 1 31 (by kernel_rfl) (by kernel_rfl) (by kernel_rfl) (by kernel_rfl) rfl (by kernel_rfl) rfl rfl rfl rfl rfl ((hS22.bring 0 rfl).box) 2 rfl rfl rfl rfl ?_
      refine DM.load1 ttok hsk39 5 63 (by kernel_rfl) (by kernel_rfl) (by kernel_rfl) (by kernel_rfl) rfl (by kernel_rfl) rfl rfl rfl rfl rfl (At.ext (hE.trans hS22.ext) ha27) 0 rfl rfl rfl rfl ?_
      refine DM.run (fuel := 14) ttok hsk39 [6, 7] 255 (by kernel_rfl) (by kernel_rfl) rfl ?_
      obtain ⟨r41, hx42, hm⟩ := bind_some hm
      refine DM.one hsk39 8 (by kernel_rfl) (LM.call hsk39 511 (by kernel_rfl) (by kernel_rfl) rfl rfl rfl rfl enters102 (spec_l00In_ok (hE.trans hS40.ext)  hx42) (fun v43 w44 hR45 => ?_))
      obtain ⟨rfl, hR46⟩ := hR45
      refine ⟨hR46.ext, ?_⟩
      have hS47 := hS40.join hR46
      refine DM.run (fuel := 12) ttok hsk39 [9] 1023 (by kernel_rfl) (by kernel_rfl) rfl ?_
      refine DM.weak [(3, .pointer (some ⟨g6, 0, none⟩)), (5, .pointer (some p25)), (36, .bool r41)] ⟨rfl, rfl, rfl, trivial⟩ ?_
      by_cases hg48 : r41 = true
      · skip
        rw [if_pos hg48] at hm
        refine DM.know 36 rfl (congrArg Value.bool hg48) ?_
        refine DM.run (fuel := 8) ttok hsk39 [10, 11, 12, 14] 24575 (by kernel_rfl) (by kernel_rfl) rfl ?_
        refine DM.load1 ttok hsk39 13 32767 (by kernel_rfl) (by kernel_rfl) (by kernel_rfl) (by kernel_rfl) rfl (by kernel_rfl) rfl rfl rfl rfl rfl (At.ext (hE.trans hS22.ext) ha27) 0 rfl rfl rfl rfl ?_
        refine DM.load1 ttok hsk39 15 65535 (by kernel_rfl) (by kernel_rfl) (by kernel_rfl) (by kernel_rfl) rfl (by kernel_rfl) rfl rfl rfl rfl rfl ((hS22.bring 0 rfl).box) 2 rfl rfl rfl rfl ?_
        obtain ⟨x49, hx50, hm⟩ := bind_some hm
        refine DM.idx ttok (hE.trans hS22.ext) hsk39 16 131071 (by kernel_rfl) (by kernel_rfl) (by kernel_rfl) (by kernel_rfl) rfl (by kernel_rfl) rfl rfl rfl rfl rfl rfl (by decide) rfl rfl h31 (idx_some hx50).1 (idx_some hx50).2 rfl rfl (fun p51 es52 ha53 hr54 => ?_)
        obtain ⟨A55, k56, A58, k59, e61, h57, h60⟩ := ty248_open hr54; subst e61
        refine DM.run (fuel := 4) ttok hsk39 [17] 262143 (by kernel_rfl) (by kernel_rfl) rfl ?_
        refine DM.weak [(36, .bool true), (44, .pointer (some p51))] ⟨rfl, rfl, trivial⟩ ?_
        refine DM.load1 ttok hsk39 18 524287 (by kernel_rfl) (by kernel_rfl) (by kernel_rfl) (by kernel_rfl) rfl (by kernel_rfl) rfl rfl rfl rfl rfl (At.ext (hE.trans hS22.ext) ha53) 0 rfl rfl rfl rfl ?_
        refine DM.run (fuel := 0) ttok hsk39 [19, 20, 21] 4194303 (by kernel_rfl) (by kernel_rfl) rfl ?_
        refine DM.done hsk39 (by kernel_rfl) ?_
        refine WP.ret ?_
        cases hm
        exact ⟨_, .cons (.tmp rfl) .nil, rfl, (hS47.taken 0)⟩
      · skip
        rw [if_neg hg48] at hm
        refine DM.know 36 rfl (congrArg Value.bool (Bool.eq_false_iff.2 hg48)) ?_
        refine DM.run (fuel := 0) ttok hsk39 [10, 11, 12, 13, 14, 15, 16, 17, 18, 19, 20, 21] 4194303 (by kernel_rfl) (by kernel_rfl) rfl ?_
        refine DM.weak [(4, .bool false)] ⟨rfl, trivial⟩ ?_
        refine DM.done hsk39 (by kernel_rfl) ?_
        refine WP.ret ?_
        cases hm
        exact ⟨_, .cons (.tmp rfl) .nil, rfl, (hS47.taken 0)⟩
    · skip
      rw [if_neg (not_t hc)] at hm
      refine WP.seq ?_
      refine WP.region ?_
      refine RW.run ttok 2 rfl ?_
      refine RW.nil ?_
      refine WP.cond (x1.Kind == 2) rfl (fun hc => ?_) (fun hc => ?_)
      · skip
        rw [if_pos hc] at hm
        refine WP.seq ?_
        refine WP.drawnM 0 mixed 21 (by kernel_rfl) (by kernel_rfl) [([], 2097151), ([0], 2097150), ([], 2097151), ([2], 2097147), ([3], 2097143), ([4], 2097135), ([5], 2097119), ([6], 2097087), ([1, 7], 2097021), ([8, 8], 2096895), ([9], 2096639), ([10, 9], 2095615), ([11, 9], 2094591), ([12, 9], 2092543), ([9], 2096639), ([14, 9], 2080255), ([13, 15, 9], 2055679), ([16, 9], 2031103), ([17, 9], 1965567), ([9, 18], 1834495), ([19, 9, 0, 1, 2, 3, 4, 5, 6, 7, 8, 9, 10, 11, 12, 13, 14, 15, 16, 17, 18, 19], 1572863)] (by kernel_rfl) hS22.ext (fun hsk62 => ?_)
        have hS63 := hS22.step (Ext.draw _)
        refine DM.run (fuel := 17) ttok hsk62 [0, 2, 3, 4] 29 (by kernel_rfl) (by kernel_rfl) rfl ?_
        refine DM.weak [(3, .pointer (some ⟨g6, 0, none⟩)), (5, .pointer (some p25)), (50, .pointer (some ⟨g6, 2, none⟩)), (54, .pointer (some (p25.add 1)))] ⟨rfl, rfl, rfl, rfl, trivial⟩ ?_
        refine DM.load1 ttok hsk62 1 31 (by kernel_rfl) (by kernel_rfl) (by kernel_rfl) (by kernel_rfl) rfl (by kernel_rfl) rfl rfl rfl rfl rfl ((hS22.bring 0 rfl).box) 2 rfl rfl rfl rfl ?_
        refine DM.load1 ttok hsk62 5 63 (by kernel_rfl) (by kernel_rfl) (by kernel_rfl) (by kernel_rfl) rfl (by kernel_rfl) rfl rfl rfl rfl rfl (At.ext (hE.trans hS22.ext) ha27) 1 rfl rfl rfl rfl ?_
        refine DM.run (fuel := 13) ttok hsk62 [6, 7] 255 (by kernel_rfl) (by kernel_rfl) rfl ?_
        obtain ⟨r65, hx66, hm⟩ := bind_some hm
        refine DM.one hsk62 8 (by kernel_rfl) (LM.call hsk62 511 (by kernel_rfl) (by kernel_rfl) rfl rfl rfl rfl enters102 (spec_l00In_ok (hE.trans hS63.ext)  hx66) (fun v67 w68 hR69 => ?_))
        obtain ⟨rfl, hR70⟩ := hR69
        refine ⟨hR70.ext, ?_⟩
        have hS71 := hS63.join hR70
        refine DM.run (fuel := 11) ttok hsk62 [9] 1023 (by kernel_rfl) (by kernel_rfl) rfl ?_
        refine DM.weak [(3, .pointer (some ⟨g6, 0, none⟩)), (5, .pointer (some p25)), (59, .bool r65)] ⟨rfl, rfl, rfl, trivial⟩ ?_
        by_cases hg72 : r65 = true
        · skip
          rw [if_pos hg72] at hm
          refine DM.know 59 rfl (congrArg Value.bool hg72) ?_
          refine DM.run (fuel := 7) ttok hsk62 [10, 11, 12, 14] 24575 (by kernel_rfl) (by kernel_rfl) rfl ?_
          refine DM.load1 ttok hsk62 13 32767 (by kernel_rfl) (by kernel_rfl) (by kernel_rfl) (by kernel_rfl) rfl (by kernel_rfl) rfl rfl rfl rfl rfl (At.ext (hE.trans hS22.ext) ha27) 1 rfl rfl rfl rfl ?_
          refine DM.load1 ttok hsk62 15 65535 (by kernel_rfl) (by kernel_rfl) (by kernel_rfl) (by kernel_rfl) rfl (by kernel_rfl) rfl rfl rfl rfl rfl ((hS22.bring 0 rfl).box) 2 rfl rfl rfl rfl ?_
          obtain ⟨x73, hx74, hm⟩ := bind_some hm
          refine DM.idx ttok (hE.trans hS22.ext) hsk62 16 131071 (by kernel_rfl) (by kernel_rfl) (by kernel_rfl) (by kernel_rfl) rfl (by kernel_rfl) rfl rfl rfl rfl rfl rfl (by decide) rfl rfl h34 (idx_some hx74).1 (idx_some hx74).2 rfl rfl (fun p75 es76 ha77 hr78 => ?_)
          have e79 := ty250_open hr78; subst e79
          refine DM.run (fuel := 3) ttok hsk62 [17] 262143 (by kernel_rfl) (by kernel_rfl) rfl ?_
          refine DM.weak [(59, .bool true), (67, .pointer (some p75))] ⟨rfl, rfl, trivial⟩ ?_
          refine DM.load1 ttok hsk62 18 524287 (by kernel_rfl) (by kernel_rfl) (by kernel_rfl) (by kernel_rfl) rfl (by kernel_rfl) rfl rfl rfl rfl rfl (At.ext (hE.trans hS22.ext) ha77) 0 rfl rfl rfl rfl ?_
          refine DM.run (fuel := 0) ttok hsk62 [19, 20] 2097151 (by kernel_rfl) (by kernel_rfl) rfl ?_
          refine DM.done hsk62 (by kernel_rfl) ?_
          refine WP.ret ?_
          cases hm
          exact ⟨_, .cons (.tmp rfl) .nil, rfl, (hS71.taken 0)⟩
        · skip
          rw [if_neg hg72] at hm
          refine DM.know 59 rfl (congrArg Value.bool (Bool.eq_false_iff.2 hg72)) ?_
          refine DM.run (fuel := 0) ttok hsk62 [10, 11, 12, 13, 14, 15, 16, 17, 18, 19, 20] 2097151 (by kernel_rfl) (by kernel_rfl) rfl ?_
          refine DM.weak [(4, .bool false)] ⟨rfl, trivial⟩ ?_
          refine DM.done hsk62 (by kernel_rfl) ?_
          refine WP.ret ?_
          cases hm
          exact ⟨_, .cons (.tmp rfl) .nil, rfl, (hS71.taken 0)⟩
      · skip
        rw [if_neg (not_t hc)] at hm
        refine WP.skip ?_
        refine WP.seq ?_
        refine WP.region ?_
        refine RW.run ttok 1 rfl ?_
        refine RW.nil ?_
        refine WP.ret ?_
        cases hm
        exact ⟨_, .cons (.tmp rfl) .nil, rfl, (hS22.taken 0)⟩

theorem enters190 : Enters Try.prog 190 := ⟨_, _, Try.func190, rfl, by kernel_rfl⟩
def m_spec_l27Links_item (fuel : Nat) (x0 : D.l27Links) (x1 : D.Address) : Option (Int) := (if (x1.Kind == 1) = true then ((idx x0.cells x1.Machine).bind fun x29 => ((idx x29 x1.Index).bind fun x38 => some x38)) else ((idx x0.vars x1.Machine).bind fun x46 => ((idx x46 x1.Index).bind fun x55 => some x55)))

set_option maxRecDepth 100000 in
theorem spec_l27Links_item_ok {W w : World} (hE : Ext W w) {p0_ : Addr} {c0_ : List Value} {x0 : D.l27Links} {c1_ : List Value} {x1 : D.Address} (h0_ : ty253.ro W c0_ x0) (g0_ : At W p0_ c0_) (h1_ : ty62.ro W c1_ x1) {fuel : Nat} {r : Int} (hm : m_spec_l27Links_item fuel x0 x1 = some r) :
    Calls Try.prog 190 ⟨[.pointer (some p0_), .agg ⟨c1_⟩]⟩ w (Ret fun v w8 => v = .int .i64 r ∧ St w w8 []) := by
  obtain ⟨A1, k2, A4, k5, A7, k10, A12, k13, A15, k16, A18, k19, e21, h3, h6, h11, h14, h17, h20⟩ := ty253_open h0_; subst e21
  have e22 := ty62_open h1_; subst e22
  refine Calls.into Try.func190 rfl 32 rfl rfl _ rfl ?_
  unfold m_spec_l27Links_item at hm
  have hS := St.start w
  refine WP.seq ?_
  refine WP.region ?_
  refine RW.new ttok hS rfl rfl rfl rfl (fun g23 w24 e25 hS26 => ?_)
  refine RW.run ttok 1 rfl ?_
  refine RW.nil ?_
  refine WP.seq ?_
  refine WP.seq ?_
  refine WP.region ?_
  refine RW.run ttok 1 rfl ?_
  refine RW.load1 ttok rfl rfl rfl rfl rfl ((hS26.bring 0 rfl).box) 1 rfl rfl rfl rfl ?_
  refine RW.run ttok 1 rfl ?_
  refine RW.nil ?_
  refine WP.cond (x1.Kind == 1) rfl (fun hc => ?_) (fun hc => ?_)
  · skip
    rw [if_pos hc] at hm
    refine WP.seq ?_
    refine WP.drawnM 0 mixed 13 (by kernel_rfl) (by kernel_rfl) [([], 8191), ([0], 8190), ([1], 8189), ([2], 8187), ([], 8191), ([4], 8175), ([3, 5], 8151), ([6], 8127), ([], 8191), ([8], 7935), ([7, 9], 7551), ([10], 7167), ([11, 0, 1, 2, 3, 4, 5, 6, 7, 8, 9, 10, 11], 6143)] (by kernel_rfl) hS26.ext (fun hsk27 => ?_)
    have hS28 := hS26.step (Ext.draw _)
    refine DM.run (fuel := 8) ttok hsk27 [0, 1, 2, 4, 8] 279 (by kernel_rfl) (by kernel_rfl) rfl ?_
    refine DM.weak [(4, .int .i64 0), (10, .pointer (some (p0_.add 2))), (12, .pointer (some ⟨g23, 0, none⟩)), (16, .pointer (some ⟨g23, 2, none⟩))] ⟨rfl, rfl, rfl, rfl, trivial⟩ ?_
    refine DM.load1 ttok hsk27 3 287 (by kernel_rfl) (by kernel_rfl) (by kernel_rfl) (by kernel_rfl) rfl (by kernel_rfl) rfl rfl rfl rfl rfl (At.ext (hE.trans hS26.ext) g0_) 2 rfl rfl rfl rfl ?_
    refine DM.load1 ttok hsk27 5 319 (by kernel_rfl) (by kernel_rfl) (by kernel_rfl) (by kernel_rfl) rfl (by kernel_rfl) rfl rfl rfl rfl rfl ((hS26.bring 0 rfl).box) 0 rfl rfl rfl rfl ?_
    obtain ⟨x29, hx30, hm⟩ := bind_some hm
    refine DM.idx ttok (hE.trans hS26.ext) hsk27 6 383 (by kernel_rfl) (by kernel_rfl) (by kernel_rfl) (by kernel_rfl) rfl (by kernel_rfl) rfl rfl rfl rfl rfl rfl (by decide) rfl rfl h11 (idx_some hx30).1 (idx_some hx30).2 rfl rfl (fun p31 es32 ha33 hr34 => ?_)
    obtain ⟨A35, k36, e37⟩ := ty103_form hr34; subst e37
    refine DM.load1 ttok hsk27 7 511 (by kernel_rfl) (by kernel_rfl) (by kernel_rfl) (by kernel_rfl) rfl (by kernel_rfl) rfl rfl rfl rfl rfl (At.ext (hE.trans hS26.ext) ha33) 0 rfl rfl rfl rfl ?_
    refine DM.load1 ttok hsk27 9 1023 (by kernel_rfl) (by kernel_rfl) (by kernel_rfl) (by kernel_rfl) rfl (by kernel_rfl) rfl rfl rfl rfl rfl ((hS26.bring 0 rfl).box) 2 rfl rfl rfl rfl ?_
    obtain ⟨x38, hx39, hm⟩ := bind_some hm
    refine DM.idx ttok (hE.trans hS26.ext) hsk27 10 2047 (by kernel_rfl) (by kernel_rfl) (by kernel_rfl) (by kernel_rfl) rfl (by kernel_rfl) rfl rfl rfl rfl rfl rfl (by decide) rfl rfl hr34 (idx_some hx39).1 (idx_some hx39).2 rfl rfl (fun p40 es41 ha42 hr43 => ?_)
    cases hr43
    refine DM.load1 ttok hsk27 11 4095 (by kernel_rfl) (by kernel_rfl) (by kernel_rfl) (by kernel_rfl) rfl (by kernel_rfl) rfl rfl rfl rfl rfl (At.ext (hE.trans hS26.ext) ha42) 0 rfl rfl rfl rfl ?_
    refine DM.run (fuel := 0) ttok hsk27 [12] 8191 (by kernel_rfl) (by kernel_rfl) rfl ?_
    refine DM.weak [(4, .int .i64 x38)] ⟨rfl, trivial⟩ ?_
    refine DM.done hsk27 (by kernel_rfl) ?_
    refine WP.ret ?_
    cases hm
    exact ⟨_, .cons (.tmp rfl) .nil, rfl, (hS28.taken 0)⟩
  · skip
    rw [if_neg (not_t hc)] at hm
    refine WP.skip ?_
    refine WP.seq ?_
    refine WP.drawnM 0 mixed 13 (by kernel_rfl) (by kernel_rfl) [([], 8191), ([0], 8190), ([1], 8189), ([2], 8187), ([], 8191), ([4], 8175), ([3, 5], 8151), ([6], 8127), ([], 8191), ([8], 7935), ([7, 9], 7551), ([10], 7167), ([11, 0, 1, 2, 3, 4, 5, 6, 7, 8, 9, 10, 11], 6143)] (by kernel_rfl) hS26.ext (fun hsk44 => ?_)
    have hS45 := hS26.step (Ext.draw _)
    refine DM.run (fuel := 8) ttok hsk44 [0, 1, 2, 4, 8] 279 (by kernel_rfl) (by kernel_rfl) rfl ?_
    refine DM.weak [(4, .int .i64 0), (22, .pointer (some (p0_.add 3))), (24, .pointer (some ⟨g23, 0, none⟩)), (28, .pointer (some ⟨g23, 2, none⟩))] ⟨rfl, rfl, rfl, rfl, trivial⟩ ?_
    refine DM.load1 ttok hsk44 3 287 (by kernel_rfl) (by kernel_rfl) (by kernel_rfl) (by kernel_rfl) rfl (by kernel_rfl) rfl rfl rfl rfl rfl (At.ext (hE.trans hS26.ext) g0_) 3 rfl rfl rfl rfl ?_
    refine DM.load1 ttok hsk44 5 319 (by kernel_rfl) (by kernel_rfl) (by kernel_rfl) (by kernel_rfl) rfl (by kernel_rfl) rfl rfl rfl rfl rfl ((hS26.bring 0 rfl).box) 0 rfl rfl rfl rfl ?_
    obtain ⟨x46, hx47, hm⟩ := bind_some hm
    refine DM.idx ttok (hE.trans hS26.ext) hsk44 6 383 (by kernel_rfl) (by kernel_rfl) (by kernel_rfl) (by kernel_rfl) rfl (by kernel_rfl) rfl rfl rfl rfl rfl rfl (by decide) rfl rfl h14 (idx_some hx47).1 (idx_some hx47).2 rfl rfl (fun p48 es49 ha50 hr51 => ?_)
    obtain ⟨A52, k53, e54⟩ := ty103_form hr51; subst e54
    refine DM.load1 ttok hsk44 7 511 (by kernel_rfl) (by kernel_rfl) (by kernel_rfl) (by kernel_rfl) rfl (by kernel_rfl) rfl rfl rfl rfl rfl (At.ext (hE.trans hS26.ext) ha50) 0 rfl rfl rfl rfl ?_
    refine DM.load1 ttok hsk44 9 1023 (by kernel_rfl) (by kernel_rfl) (by kernel_rfl) (by kernel_rfl) rfl (by kernel_rfl) rfl rfl rfl rfl rfl ((hS26.bring 0 rfl).box) 2 rfl rfl rfl rfl ?_
    obtain ⟨x55, hx56, hm⟩ := bind_some hm
    refine DM.idx ttok (hE.trans hS26.ext) hsk44 10 2047 (by kernel_rfl) (by kernel_rfl) (by kernel_rfl) (by kernel_rfl) rfl (by kernel_rfl) rfl rfl rfl rfl rfl rfl (by decide) rfl rfl hr51 (idx_some hx56).1 (idx_some hx56).2 rfl rfl (fun p57 es58 ha59 hr60 => ?_)
    cases hr60
    refine DM.load1 ttok hsk44 11 4095 (by kernel_rfl) (by kernel_rfl) (by kernel_rfl) (by kernel_rfl) rfl (by kernel_rfl) rfl rfl rfl rfl rfl (At.ext (hE.trans hS26.ext) ha59) 0 rfl rfl rfl rfl ?_
    refine DM.run (fuel := 0) ttok hsk44 [12] 8191 (by kernel_rfl) (by kernel_rfl) rfl ?_
    refine DM.weak [(4, .int .i64 x55)] ⟨rfl, trivial⟩ ?_
    refine DM.done hsk44 (by kernel_rfl) ?_
    refine WP.ret ?_
    cases hm
    exact ⟨_, .cons (.tmp rfl) .nil, rfl, (hS45.taken 0)⟩

end Go.E
