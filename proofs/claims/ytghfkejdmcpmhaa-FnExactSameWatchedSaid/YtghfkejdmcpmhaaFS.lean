/- Models of functions and proofs that the code runs as they say (written by program). Conditions: the model gives a value. -/
import Derived.Test.YtghfkejdmcpmhaaIter
namespace Go.E
open Go.RowKit Go.Proofs
set_option linter.unusedVariables false
set_option linter.unusedSimpArgs false

theorem enters83 : Enters Try.prog 83 := ⟨_, _, Try.func83, rfl, by kernel_rfl⟩
def m_laws_szInt64S (fuel : Nat) (x0 : (List Int)) (x1 : Int) : Option (Int) := (if (decide ((w64 (x1 - (x0.length : Int))) < 0)) = true then some (-1) else some (w64 (x1 - (x0.length : Int))))

set_option maxRecDepth 100000 in
theorem laws_szInt64S_ok {w : World} {A0_ : Option Addr} {k0_ : Nat} {x0 : (List Int)} {x1 : Int} (h0_ : ty72.ro w [.slice A0_ x0.length k0_] x0) {fuel : Nat} {r : Int} (hm : m_laws_szInt64S fuel x0 x1 = some r) :
    Calls Try.prog 83 ⟨[.slice A0_ x0.length k0_, .int .i64 x1]⟩ w (Ret fun v w8 => v = .int .i64 r ∧ St w w8 []) := by
  refine Calls.into Try.func83 rfl 12 rfl rfl _ rfl ?_
  unfold m_laws_szInt64S at hm
  have hS := St.start w
  refine WP.seq ?_
  refine WP.region ?_
  refine RW.run ttok 1 rfl ?_
  refine RW.nil ?_
  refine WP.seq ?_
  refine WP.region ?_
  refine RW.run ttok 5 rfl ?_
  refine RW.nil ?_
  refine WP.seq ?_
  refine WP.seq ?_
  refine WP.region ?_
  refine RW.run ttok 2 rfl ?_
  refine RW.nil ?_
  refine WP.cond (decide ((w64 (x1 - (x0.length : Int))) < 0)) rfl (fun hc => ?_) (fun hc => ?_)
  · skip
    rw [if_pos hc] at hm
    refine WP.seq ?_
    refine WP.region ?_
    refine RW.run ttok 1 rfl ?_
    refine RW.nil ?_
    refine WP.ret ?_
    cases hm
    exact ⟨_, .cons (.tmp rfl) .nil, rfl, (hS.taken 0)⟩
  · skip
    rw [if_neg (not_t hc)] at hm
    refine WP.skip ?_
    refine WP.seq ?_
    refine WP.region ?_
    refine RW.run ttok 2 rfl ?_
    refine RW.nil ?_
    refine WP.ret ?_
    cases hm
    exact ⟨_, .cons (.tmp rfl) .nil, rfl, (hS.taken 0)⟩

theorem enters168 : Enters Try.prog 168 := ⟨_, _, Try.func168, rfl, by kernel_rfl⟩
def m_laws_szAddressS (fuel : Nat) (x0 : (List D.Address)) (x1 : Int) : Option (Int) := (if (decide ((w64 (x1 - (x0.length : Int))) < 0)) = true then some (-1) else some (w64 (x1 - (x0.length : Int))))

set_option maxRecDepth 100000 in
theorem laws_szAddressS_ok {w : World} {A0_ : Option Addr} {k0_ : Nat} {x0 : (List D.Address)} {x1 : Int} (h0_ : ty202.ro w [.slice A0_ x0.length k0_] x0) {fuel : Nat} {r : Int} (hm : m_laws_szAddressS fuel x0 x1 = some r) :
    Calls Try.prog 168 ⟨[.slice A0_ x0.length k0_, .int .i64 x1]⟩ w (Ret fun v w8 => v = .int .i64 r ∧ St w w8 []) := by
  refine Calls.into Try.func168 rfl 12 rfl rfl _ rfl ?_
  unfold m_laws_szAddressS at hm
  have hS := St.start w
  refine WP.seq ?_
  refine WP.region ?_
  refine RW.run ttok 1 rfl ?_
  refine RW.nil ?_
  refine WP.seq ?_
  refine WP.region ?_
  refine RW.run ttok 5 rfl ?_
  refine RW.nil ?_
  refine WP.seq ?_
  refine WP.seq ?_
  refine WP.region ?_
  refine RW.run ttok 2 rfl ?_
  refine RW.nil ?_
  refine WP.cond (decide ((w64 (x1 - (x0.length : Int))) < 0)) rfl (fun hc => ?_) (fun hc => ?_)
  · skip
    rw [if_pos hc] at hm
    refine WP.seq ?_
    refine WP.region ?_
    refine RW.run ttok 1 rfl ?_
    refine RW.nil ?_
    refine WP.ret ?_
    cases hm
    exact ⟨_, .cons (.tmp rfl) .nil, rfl, (hS.taken 0)⟩
  · skip
    rw [if_neg (not_t hc)] at hm
    refine WP.skip ?_
    refine WP.seq ?_
    refine WP.region ?_
    refine RW.run ttok 2 rfl ?_
    refine RW.nil ?_
    refine WP.ret ?_
    cases hm
    exact ⟨_, .cons (.tmp rfl) .nil, rfl, (hS.taken 0)⟩

theorem enters124 : Enters Try.prog 124 := ⟨_, _, Try.func124, rfl, by kernel_rfl⟩
def m_laws_szShardCell (fuel : Nat) (x0 : D.ShardCell) (x1 : Int) : Option (Int) := ((m_laws_szInt64S fuel x0.Data x1).bind fun r12 => (if (decide (r12 < 0)) = true then some (-1) else ((m_laws_szAddressS fuel x0.Aux r12).bind fun r19 => (if (decide (r19 < 0)) = true then some (-1) else some r19))))

set_option maxRecDepth 100000 in
theorem laws_szShardCell_ok {w : World} {c0_ : List Value} {x0 : D.ShardCell} {x1 : Int} (h0_ : ty204.ro w c0_ x0) {fuel : Nat} {r : Int} (hm : m_laws_szShardCell fuel x0 x1 = some r) :
    Calls Try.prog 124 ⟨[.agg ⟨c0_⟩, .int .i64 x1]⟩ w (Ret fun v w8 => v = .int .i64 r ∧ St w w8 []) := by
  obtain ⟨A1, k2, A4, k5, e7, h3, h6⟩ := ty204_open h0_; subst e7
  refine Calls.into Try.func124 rfl 18 rfl rfl _ rfl ?_
  unfold m_laws_szShardCell at hm
  have hS := St.start w
  refine WP.seq ?_
  refine WP.region ?_
  refine RW.new ttok hS rfl rfl rfl rfl (fun g8 w9 e10 hS11 => ?_)
  refine RW.run ttok 1 rfl ?_
  refine RW.nil ?_
  refine WP.seq ?_
  refine WP.region ?_
  refine RW.run ttok 1 rfl ?_
  refine RW.load1 ttok rfl rfl rfl rfl rfl ((hS11.bring 0 rfl).box) 3 rfl rfl rfl rfl ?_
  refine RW.run ttok 1 rfl ?_
  obtain ⟨r12, hx13, hm⟩ := bind_some hm
  refine RW.call rfl rfl rfl enters83 (laws_szInt64S_ok (ty72.ext hS11.ext h3) hx13) (fun v14 w15 hR16 => ?_)
  obtain ⟨rfl, hR17⟩ := hR16
  have hS18 := hS11.join hR17
  refine RW.run ttok 1 rfl ?_
  refine RW.nil ?_
  refine WP.seq ?_
  refine WP.seq ?_
  refine WP.region ?_
  refine RW.run ttok 2 rfl ?_
  refine RW.nil ?_
  refine WP.cond (decide (r12 < 0)) rfl (fun hc => ?_) (fun hc => ?_)
  · skip
    rw [if_pos hc] at hm
    refine WP.seq ?_
    refine WP.region ?_
    refine RW.run ttok 1 rfl ?_
    refine RW.nil ?_
    refine WP.ret ?_
    cases hm
    exact ⟨_, .cons (.tmp rfl) .nil, rfl, (hS18.taken 0)⟩
  · skip
    rw [if_neg (not_t hc)] at hm
    refine WP.skip ?_
    refine WP.seq ?_
    refine WP.region ?_
    refine RW.run ttok 1 rfl ?_
    refine RW.load1 ttok rfl rfl rfl rfl rfl ((hS18.bring 0 rfl).box) 4 rfl rfl rfl rfl ?_
    refine RW.run ttok 1 rfl ?_
    obtain ⟨r19, hx20, hm⟩ := bind_some hm
    refine RW.call rfl rfl rfl enters168 (laws_szAddressS_ok (ty202.ext hS18.ext h6) hx20) (fun v21 w22 hR23 => ?_)
    obtain ⟨rfl, hR24⟩ := hR23
    have hS25 := hS18.join hR24
    refine RW.run ttok 1 rfl ?_
    refine RW.nil ?_
    refine WP.seq ?_
    refine WP.seq ?_
    refine WP.region ?_
    refine RW.run ttok 2 rfl ?_
    refine RW.nil ?_
    refine WP.cond (decide (r19 < 0)) rfl (fun hc => ?_) (fun hc => ?_)
    · skip
      rw [if_pos hc] at hm
      refine WP.seq ?_
      refine WP.region ?_
      refine RW.run ttok 1 rfl ?_
      refine RW.nil ?_
      refine WP.ret ?_
      cases hm
      exact ⟨_, .cons (.tmp rfl) .nil, rfl, (hS25.taken 0)⟩
    · skip
      rw [if_neg (not_t hc)] at hm
      refine WP.skip ?_
      refine WP.seq ?_
      refine WP.region ?_
      refine RW.run ttok 2 rfl ?_
      refine RW.nil ?_
      refine WP.ret ?_
      cases hm
      exact ⟨_, .cons (.tmp rfl) .nil, rfl, (hS25.taken 0)⟩

theorem enters48 : Enters Try.prog 48 := ⟨_, _, Try.func48, rfl, by kernel_rfl⟩
def m_laws_szShardCellS_j1 (fuel : Nat) (t2 : Int) : Option Int := some t2
def m_laws_szShardCellS_b1 (fuel : Nat) (x0 : (List D.ShardCell)) (s1 : Int × Int) : Option (Rd (Int × Int) (Int) (Int)) := (if (decide (s1.2 < (x0.length : Int))) = true then ((idx x0 s1.2).bind fun x17 => ((m_laws_szShardCell fuel x17 s1.1).bind fun r30 => (if (decide (r30 < 0)) = true then some (.ret (-1)) else some (.next (r30, w64 (s1.2 + 1)))))) else some (.brk s1.1))
def m_laws_szShardCellS (fuel : Nat) (x0 : (List D.ShardCell)) (x1 : Int) : Option (Int) := (if (decide ((w64 (x1 - (x0.length : Int))) < 0)) = true then some (-1) else ((iter (m_laws_szShardCellS_b1 fuel x0) fuel (w64 (x1 - (x0.length : Int)), 0)).bind fun o => aft o (m_laws_szShardCellS_j1 fuel)))

set_option maxRecDepth 100000 in
theorem laws_szShardCellS_ok {w : World} {A0_ : Option Addr} {k0_ : Nat} {x0 : (List D.ShardCell)} {x1 : Int} (h0_ : ty22.ro w [.slice A0_ x0.length k0_] x0) {fuel : Nat} {r : Int} (hm : m_laws_szShardCellS fuel x0 x1 = some r) :
    Calls Try.prog 48 ⟨[.slice A0_ x0.length k0_, .int .i64 x1]⟩ w (Ret fun v w8 => v = .int .i64 r ∧ St w w8 []) := by
  refine Calls.into Try.func48 rfl 27 rfl rfl _ rfl ?_
  unfold m_laws_szShardCellS at hm
  have hS := St.start w
  refine WP.seq ?_
  refine WP.region ?_
  refine RW.run ttok 1 rfl ?_
  refine RW.nil ?_
  refine WP.seq ?_
  refine WP.region ?_
  refine RW.run ttok 5 rfl ?_
  refine RW.nil ?_
  refine WP.seq ?_
  refine WP.seq ?_
  refine WP.region ?_
  refine RW.run ttok 2 rfl ?_
  refine RW.nil ?_
  refine WP.cond (decide ((w64 (x1 - (x0.length : Int))) < 0)) rfl (fun hc => ?_) (fun hc => ?_)
  · skip
    rw [if_pos hc] at hm
    refine WP.seq ?_
    refine WP.region ?_
    refine RW.run ttok 1 rfl ?_
    refine RW.nil ?_
    refine WP.ret ?_
    cases hm
    exact ⟨_, .cons (.tmp rfl) .nil, rfl, (hS.taken 0)⟩
  · skip
    rw [if_neg (not_t hc)] at hm
    refine WP.skip ?_
    refine WP.seq ?_
    refine WP.seq ?_
    refine WP.region ?_
    refine RW.run ttok 1 rfl ?_
    refine RW.nil ?_
    obtain ⟨o8, hl9, hm⟩ := bind_some hm
    refine WP.cut (fun (t2 : Int) F w9 => o8 = .inl t2 ∧ Ext w w9 ∧ St w w9 [] ∧ F = [(1, .int .i64 t2)]) ?_ ?_
    · skip
      rintro t2 F w7 ⟨ho11, hE6, hS10, rfl⟩
      subst ho11
      rw [aft_inl] at hm
      unfold m_laws_szShardCellS_j1 at hm
      refine WP.seq ?_
      refine WP.region ?_
      refine RW.run ttok 2 rfl ?_
      refine RW.nil ?_
      refine WP.ret ?_
      cases hm
      exact ⟨_, .cons (.tmp rfl) .nil, rfl, (hS10.taken 0)⟩
    · skip
      refine WP.block ?_
      refine WP.weak [(0, .slice A0_ x0.length k0_), (1, .int .i64 (w64 (x1 - (x0.length : Int)))), (5, .int .i64 0)] ⟨rfl, rfl, rfl, trivial⟩ ?_
      refine WP.iter (fun (s1 : Int × Int) F w9 => Ext w w9 ∧ St w w9 [] ∧ F = [(0, .slice A0_ x0.length k0_), (1, .int .i64 s1.1), (5, .int .i64 s1.2)]) _ hl9 ⟨(Ext.refl _), (hS.taken 0), rfl⟩ ?_
      rintro s1 F w16 _ o14 ⟨hE5, hS15, rfl⟩ hb12 ho13
      unfold m_laws_szShardCellS_b1 at hb12
      refine WP.seq ?_
      refine WP.seq ?_
      refine WP.region ?_
      refine RW.run ttok 4 rfl ?_
      refine RW.nil ?_
      refine WP.cond (decide (s1.2 < (x0.length : Int))) rfl (fun hc => ?_) (fun hc => ?_)
      · skip
        rw [if_pos hc] at hb12
        refine WP.skip ?_
        refine WP.seq ?_
        refine WP.block ?_
        refine WP.seq ?_
        refine WP.region ?_
        refine RW.run ttok 2 rfl ?_
        obtain ⟨x17, hx18, hb12⟩ := bind_some hb12
        refine RW.idx ttok hS15.ext rfl rfl rfl rfl rfl rfl (by decide) rfl rfl h0_ (idx_some hx18).1 (idx_some hx18).2 rfl rfl (fun p19 es20 ha21 hr22 => ?_)
        obtain ⟨A23, k24, A26, k27, e29, h25, h28⟩ := ty204_open hr22; subst e29
        refine RW.loadN ttok rfl rfl rfl rfl rfl (At.ext hS15.ext ha21) rfl rfl rfl ?_
        refine RW.run ttok 1 rfl ?_
        obtain ⟨r30, hx31, hb12⟩ := bind_some hb12
        refine RW.call rfl rfl rfl enters124 (laws_szShardCell_ok (ty204.ext hS15.ext hr22) hx31) (fun v32 w33 hR34 => ?_)
        obtain ⟨rfl, hR35⟩ := hR34
        have hS36 := hS15.join hR35
        refine RW.run ttok 1 rfl ?_
        refine RW.nil ?_
        refine WP.seq ?_
        refine WP.region ?_
        refine RW.run ttok 2 rfl ?_
        refine RW.nil ?_
        refine WP.cond (decide (r30 < 0)) rfl (fun hc => ?_) (fun hc => ?_)
        · skip
          rw [if_pos hc] at hb12
          refine WP.seq ?_
          refine WP.region ?_
          refine RW.run ttok 1 rfl ?_
          refine RW.nil ?_
          refine WP.ret ?_
          cases hb12
          cases ho13
          have hm : some _ = some _ := hm
          cases hm
          exact ⟨_, .cons (.tmp rfl) .nil, rfl, (hS36.taken 0)⟩
        · skip
          rw [if_neg (not_t hc)] at hb12
          refine WP.skip ?_
          refine WP.region ?_
          refine RW.run ttok 3 rfl ?_
          refine RW.nil ?_
          cases hb12
          exact ⟨_, [(0, .slice A0_ x0.length k0_), (1, .int .i64 r30), (5, .int .i64 (w64 (s1.2 + 1)))], ⟨rfl, rfl, rfl, trivial⟩, rfl, (hE5.trans hR35.ext), (hS36.taken 0), rfl⟩
      · skip
        rw [if_neg (not_t hc)] at hb12
        refine WP.exit ?_
        cases hb12
        exact ⟨_, [(1, .int .i64 s1.1)], ⟨rfl, trivial⟩, ho13, hE5, (hS15.taken 0), rfl⟩

theorem enters49 : Enters Try.prog 49 := ⟨_, _, Try.func49, rfl, by kernel_rfl⟩
def m_laws_szShardVarS (fuel : Nat) (x0 : (List D.ShardVar)) (x1 : Int) : Option (Int) := (if (decide ((w64 (x1 - (x0.length : Int))) < 0)) = true then some (-1) else some (w64 (x1 - (x0.length : Int))))

set_option maxRecDepth 100000 in
theorem laws_szShardVarS_ok {w : World} {A0_ : Option Addr} {k0_ : Nat} {x0 : (List D.ShardVar)} {x1 : Int} (h0_ : ty23.ro w [.slice A0_ x0.length k0_] x0) {fuel : Nat} {r : Int} (hm : m_laws_szShardVarS fuel x0 x1 = some r) :
    Calls Try.prog 49 ⟨[.slice A0_ x0.length k0_, .int .i64 x1]⟩ w (Ret fun v w8 => v = .int .i64 r ∧ St w w8 []) := by
  refine Calls.into Try.func49 rfl 12 rfl rfl _ rfl ?_
  unfold m_laws_szShardVarS at hm
  have hS := St.start w
  refine WP.seq ?_
  refine WP.region ?_
  refine RW.run ttok 1 rfl ?_
  refine RW.nil ?_
  refine WP.seq ?_
  refine WP.region ?_
  refine RW.run ttok 5 rfl ?_
  refine RW.nil ?_
  refine WP.seq ?_
  refine WP.seq ?_
  refine WP.region ?_
  refine RW.run ttok 2 rfl ?_
  refine RW.nil ?_
  refine WP.cond (decide ((w64 (x1 - (x0.length : Int))) < 0)) rfl (fun hc => ?_) (fun hc => ?_)
  · skip
    rw [if_pos hc] at hm
    refine WP.seq ?_
    refine WP.region ?_
    refine RW.run ttok 1 rfl ?_
    refine RW.nil ?_
    refine WP.ret ?_
    cases hm
    exact ⟨_, .cons (.tmp rfl) .nil, rfl, (hS.taken 0)⟩
  · skip
    rw [if_neg (not_t hc)] at hm
    refine WP.skip ?_
    refine WP.seq ?_
    refine WP.region ?_
    refine RW.run ttok 2 rfl ?_
    refine RW.nil ?_
    refine WP.ret ?_
    cases hm
    exact ⟨_, .cons (.tmp rfl) .nil, rfl, (hS.taken 0)⟩

theorem enters50 : Enters Try.prog 50 := ⟨_, _, Try.func50, rfl, by kernel_rfl⟩
def m_laws_szShardRedexS (fuel : Nat) (x0 : (List D.ShardRedex)) (x1 : Int) : Option (Int) := (if (decide ((w64 (x1 - (x0.length : Int))) < 0)) = true then some (-1) else some (w64 (x1 - (x0.length : Int))))

set_option maxRecDepth 100000 in
theorem laws_szShardRedexS_ok {w : World} {A0_ : Option Addr} {k0_ : Nat} {x0 : (List D.ShardRedex)} {x1 : Int} (h0_ : ty24.ro w [.slice A0_ x0.length k0_] x0) {fuel : Nat} {r : Int} (hm : m_laws_szShardRedexS fuel x0 x1 = some r) :
    Calls Try.prog 50 ⟨[.slice A0_ x0.length k0_, .int .i64 x1]⟩ w (Ret fun v w8 => v = .int .i64 r ∧ St w w8 []) := by
  refine Calls.into Try.func50 rfl 12 rfl rfl _ rfl ?_
  unfold m_laws_szShardRedexS at hm
  have hS := St.start w
  refine WP.seq ?_
  refine WP.region ?_
  refine RW.run ttok 1 rfl ?_
  refine RW.nil ?_
  refine WP.seq ?_
  refine WP.region ?_
  refine RW.run ttok 5 rfl ?_
  refine RW.nil ?_
  refine WP.seq ?_
  refine WP.seq ?_
  refine WP.region ?_
  refine RW.run ttok 2 rfl ?_
  refine RW.nil ?_
  refine WP.cond (decide ((w64 (x1 - (x0.length : Int))) < 0)) rfl (fun hc => ?_) (fun hc => ?_)
  · skip
    rw [if_pos hc] at hm
    refine WP.seq ?_
    refine WP.region ?_
    refine RW.run ttok 1 rfl ?_
    refine RW.nil ?_
    refine WP.ret ?_
    cases hm
    exact ⟨_, .cons (.tmp rfl) .nil, rfl, (hS.taken 0)⟩
  · skip
    rw [if_neg (not_t hc)] at hm
    refine WP.skip ?_
    refine WP.seq ?_
    refine WP.region ?_
    refine RW.run ttok 2 rfl ?_
    refine RW.nil ?_
    refine WP.ret ?_
    cases hm
    exact ⟨_, .cons (.tmp rfl) .nil, rfl, (hS.taken 0)⟩

theorem enters11 : Enters Try.prog 11 := ⟨_, _, Try.func11, rfl, by kernel_rfl⟩
def m_laws_szShard (fuel : Nat) (x0 : D.Shard) (x1 : Int) : Option (Int) := ((m_laws_szShardCellS fuel x0.Cells x1).bind fun r15 => (if (decide (r15 < 0)) = true then some (-1) else ((m_laws_szShardVarS fuel x0.Vars r15).bind fun r22 => (if (decide (r22 < 0)) = true then some (-1) else ((m_laws_szShardRedexS fuel x0.Redexes r22).bind fun r29 => (if (decide (r29 < 0)) = true then some (-1) else some r29))))))

set_option maxRecDepth 100000 in
theorem laws_szShard_ok {w : World} {c0_ : List Value} {x0 : D.Shard} {x1 : Int} (h0_ : ty26.ro w c0_ x0) {fuel : Nat} {r : Int} (hm : m_laws_szShard fuel x0 x1 = some r) :
    Calls Try.prog 11 ⟨[.agg ⟨c0_⟩, .int .i64 x1]⟩ w (Ret fun v w8 => v = .int .i64 r ∧ St w w8 []) := by
  obtain ⟨A1, k2, A4, k5, A7, k8, e10, h3, h6, h9⟩ := ty26_open h0_; subst e10
  refine Calls.into Try.func11 rfl 24 rfl rfl _ rfl ?_
  unfold m_laws_szShard at hm
  have hS := St.start w
  refine WP.seq ?_
  refine WP.region ?_
  refine RW.new ttok hS rfl rfl rfl rfl (fun g11 w12 e13 hS14 => ?_)
  refine RW.run ttok 1 rfl ?_
  refine RW.nil ?_
  refine WP.seq ?_
  refine WP.region ?_
  refine RW.run ttok 1 rfl ?_
  refine RW.load1 ttok rfl rfl rfl rfl rfl ((hS14.bring 0 rfl).box) 0 rfl rfl rfl rfl ?_
  refine RW.run ttok 1 rfl ?_
  obtain ⟨r15, hx16, hm⟩ := bind_some hm
  refine RW.call rfl rfl rfl enters48 (laws_szShardCellS_ok (ty22.ext hS14.ext h3) hx16) (fun v17 w18 hR19 => ?_)
  obtain ⟨rfl, hR20⟩ := hR19
  have hS21 := hS14.join hR20
  refine RW.run ttok 1 rfl ?_
  refine RW.nil ?_
  refine WP.seq ?_
  refine WP.seq ?_
  refine WP.region ?_
  refine RW.run ttok 2 rfl ?_
  refine RW.nil ?_
  refine WP.cond (decide (r15 < 0)) rfl (fun hc => ?_) (fun hc => ?_)
  · skip
    rw [if_pos hc] at hm
    refine WP.seq ?_
    refine WP.region ?_
    refine RW.run ttok 1 rfl ?_
    refine RW.nil ?_
    refine WP.ret ?_
    cases hm
    exact ⟨_, .cons (.tmp rfl) .nil, rfl, (hS21.taken 0)⟩
  · skip
    rw [if_neg (not_t hc)] at hm
    refine WP.skip ?_
    refine WP.seq ?_
    refine WP.region ?_
    refine RW.run ttok 1 rfl ?_
    refine RW.load1 ttok rfl rfl rfl rfl rfl ((hS21.bring 0 rfl).box) 1 rfl rfl rfl rfl ?_
    refine RW.run ttok 1 rfl ?_
    obtain ⟨r22, hx23, hm⟩ := bind_some hm
    refine RW.call rfl rfl rfl enters49 (laws_szShardVarS_ok (ty23.ext hS21.ext h6) hx23) (fun v24 w25 hR26 => ?_)
    obtain ⟨rfl, hR27⟩ := hR26
    have hS28 := hS21.join hR27
    refine RW.run ttok 1 rfl ?_
    refine RW.nil ?_
    refine WP.seq ?_
    refine WP.seq ?_
    refine WP.region ?_
    refine RW.run ttok 2 rfl ?_
    refine RW.nil ?_
    refine WP.cond (decide (r22 < 0)) rfl (fun hc => ?_) (fun hc => ?_)
    · skip
      rw [if_pos hc] at hm
      refine WP.seq ?_
      refine WP.region ?_
      refine RW.run ttok 1 rfl ?_
      refine RW.nil ?_
      refine WP.ret ?_
      cases hm
      exact ⟨_, .cons (.tmp rfl) .nil, rfl, (hS28.taken 0)⟩
    · skip
      rw [if_neg (not_t hc)] at hm
      refine WP.skip ?_
      refine WP.seq ?_
      refine WP.region ?_
      refine RW.run ttok 1 rfl ?_
      refine RW.load1 ttok rfl rfl rfl rfl rfl ((hS28.bring 0 rfl).box) 2 rfl rfl rfl rfl ?_
      refine RW.run ttok 1 rfl ?_
      obtain ⟨r29, hx30, hm⟩ := bind_some hm
      refine RW.call rfl rfl rfl enters50 (laws_szShardRedexS_ok (ty24.ext hS28.ext h9) hx30) (fun v31 w32 hR33 => ?_)
      obtain ⟨rfl, hR34⟩ := hR33
      have hS35 := hS28.join hR34
      refine RW.run ttok 1 rfl ?_
      refine RW.nil ?_
      refine WP.seq ?_
      refine WP.seq ?_
      refine WP.region ?_
      refine RW.run ttok 2 rfl ?_
      refine RW.nil ?_
      refine WP.cond (decide (r29 < 0)) rfl (fun hc => ?_) (fun hc => ?_)
      · skip
        rw [if_pos hc] at hm
        refine WP.seq ?_
        refine WP.region ?_
        refine RW.run ttok 1 rfl ?_
        refine RW.nil ?_
        refine WP.ret ?_
        cases hm
        exact ⟨_, .cons (.tmp rfl) .nil, rfl, (hS35.taken 0)⟩
      · skip
        rw [if_neg (not_t hc)] at hm
        refine WP.skip ?_
        refine WP.seq ?_
        refine WP.region ?_
        refine RW.run ttok 2 rfl ?_
        refine RW.nil ?_
        refine WP.ret ?_
        cases hm
        exact ⟨_, .cons (.tmp rfl) .nil, rfl, (hS35.taken 0)⟩

theorem enters89 : Enters Try.prog 89 := ⟨_, _, Try.func89, rfl, by kernel_rfl⟩
def m_laws_toInt64S_j1 (fuel : Nat) (t9 : (List Int)) : Option (List Int) := some t9
def m_laws_toInt64S_b1 (fuel : Nat) (x0 : (List Int)) (s8 : Int × (List Int)) : Option (Rd (Int × (List Int)) ((List Int)) ((List Int))) := (if (decide (s8.1 < (x0.length : Int))) = true then ((idx x0 s8.1).bind fun x27 => (if decide (0 ≤ s8.1 ∧ s8.1.toNat < s8.2.length) = true then some (.next (w64 (s8.1 + 1), (s8.2.set s8.1.toNat x27))) else none)) else some (.brk s8.2))
def m_laws_toInt64S (fuel : Nat) (x0 : (List Int)) : Option ((List Int)) := (if decide (0 ≤ (x0.length : Int) ∧ (x0.length : Int) ≤ 4294967296) = true then ((iter (m_laws_toInt64S_b1 fuel x0) fuel (0, (List.replicate (x0.length : Int).toNat (0 : Int)))).bind fun o => aft o (m_laws_toInt64S_j1 fuel)) else none)

set_option maxRecDepth 100000 in
theorem laws_toInt64S_ok {w : World} {A0_ : Option Addr} {k0_ : Nat} {x0 : (List Int)} (h0_ : ty72.ro w [.slice A0_ x0.length k0_] x0) {fuel : Nat} {r : (List Int)} (hm : m_laws_toInt64S fuel x0 = some r) :
    Calls Try.prog 89 ⟨[.slice A0_ x0.length k0_]⟩ w (Ret fun v w8 => ∃ A0 k0, v = .slice A0 r.length k0 ∧ St w w8 [Own ty72 [.slice A0 r.length k0] r]) := by
  refine Calls.into Try.func89 rfl 22 rfl rfl _ rfl ?_
  unfold m_laws_toInt64S at hm
  have hS := St.start w
  refine WP.seq ?_
  refine WP.region ?_
  refine RW.run ttok 1 rfl ?_
  refine RW.nil ?_
  refine WP.seq ?_
  refine WP.region ?_
  refine RW.run ttok 2 rfl ?_
  by_cases hk1 : decide (0 ≤ (x0.length : Int) ∧ (x0.length : Int) ≤ 4294967296) = true
  case neg => rw [if_neg hk1] at hm; cases hm
  rw [if_pos hk1] at hm
  have hz7 := of_decide_eq_true hk1
  refine RW.make (U := tInt) ttok (0 : Int) hS rfl rfl rfl rfl rfl rfl rfl rfl hz7.1 (by have := hz7.2; show _ * (8 : Int) ≤ _; omega) (by have := hz7.2; simp only [maxLen]; omega) (fun _ => ⟨rfl, rfl⟩) rfl rfl (fun A2 k3 w4 e5 hS6 => ?_)
  refine RW.run ttok 1 rfl ?_
  refine RW.nil ?_
  refine WP.seq ?_
  refine WP.seq ?_
  refine WP.region ?_
  refine RW.run ttok 1 rfl ?_
  refine RW.nil ?_
  obtain ⟨o18, hl19, hm⟩ := bind_some hm
  refine WP.cut (fun (t9 : (List Int)) F w9 => ∃ A15 k16, o18 = .inl t9 ∧ St w w9 [Own ty72 [.slice A15 t9.length k16] t9] ∧ F = [(3, .slice A15 t9.length k16)]) ?_ ?_
  · skip
    rintro t9 F w17 ⟨A15, k16, ho21, hS20, rfl⟩
    subst ho21
    rw [aft_inl] at hm
    unfold m_laws_toInt64S_j1 at hm
    refine WP.seq ?_
    refine WP.region ?_
    refine RW.run ttok 2 rfl ?_
    refine RW.nil ?_
    refine WP.ret ?_
    cases hm
    exact ⟨_, .cons (.tmp rfl) .nil, A15, k16, rfl, ((hS20.bring 0 rfl).taken 1)⟩
  · skip
    refine WP.block ?_
    refine WP.weak [(0, .slice A0_ x0.length k0_), (3, .slice A2 (List.replicate (x0.length : Int).toNat (0 : Int)).length k3), (4, .int .i64 0)] ⟨rfl, rfl, rfl, trivial⟩ ?_
    refine WP.iter (fun (s8 : Int × (List Int)) F w9 => ∃ A13 k14, St w w9 [Own ty72 [.slice A13 s8.2.length k14] s8.2] ∧ F = [(0, .slice A0_ x0.length k0_), (3, .slice A13 s8.2.length k14), (4, .int .i64 s8.1)]) _ hl19 ⟨A2, k3, ((hS6.bring 0 rfl).taken 1), rfl⟩ ?_
    rintro s8 F w26 _ o24 ⟨A13, k14, hS25, rfl⟩ hb22 ho23
    unfold m_laws_toInt64S_b1 at hb22
    refine WP.seq ?_
    refine WP.seq ?_
    refine WP.region ?_
    refine RW.run ttok 4 rfl ?_
    refine RW.nil ?_
    refine WP.cond (decide (s8.1 < (x0.length : Int))) rfl (fun hc => ?_) (fun hc => ?_)
    · skip
      rw [if_pos hc] at hb22
      refine WP.skip ?_
      refine WP.seq ?_
      refine WP.block ?_
      refine WP.region ?_
      refine RW.run ttok 4 rfl ?_
      obtain ⟨x27, hx28, hb22⟩ := bind_some hb22
      refine RW.idx ttok hS25.ext rfl rfl rfl rfl rfl rfl (by decide) rfl rfl h0_ (idx_some hx28).1 (idx_some hx28).2 rfl rfl (fun p29 es30 ha31 hr32 => ?_)
      cases hr32
      refine RW.load1 ttok rfl rfl rfl rfl rfl (At.ext hS25.ext ha31) 0 rfl rfl rfl rfl ?_
      have hS33 := hS25.bring 0 rfl
      by_cases hk34 : decide (0 ≤ s8.1 ∧ s8.1.toNat < s8.2.length) = true
      case neg => rw [if_neg hk34] at hb22; cases hb22
      rw [if_pos hk34] at hb22
      have hb35 := of_decide_eq_true hk34
      refine RW.idxOwn ttok hS33 rfl rfl rfl rfl rfl rfl rfl rfl hb35.1 hb35.2 rfl rfl (fun q36 hq37 => ?_)
      have hS38 := hS33.flat (T := tInt) (cs := [.int .i64 x27]) (x := x27) ⟨rfl, rfl⟩
      have hS39 := hS38.bring 1 rfl
      refine RW.storeEl ttok hS39 rfl rfl rfl rfl rfl rfl hb35.2 hq37 rfl rfl (fun w40 hS41 => ?_)
      refine RW.know (u := .slice A13 (s8.2.set s8.1.toNat x27).length k14) 3 rfl (by simp) ?_
      refine RW.know (u := .slice A13 (s8.2.set s8.1.toNat x27).length k14) 14 rfl (by simp) ?_
      refine RW.nil ?_
      refine WP.region ?_
      refine RW.run ttok 3 rfl ?_
      refine RW.nil ?_
      cases hb22
      exact ⟨_, [(0, .slice A0_ x0.length k0_), (3, .slice A13 (s8.2.set s8.1.toNat x27).length k14), (4, .int .i64 (w64 (s8.1 + 1)))], ⟨rfl, rfl, rfl, trivial⟩, rfl, A13, k14, ((hS41.bring 0 rfl).taken 1), rfl⟩
    · skip
      rw [if_neg (not_t hc)] at hb22
      refine WP.exit ?_
      cases hb22
      exact ⟨_, [(3, .slice A13 s8.2.length k14)], ⟨rfl, trivial⟩, A13, k14, ho23, ((hS25.bring 0 rfl).taken 1), rfl⟩

theorem enters64 : Enters Try.prog 64 := ⟨_, _, Try.func64, rfl, by kernel_rfl⟩
def m_laws_toAddress (fuel : Nat) (x0 : D.Address) : Option (D.Address) := some (⟨x0.Machine, x0.Kind, x0.Index⟩ : D.Address)

set_option maxRecDepth 100000 in
theorem laws_toAddress_ok {w : World} {c0_ : List Value} {x0 : D.Address} (h0_ : ty38.ro w c0_ x0) {fuel : Nat} {r : D.Address} (hm : m_laws_toAddress fuel x0 = some r) :
    Calls Try.prog 64 ⟨[.agg ⟨c0_⟩]⟩ w (Ret fun v w8 => v = .agg ⟨[.int .i64 r.Machine, .int .i64 r.Kind, .int .i64 r.Index]⟩ ∧ St w w8 []) := by
  have e1 := ty38_open h0_; subst e1
  refine Calls.into Try.func64 rfl 14 rfl rfl _ rfl ?_
  unfold m_laws_toAddress at hm
  have hS := St.start w
  refine WP.seq ?_
  refine WP.region ?_
  refine RW.new ttok hS rfl rfl rfl rfl (fun g2 w3 e4 hS5 => ?_)
  refine RW.new ttok hS5 rfl rfl rfl rfl (fun g6 w7 e8 hS9 => ?_)
  refine RW.nil ?_
  refine WP.seq ?_
  refine WP.region ?_
  refine RW.new ttok hS9 rfl rfl rfl rfl (fun g10 w11 e12 hS13 => ?_)
  refine RW.nil ?_
  refine WP.seq ?_
  refine WP.region ?_
  refine RW.run ttok 1 rfl ?_
  refine RW.load1 ttok rfl rfl rfl rfl rfl ((hS13.bring 2 rfl).box) 0 rfl rfl rfl rfl ?_
  refine RW.run ttok 1 rfl ?_
  have hS14 := hS13.bring 0 rfl
  refine RW.store ttok (A := []) hS14 rfl rfl rfl rfl rfl 0 rfl rfl rfl rfl rfl (fun w15 hS16 => ?_)
  refine RW.nil ?_
  refine WP.seq ?_
  refine WP.region ?_
  refine RW.run ttok 1 rfl ?_
  refine RW.load1 ttok rfl rfl rfl rfl rfl ((hS16.bring 2 rfl).box) 1 rfl rfl rfl rfl ?_
  refine RW.run ttok 1 rfl ?_
  have hS17 := hS16.bring 0 rfl
  refine RW.store ttok (A := []) hS17 rfl rfl rfl rfl rfl 1 rfl rfl rfl rfl rfl (fun w18 hS19 => ?_)
  refine RW.nil ?_
  refine WP.seq ?_
  refine WP.region ?_
  refine RW.run ttok 1 rfl ?_
  refine RW.load1 ttok rfl rfl rfl rfl rfl ((hS19.bring 2 rfl).box) 2 rfl rfl rfl rfl ?_
  refine RW.run ttok 1 rfl ?_
  have hS20 := hS19.bring 0 rfl
  refine RW.store ttok (A := []) hS20 rfl rfl rfl rfl rfl 2 rfl rfl rfl rfl rfl (fun w21 hS22 => ?_)
  refine RW.nil ?_
  refine WP.seq ?_
  refine WP.region ?_
  refine RW.loadN ttok rfl rfl rfl rfl rfl ((hS22.bring 0 rfl).box) rfl rfl rfl ?_
  have hS23 := hS22.bring 1 rfl
  refine RW.store ttok (A := []) hS23 rfl rfl rfl rfl rfl 0 rfl rfl rfl rfl rfl (fun w24 hS25 => ?_)
  refine RW.nil ?_
  refine WP.ret ?_
  cases hm
  exact ⟨_, .cons (ResIs.agg ttok rfl rfl rfl ((hS25.bring 0 rfl).box) rfl) .nil, rfl, (hS25.taken 0)⟩

theorem enters169 : Enters Try.prog 169 := ⟨_, _, Try.func169, rfl, by kernel_rfl⟩
def m_laws_toAddressS_j1 (fuel : Nat) (t9 : (List D.Address)) : Option (List D.Address) := some t9
def m_laws_toAddressS_b1 (fuel : Nat) (x0 : (List D.Address)) (s8 : Int × (List D.Address)) : Option (Rd (Int × (List D.Address)) ((List D.Address)) ((List D.Address))) := (if (decide (s8.1 < (x0.length : Int))) = true then ((idx x0 s8.1).bind fun x27 => ((m_laws_toAddress fuel x27).bind fun r34 => (if decide (0 ≤ s8.1 ∧ s8.1.toNat < s8.2.length) = true then some (.next (w64 (s8.1 + 1), (s8.2.set s8.1.toNat r34))) else none))) else some (.brk s8.2))
def m_laws_toAddressS (fuel : Nat) (x0 : (List D.Address)) : Option ((List D.Address)) := (if decide (0 ≤ (x0.length : Int) ∧ (x0.length : Int) ≤ 4294967296) = true then ((iter (m_laws_toAddressS_b1 fuel x0) fuel (0, (List.replicate (x0.length : Int).toNat (⟨(0 : Int), (0 : Int), (0 : Int)⟩ : D.Address)))).bind fun o => aft o (m_laws_toAddressS_j1 fuel)) else none)

set_option maxRecDepth 100000 in
theorem laws_toAddressS_ok {w : World} {A0_ : Option Addr} {k0_ : Nat} {x0 : (List D.Address)} (h0_ : ty202.ro w [.slice A0_ x0.length k0_] x0) {fuel : Nat} {r : (List D.Address)} (hm : m_laws_toAddressS fuel x0 = some r) :
    Calls Try.prog 169 ⟨[.slice A0_ x0.length k0_]⟩ w (Ret fun v w8 => ∃ A0 k0, v = .slice A0 r.length k0 ∧ St w w8 [Own ty121 [.slice A0 r.length k0] r]) := by
  refine Calls.into Try.func169 rfl 23 rfl rfl _ rfl ?_
  unfold m_laws_toAddressS at hm
  have hS := St.start w
  refine WP.seq ?_
  refine WP.region ?_
  refine RW.run ttok 1 rfl ?_
  refine RW.nil ?_
  refine WP.seq ?_
  refine WP.region ?_
  refine RW.run ttok 2 rfl ?_
  by_cases hk1 : decide (0 ≤ (x0.length : Int) ∧ (x0.length : Int) ≤ 4294967296) = true
  case neg => rw [if_neg hk1] at hm; cases hm
  rw [if_pos hk1] at hm
  have hz7 := of_decide_eq_true hk1
  refine RW.make (U := ty44) ttok (⟨(0 : Int), (0 : Int), (0 : Int)⟩ : D.Address) hS rfl rfl rfl rfl rfl rfl rfl rfl hz7.1 (by have := hz7.2; show _ * (24 : Int) ≤ _; omega) (by have := hz7.2; simp only [maxLen]; omega) (fun _ => (ty44_ownI (c := (⟨(0 : Int), (0 : Int), (0 : Int)⟩ : D.Address)) rfl)) rfl rfl (fun A2 k3 w4 e5 hS6 => ?_)
  refine RW.run ttok 1 rfl ?_
  refine RW.nil ?_
  refine WP.seq ?_
  refine WP.seq ?_
  refine WP.region ?_
  refine RW.run ttok 1 rfl ?_
  refine RW.nil ?_
  obtain ⟨o18, hl19, hm⟩ := bind_some hm
  refine WP.cut (fun (t9 : (List D.Address)) F w9 => ∃ A15 k16, o18 = .inl t9 ∧ St w w9 [Own ty121 [.slice A15 t9.length k16] t9] ∧ F = [(3, .slice A15 t9.length k16)]) ?_ ?_
  · skip
    rintro t9 F w17 ⟨A15, k16, ho21, hS20, rfl⟩
    subst ho21
    rw [aft_inl] at hm
    unfold m_laws_toAddressS_j1 at hm
    refine WP.seq ?_
    refine WP.region ?_
    refine RW.run ttok 2 rfl ?_
    refine RW.nil ?_
    refine WP.ret ?_
    cases hm
    exact ⟨_, .cons (.tmp rfl) .nil, A15, k16, rfl, ((hS20.bring 0 rfl).taken 1)⟩
  · skip
    refine WP.block ?_
    refine WP.weak [(0, .slice A0_ x0.length k0_), (3, .slice A2 (List.replicate (x0.length : Int).toNat (⟨(0 : Int), (0 : Int), (0 : Int)⟩ : D.Address)).length k3), (4, .int .i64 0)] ⟨rfl, rfl, rfl, trivial⟩ ?_
    refine WP.iter (fun (s8 : Int × (List D.Address)) F w9 => ∃ A13 k14, St w w9 [Own ty121 [.slice A13 s8.2.length k14] s8.2] ∧ F = [(0, .slice A0_ x0.length k0_), (3, .slice A13 s8.2.length k14), (4, .int .i64 s8.1)]) _ hl19 ⟨A2, k3, ((hS6.bring 0 rfl).taken 1), rfl⟩ ?_
    rintro s8 F w26 _ o24 ⟨A13, k14, hS25, rfl⟩ hb22 ho23
    unfold m_laws_toAddressS_b1 at hb22
    refine WP.seq ?_
    refine WP.seq ?_
    refine WP.region ?_
    refine RW.run ttok 4 rfl ?_
    refine RW.nil ?_
    refine WP.cond (decide (s8.1 < (x0.length : Int))) rfl (fun hc => ?_) (fun hc => ?_)
    · skip
      rw [if_pos hc] at hb22
      refine WP.skip ?_
      refine WP.seq ?_
      refine WP.block ?_
      refine WP.region ?_
      refine RW.run ttok 4 rfl ?_
      obtain ⟨x27, hx28, hb22⟩ := bind_some hb22
      refine RW.idx ttok hS25.ext rfl rfl rfl rfl rfl rfl (by decide) rfl rfl h0_ (idx_some hx28).1 (idx_some hx28).2 rfl rfl (fun p29 es30 ha31 hr32 => ?_)
      have e33 := ty38_open hr32; subst e33
      refine RW.loadN ttok rfl rfl rfl rfl rfl (At.ext hS25.ext ha31) rfl rfl rfl ?_
      obtain ⟨r34, hx35, hb22⟩ := bind_some hb22
      refine RW.call rfl rfl rfl enters64 (laws_toAddress_ok (ty38.ext hS25.ext hr32) hx35) (fun v36 w37 hR38 => ?_)
      obtain ⟨rfl, hR39⟩ := hR38
      have hS40 := hS25.join hR39
      have hS41 := hS40.bring 0 rfl
      by_cases hk42 : decide (0 ≤ s8.1 ∧ s8.1.toNat < s8.2.length) = true
      case neg => rw [if_neg hk42] at hb22; cases hb22
      rw [if_pos hk42] at hb22
      have hb43 := of_decide_eq_true hk42
      refine RW.idxOwn ttok hS41 rfl rfl rfl rfl rfl rfl rfl rfl hb43.1 hb43.2 rfl rfl (fun q44 hq45 => ?_)
      have hS46 := ty44_shutS (c := r34) (B := _) hS41
      have hS47 := hS46.bring 1 rfl
      refine RW.storeEl ttok hS47 rfl rfl rfl rfl rfl rfl hb43.2 hq45 rfl rfl (fun w48 hS49 => ?_)
      refine RW.know (u := .slice A13 (s8.2.set s8.1.toNat r34).length k14) 3 rfl (by simp) ?_
      refine RW.know (u := .slice A13 (s8.2.set s8.1.toNat r34).length k14) 14 rfl (by simp) ?_
      refine RW.nil ?_
      refine WP.region ?_
      refine RW.run ttok 3 rfl ?_
      refine RW.nil ?_
      cases hb22
      exact ⟨_, [(0, .slice A0_ x0.length k0_), (3, .slice A13 (s8.2.set s8.1.toNat r34).length k14), (4, .int .i64 (w64 (s8.1 + 1)))], ⟨rfl, rfl, rfl, trivial⟩, rfl, A13, k14, ((hS49.bring 0 rfl).taken 1), rfl⟩
    · skip
      rw [if_neg (not_t hc)] at hb22
      refine WP.exit ?_
      cases hb22
      exact ⟨_, [(3, .slice A13 s8.2.length k14)], ⟨rfl, trivial⟩, A13, k14, ho23, ((hS25.bring 0 rfl).taken 1), rfl⟩

theorem enters126 : Enters Try.prog 126 := ⟨_, _, Try.func126, rfl, by kernel_rfl⟩
def m_laws_toShardCell (fuel : Nat) (x0 : D.ShardCell) : Option (D.ShardCell) := ((m_laws_toInt64S fuel x0.Data).bind fun r29 => ((m_laws_toAddressS fuel x0.Aux).bind fun r41 => some (⟨x0.Kind, x0.Level, x0.Value, r29, r41⟩ : D.ShardCell)))

set_option maxRecDepth 100000 in
theorem laws_toShardCell_ok {w : World} {c0_ : List Value} {x0 : D.ShardCell} (h0_ : ty204.ro w c0_ x0) {fuel : Nat} {r : D.ShardCell} (hm : m_laws_toShardCell fuel x0 = some r) :
    Calls Try.prog 126 ⟨[.agg ⟨c0_⟩]⟩ w (Ret fun v w8 => ∃ A0 k0 A1 k1, v = .agg ⟨[.int .i64 r.Kind, .int .i64 r.Level, .int .i64 r.Value, .slice A0 r.Data.length k0, .slice A1 r.Aux.length k1]⟩ ∧ St w w8 [Own ty72 [.slice A0 r.Data.length k0] r.Data, Own ty121 [.slice A1 r.Aux.length k1] r.Aux]) := by
  obtain ⟨A1, k2, A4, k5, e7, h3, h6⟩ := ty204_open h0_; subst e7
  refine Calls.into Try.func126 rfl 22 rfl rfl _ rfl ?_
  unfold m_laws_toShardCell at hm
  have hS := St.start w
  refine WP.seq ?_
  refine WP.region ?_
  refine RW.new ttok hS rfl rfl rfl rfl (fun g8 w9 e10 hS11 => ?_)
  refine RW.new ttok hS11 rfl rfl rfl rfl (fun g12 w13 e14 hS15 => ?_)
  refine RW.nil ?_
  refine WP.seq ?_
  refine WP.region ?_
  refine RW.new ttok hS15 rfl rfl rfl rfl (fun g16 w17 e18 hS19 => ?_)
  refine RW.nil ?_
  refine WP.seq ?_
  refine WP.region ?_
  refine RW.run ttok 1 rfl ?_
  refine RW.load1 ttok rfl rfl rfl rfl rfl ((hS19.bring 2 rfl).box) 0 rfl rfl rfl rfl ?_
  refine RW.run ttok 1 rfl ?_
  have hS20 := hS19.bring 0 rfl
  refine RW.store ttok (A := []) hS20 rfl rfl rfl rfl rfl 0 rfl rfl rfl rfl rfl (fun w21 hS22 => ?_)
  refine RW.nil ?_
  refine WP.seq ?_
  refine WP.region ?_
  refine RW.run ttok 1 rfl ?_
  refine RW.load1 ttok rfl rfl rfl rfl rfl ((hS22.bring 2 rfl).box) 1 rfl rfl rfl rfl ?_
  refine RW.run ttok 1 rfl ?_
  have hS23 := hS22.bring 0 rfl
  refine RW.store ttok (A := []) hS23 rfl rfl rfl rfl rfl 1 rfl rfl rfl rfl rfl (fun w24 hS25 => ?_)
  refine RW.nil ?_
  refine WP.seq ?_
  refine WP.region ?_
  refine RW.run ttok 1 rfl ?_
  refine RW.load1 ttok rfl rfl rfl rfl rfl ((hS25.bring 2 rfl).box) 2 rfl rfl rfl rfl ?_
  refine RW.run ttok 1 rfl ?_
  have hS26 := hS25.bring 0 rfl
  refine RW.store ttok (A := []) hS26 rfl rfl rfl rfl rfl 2 rfl rfl rfl rfl rfl (fun w27 hS28 => ?_)
  refine RW.nil ?_
  refine WP.seq ?_
  refine WP.region ?_
  refine RW.run ttok 1 rfl ?_
  refine RW.load1 ttok rfl rfl rfl rfl rfl ((hS28.bring 2 rfl).box) 3 rfl rfl rfl rfl ?_
  obtain ⟨r29, hx30, hm⟩ := bind_some hm
  refine RW.call rfl rfl rfl enters89 (laws_toInt64S_ok (ty72.ext hS28.ext h3) hx30) (fun v31 w32 hR33 => ?_)
  obtain ⟨A34, k35, rfl, hR36⟩ := hR33
  have hS37 := hS28.join hR36
  refine RW.run ttok 1 rfl ?_
  have hS38 := hS37.bring 1 rfl
  refine RW.store ttok (A := []) hS38 rfl rfl rfl rfl rfl 3 rfl rfl rfl rfl rfl (fun w39 hS40 => ?_)
  refine RW.nil ?_
  refine WP.seq ?_
  refine WP.region ?_
  refine RW.run ttok 1 rfl ?_
  refine RW.load1 ttok rfl rfl rfl rfl rfl ((hS40.bring 3 rfl).box) 4 rfl rfl rfl rfl ?_
  obtain ⟨r41, hx42, hm⟩ := bind_some hm
  refine RW.call rfl rfl rfl enters169 (laws_toAddressS_ok (ty202.ext hS40.ext h6) hx42) (fun v43 w44 hR45 => ?_)
  obtain ⟨A46, k47, rfl, hR48⟩ := hR45
  have hS49 := hS40.join hR48
  refine RW.run ttok 1 rfl ?_
  have hS50 := hS49.bring 1 rfl
  refine RW.store ttok (A := []) hS50 rfl rfl rfl rfl rfl 4 rfl rfl rfl rfl rfl (fun w51 hS52 => ?_)
  refine RW.nil ?_
  refine WP.seq ?_
  refine WP.region ?_
  refine RW.loadN ttok rfl rfl rfl rfl rfl ((hS52.bring 0 rfl).box) rfl rfl rfl ?_
  have hS53 := hS52.bring 3 rfl
  refine RW.store ttok (A := []) hS53 rfl rfl rfl rfl rfl 0 rfl rfl rfl rfl rfl (fun w54 hS55 => ?_)
  refine RW.nil ?_
  refine WP.ret ?_
  cases hm
  exact ⟨_, .cons (ResIs.agg ttok rfl rfl rfl ((hS55.bring 0 rfl).box) rfl) .nil, A34, k35, A46, k47, rfl, (((hS55.bring 2 rfl).bring 3 rfl).taken 2)⟩

theorem enters52 : Enters Try.prog 52 := ⟨_, _, Try.func52, rfl, by kernel_rfl⟩
def m_laws_toShardCellS_j1 (fuel : Nat) (t9 : (List D.ShardCell)) : Option (List D.ShardCell) := some t9
def m_laws_toShardCellS_b1 (fuel : Nat) (x0 : (List D.ShardCell)) (s8 : Int × (List D.ShardCell)) : Option (Rd (Int × (List D.ShardCell)) ((List D.ShardCell)) ((List D.ShardCell))) := (if (decide (s8.1 < (x0.length : Int))) = true then ((idx x0 s8.1).bind fun x27 => ((m_laws_toShardCell fuel x27).bind fun r40 => (if decide (0 ≤ s8.1 ∧ s8.1.toNat < s8.2.length) = true then some (.next (w64 (s8.1 + 1), (s8.2.set s8.1.toNat r40))) else none))) else some (.brk s8.2))
def m_laws_toShardCellS (fuel : Nat) (x0 : (List D.ShardCell)) : Option ((List D.ShardCell)) := (if decide (0 ≤ (x0.length : Int) ∧ (x0.length : Int) ≤ 4294967296) = true then ((iter (m_laws_toShardCellS_b1 fuel x0) fuel (0, (List.replicate (x0.length : Int).toNat (⟨(0 : Int), (0 : Int), (0 : Int), ([] : (List Int)), ([] : (List D.Address))⟩ : D.ShardCell)))).bind fun o => aft o (m_laws_toShardCellS_j1 fuel)) else none)

set_option maxRecDepth 100000 in
theorem laws_toShardCellS_ok {w : World} {A0_ : Option Addr} {k0_ : Nat} {x0 : (List D.ShardCell)} (h0_ : ty22.ro w [.slice A0_ x0.length k0_] x0) {fuel : Nat} {r : (List D.ShardCell)} (hm : m_laws_toShardCellS fuel x0 = some r) :
    Calls Try.prog 52 ⟨[.slice A0_ x0.length k0_]⟩ w (Ret fun v w8 => ∃ A0 k0, v = .slice A0 r.length k0 ∧ St w w8 [Own ty29 [.slice A0 r.length k0] r]) := by
  refine Calls.into Try.func52 rfl 23 rfl rfl _ rfl ?_
  unfold m_laws_toShardCellS at hm
  have hS := St.start w
  refine WP.seq ?_
  refine WP.region ?_
  refine RW.run ttok 1 rfl ?_
  refine RW.nil ?_
  refine WP.seq ?_
  refine WP.region ?_
  refine RW.run ttok 2 rfl ?_
  by_cases hk1 : decide (0 ≤ (x0.length : Int) ∧ (x0.length : Int) ≤ 4294967296) = true
  case neg => rw [if_neg hk1] at hm; cases hm
  rw [if_pos hk1] at hm
  have hz7 := of_decide_eq_true hk1
  refine RW.make (U := ty123) ttok (⟨(0 : Int), (0 : Int), (0 : Int), ([] : (List Int)), ([] : (List D.Address))⟩ : D.ShardCell) hS rfl rfl rfl rfl rfl rfl rfl rfl hz7.1 (by have := hz7.2; show _ * (72 : Int) ≤ _; omega) (by have := hz7.2; simp only [maxLen]; omega) (fun _ => (ty123_ownI (c := (⟨(0 : Int), (0 : Int), (0 : Int), ([] : (List Int)), ([] : (List D.Address))⟩ : D.ShardCell)) ⟨[], [], rfl, (slNilOwn tInt 2 _), ⟨[], [], rfl, (slNilOwn ty44 44 _), rfl⟩⟩)) rfl rfl (fun A2 k3 w4 e5 hS6 => ?_)
  refine RW.run ttok 1 rfl ?_
  refine RW.nil ?_
  refine WP.seq ?_
  refine WP.seq ?_
  refine WP.region ?_
  refine RW.run ttok 1 rfl ?_
  refine RW.nil ?_
  obtain ⟨o18, hl19, hm⟩ := bind_some hm
  refine WP.cut (fun (t9 : (List D.ShardCell)) F w9 => ∃ A15 k16, o18 = .inl t9 ∧ St w w9 [Own ty29 [.slice A15 t9.length k16] t9] ∧ F = [(3, .slice A15 t9.length k16)]) ?_ ?_
  · skip
    rintro t9 F w17 ⟨A15, k16, ho21, hS20, rfl⟩
    subst ho21
    rw [aft_inl] at hm
    unfold m_laws_toShardCellS_j1 at hm
    refine WP.seq ?_
    refine WP.region ?_
    refine RW.run ttok 2 rfl ?_
    refine RW.nil ?_
    refine WP.ret ?_
    cases hm
    exact ⟨_, .cons (.tmp rfl) .nil, A15, k16, rfl, ((hS20.bring 0 rfl).taken 1)⟩
  · skip
    refine WP.block ?_
    refine WP.weak [(0, .slice A0_ x0.length k0_), (3, .slice A2 (List.replicate (x0.length : Int).toNat (⟨(0 : Int), (0 : Int), (0 : Int), ([] : (List Int)), ([] : (List D.Address))⟩ : D.ShardCell)).length k3), (4, .int .i64 0)] ⟨rfl, rfl, rfl, trivial⟩ ?_
    refine WP.iter (fun (s8 : Int × (List D.ShardCell)) F w9 => ∃ A13 k14, St w w9 [Own ty29 [.slice A13 s8.2.length k14] s8.2] ∧ F = [(0, .slice A0_ x0.length k0_), (3, .slice A13 s8.2.length k14), (4, .int .i64 s8.1)]) _ hl19 ⟨A2, k3, ((hS6.bring 0 rfl).taken 1), rfl⟩ ?_
    rintro s8 F w26 _ o24 ⟨A13, k14, hS25, rfl⟩ hb22 ho23
    unfold m_laws_toShardCellS_b1 at hb22
    refine WP.seq ?_
    refine WP.seq ?_
    refine WP.region ?_
    refine RW.run ttok 4 rfl ?_
    refine RW.nil ?_
    refine WP.cond (decide (s8.1 < (x0.length : Int))) rfl (fun hc => ?_) (fun hc => ?_)
    · skip
      rw [if_pos hc] at hb22
      refine WP.skip ?_
      refine WP.seq ?_
      refine WP.block ?_
      refine WP.region ?_
      refine RW.run ttok 4 rfl ?_
      obtain ⟨x27, hx28, hb22⟩ := bind_some hb22
      refine RW.idx ttok hS25.ext rfl rfl rfl rfl rfl rfl (by decide) rfl rfl h0_ (idx_some hx28).1 (idx_some hx28).2 rfl rfl (fun p29 es30 ha31 hr32 => ?_)
      obtain ⟨A33, k34, A36, k37, e39, h35, h38⟩ := ty204_open hr32; subst e39
      refine RW.loadN ttok rfl rfl rfl rfl rfl (At.ext hS25.ext ha31) rfl rfl rfl ?_
      obtain ⟨r40, hx41, hb22⟩ := bind_some hb22
      refine RW.call rfl rfl rfl enters126 (laws_toShardCell_ok (ty204.ext hS25.ext hr32) hx41) (fun v42 w43 hR44 => ?_)
      obtain ⟨A45, k46, A47, k48, rfl, hR49⟩ := hR44
      have hS50 := hS25.join hR49
      have hS51 := hS50.bring 2 rfl
      by_cases hk52 : decide (0 ≤ s8.1 ∧ s8.1.toNat < s8.2.length) = true
      case neg => rw [if_neg hk52] at hb22; cases hb22
      rw [if_pos hk52] at hb22
      have hb53 := of_decide_eq_true hk52
      refine RW.idxOwn ttok hS51 rfl rfl rfl rfl rfl rfl rfl rfl hb53.1 hb53.2 rfl rfl (fun q54 hq55 => ?_)
      have hS56 := hS51.bring 2 rfl
      have hS57 := hS56.bring 2 rfl
      have hS58 := ty123_shutS (c := r40) (B := _) hS57
      have hS59 := hS58.bring 1 rfl
      refine RW.storeEl ttok hS59 rfl rfl rfl rfl rfl rfl hb53.2 hq55 rfl rfl (fun w60 hS61 => ?_)
      refine RW.know (u := .slice A13 (s8.2.set s8.1.toNat r40).length k14) 3 rfl (by simp) ?_
      refine RW.know (u := .slice A13 (s8.2.set s8.1.toNat r40).length k14) 14 rfl (by simp) ?_
      refine RW.nil ?_
      refine WP.region ?_
      refine RW.run ttok 3 rfl ?_
      refine RW.nil ?_
      cases hb22
      exact ⟨_, [(0, .slice A0_ x0.length k0_), (3, .slice A13 (s8.2.set s8.1.toNat r40).length k14), (4, .int .i64 (w64 (s8.1 + 1)))], ⟨rfl, rfl, rfl, trivial⟩, rfl, A13, k14, ((hS61.bring 0 rfl).taken 1), rfl⟩
    · skip
      rw [if_neg (not_t hc)] at hb22
      refine WP.exit ?_
      cases hb22
      exact ⟨_, [(3, .slice A13 s8.2.length k14)], ⟨rfl, trivial⟩, A13, k14, ho23, ((hS25.bring 0 rfl).taken 1), rfl⟩

theorem enters127 : Enters Try.prog 127 := ⟨_, _, Try.func127, rfl, by kernel_rfl⟩
def m_laws_toShardVar (fuel : Nat) (x0 : D.ShardVar) : Option (D.ShardVar) := ((m_laws_toAddress fuel x0.Held).bind fun r20 => some (⟨x0.Used, x0.Full, (⟨r20.Machine, r20.Kind, r20.Index⟩ : D.Address)⟩ : D.ShardVar))

set_option maxRecDepth 100000 in
theorem laws_toShardVar_ok {w : World} {c0_ : List Value} {x0 : D.ShardVar} (h0_ : ty209.ro w c0_ x0) {fuel : Nat} {r : D.ShardVar} (hm : m_laws_toShardVar fuel x0 = some r) :
    Calls Try.prog 127 ⟨[.agg ⟨c0_⟩]⟩ w (Ret fun v w8 => v = .agg ⟨[.bool r.Used, .bool r.Full, .int .i64 r.Held.Machine, .int .i64 r.Held.Kind, .int .i64 r.Held.Index]⟩ ∧ St w w8 []) := by
  have e1 := ty209_open h0_; subst e1
  refine Calls.into Try.func127 rfl 15 rfl rfl _ rfl ?_
  unfold m_laws_toShardVar at hm
  have hS := St.start w
  refine WP.seq ?_
  refine WP.region ?_
  refine RW.new ttok hS rfl rfl rfl rfl (fun g2 w3 e4 hS5 => ?_)
  refine RW.new ttok hS5 rfl rfl rfl rfl (fun g6 w7 e8 hS9 => ?_)
  refine RW.nil ?_
  refine WP.seq ?_
  refine WP.region ?_
  refine RW.new ttok hS9 rfl rfl rfl rfl (fun g10 w11 e12 hS13 => ?_)
  refine RW.nil ?_
  refine WP.seq ?_
  refine WP.region ?_
  refine RW.run ttok 1 rfl ?_
  refine RW.load1 ttok rfl rfl rfl rfl rfl ((hS13.bring 2 rfl).box) 0 rfl rfl rfl rfl ?_
  refine RW.run ttok 1 rfl ?_
  have hS14 := hS13.bring 0 rfl
  refine RW.store ttok (A := []) hS14 rfl rfl rfl rfl rfl 0 rfl rfl rfl rfl rfl (fun w15 hS16 => ?_)
  refine RW.nil ?_
  refine WP.seq ?_
  refine WP.region ?_
  refine RW.run ttok 1 rfl ?_
  refine RW.load1 ttok rfl rfl rfl rfl rfl ((hS16.bring 2 rfl).box) 1 rfl rfl rfl rfl ?_
  refine RW.run ttok 1 rfl ?_
  have hS17 := hS16.bring 0 rfl
  refine RW.store ttok (A := []) hS17 rfl rfl rfl rfl rfl 1 rfl rfl rfl rfl rfl (fun w18 hS19 => ?_)
  refine RW.nil ?_
  refine WP.seq ?_
  refine WP.region ?_
  refine RW.run ttok 1 rfl ?_
  refine RW.loadN ttok rfl rfl rfl rfl rfl (At.sub ((hS19.bring 2 rfl).box) 2 3) rfl rfl rfl ?_
  obtain ⟨r20, hx21, hm⟩ := bind_some hm
  refine RW.call rfl rfl rfl enters64 (laws_toAddress_ok (ty38_shut x0.Held) hx21) (fun v22 w23 hR24 => ?_)
  obtain ⟨rfl, hR25⟩ := hR24
  have hS26 := hS19.join hR25
  refine RW.run ttok 1 rfl ?_
  have hS27 := hS26.bring 0 rfl
  refine RW.store ttok (A := []) hS27 rfl rfl rfl rfl rfl 2 rfl rfl rfl rfl rfl (fun w28 hS29 => ?_)
  refine RW.nil ?_
  refine WP.seq ?_
  refine WP.region ?_
  refine RW.loadN ttok rfl rfl rfl rfl rfl ((hS29.bring 0 rfl).box) rfl rfl rfl ?_
  have hS30 := hS29.bring 1 rfl
  refine RW.store ttok (A := []) hS30 rfl rfl rfl rfl rfl 0 rfl rfl rfl rfl rfl (fun w31 hS32 => ?_)
  refine RW.nil ?_
  refine WP.ret ?_
  cases hm
  exact ⟨_, .cons (ResIs.agg ttok rfl rfl rfl ((hS32.bring 0 rfl).box) rfl) .nil, rfl, (hS32.taken 0)⟩

theorem enters53 : Enters Try.prog 53 := ⟨_, _, Try.func53, rfl, by kernel_rfl⟩
def m_laws_toShardVarS_j1 (fuel : Nat) (t9 : (List D.ShardVar)) : Option (List D.ShardVar) := some t9
def m_laws_toShardVarS_b1 (fuel : Nat) (x0 : (List D.ShardVar)) (s8 : Int × (List D.ShardVar)) : Option (Rd (Int × (List D.ShardVar)) ((List D.ShardVar)) ((List D.ShardVar))) := (if (decide (s8.1 < (x0.length : Int))) = true then ((idx x0 s8.1).bind fun x27 => ((m_laws_toShardVar fuel x27).bind fun r34 => (if decide (0 ≤ s8.1 ∧ s8.1.toNat < s8.2.length) = true then some (.next (w64 (s8.1 + 1), (s8.2.set s8.1.toNat r34))) else none))) else some (.brk s8.2))
def m_laws_toShardVarS (fuel : Nat) (x0 : (List D.ShardVar)) : Option ((List D.ShardVar)) := (if decide (0 ≤ (x0.length : Int) ∧ (x0.length : Int) ≤ 4294967296) = true then ((iter (m_laws_toShardVarS_b1 fuel x0) fuel (0, (List.replicate (x0.length : Int).toNat (⟨false, false, (⟨(0 : Int), (0 : Int), (0 : Int)⟩ : D.Address)⟩ : D.ShardVar)))).bind fun o => aft o (m_laws_toShardVarS_j1 fuel)) else none)

set_option maxRecDepth 100000 in
theorem laws_toShardVarS_ok {w : World} {A0_ : Option Addr} {k0_ : Nat} {x0 : (List D.ShardVar)} (h0_ : ty23.ro w [.slice A0_ x0.length k0_] x0) {fuel : Nat} {r : (List D.ShardVar)} (hm : m_laws_toShardVarS fuel x0 = some r) :
    Calls Try.prog 53 ⟨[.slice A0_ x0.length k0_]⟩ w (Ret fun v w8 => ∃ A0 k0, v = .slice A0 r.length k0 ∧ St w w8 [Own ty30 [.slice A0 r.length k0] r]) := by
  refine Calls.into Try.func53 rfl 23 rfl rfl _ rfl ?_
  unfold m_laws_toShardVarS at hm
  have hS := St.start w
  refine WP.seq ?_
  refine WP.region ?_
  refine RW.run ttok 1 rfl ?_
  refine RW.nil ?_
  refine WP.seq ?_
  refine WP.region ?_
  refine RW.run ttok 2 rfl ?_
  by_cases hk1 : decide (0 ≤ (x0.length : Int) ∧ (x0.length : Int) ≤ 4294967296) = true
  case neg => rw [if_neg hk1] at hm; cases hm
  rw [if_pos hk1] at hm
  have hz7 := of_decide_eq_true hk1
  refine RW.make (U := ty125) ttok (⟨false, false, (⟨(0 : Int), (0 : Int), (0 : Int)⟩ : D.Address)⟩ : D.ShardVar) hS rfl rfl rfl rfl rfl rfl rfl rfl hz7.1 (by have := hz7.2; show _ * (32 : Int) ≤ _; omega) (by have := hz7.2; simp only [maxLen]; omega) (fun _ => (ty125_ownI (c := (⟨false, false, (⟨(0 : Int), (0 : Int), (0 : Int)⟩ : D.Address)⟩ : D.ShardVar)) rfl)) rfl rfl (fun A2 k3 w4 e5 hS6 => ?_)
  refine RW.run ttok 1 rfl ?_
  refine RW.nil ?_
  refine WP.seq ?_
  refine WP.seq ?_
  refine WP.region ?_
  refine RW.run ttok 1 rfl ?_
  refine RW.nil ?_
  obtain ⟨o18, hl19, hm⟩ := bind_some hm
  refine WP.cut (fun (t9 : (List D.ShardVar)) F w9 => ∃ A15 k16, o18 = .inl t9 ∧ St w w9 [Own ty30 [.slice A15 t9.length k16] t9] ∧ F = [(3, .slice A15 t9.length k16)]) ?_ ?_
  · skip
    rintro t9 F w17 ⟨A15, k16, ho21, hS20, rfl⟩
    subst ho21
    rw [aft_inl] at hm
    unfold m_laws_toShardVarS_j1 at hm
    refine WP.seq ?_
    refine WP.region ?_
    refine RW.run ttok 2 rfl ?_
    refine RW.nil ?_
    refine WP.ret ?_
    cases hm
    exact ⟨_, .cons (.tmp rfl) .nil, A15, k16, rfl, ((hS20.bring 0 rfl).taken 1)⟩
  · skip
    refine WP.block ?_
    refine WP.weak [(0, .slice A0_ x0.length k0_), (3, .slice A2 (List.replicate (x0.length : Int).toNat (⟨false, false, (⟨(0 : Int), (0 : Int), (0 : Int)⟩ : D.Address)⟩ : D.ShardVar)).length k3), (4, .int .i64 0)] ⟨rfl, rfl, rfl, trivial⟩ ?_
    refine WP.iter (fun (s8 : Int × (List D.ShardVar)) F w9 => ∃ A13 k14, St w w9 [Own ty30 [.slice A13 s8.2.length k14] s8.2] ∧ F = [(0, .slice A0_ x0.length k0_), (3, .slice A13 s8.2.length k14), (4, .int .i64 s8.1)]) _ hl19 ⟨A2, k3, ((hS6.bring 0 rfl).taken 1), rfl⟩ ?_
    rintro s8 F w26 _ o24 ⟨A13, k14, hS25, rfl⟩ hb22 ho23
    unfold m_laws_toShardVarS_b1 at hb22
    refine WP.seq ?_
    refine WP.seq ?_
    refine WP.region ?_
    refine RW.run ttok 4 rfl ?_
    refine RW.nil ?_
    refine WP.cond (decide (s8.1 < (x0.length : Int))) rfl (fun hc => ?_) (fun hc => ?_)
    · skip
      rw [if_pos hc] at hb22
      refine WP.skip ?_
      refine WP.seq ?_
      refine WP.block ?_
      refine WP.region ?_
      refine RW.run ttok 4 rfl ?_
      obtain ⟨x27, hx28, hb22⟩ := bind_some hb22
      refine RW.idx ttok hS25.ext rfl rfl rfl rfl rfl rfl (by decide) rfl rfl h0_ (idx_some hx28).1 (idx_some hx28).2 rfl rfl (fun p29 es30 ha31 hr32 => ?_)
      have e33 := ty209_open hr32; subst e33
      refine RW.loadN ttok rfl rfl rfl rfl rfl (At.ext hS25.ext ha31) rfl rfl rfl ?_
      obtain ⟨r34, hx35, hb22⟩ := bind_some hb22
      refine RW.call rfl rfl rfl enters127 (laws_toShardVar_ok (ty209.ext hS25.ext hr32) hx35) (fun v36 w37 hR38 => ?_)
      obtain ⟨rfl, hR39⟩ := hR38
      have hS40 := hS25.join hR39
      have hS41 := hS40.bring 0 rfl
      by_cases hk42 : decide (0 ≤ s8.1 ∧ s8.1.toNat < s8.2.length) = true
      case neg => rw [if_neg hk42] at hb22; cases hb22
      rw [if_pos hk42] at hb22
      have hb43 := of_decide_eq_true hk42
      refine RW.idxOwn ttok hS41 rfl rfl rfl rfl rfl rfl rfl rfl hb43.1 hb43.2 rfl rfl (fun q44 hq45 => ?_)
      have hS46 := ty125_shutS (c := r34) (B := _) hS41
      have hS47 := hS46.bring 1 rfl
      refine RW.storeEl ttok hS47 rfl rfl rfl rfl rfl rfl hb43.2 hq45 rfl rfl (fun w48 hS49 => ?_)
      refine RW.know (u := .slice A13 (s8.2.set s8.1.toNat r34).length k14) 3 rfl (by simp) ?_
      refine RW.know (u := .slice A13 (s8.2.set s8.1.toNat r34).length k14) 14 rfl (by simp) ?_
      refine RW.nil ?_
      refine WP.region ?_
      refine RW.run ttok 3 rfl ?_
      refine RW.nil ?_
      cases hb22
      exact ⟨_, [(0, .slice A0_ x0.length k0_), (3, .slice A13 (s8.2.set s8.1.toNat r34).length k14), (4, .int .i64 (w64 (s8.1 + 1)))], ⟨rfl, rfl, rfl, trivial⟩, rfl, A13, k14, ((hS49.bring 0 rfl).taken 1), rfl⟩
    · skip
      rw [if_neg (not_t hc)] at hb22
      refine WP.exit ?_
      cases hb22
      exact ⟨_, [(3, .slice A13 s8.2.length k14)], ⟨rfl, trivial⟩, A13, k14, ho23, ((hS25.bring 0 rfl).taken 1), rfl⟩

theorem enters128 : Enters Try.prog 128 := ⟨_, _, Try.func128, rfl, by kernel_rfl⟩
def m_laws_toShardRedex (fuel : Nat) (x0 : D.ShardRedex) : Option (D.ShardRedex) := ((m_laws_toAddress fuel x0.A).bind fun r14 => ((m_laws_toAddress fuel x0.B).bind fun r24 => some (⟨(⟨r14.Machine, r14.Kind, r14.Index⟩ : D.Address), (⟨r24.Machine, r24.Kind, r24.Index⟩ : D.Address)⟩ : D.ShardRedex)))

set_option maxRecDepth 100000 in
theorem laws_toShardRedex_ok {w : World} {c0_ : List Value} {x0 : D.ShardRedex} (h0_ : ty212.ro w c0_ x0) {fuel : Nat} {r : D.ShardRedex} (hm : m_laws_toShardRedex fuel x0 = some r) :
    Calls Try.prog 128 ⟨[.agg ⟨c0_⟩]⟩ w (Ret fun v w8 => v = .agg ⟨[.int .i64 r.A.Machine, .int .i64 r.A.Kind, .int .i64 r.A.Index, .int .i64 r.B.Machine, .int .i64 r.B.Kind, .int .i64 r.B.Index]⟩ ∧ St w w8 []) := by
  have e1 := ty212_open h0_; subst e1
  refine Calls.into Try.func128 rfl 13 rfl rfl _ rfl ?_
  unfold m_laws_toShardRedex at hm
  have hS := St.start w
  refine WP.seq ?_
  refine WP.region ?_
  refine RW.new ttok hS rfl rfl rfl rfl (fun g2 w3 e4 hS5 => ?_)
  refine RW.new ttok hS5 rfl rfl rfl rfl (fun g6 w7 e8 hS9 => ?_)
  refine RW.nil ?_
  refine WP.seq ?_
  refine WP.region ?_
  refine RW.new ttok hS9 rfl rfl rfl rfl (fun g10 w11 e12 hS13 => ?_)
  refine RW.nil ?_
  refine WP.seq ?_
  refine WP.region ?_
  refine RW.run ttok 1 rfl ?_
  refine RW.loadN ttok rfl rfl rfl rfl rfl (At.sub ((hS13.bring 2 rfl).box) 0 3) rfl rfl rfl ?_
  obtain ⟨r14, hx15, hm⟩ := bind_some hm
  refine RW.call rfl rfl rfl enters64 (laws_toAddress_ok (ty38_shut x0.A) hx15) (fun v16 w17 hR18 => ?_)
  obtain ⟨rfl, hR19⟩ := hR18
  have hS20 := hS13.join hR19
  refine RW.run ttok 1 rfl ?_
  have hS21 := hS20.bring 0 rfl
  refine RW.store ttok (A := []) hS21 rfl rfl rfl rfl rfl 0 rfl rfl rfl rfl rfl (fun w22 hS23 => ?_)
  refine RW.nil ?_
  refine WP.seq ?_
  refine WP.region ?_
  refine RW.run ttok 1 rfl ?_
  refine RW.loadN ttok rfl rfl rfl rfl rfl (At.sub ((hS23.bring 2 rfl).box) 3 3) rfl rfl rfl ?_
  obtain ⟨r24, hx25, hm⟩ := bind_some hm
  refine RW.call rfl rfl rfl enters64 (laws_toAddress_ok (ty38_shut x0.B) hx25) (fun v26 w27 hR28 => ?_)
  obtain ⟨rfl, hR29⟩ := hR28
  have hS30 := hS23.join hR29
  refine RW.run ttok 1 rfl ?_
  have hS31 := hS30.bring 0 rfl
  refine RW.store ttok (A := []) hS31 rfl rfl rfl rfl rfl 3 rfl rfl rfl rfl rfl (fun w32 hS33 => ?_)
  refine RW.nil ?_
  refine WP.seq ?_
  refine WP.region ?_
  refine RW.loadN ttok rfl rfl rfl rfl rfl ((hS33.bring 0 rfl).box) rfl rfl rfl ?_
  have hS34 := hS33.bring 1 rfl
  refine RW.store ttok (A := []) hS34 rfl rfl rfl rfl rfl 0 rfl rfl rfl rfl rfl (fun w35 hS36 => ?_)
  refine RW.nil ?_
  refine WP.ret ?_
  cases hm
  exact ⟨_, .cons (ResIs.agg ttok rfl rfl rfl ((hS36.bring 0 rfl).box) rfl) .nil, rfl, (hS36.taken 0)⟩

theorem enters54 : Enters Try.prog 54 := ⟨_, _, Try.func54, rfl, by kernel_rfl⟩
def m_laws_toShardRedexS_j1 (fuel : Nat) (t9 : (List D.ShardRedex)) : Option (List D.ShardRedex) := some t9
def m_laws_toShardRedexS_b1 (fuel : Nat) (x0 : (List D.ShardRedex)) (s8 : Int × (List D.ShardRedex)) : Option (Rd (Int × (List D.ShardRedex)) ((List D.ShardRedex)) ((List D.ShardRedex))) := (if (decide (s8.1 < (x0.length : Int))) = true then ((idx x0 s8.1).bind fun x27 => ((m_laws_toShardRedex fuel x27).bind fun r34 => (if decide (0 ≤ s8.1 ∧ s8.1.toNat < s8.2.length) = true then some (.next (w64 (s8.1 + 1), (s8.2.set s8.1.toNat r34))) else none))) else some (.brk s8.2))
def m_laws_toShardRedexS (fuel : Nat) (x0 : (List D.ShardRedex)) : Option ((List D.ShardRedex)) := (if decide (0 ≤ (x0.length : Int) ∧ (x0.length : Int) ≤ 4294967296) = true then ((iter (m_laws_toShardRedexS_b1 fuel x0) fuel (0, (List.replicate (x0.length : Int).toNat (⟨(⟨(0 : Int), (0 : Int), (0 : Int)⟩ : D.Address), (⟨(0 : Int), (0 : Int), (0 : Int)⟩ : D.Address)⟩ : D.ShardRedex)))).bind fun o => aft o (m_laws_toShardRedexS_j1 fuel)) else none)

set_option maxRecDepth 100000 in
theorem laws_toShardRedexS_ok {w : World} {A0_ : Option Addr} {k0_ : Nat} {x0 : (List D.ShardRedex)} (h0_ : ty24.ro w [.slice A0_ x0.length k0_] x0) {fuel : Nat} {r : (List D.ShardRedex)} (hm : m_laws_toShardRedexS fuel x0 = some r) :
    Calls Try.prog 54 ⟨[.slice A0_ x0.length k0_]⟩ w (Ret fun v w8 => ∃ A0 k0, v = .slice A0 r.length k0 ∧ St w w8 [Own ty31 [.slice A0 r.length k0] r]) := by
  refine Calls.into Try.func54 rfl 23 rfl rfl _ rfl ?_
  unfold m_laws_toShardRedexS at hm
  have hS := St.start w
  refine WP.seq ?_
  refine WP.region ?_
  refine RW.run ttok 1 rfl ?_
  refine RW.nil ?_
  refine WP.seq ?_
  refine WP.region ?_
  refine RW.run ttok 2 rfl ?_
  by_cases hk1 : decide (0 ≤ (x0.length : Int) ∧ (x0.length : Int) ≤ 4294967296) = true
  case neg => rw [if_neg hk1] at hm; cases hm
  rw [if_pos hk1] at hm
  have hz7 := of_decide_eq_true hk1
  refine RW.make (U := ty127) ttok (⟨(⟨(0 : Int), (0 : Int), (0 : Int)⟩ : D.Address), (⟨(0 : Int), (0 : Int), (0 : Int)⟩ : D.Address)⟩ : D.ShardRedex) hS rfl rfl rfl rfl rfl rfl rfl rfl hz7.1 (by have := hz7.2; show _ * (48 : Int) ≤ _; omega) (by have := hz7.2; simp only [maxLen]; omega) (fun _ => (ty127_ownI (c := (⟨(⟨(0 : Int), (0 : Int), (0 : Int)⟩ : D.Address), (⟨(0 : Int), (0 : Int), (0 : Int)⟩ : D.Address)⟩ : D.ShardRedex)) rfl)) rfl rfl (fun A2 k3 w4 e5 hS6 => ?_)
  refine RW.run ttok 1 rfl ?_
  refine RW.nil ?_
  refine WP.seq ?_
  refine WP.seq ?_
  refine WP.region ?_
  refine RW.run ttok 1 rfl ?_
  refine RW.nil ?_
  obtain ⟨o18, hl19, hm⟩ := bind_some hm
  refine WP.cut (fun (t9 : (List D.ShardRedex)) F w9 => ∃ A15 k16, o18 = .inl t9 ∧ St w w9 [Own ty31 [.slice A15 t9.length k16] t9] ∧ F = [(3, .slice A15 t9.length k16)]) ?_ ?_
  · skip
    rintro t9 F w17 ⟨A15, k16, ho21, hS20, rfl⟩
    subst ho21
    rw [aft_inl] at hm
    unfold m_laws_toShardRedexS_j1 at hm
    refine WP.seq ?_
    refine WP.region ?_
    refine RW.run ttok 2 rfl ?_
    refine RW.nil ?_
    refine WP.ret ?_
    cases hm
    exact ⟨_, .cons (.tmp rfl) .nil, A15, k16, rfl, ((hS20.bring 0 rfl).taken 1)⟩
  · skip
    refine WP.block ?_
    refine WP.weak [(0, .slice A0_ x0.length k0_), (3, .slice A2 (List.replicate (x0.length : Int).toNat (⟨(⟨(0 : Int), (0 : Int), (0 : Int)⟩ : D.Address), (⟨(0 : Int), (0 : Int), (0 : Int)⟩ : D.Address)⟩ : D.ShardRedex)).length k3), (4, .int .i64 0)] ⟨rfl, rfl, rfl, trivial⟩ ?_
    refine WP.iter (fun (s8 : Int × (List D.ShardRedex)) F w9 => ∃ A13 k14, St w w9 [Own ty31 [.slice A13 s8.2.length k14] s8.2] ∧ F = [(0, .slice A0_ x0.length k0_), (3, .slice A13 s8.2.length k14), (4, .int .i64 s8.1)]) _ hl19 ⟨A2, k3, ((hS6.bring 0 rfl).taken 1), rfl⟩ ?_
    rintro s8 F w26 _ o24 ⟨A13, k14, hS25, rfl⟩ hb22 ho23
    unfold m_laws_toShardRedexS_b1 at hb22
    refine WP.seq ?_
    refine WP.seq ?_
    refine WP.region ?_
    refine RW.run ttok 4 rfl ?_
    refine RW.nil ?_
    refine WP.cond (decide (s8.1 < (x0.length : Int))) rfl (fun hc => ?_) (fun hc => ?_)
    · skip
      rw [if_pos hc] at hb22
      refine WP.skip ?_
      refine WP.seq ?_
      refine WP.block ?_
      refine WP.region ?_
      refine RW.run ttok 4 rfl ?_
      obtain ⟨x27, hx28, hb22⟩ := bind_some hb22
      refine RW.idx ttok hS25.ext rfl rfl rfl rfl rfl rfl (by decide) rfl rfl h0_ (idx_some hx28).1 (idx_some hx28).2 rfl rfl (fun p29 es30 ha31 hr32 => ?_)
      have e33 := ty212_open hr32; subst e33
      refine RW.loadN ttok rfl rfl rfl rfl rfl (At.ext hS25.ext ha31) rfl rfl rfl ?_
      obtain ⟨r34, hx35, hb22⟩ := bind_some hb22
      refine RW.call rfl rfl rfl enters128 (laws_toShardRedex_ok (ty212.ext hS25.ext hr32) hx35) (fun v36 w37 hR38 => ?_)
      obtain ⟨rfl, hR39⟩ := hR38
      have hS40 := hS25.join hR39
      have hS41 := hS40.bring 0 rfl
      by_cases hk42 : decide (0 ≤ s8.1 ∧ s8.1.toNat < s8.2.length) = true
      case neg => rw [if_neg hk42] at hb22; cases hb22
      rw [if_pos hk42] at hb22
      have hb43 := of_decide_eq_true hk42
      refine RW.idxOwn ttok hS41 rfl rfl rfl rfl rfl rfl rfl rfl hb43.1 hb43.2 rfl rfl (fun q44 hq45 => ?_)
      have hS46 := ty127_shutS (c := r34) (B := _) hS41
      have hS47 := hS46.bring 1 rfl
      refine RW.storeEl ttok hS47 rfl rfl rfl rfl rfl rfl hb43.2 hq45 rfl rfl (fun w48 hS49 => ?_)
      refine RW.know (u := .slice A13 (s8.2.set s8.1.toNat r34).length k14) 3 rfl (by simp) ?_
      refine RW.know (u := .slice A13 (s8.2.set s8.1.toNat r34).length k14) 14 rfl (by simp) ?_
      refine RW.nil ?_
      refine WP.region ?_
      refine RW.run ttok 3 rfl ?_
      refine RW.nil ?_
      cases hb22
      exact ⟨_, [(0, .slice A0_ x0.length k0_), (3, .slice A13 (s8.2.set s8.1.toNat r34).length k14), (4, .int .i64 (w64 (s8.1 + 1)))], ⟨rfl, rfl, rfl, trivial⟩, rfl, A13, k14, ((hS49.bring 0 rfl).taken 1), rfl⟩
    · skip
      rw [if_neg (not_t hc)] at hb22
      refine WP.exit ?_
      cases hb22
      exact ⟨_, [(3, .slice A13 s8.2.length k14)], ⟨rfl, trivial⟩, A13, k14, ho23, ((hS25.bring 0 rfl).taken 1), rfl⟩

theorem enters13 : Enters Try.prog 13 := ⟨_, _, Try.func13, rfl, by kernel_rfl⟩
def m_laws_toShard (fuel : Nat) (x0 : D.Shard) : Option (D.Shard) := ((m_laws_toShardCellS fuel x0.Cells).bind fun r23 => ((m_laws_toShardVarS fuel x0.Vars).bind fun r35 => ((m_laws_toShardRedexS fuel x0.Redexes).bind fun r47 => some (⟨r23, r35, r47⟩ : D.Shard))))

set_option maxRecDepth 100000 in
theorem laws_toShard_ok {w : World} {c0_ : List Value} {x0 : D.Shard} (h0_ : ty26.ro w c0_ x0) {fuel : Nat} {r : D.Shard} (hm : m_laws_toShard fuel x0 = some r) :
    Calls Try.prog 13 ⟨[.agg ⟨c0_⟩]⟩ w (Ret fun v w8 => ∃ A0 k0 A1 k1 A2 k2, v = .agg ⟨[.slice A0 r.Cells.length k0, .slice A1 r.Vars.length k1, .slice A2 r.Redexes.length k2]⟩ ∧ St w w8 [Own ty29 [.slice A0 r.Cells.length k0] r.Cells, Own ty30 [.slice A1 r.Vars.length k1] r.Vars, Own ty31 [.slice A2 r.Redexes.length k2] r.Redexes]) := by
  obtain ⟨A1, k2, A4, k5, A7, k8, e10, h3, h6, h9⟩ := ty26_open h0_; subst e10
  refine Calls.into Try.func13 rfl 17 rfl rfl _ rfl ?_
  unfold m_laws_toShard at hm
  have hS := St.start w
  refine WP.seq ?_
  refine WP.region ?_
  refine RW.new ttok hS rfl rfl rfl rfl (fun g11 w12 e13 hS14 => ?_)
  refine RW.new ttok hS14 rfl rfl rfl rfl (fun g15 w16 e17 hS18 => ?_)
  refine RW.nil ?_
  refine WP.seq ?_
  refine WP.region ?_
  refine RW.new ttok hS18 rfl rfl rfl rfl (fun g19 w20 e21 hS22 => ?_)
  refine RW.nil ?_
  refine WP.seq ?_
  refine WP.region ?_
  refine RW.run ttok 1 rfl ?_
  refine RW.load1 ttok rfl rfl rfl rfl rfl ((hS22.bring 2 rfl).box) 0 rfl rfl rfl rfl ?_
  obtain ⟨r23, hx24, hm⟩ := bind_some hm
  refine RW.call rfl rfl rfl enters52 (laws_toShardCellS_ok (ty22.ext hS22.ext h3) hx24) (fun v25 w26 hR27 => ?_)
  obtain ⟨A28, k29, rfl, hR30⟩ := hR27
  have hS31 := hS22.join hR30
  refine RW.run ttok 1 rfl ?_
  have hS32 := hS31.bring 1 rfl
  refine RW.store ttok (A := []) hS32 rfl rfl rfl rfl rfl 0 rfl rfl rfl rfl rfl (fun w33 hS34 => ?_)
  refine RW.nil ?_
  refine WP.seq ?_
  refine WP.region ?_
  refine RW.run ttok 1 rfl ?_
  refine RW.load1 ttok rfl rfl rfl rfl rfl ((hS34.bring 3 rfl).box) 1 rfl rfl rfl rfl ?_
  obtain ⟨r35, hx36, hm⟩ := bind_some hm
  refine RW.call rfl rfl rfl enters53 (laws_toShardVarS_ok (ty23.ext hS34.ext h6) hx36) (fun v37 w38 hR39 => ?_)
  obtain ⟨A40, k41, rfl, hR42⟩ := hR39
  have hS43 := hS34.join hR42
  refine RW.run ttok 1 rfl ?_
  have hS44 := hS43.bring 1 rfl
  refine RW.store ttok (A := []) hS44 rfl rfl rfl rfl rfl 1 rfl rfl rfl rfl rfl (fun w45 hS46 => ?_)
  refine RW.nil ?_
  refine WP.seq ?_
  refine WP.region ?_
  refine RW.run ttok 1 rfl ?_
  refine RW.load1 ttok rfl rfl rfl rfl rfl ((hS46.bring 4 rfl).box) 2 rfl rfl rfl rfl ?_
  obtain ⟨r47, hx48, hm⟩ := bind_some hm
  refine RW.call rfl rfl rfl enters54 (laws_toShardRedexS_ok (ty24.ext hS46.ext h9) hx48) (fun v49 w50 hR51 => ?_)
  obtain ⟨A52, k53, rfl, hR54⟩ := hR51
  have hS55 := hS46.join hR54
  refine RW.run ttok 1 rfl ?_
  have hS56 := hS55.bring 1 rfl
  refine RW.store ttok (A := []) hS56 rfl rfl rfl rfl rfl 2 rfl rfl rfl rfl rfl (fun w57 hS58 => ?_)
  refine RW.nil ?_
  refine WP.seq ?_
  refine WP.region ?_
  refine RW.loadN ttok rfl rfl rfl rfl rfl ((hS58.bring 0 rfl).box) rfl rfl rfl ?_
  have hS59 := hS58.bring 4 rfl
  refine RW.store ttok (A := []) hS59 rfl rfl rfl rfl rfl 0 rfl rfl rfl rfl rfl (fun w60 hS61 => ?_)
  refine RW.nil ?_
  refine WP.ret ?_
  cases hm
  exact ⟨_, .cons (ResIs.agg ttok rfl rfl rfl ((hS61.bring 0 rfl).box) rfl) .nil, A28, k29, A40, k41, A52, k53, rfl, ((((hS61.bring 2 rfl).bring 3 rfl).bring 4 rfl).taken 3)⟩

theorem enters86 : Enters Try.prog 86 := ⟨_, _, Try.func86, rfl, by kernel_rfl⟩
def m_spec_l00Same_j1 (fuel : Nat) (t2 : Unit) : Option Bool := some true
def m_spec_l00Same_b1 (fuel : Nat) (x0 : (List Int)) (x1 : (List Int)) (s1 : Int) : Option (Rd (Int) (Unit) (Bool)) := (if (decide (s1 < (x0.length : Int))) = true then ((idx x0 s1).bind fun x19 => ((idx x1 s1).bind fun x25 => (if (x19 != x25) = true then some (.ret false) else some (.next (w64 (s1 + 1)))))) else some (.brk ()))
def m_spec_l00Same (fuel : Nat) (x0 : (List Int)) (x1 : (List Int)) : Option (Bool) := (if ((x0.length : Int) != (x1.length : Int)) = true then some false else ((iter (m_spec_l00Same_b1 fuel x0 x1) fuel 0).bind fun o => aft o (m_spec_l00Same_j1 fuel)))

set_option maxRecDepth 100000 in
theorem spec_l00Same_ok {w : World} {A0_ : Option Addr} {k0_ : Nat} {x0 : (List Int)} {A1_ : Option Addr} {k1_ : Nat} {x1 : (List Int)} (h0_ : ty72.ro w [.slice A0_ x0.length k0_] x0) (h1_ : ty72.ro w [.slice A1_ x1.length k1_] x1) {fuel : Nat} {r : Bool} (hm : m_spec_l00Same fuel x0 x1 = some r) :
    Calls Try.prog 86 ⟨[.slice A0_ x0.length k0_, .slice A1_ x1.length k1_]⟩ w (Ret fun v w8 => v = .bool r ∧ St w w8 []) := by
  refine Calls.into Try.func86 rfl 26 rfl rfl _ rfl ?_
  unfold m_spec_l00Same at hm
  have hS := St.start w
  refine WP.seq ?_
  refine WP.region ?_
  refine RW.run ttok 1 rfl ?_
  refine RW.nil ?_
  refine WP.seq ?_
  refine WP.seq ?_
  refine WP.region ?_
  refine RW.run ttok 5 rfl ?_
  refine RW.nil ?_
  refine WP.cond ((x0.length : Int) != (x1.length : Int)) rfl (fun hc => ?_) (fun hc => ?_)
  · skip
    rw [if_pos hc] at hm
    refine WP.seq ?_
    refine WP.region ?_
    refine RW.run ttok 1 rfl ?_
    refine RW.nil ?_
    refine WP.ret ?_
    cases hm
    exact ⟨_, .cons (.tmp rfl) .nil, rfl, (hS.taken 0)⟩
  · skip
    rw [if_neg (not_t hc)] at hm
    refine WP.skip ?_
    refine WP.seq ?_
    refine WP.seq ?_
    refine WP.region ?_
    refine RW.run ttok 1 rfl ?_
    refine RW.nil ?_
    obtain ⟨o8, hl9, hm⟩ := bind_some hm
    refine WP.cut (fun (t2 : Unit) F w9 => o8 = .inl t2 ∧ Ext w w9 ∧ St w w9 [] ∧ F = []) ?_ ?_
    · skip
      rintro t2 F w7 ⟨ho11, hE6, hS10, rfl⟩
      subst ho11
      rw [aft_inl] at hm
      unfold m_spec_l00Same_j1 at hm
      refine WP.seq ?_
      refine WP.region ?_
      refine RW.run ttok 1 rfl ?_
      refine RW.nil ?_
      refine WP.ret ?_
      cases hm
      exact ⟨_, .cons (.tmp rfl) .nil, rfl, (hS10.taken 0)⟩
    · skip
      refine WP.block ?_
      refine WP.weak [(0, .slice A0_ x0.length k0_), (1, .slice A1_ x1.length k1_), (5, .int .i64 0)] ⟨rfl, rfl, rfl, trivial⟩ ?_
      refine WP.iter (fun (s1 : Int) F w9 => Ext w w9 ∧ St w w9 [] ∧ F = [(0, .slice A0_ x0.length k0_), (1, .slice A1_ x1.length k1_), (5, .int .i64 s1)]) _ hl9 ⟨(Ext.refl _), (hS.taken 0), rfl⟩ ?_
      rintro s1 F w16 _ o14 ⟨hE5, hS15, rfl⟩ hb12 ho13
      unfold m_spec_l00Same_b1 at hb12
      refine WP.seq ?_
      refine WP.seq ?_
      refine WP.region ?_
      refine RW.run ttok 4 rfl ?_
      refine RW.nil ?_
      refine WP.cond (decide (s1 < (x0.length : Int))) rfl (fun hc => ?_) (fun hc => ?_)
      · skip
        rw [if_pos hc] at hb12
        refine WP.skip ?_
        refine WP.seq ?_
        refine WP.block ?_
        refine WP.seq ?_
        refine WP.drawnM 0 mixed 9 (by kernel_rfl) (by kernel_rfl) [([], 511), ([], 511), ([0, 1], 508), ([2], 507), ([], 511), ([], 511), ([4, 5], 463), ([6], 447), ([3, 7], 375)] (by kernel_rfl) (fun hsk17 => ?_)
        have hS18 := hS15.step (Ext.draw _)
        refine DM.run (fuel := 5) ttok hsk17 [0, 1, 4, 5] 51 (by kernel_rfl) (by kernel_rfl) rfl ?_
        obtain ⟨x19, hx20, hb12⟩ := bind_some hb12
        refine DM.idx ttok hS15.ext hsk17 2 55 (by kernel_rfl) (by kernel_rfl) (by kernel_rfl) (by kernel_rfl) rfl (by kernel_rfl) rfl rfl rfl rfl rfl rfl (by decide) rfl rfl h0_ (idx_some hx20).1 (idx_some hx20).2 rfl rfl (fun p21 es22 ha23 hr24 => ?_)
        cases hr24
        refine DM.load1 ttok hsk17 3 63 (by kernel_rfl) (by kernel_rfl) (by kernel_rfl) (by kernel_rfl) rfl (by kernel_rfl) rfl rfl rfl rfl rfl (At.ext hS15.ext ha23) 0 rfl rfl rfl rfl ?_
        obtain ⟨x25, hx26, hb12⟩ := bind_some hb12
        refine DM.idx ttok hS15.ext hsk17 6 127 (by kernel_rfl) (by kernel_rfl) (by kernel_rfl) (by kernel_rfl) rfl (by kernel_rfl) rfl rfl rfl rfl rfl rfl (by decide) rfl rfl h1_ (idx_some hx26).1 (idx_some hx26).2 rfl rfl (fun p27 es28 ha29 hr30 => ?_)
        cases hr30
        refine DM.load1 ttok hsk17 7 255 (by kernel_rfl) (by kernel_rfl) (by kernel_rfl) (by kernel_rfl) rfl (by kernel_rfl) rfl rfl rfl rfl rfl (At.ext hS15.ext ha29) 0 rfl rfl rfl rfl ?_
        refine DM.run (fuel := 0) ttok hsk17 [8] 511 (by kernel_rfl) (by kernel_rfl) rfl ?_
        refine DM.weak [(0, .slice A0_ x0.length k0_), (1, .slice A1_ x1.length k1_), (5, .int .i64 s1), (25, .bool (x19 != x25))] ⟨rfl, rfl, rfl, rfl, trivial⟩ ?_
        refine DM.done hsk17 (by kernel_rfl) ?_
        refine WP.cond (x19 != x25) rfl (fun hc => ?_) (fun hc => ?_)
        · skip
          rw [if_pos hc] at hb12
          refine WP.seq ?_
          refine WP.region ?_
          refine RW.run ttok 1 rfl ?_
          refine RW.nil ?_
          refine WP.ret ?_
          cases hb12
          cases ho13
          have hm : some _ = some _ := hm
          cases hm
          exact ⟨_, .cons (.tmp rfl) .nil, rfl, (hS18.taken 0)⟩
        · skip
          rw [if_neg (not_t hc)] at hb12
          refine WP.skip ?_
          refine WP.region ?_
          refine RW.run ttok 3 rfl ?_
          refine RW.nil ?_
          cases hb12
          exact ⟨_, [(0, .slice A0_ x0.length k0_), (1, .slice A1_ x1.length k1_), (5, .int .i64 (w64 (s1 + 1)))], ⟨rfl, rfl, rfl, trivial⟩, rfl, (hE5.trans (Ext.draw _)), (hS18.taken 0), rfl⟩
      · skip
        rw [if_neg (not_t hc)] at hb12
        refine WP.exit ?_
        cases hb12
        exact ⟨_, [], trivial, ho13, hE5, (hS15.taken 0), rfl⟩

theorem enters125 : Enters Try.prog 125 := ⟨_, _, Try.func125, rfl, by kernel_rfl⟩
def m_spec_l27SameAddresses_j1 (fuel : Nat) (t2 : Unit) : Option Bool := some true
def m_spec_l27SameAddresses_b1 (fuel : Nat) (x0 : (List D.Address)) (x1 : (List D.Address)) (s1 : Int) : Option (Rd (Int) (Unit) (Bool)) := (if (decide (s1 < (x0.length : Int))) = true then ((idx x0 s1).bind fun x19 => ((idx x1 s1).bind fun x26 => (if (!(((x19.Machine : Int) == x26.Machine) && (((x19.Kind : Int) == x26.Kind) && (((x19.Index : Int) == x26.Index) && true)))) = true then some (.ret false) else some (.next (w64 (s1 + 1)))))) else some (.brk ()))
def m_spec_l27SameAddresses (fuel : Nat) (x0 : (List D.Address)) (x1 : (List D.Address)) : Option (Bool) := (if ((x0.length : Int) != (x1.length : Int)) = true then some false else ((iter (m_spec_l27SameAddresses_b1 fuel x0 x1) fuel 0).bind fun o => aft o (m_spec_l27SameAddresses_j1 fuel)))

set_option maxRecDepth 100000 in
theorem spec_l27SameAddresses_ok {w : World} {A0_ : Option Addr} {k0_ : Nat} {x0 : (List D.Address)} {A1_ : Option Addr} {k1_ : Nat} {x1 : (List D.Address)} (h0_ : ty121.ro w [.slice A0_ x0.length k0_] x0) (h1_ : ty121.ro w [.slice A1_ x1.length k1_] x1) {fuel : Nat} {r : Bool} (hm : m_spec_l27SameAddresses fuel x0 x1 = some r) :
    Calls Try.prog 125 ⟨[.slice A0_ x0.length k0_, .slice A1_ x1.length k1_]⟩ w (Ret fun v w8 => v = .bool r ∧ St w w8 []) := by
  refine Calls.into Try.func125 rfl 26 rfl rfl _ rfl ?_
  unfold m_spec_l27SameAddresses at hm
  have hS := St.start w
  refine WP.seq ?_
  refine WP.region ?_
  refine RW.run ttok 1 rfl ?_
  refine RW.nil ?_
  refine WP.seq ?_
  refine WP.seq ?_
  refine WP.region ?_
  refine RW.run ttok 5 rfl ?_
  refine RW.nil ?_
  refine WP.cond ((x0.length : Int) != (x1.length : Int)) rfl (fun hc => ?_) (fun hc => ?_)
  · skip
    rw [if_pos hc] at hm
    refine WP.seq ?_
    refine WP.region ?_
    refine RW.run ttok 1 rfl ?_
    refine RW.nil ?_
    refine WP.ret ?_
    cases hm
    exact ⟨_, .cons (.tmp rfl) .nil, rfl, (hS.taken 0)⟩
  · skip
    rw [if_neg (not_t hc)] at hm
    refine WP.skip ?_
    refine WP.seq ?_
    refine WP.seq ?_
    refine WP.region ?_
    refine RW.run ttok 1 rfl ?_
    refine RW.nil ?_
    obtain ⟨o8, hl9, hm⟩ := bind_some hm
    refine WP.cut (fun (t2 : Unit) F w9 => o8 = .inl t2 ∧ Ext w w9 ∧ St w w9 [] ∧ F = []) ?_ ?_
    · skip
      rintro t2 F w7 ⟨ho11, hE6, hS10, rfl⟩
      subst ho11
      rw [aft_inl] at hm
      unfold m_spec_l27SameAddresses_j1 at hm
      refine WP.seq ?_
      refine WP.region ?_
      refine RW.run ttok 1 rfl ?_
      refine RW.nil ?_
      refine WP.ret ?_
      cases hm
      exact ⟨_, .cons (.tmp rfl) .nil, rfl, (hS10.taken 0)⟩
    · skip
      refine WP.block ?_
      refine WP.weak [(0, .slice A0_ x0.length k0_), (1, .slice A1_ x1.length k1_), (5, .int .i64 0)] ⟨rfl, rfl, rfl, trivial⟩ ?_
      refine WP.iter (fun (s1 : Int) F w9 => Ext w w9 ∧ St w w9 [] ∧ F = [(0, .slice A0_ x0.length k0_), (1, .slice A1_ x1.length k1_), (5, .int .i64 s1)]) _ hl9 ⟨(Ext.refl _), (hS.taken 0), rfl⟩ ?_
      rintro s1 F w16 _ o14 ⟨hE5, hS15, rfl⟩ hb12 ho13
      unfold m_spec_l27SameAddresses_b1 at hb12
      refine WP.seq ?_
      refine WP.seq ?_
      refine WP.region ?_
      refine RW.run ttok 4 rfl ?_
      refine RW.nil ?_
      refine WP.cond (decide (s1 < (x0.length : Int))) rfl (fun hc => ?_) (fun hc => ?_)
      · skip
        rw [if_pos hc] at hb12
        refine WP.skip ?_
        refine WP.seq ?_
        refine WP.block ?_
        refine WP.seq ?_
        refine WP.drawnM 0 mixed 9 (by kernel_rfl) (by kernel_rfl) [([], 511), ([], 511), ([0, 1], 508), ([2], 507), ([], 511), ([], 511), ([4, 5], 463), ([6], 447), ([3, 7], 375)] (by kernel_rfl) (fun hsk17 => ?_)
        have hS18 := hS15.step (Ext.draw _)
        refine DM.run (fuel := 5) ttok hsk17 [0, 1, 4, 5] 51 (by kernel_rfl) (by kernel_rfl) rfl ?_
        obtain ⟨x19, hx20, hb12⟩ := bind_some hb12
        refine DM.idx ttok hS15.ext hsk17 2 55 (by kernel_rfl) (by kernel_rfl) (by kernel_rfl) (by kernel_rfl) rfl (by kernel_rfl) rfl rfl rfl rfl rfl rfl (by decide) rfl rfl h0_ (idx_some hx20).1 (idx_some hx20).2 rfl rfl (fun p21 es22 ha23 hr24 => ?_)
        have e25 := ty44_open hr24; subst e25
        refine DM.loadN ttok hsk17 3 63 (by kernel_rfl) (by kernel_rfl) (by kernel_rfl) (by kernel_rfl) rfl (by kernel_rfl) rfl rfl rfl rfl rfl (At.ext hS15.ext ha23) rfl rfl rfl ?_
        obtain ⟨x26, hx27, hb12⟩ := bind_some hb12
        refine DM.idx ttok hS15.ext hsk17 6 127 (by kernel_rfl) (by kernel_rfl) (by kernel_rfl) (by kernel_rfl) rfl (by kernel_rfl) rfl rfl rfl rfl rfl rfl (by decide) rfl rfl h1_ (idx_some hx27).1 (idx_some hx27).2 rfl rfl (fun p28 es29 ha30 hr31 => ?_)
        have e32 := ty44_open hr31; subst e32
        refine DM.loadN ttok hsk17 7 255 (by kernel_rfl) (by kernel_rfl) (by kernel_rfl) (by kernel_rfl) rfl (by kernel_rfl) rfl rfl rfl rfl rfl (At.ext hS15.ext ha30) rfl rfl rfl ?_
        refine DM.run (fuel := 0) ttok hsk17 [8] 511 (by kernel_rfl) (by kernel_rfl) rfl ?_
        refine DM.weak [(0, .slice A0_ x0.length k0_), (1, .slice A1_ x1.length k1_), (5, .int .i64 s1), (25, .bool (!(((x19.Machine : Int) == x26.Machine) && (((x19.Kind : Int) == x26.Kind) && (((x19.Index : Int) == x26.Index) && true)))))] ⟨rfl, rfl, rfl, rfl, trivial⟩ ?_
        refine DM.done hsk17 (by kernel_rfl) ?_
        refine WP.cond (!(((x19.Machine : Int) == x26.Machine) && (((x19.Kind : Int) == x26.Kind) && (((x19.Index : Int) == x26.Index) && true)))) rfl (fun hc => ?_) (fun hc => ?_)
        · skip
          rw [if_pos hc] at hb12
          refine WP.seq ?_
          refine WP.region ?_
          refine RW.run ttok 1 rfl ?_
          refine RW.nil ?_
          refine WP.ret ?_
          cases hb12
          cases ho13
          have hm : some _ = some _ := hm
          cases hm
          exact ⟨_, .cons (.tmp rfl) .nil, rfl, (hS18.taken 0)⟩
        · skip
          rw [if_neg (not_t hc)] at hb12
          refine WP.skip ?_
          refine WP.region ?_
          refine RW.run ttok 3 rfl ?_
          refine RW.nil ?_
          cases hb12
          exact ⟨_, [(0, .slice A0_ x0.length k0_), (1, .slice A1_ x1.length k1_), (5, .int .i64 (w64 (s1 + 1)))], ⟨rfl, rfl, rfl, trivial⟩, rfl, (hE5.trans (Ext.draw _)), (hS18.taken 0), rfl⟩
      · skip
        rw [if_neg (not_t hc)] at hb12
        refine WP.exit ?_
        cases hb12
        exact ⟨_, [], trivial, ho13, hE5, (hS15.taken 0), rfl⟩

theorem enters51 : Enters Try.prog 51 := ⟨_, _, Try.func51, rfl, by kernel_rfl⟩
def m_spec_l27SameCell (fuel : Nat) (x0 : D.ShardCell) (x1 : D.ShardCell) : Option (Bool) := (if (x0.Kind == x1.Kind) = true then (if (x0.Level == x1.Level) = true then (if (x0.Value == x1.Value) = true then ((m_spec_l00Same fuel x0.Data x1.Data).bind fun r20 => (if r20 = true then ((m_spec_l27SameAddresses fuel x0.Aux x1.Aux).bind fun r28 => some r28) else some false)) else some false) else some false) else some false)

set_option maxRecDepth 100000 in
theorem spec_l27SameCell_ok {w : World} {p0_ : Addr} {c0_ : List Value} {x0 : D.ShardCell} {p1_ : Addr} {c1_ : List Value} {x1 : D.ShardCell} (h0_ : ty123.ro w c0_ x0) (g0_ : At w p0_ c0_) (h1_ : ty123.ro w c1_ x1) (g1_ : At w p1_ c1_) {fuel : Nat} {r : Bool} (hm : m_spec_l27SameCell fuel x0 x1 = some r) :
    Calls Try.prog 51 ⟨[.pointer (some p0_), .pointer (some p1_)]⟩ w (Ret fun v w8 => v = .bool r ∧ St w w8 []) := by
  obtain ⟨A1, k2, A4, k5, e7, h3, h6⟩ := ty123_open h0_; subst e7
  obtain ⟨A8, k9, A11, k12, e14, h10, h13⟩ := ty123_open h1_; subst e14
  refine Calls.into Try.func51 rfl 58 rfl rfl _ rfl ?_
  unfold m_spec_l27SameCell at hm
  have hS := St.start w
  refine WP.seq ?_
  refine WP.region ?_
  refine RW.run ttok 1 rfl ?_
  refine RW.nil ?_
  refine WP.seq ?_
  refine WP.drawnM 0 mixed 54 (by kernel_rfl) (by kernel_rfl) [([], 18014398509481983), ([0], 18014398509481982), ([1], 18014398509481981), ([2], 18014398509481979), ([], 18014398509481983), ([4], 18014398509481967), ([5], 18014398509481951), ([6], 18014398509481919), ([3, 7], 18014398509481847), ([8], 18014398509481727), ([9], 18014398509481471), ([10, 9], 18014398509480447), ([11, 9], 18014398509479423), ([12, 9], 18014398509477375), ([9], 18014398509481471), ([14, 9], 18014398509465087), ([15, 9], 18014398509448703), ([16, 9], 18014398509415935), ([13, 17, 9], 18014398509342207), ([9, 18], 18014398509219327), ([19, 9], 18014398508957695), ([20], 18014398508433407), ([21, 20], 18014398506336255), ([22, 20], 18014398504239103), ([23, 20], 18014398500044799), ([20], 18014398508433407), ([25, 20], 18014398474878975), ([26, 20], 18014398441324543), ([27, 20], 18014398374215679), ([24, 28, 20], 18014398223220735), ([20, 29], 18014397971562495), ([30, 20], 18014397435740159), ([31], 18014396361998335), ([32, 31], 18014392067031039), ([33, 31], 18014387772063743), ([34, 31], 18014379182129151), ([31], 18014396361998335), ([36, 31], 18014327642521599), ([37, 31], 18014258923044863), ([38, 31], 18014121484091391), ([35, 39, 31, 31], 18013812246446079), ([31, 40], 18013296850370559), ([41, 40], 18012199486226431), ([42], 18010000462970879), ([43, 42], 18001204369948671), ([44, 42], 17992408276926463), ([45, 42], 17974816090882047), ([42], 18010000462970879), ([47, 42], 17869262974615551), ([48, 42], 17728525486260223), ([49, 42], 17447050509549567), ([46, 50, 42, 42], 16813731811950591), ([42, 51], 15758200649285631), ([52, 51, 0, 1, 2, 3, 4, 5, 6, 7, 8, 9, 10, 11, 12, 13, 14, 15, 16, 17, 18, 19, 20, 21, 22, 23, 24, 25, 26, 27, 28, 29, 30, 31, 32, 33, 34, 35, 36, 37, 38, 39, 40, 41, 42, 43, 44, 45, 46, 47, 48, 49, 50, 51, 52], 13510798882111487)] (by kernel_rfl) (fun hsk15 => ?_)
  have hS16 := hS.step (Ext.draw _)
  refine DM.run (fuel := 48) ttok hsk15 [0, 1, 2, 4, 5, 6] 119 (by kernel_rfl) (by kernel_rfl) rfl ?_
  refine DM.load1 ttok hsk15 3 127 (by kernel_rfl) (by kernel_rfl) (by kernel_rfl) (by kernel_rfl) rfl (by kernel_rfl) rfl rfl rfl rfl rfl (At.ext hS.ext g0_) 0 rfl rfl rfl rfl ?_
  refine DM.load1 ttok hsk15 7 255 (by kernel_rfl) (by kernel_rfl) (by kernel_rfl) (by kernel_rfl) rfl (by kernel_rfl) rfl rfl rfl rfl rfl (At.ext hS.ext g1_) 0 rfl rfl rfl rfl ?_
  refine DM.run (fuel := 44) ttok hsk15 [8, 9] 1023 (by kernel_rfl) (by kernel_rfl) rfl ?_
  refine DM.weak [(0, .pointer (some p0_)), (1, .pointer (some p1_)), (4, .bool false), (14, .bool (x0.Kind == x1.Kind))] ⟨rfl, rfl, rfl, rfl, trivial⟩ ?_
  by_cases hg17 : (x0.Kind == x1.Kind) = true
  · skip
    rw [if_pos hg17] at hm
    refine DM.know 14 rfl (congrArg Value.bool hg17) ?_
    refine DM.run (fuel := 38) ttok hsk15 [10, 11, 12, 14, 15, 16] 122879 (by kernel_rfl) (by kernel_rfl) rfl ?_
    refine DM.load1 ttok hsk15 13 131071 (by kernel_rfl) (by kernel_rfl) (by kernel_rfl) (by kernel_rfl) rfl (by kernel_rfl) rfl rfl rfl rfl rfl (At.ext hS.ext g0_) 1 rfl rfl rfl rfl ?_
    refine DM.load1 ttok hsk15 17 262143 (by kernel_rfl) (by kernel_rfl) (by kernel_rfl) (by kernel_rfl) rfl (by kernel_rfl) rfl rfl rfl rfl rfl (At.ext hS.ext g1_) 1 rfl rfl rfl rfl ?_
    refine DM.run (fuel := 33) ttok hsk15 [18, 19, 20] 2097151 (by kernel_rfl) (by kernel_rfl) rfl ?_
    refine DM.weak [(0, .pointer (some p0_)), (1, .pointer (some p1_)), (4, .bool false), (25, .bool (x0.Level == x1.Level))] ⟨rfl, rfl, rfl, rfl, trivial⟩ ?_
    by_cases hg18 : (x0.Level == x1.Level) = true
    · skip
      rw [if_pos hg18] at hm
      refine DM.know 25 rfl (congrArg Value.bool hg18) ?_
      refine DM.run (fuel := 27) ttok hsk15 [21, 22, 23, 25, 26, 27] 251658239 (by kernel_rfl) (by kernel_rfl) rfl ?_
      refine DM.load1 ttok hsk15 24 268435455 (by kernel_rfl) (by kernel_rfl) (by kernel_rfl) (by kernel_rfl) rfl (by kernel_rfl) rfl rfl rfl rfl rfl (At.ext hS.ext g0_) 2 rfl rfl rfl rfl ?_
      refine DM.load1 ttok hsk15 28 536870911 (by kernel_rfl) (by kernel_rfl) (by kernel_rfl) (by kernel_rfl) rfl (by kernel_rfl) rfl rfl rfl rfl rfl (At.ext hS.ext g1_) 2 rfl rfl rfl rfl ?_
      refine DM.run (fuel := 22) ttok hsk15 [29, 30, 31] 4294967295 (by kernel_rfl) (by kernel_rfl) rfl ?_
      refine DM.weak [(0, .pointer (some p0_)), (1, .pointer (some p1_)), (4, .bool false), (36, .bool (x0.Value == x1.Value))] ⟨rfl, rfl, rfl, rfl, trivial⟩ ?_
      by_cases hg19 : (x0.Value == x1.Value) = true
      · skip
        rw [if_pos hg19] at hm
        refine DM.know 36 rfl (congrArg Value.bool hg19) ?_
        refine DM.run (fuel := 16) ttok hsk15 [32, 33, 34, 36, 37, 38] 515396075519 (by kernel_rfl) (by kernel_rfl) rfl ?_
        refine DM.load1 ttok hsk15 35 549755813887 (by kernel_rfl) (by kernel_rfl) (by kernel_rfl) (by kernel_rfl) rfl (by kernel_rfl) rfl rfl rfl rfl rfl (At.ext hS.ext g0_) 3 rfl rfl rfl rfl ?_
        refine DM.load1 ttok hsk15 39 1099511627775 (by kernel_rfl) (by kernel_rfl) (by kernel_rfl) (by kernel_rfl) rfl (by kernel_rfl) rfl rfl rfl rfl rfl (At.ext hS.ext g1_) 3 rfl rfl rfl rfl ?_
        obtain ⟨r20, hx21, hm⟩ := bind_some hm
        refine DM.one hsk15 40 (by kernel_rfl) (LM.call hsk15 2199023255551 (by kernel_rfl) (by kernel_rfl) rfl rfl rfl rfl enters86 (spec_l00Same_ok (ty72.ext hS16.ext h3) (ty72.ext hS16.ext h10) hx21) (fun v22 w23 hR24 => ?_))
        obtain ⟨rfl, hR25⟩ := hR24
        refine ⟨hR25.ext, ?_⟩
        have hS26 := hS16.join hR25
        refine DM.run (fuel := 11) ttok hsk15 [41, 42] 8796093022207 (by kernel_rfl) (by kernel_rfl) rfl ?_
        refine DM.weak [(0, .pointer (some p0_)), (1, .pointer (some p1_)), (4, .bool false), (47, .bool r20)] ⟨rfl, rfl, rfl, rfl, trivial⟩ ?_
        by_cases hg27 : r20 = true
        · skip
          rw [if_pos hg27] at hm
          refine DM.know 47 rfl (congrArg Value.bool hg27) ?_
          refine DM.run (fuel := 5) ttok hsk15 [43, 44, 45, 47, 48, 49] 1055531162664959 (by kernel_rfl) (by kernel_rfl) rfl ?_
          refine DM.weak [(4, .bool false), (47, .bool true), (50, .pointer (some (p0_.add 4))), (54, .pointer (some (p1_.add 4)))] ⟨rfl, rfl, rfl, rfl, trivial⟩ ?_
          refine DM.load1 ttok hsk15 46 1125899906842623 (by kernel_rfl) (by kernel_rfl) (by kernel_rfl) (by kernel_rfl) rfl (by kernel_rfl) rfl rfl rfl rfl rfl (At.ext hS.ext g0_) 4 rfl rfl rfl rfl ?_
          refine DM.load1 ttok hsk15 50 2251799813685247 (by kernel_rfl) (by kernel_rfl) (by kernel_rfl) (by kernel_rfl) rfl (by kernel_rfl) rfl rfl rfl rfl rfl (At.ext hS.ext g1_) 4 rfl rfl rfl rfl ?_
          obtain ⟨r28, hx29, hm⟩ := bind_some hm
          refine DM.one hsk15 51 (by kernel_rfl) (LM.call hsk15 4503599627370495 (by kernel_rfl) (by kernel_rfl) rfl rfl rfl rfl enters125 (spec_l27SameAddresses_ok (ty121.ext hS26.ext h6) (ty121.ext hS26.ext h13) hx29) (fun v30 w31 hR32 => ?_))
          obtain ⟨rfl, hR33⟩ := hR32
          refine ⟨hR33.ext, ?_⟩
          have hS34 := hS26.join hR33
          refine DM.run (fuel := 0) ttok hsk15 [52, 53] 18014398509481983 (by kernel_rfl) (by kernel_rfl) rfl ?_
          refine DM.weak [(4, .bool r28)] ⟨rfl, trivial⟩ ?_
          refine DM.done hsk15 (by kernel_rfl) ?_
          refine WP.ret ?_
          cases hm
          exact ⟨_, .cons (.tmp rfl) .nil, rfl, (hS34.taken 0)⟩
        · skip
          rw [if_neg hg27] at hm
          refine DM.know 47 rfl (congrArg Value.bool (Bool.eq_false_iff.2 hg27)) ?_
          refine DM.run (fuel := 0) ttok hsk15 [43, 44, 45, 46, 47, 48, 49, 50, 51, 52, 53] 18014398509481983 (by kernel_rfl) (by kernel_rfl) rfl ?_
          refine DM.weak [(4, .bool false)] ⟨rfl, trivial⟩ ?_
          refine DM.done hsk15 (by kernel_rfl) ?_
          refine WP.ret ?_
          cases hm
          exact ⟨_, .cons (.tmp rfl) .nil, rfl, (hS26.taken 0)⟩
      · skip
        rw [if_neg hg19] at hm
        refine DM.know 36 rfl (congrArg Value.bool (Bool.eq_false_iff.2 hg19)) ?_
        refine DM.run (fuel := 0) ttok hsk15 [32, 33, 34, 35, 36, 37, 38, 39, 40, 41, 42, 43, 44, 45, 46, 47, 48, 49, 50, 51, 52, 53] 18014398509481983 (by kernel_rfl) (by kernel_rfl) rfl ?_
        refine DM.weak [(4, .bool false)] ⟨rfl, trivial⟩ ?_
        refine DM.done hsk15 (by kernel_rfl) ?_
        refine WP.ret ?_
        cases hm
        exact ⟨_, .cons (.tmp rfl) .nil, rfl, (hS16.taken 0)⟩
    · skip
      rw [if_neg hg18] at hm
      refine DM.know 25 rfl (congrArg Value.bool (Bool.eq_false_iff.2 hg18)) ?_
      refine DM.run (fuel := 0) ttok hsk15 [21, 22, 23, 24, 25, 26, 27, 28, 29, 30, 31, 32, 33, 34, 35, 36, 37, 38, 39, 40, 41, 42, 43, 44, 45, 46, 47, 48, 49, 50, 51, 52, 53] 18014398509481983 (by kernel_rfl) (by kernel_rfl) rfl ?_
      refine DM.weak [(4, .bool false)] ⟨rfl, trivial⟩ ?_
      refine DM.done hsk15 (by kernel_rfl) ?_
      refine WP.ret ?_
      cases hm
      exact ⟨_, .cons (.tmp rfl) .nil, rfl, (hS16.taken 0)⟩
  · skip
    rw [if_neg hg17] at hm
    refine DM.know 14 rfl (congrArg Value.bool (Bool.eq_false_iff.2 hg17)) ?_
    refine DM.run (fuel := 0) ttok hsk15 [10, 11, 12, 13, 14, 15, 16, 17, 18, 19, 20, 21, 22, 23, 24, 25, 26, 27, 28, 29, 30, 31, 32, 33, 34, 35, 36, 37, 38, 39, 40, 41, 42, 43, 44, 45, 46, 47, 48, 49, 50, 51, 52, 53] 18014398509481983 (by kernel_rfl) (by kernel_rfl) rfl ?_
    refine DM.weak [(4, .bool false)] ⟨rfl, trivial⟩ ?_
    refine DM.done hsk15 (by kernel_rfl) ?_
    refine WP.ret ?_
    cases hm
    exact ⟨_, .cons (.tmp rfl) .nil, rfl, (hS16.taken 0)⟩

theorem enters12 : Enters Try.prog 12 := ⟨_, _, Try.func12, rfl, by kernel_rfl⟩
def m_spec_SameShard_j4 (fuel : Nat) (t57 : Unit) : Option Bool := some true
def m_spec_SameShard_b3 (fuel : Nat) (x0 : D.Shard) (x1 : D.Shard) (s56 : Int) : Option (Rd (Int) (Unit) (Bool)) := (if (decide (s56 < (x0.Redexes.length : Int))) = true then ((idx x0.Redexes s56).bind fun x74 => ((idx x1.Redexes s56).bind fun x81 => (if (!((((x74.A.Machine : Int) == x81.A.Machine) && (((x74.A.Kind : Int) == x81.A.Kind) && (((x74.A.Index : Int) == x81.A.Index) && true))) && ((((x74.B.Machine : Int) == x81.B.Machine) && (((x74.B.Kind : Int) == x81.B.Kind) && (((x74.B.Index : Int) == x81.B.Index) && true))) && true))) = true then some (.ret false) else some (.next (w64 (s56 + 1)))))) else some (.brk ()))
def m_spec_SameShard_j3 (fuel : Nat) (x0 : D.Shard) (x1 : D.Shard) (t46 : Unit) : Option Bool := ((iter (m_spec_SameShard_b3 fuel x0 x1) fuel 0).bind fun o => aft o (m_spec_SameShard_j4 fuel))
def m_spec_SameShard_b2 (fuel : Nat) (x0 : D.Shard) (x1 : D.Shard) (s45 : Int) : Option (Rd (Int) (Unit) (Bool)) := (if (decide (s45 < (x0.Vars.length : Int))) = true then ((idx x0.Vars s45).bind fun x95 => ((idx x1.Vars s45).bind fun x102 => (if (!((x95.Used == x102.Used) && ((x95.Full == x102.Full) && ((((x95.Held.Machine : Int) == x102.Held.Machine) && (((x95.Held.Kind : Int) == x102.Held.Kind) && (((x95.Held.Index : Int) == x102.Held.Index) && true))) && true)))) = true then some (.ret false) else some (.next (w64 (s45 + 1)))))) else some (.brk ()))
def m_spec_SameShard_j2 (fuel : Nat) (x0 : D.Shard) (x1 : D.Shard) (t35 : Unit) : Option Bool := ((iter (m_spec_SameShard_b2 fuel x0 x1) fuel 0).bind fun o => aft o (m_spec_SameShard_j3 fuel x0 x1))
def m_spec_SameShard_b1 (fuel : Nat) (x0 : D.Shard) (x1 : D.Shard) (s34 : Int) : Option (Rd (Int) (Unit) (Bool)) := (if (decide (s34 < (x0.Cells.length : Int))) = true then ((idx x0.Cells s34).bind fun x116 => ((idx x1.Cells s34).bind fun x129 => ((m_spec_l27SameCell fuel x116 x129).bind fun r142 => (if (!r142) = true then some (.ret false) else some (.next (w64 (s34 + 1))))))) else some (.brk ()))
def m_spec_SameShard_j1 (fuel : Nat) (x0 : D.Shard) (x1 : D.Shard) (t29 : Bool) : Option Bool := (if t29 = true then some false else ((iter (m_spec_SameShard_b1 fuel x0 x1) fuel 0).bind fun o => aft o (m_spec_SameShard_j2 fuel x0 x1)))
def m_spec_SameShard (fuel : Nat) (x0 : D.Shard) (x1 : D.Shard) : Option (Bool) := (if ((x0.Cells.length : Int) != (x1.Cells.length : Int)) = true then m_spec_SameShard_j1 fuel x0 x1 true else (if ((x0.Vars.length : Int) != (x1.Vars.length : Int)) = true then m_spec_SameShard_j1 fuel x0 x1 true else m_spec_SameShard_j1 fuel x0 x1 ((x0.Redexes.length : Int) != (x1.Redexes.length : Int))))

set_option maxRecDepth 100000 in
theorem spec_SameShard_ok {w : World} {c0_ : List Value} {x0 : D.Shard} {c1_ : List Value} {x1 : D.Shard} (h0_ : ty33.ro w c0_ x0) (h1_ : ty33.ro w c1_ x1) {fuel : Nat} {r : Bool} (hm : m_spec_SameShard fuel x0 x1 = some r) :
    Calls Try.prog 12 ⟨[.agg ⟨c0_⟩, .agg ⟨c1_⟩]⟩ w (Ret fun v w8 => v = .bool r ∧ St w w8 []) := by
  obtain ⟨A1, k2, A4, k5, A7, k8, e10, h3, h6, h9⟩ := ty33_open h0_; subst e10
  obtain ⟨A11, k12, A14, k15, A17, k18, e20, h13, h16, h19⟩ := ty33_open h1_; subst e20
  refine Calls.into Try.func12 rfl 86 rfl rfl _ rfl ?_
  unfold m_spec_SameShard at hm
  have hS := St.start w
  refine WP.seq ?_
  refine WP.region ?_
  refine RW.new ttok hS rfl rfl rfl rfl (fun g21 w22 e23 hS24 => ?_)
  refine RW.new ttok hS24 rfl rfl rfl rfl (fun g25 w26 e27 hS28 => ?_)
  refine RW.run ttok 1 rfl ?_
  refine RW.nil ?_
  refine WP.seq ?_
  refine WP.seq ?_
  refine WP.cut (fun (t29 : Bool) F w9 => m_spec_SameShard_j1 fuel x0 x1 t29 = some r ∧ Ext w26 w9 ∧ St w w9 [Box g25 [.slice A11 x1.Cells.length k12, .slice A14 x1.Vars.length k15, .slice A17 x1.Redexes.length k18] 33, Box g21 [.slice A1 x0.Cells.length k2, .slice A4 x0.Vars.length k5, .slice A7 x0.Redexes.length k8] 33] ∧ F = [(2, .pointer (some ⟨g21, 0, none⟩)), (3, .pointer (some ⟨g25, 0, none⟩)), (32, .bool t29)]) ?_ ?_
  · skip
    rintro t29 F w32 ⟨hm, hE30, hS31, rfl⟩
    unfold m_spec_SameShard_j1 at hm
    refine WP.cond t29 rfl (fun hc => ?_) (fun hc => ?_)
    · skip
      rw [if_pos hc] at hm
      refine WP.seq ?_
      refine WP.region ?_
      refine RW.run ttok 1 rfl ?_
      refine RW.nil ?_
      refine WP.ret ?_
      cases hm
      exact ⟨_, .cons (.tmp rfl) .nil, rfl, (hS31.taken 0)⟩
    · skip
      rw [if_neg (not_t hc)] at hm
      refine WP.skip ?_
      refine WP.seq ?_
      refine WP.seq ?_
      refine WP.region ?_
      refine RW.run ttok 1 rfl ?_
      refine RW.nil ?_
      obtain ⟨o41, hl42, hm⟩ := bind_some hm
      refine WP.cut (fun (t35 : Unit) F w9 => o41 = .inl t35 ∧ Ext w32 w9 ∧ St w w9 [Box g25 [.slice A11 x1.Cells.length k12, .slice A14 x1.Vars.length k15, .slice A17 x1.Redexes.length k18] 33, Box g21 [.slice A1 x0.Cells.length k2, .slice A4 x0.Vars.length k5, .slice A7 x0.Redexes.length k8] 33] ∧ F = [(2, .pointer (some ⟨g21, 0, none⟩)), (3, .pointer (some ⟨g25, 0, none⟩))]) ?_ ?_
      · skip
        rintro t35 F w40 ⟨ho44, hE39, hS43, rfl⟩
        subst ho44
        rw [aft_inl] at hm
        unfold m_spec_SameShard_j2 at hm
        refine WP.seq ?_
        refine WP.seq ?_
        refine WP.region ?_
        refine RW.run ttok 1 rfl ?_
        refine RW.nil ?_
        obtain ⟨o52, hl53, hm⟩ := bind_some hm
        refine WP.cut (fun (t46 : Unit) F w9 => o52 = .inl t46 ∧ Ext w40 w9 ∧ St w w9 [Box g25 [.slice A11 x1.Cells.length k12, .slice A14 x1.Vars.length k15, .slice A17 x1.Redexes.length k18] 33, Box g21 [.slice A1 x0.Cells.length k2, .slice A4 x0.Vars.length k5, .slice A7 x0.Redexes.length k8] 33] ∧ F = [(2, .pointer (some ⟨g21, 0, none⟩)), (3, .pointer (some ⟨g25, 0, none⟩))]) ?_ ?_
        · skip
          rintro t46 F w51 ⟨ho55, hE50, hS54, rfl⟩
          subst ho55
          rw [aft_inl] at hm
          unfold m_spec_SameShard_j3 at hm
          refine WP.seq ?_
          refine WP.seq ?_
          refine WP.region ?_
          refine RW.run ttok 1 rfl ?_
          refine RW.nil ?_
          obtain ⟨o63, hl64, hm⟩ := bind_some hm
          refine WP.cut (fun (t57 : Unit) F w9 => o63 = .inl t57 ∧ Ext w51 w9 ∧ St w w9 [Box g25 [.slice A11 x1.Cells.length k12, .slice A14 x1.Vars.length k15, .slice A17 x1.Redexes.length k18] 33, Box g21 [.slice A1 x0.Cells.length k2, .slice A4 x0.Vars.length k5, .slice A7 x0.Redexes.length k8] 33] ∧ F = []) ?_ ?_
          · skip
            rintro t57 F w62 ⟨ho66, hE61, hS65, rfl⟩
            subst ho66
            rw [aft_inl] at hm
            unfold m_spec_SameShard_j4 at hm
            refine WP.seq ?_
            refine WP.region ?_
            refine RW.run ttok 1 rfl ?_
            refine RW.nil ?_
            refine WP.ret ?_
            cases hm
            exact ⟨_, .cons (.tmp rfl) .nil, rfl, (hS65.taken 0)⟩
          · skip
            refine WP.block ?_
            refine WP.weak [(2, .pointer (some ⟨g21, 0, none⟩)), (3, .pointer (some ⟨g25, 0, none⟩)), (7, .int .i64 0)] ⟨rfl, rfl, rfl, trivial⟩ ?_
            refine WP.iter (fun (s56 : Int) F w9 => Ext w51 w9 ∧ St w w9 [Box g25 [.slice A11 x1.Cells.length k12, .slice A14 x1.Vars.length k15, .slice A17 x1.Redexes.length k18] 33, Box g21 [.slice A1 x0.Cells.length k2, .slice A4 x0.Vars.length k5, .slice A7 x0.Redexes.length k8] 33] ∧ F = [(2, .pointer (some ⟨g21, 0, none⟩)), (3, .pointer (some ⟨g25, 0, none⟩)), (7, .int .i64 s56)]) _ hl64 ⟨(Ext.refl _), (((hS54.bring 1 rfl).bring 1 rfl).taken 2), rfl⟩ ?_
            rintro s56 F w71 _ o69 ⟨hE60, hS70, rfl⟩ hb67 ho68
            unfold m_spec_SameShard_b3 at hb67
            refine WP.seq ?_
            refine WP.seq ?_
            refine WP.region ?_
            refine RW.run ttok 2 rfl ?_
            refine RW.load1 ttok rfl rfl rfl rfl rfl ((hS70.bring 1 rfl).box) 2 rfl rfl rfl rfl ?_
            refine RW.run ttok 2 rfl ?_
            refine RW.nil ?_
            refine WP.cond (decide (s56 < (x0.Redexes.length : Int))) rfl (fun hc => ?_) (fun hc => ?_)
            · skip
              rw [if_pos hc] at hb67
              refine WP.skip ?_
              refine WP.seq ?_
              refine WP.block ?_
              refine WP.seq ?_
              refine WP.drawnM 0 mixed 11 (by kernel_rfl) (by kernel_rfl) [([], 2047), ([0], 2046), ([], 2047), ([1, 2], 2041), ([3], 2039), ([], 2047), ([5], 2015), ([], 2047), ([6, 7], 1855), ([8], 1791), ([4, 9], 1519)] (by kernel_rfl) (fun hsk72 => ?_)
              have hS73 := hS70.step (Ext.draw _)
              refine DM.run (fuel := 7) ttok hsk72 [0, 2, 5, 7] 165 (by kernel_rfl) (by kernel_rfl) rfl ?_
              refine DM.load1 ttok hsk72 1 167 (by kernel_rfl) (by kernel_rfl) (by kernel_rfl) (by kernel_rfl) rfl (by kernel_rfl) rfl rfl rfl rfl rfl ((hS70.bring 1 rfl).box) 2 rfl rfl rfl rfl ?_
              obtain ⟨x74, hx75, hb67⟩ := bind_some hb67
              refine DM.idx ttok hS70.ext hsk72 3 175 (by kernel_rfl) (by kernel_rfl) (by kernel_rfl) (by kernel_rfl) rfl (by kernel_rfl) rfl rfl rfl rfl rfl rfl (by decide) rfl rfl h9 (idx_some hx75).1 (idx_some hx75).2 rfl rfl (fun p76 es77 ha78 hr79 => ?_)
              have e80 := ty127_open hr79; subst e80
              refine DM.loadN ttok hsk72 4 191 (by kernel_rfl) (by kernel_rfl) (by kernel_rfl) (by kernel_rfl) rfl (by kernel_rfl) rfl rfl rfl rfl rfl (At.ext hS70.ext ha78) rfl rfl rfl ?_
              refine DM.load1 ttok hsk72 6 255 (by kernel_rfl) (by kernel_rfl) (by kernel_rfl) (by kernel_rfl) rfl (by kernel_rfl) rfl rfl rfl rfl rfl ((hS70.bring 0 rfl).box) 2 rfl rfl rfl rfl ?_
              obtain ⟨x81, hx82, hb67⟩ := bind_some hb67
              refine DM.idx ttok hS70.ext hsk72 8 511 (by kernel_rfl) (by kernel_rfl) (by kernel_rfl) (by kernel_rfl) rfl (by kernel_rfl) rfl rfl rfl rfl rfl rfl (by decide) rfl rfl h19 (idx_some hx82).1 (idx_some hx82).2 rfl rfl (fun p83 es84 ha85 hr86 => ?_)
              have e87 := ty127_open hr86; subst e87
              refine DM.loadN ttok hsk72 9 1023 (by kernel_rfl) (by kernel_rfl) (by kernel_rfl) (by kernel_rfl) rfl (by kernel_rfl) rfl rfl rfl rfl rfl (At.ext hS70.ext ha85) rfl rfl rfl ?_
              refine DM.run (fuel := 0) ttok hsk72 [10] 2047 (by kernel_rfl) (by kernel_rfl) rfl ?_
              refine DM.weak [(2, .pointer (some ⟨g21, 0, none⟩)), (3, .pointer (some ⟨g25, 0, none⟩)), (7, .int .i64 s56), (85, .bool (!((((x74.A.Machine : Int) == x81.A.Machine) && (((x74.A.Kind : Int) == x81.A.Kind) && (((x74.A.Index : Int) == x81.A.Index) && true))) && ((((x74.B.Machine : Int) == x81.B.Machine) && (((x74.B.Kind : Int) == x81.B.Kind) && (((x74.B.Index : Int) == x81.B.Index) && true))) && true))))] ⟨rfl, rfl, rfl, rfl, trivial⟩ ?_
              refine DM.done hsk72 (by kernel_rfl) ?_
              refine WP.cond (!((((x74.A.Machine : Int) == x81.A.Machine) && (((x74.A.Kind : Int) == x81.A.Kind) && (((x74.A.Index : Int) == x81.A.Index) && true))) && ((((x74.B.Machine : Int) == x81.B.Machine) && (((x74.B.Kind : Int) == x81.B.Kind) && (((x74.B.Index : Int) == x81.B.Index) && true))) && true))) rfl (fun hc => ?_) (fun hc => ?_)
              · skip
                rw [if_pos hc] at hb67
                refine WP.seq ?_
                refine WP.region ?_
                refine RW.run ttok 1 rfl ?_
                refine RW.nil ?_
                refine WP.ret ?_
                cases hb67
                cases ho68
                have hm : some _ = some _ := hm
                cases hm
                exact ⟨_, .cons (.tmp rfl) .nil, rfl, (hS73.taken 0)⟩
              · skip
                rw [if_neg (not_t hc)] at hb67
                refine WP.skip ?_
                refine WP.region ?_
                refine RW.run ttok 3 rfl ?_
                refine RW.nil ?_
                cases hb67
                exact ⟨_, [(2, .pointer (some ⟨g21, 0, none⟩)), (3, .pointer (some ⟨g25, 0, none⟩)), (7, .int .i64 (w64 (s56 + 1)))], ⟨rfl, rfl, rfl, trivial⟩, rfl, (hE60.trans (Ext.draw _)), (((hS73.bring 1 rfl).bring 1 rfl).taken 2), rfl⟩
            · skip
              rw [if_neg (not_t hc)] at hb67
              refine WP.exit ?_
              cases hb67
              exact ⟨_, [], trivial, ho68, hE60, (((hS70.bring 1 rfl).bring 1 rfl).taken 2), rfl⟩
        · skip
          refine WP.block ?_
          refine WP.weak [(2, .pointer (some ⟨g21, 0, none⟩)), (3, .pointer (some ⟨g25, 0, none⟩)), (6, .int .i64 0)] ⟨rfl, rfl, rfl, trivial⟩ ?_
          refine WP.iter (fun (s45 : Int) F w9 => Ext w40 w9 ∧ St w w9 [Box g25 [.slice A11 x1.Cells.length k12, .slice A14 x1.Vars.length k15, .slice A17 x1.Redexes.length k18] 33, Box g21 [.slice A1 x0.Cells.length k2, .slice A4 x0.Vars.length k5, .slice A7 x0.Redexes.length k8] 33] ∧ F = [(2, .pointer (some ⟨g21, 0, none⟩)), (3, .pointer (some ⟨g25, 0, none⟩)), (6, .int .i64 s45)]) _ hl53 ⟨(Ext.refl _), (((hS43.bring 1 rfl).bring 1 rfl).taken 2), rfl⟩ ?_
          rintro s45 F w92 _ o90 ⟨hE49, hS91, rfl⟩ hb88 ho89
          unfold m_spec_SameShard_b2 at hb88
          refine WP.seq ?_
          refine WP.seq ?_
          refine WP.region ?_
          refine RW.run ttok 2 rfl ?_
          refine RW.load1 ttok rfl rfl rfl rfl rfl ((hS91.bring 1 rfl).box) 1 rfl rfl rfl rfl ?_
          refine RW.run ttok 2 rfl ?_
          refine RW.nil ?_
          refine WP.cond (decide (s45 < (x0.Vars.length : Int))) rfl (fun hc => ?_) (fun hc => ?_)
          · skip
            rw [if_pos hc] at hb88
            refine WP.skip ?_
            refine WP.seq ?_
            refine WP.block ?_
            refine WP.seq ?_
            refine WP.drawnM 0 mixed 11 (by kernel_rfl) (by kernel_rfl) [([], 2047), ([0], 2046), ([], 2047), ([1, 2], 2041), ([3], 2039), ([], 2047), ([5], 2015), ([], 2047), ([6, 7], 1855), ([8], 1791), ([4, 9], 1519)] (by kernel_rfl) (fun hsk93 => ?_)
            have hS94 := hS91.step (Ext.draw _)
            refine DM.run (fuel := 7) ttok hsk93 [0, 2, 5, 7] 165 (by kernel_rfl) (by kernel_rfl) rfl ?_
            refine DM.load1 ttok hsk93 1 167 (by kernel_rfl) (by kernel_rfl) (by kernel_rfl) (by kernel_rfl) rfl (by kernel_rfl) rfl rfl rfl rfl rfl ((hS91.bring 1 rfl).box) 1 rfl rfl rfl rfl ?_
            obtain ⟨x95, hx96, hb88⟩ := bind_some hb88
            refine DM.idx ttok hS91.ext hsk93 3 175 (by kernel_rfl) (by kernel_rfl) (by kernel_rfl) (by kernel_rfl) rfl (by kernel_rfl) rfl rfl rfl rfl rfl rfl (by decide) rfl rfl h6 (idx_some hx96).1 (idx_some hx96).2 rfl rfl (fun p97 es98 ha99 hr100 => ?_)
            have e101 := ty125_open hr100; subst e101
            refine DM.loadN ttok hsk93 4 191 (by kernel_rfl) (by kernel_rfl) (by kernel_rfl) (by kernel_rfl) rfl (by kernel_rfl) rfl rfl rfl rfl rfl (At.ext hS91.ext ha99) rfl rfl rfl ?_
            refine DM.load1 ttok hsk93 6 255 (by kernel_rfl) (by kernel_rfl) (by kernel_rfl) (by kernel_rfl) rfl (by kernel_rfl) rfl rfl rfl rfl rfl ((hS91.bring 0 rfl).box) 1 rfl rfl rfl rfl ?_
            obtain ⟨x102, hx103, hb88⟩ := bind_some hb88
            refine DM.idx ttok hS91.ext hsk93 8 511 (by kernel_rfl) (by kernel_rfl) (by kernel_rfl) (by kernel_rfl) rfl (by kernel_rfl) rfl rfl rfl rfl rfl rfl (by decide) rfl rfl h16 (idx_some hx103).1 (idx_some hx103).2 rfl rfl (fun p104 es105 ha106 hr107 => ?_)
            have e108 := ty125_open hr107; subst e108
            refine DM.loadN ttok hsk93 9 1023 (by kernel_rfl) (by kernel_rfl) (by kernel_rfl) (by kernel_rfl) rfl (by kernel_rfl) rfl rfl rfl rfl rfl (At.ext hS91.ext ha106) rfl rfl rfl ?_
            refine DM.run (fuel := 0) ttok hsk93 [10] 2047 (by kernel_rfl) (by kernel_rfl) rfl ?_
            refine DM.weak [(2, .pointer (some ⟨g21, 0, none⟩)), (3, .pointer (some ⟨g25, 0, none⟩)), (6, .int .i64 s45), (67, .bool (!((x95.Used == x102.Used) && ((x95.Full == x102.Full) && ((((x95.Held.Machine : Int) == x102.Held.Machine) && (((x95.Held.Kind : Int) == x102.Held.Kind) && (((x95.Held.Index : Int) == x102.Held.Index) && true))) && true)))))] ⟨rfl, rfl, rfl, rfl, trivial⟩ ?_
            refine DM.done hsk93 (by kernel_rfl) ?_
            refine WP.cond (!((x95.Used == x102.Used) && ((x95.Full == x102.Full) && ((((x95.Held.Machine : Int) == x102.Held.Machine) && (((x95.Held.Kind : Int) == x102.Held.Kind) && (((x95.Held.Index : Int) == x102.Held.Index) && true))) && true)))) rfl (fun hc => ?_) (fun hc => ?_)
            · skip
              rw [if_pos hc] at hb88
              refine WP.seq ?_
              refine WP.region ?_
              refine RW.run ttok 1 rfl ?_
              refine RW.nil ?_
              refine WP.ret ?_
              cases hb88
              cases ho89
              have hm : some _ = some _ := hm
              cases hm
              exact ⟨_, .cons (.tmp rfl) .nil, rfl, (hS94.taken 0)⟩
            · skip
              rw [if_neg (not_t hc)] at hb88
              refine WP.skip ?_
              refine WP.region ?_
              refine RW.run ttok 3 rfl ?_
              refine RW.nil ?_
              cases hb88
              exact ⟨_, [(2, .pointer (some ⟨g21, 0, none⟩)), (3, .pointer (some ⟨g25, 0, none⟩)), (6, .int .i64 (w64 (s45 + 1)))], ⟨rfl, rfl, rfl, trivial⟩, rfl, (hE49.trans (Ext.draw _)), (((hS94.bring 1 rfl).bring 1 rfl).taken 2), rfl⟩
          · skip
            rw [if_neg (not_t hc)] at hb88
            refine WP.exit ?_
            cases hb88
            exact ⟨_, [(2, .pointer (some ⟨g21, 0, none⟩)), (3, .pointer (some ⟨g25, 0, none⟩))], ⟨rfl, rfl, trivial⟩, ho89, hE49, (((hS91.bring 1 rfl).bring 1 rfl).taken 2), rfl⟩
      · skip
        refine WP.block ?_
        refine WP.weak [(2, .pointer (some ⟨g21, 0, none⟩)), (3, .pointer (some ⟨g25, 0, none⟩)), (5, .int .i64 0)] ⟨rfl, rfl, rfl, trivial⟩ ?_
        refine WP.iter (fun (s34 : Int) F w9 => Ext w32 w9 ∧ St w w9 [Box g25 [.slice A11 x1.Cells.length k12, .slice A14 x1.Vars.length k15, .slice A17 x1.Redexes.length k18] 33, Box g21 [.slice A1 x0.Cells.length k2, .slice A4 x0.Vars.length k5, .slice A7 x0.Redexes.length k8] 33] ∧ F = [(2, .pointer (some ⟨g21, 0, none⟩)), (3, .pointer (some ⟨g25, 0, none⟩)), (5, .int .i64 s34)]) _ hl42 ⟨(Ext.refl _), (((hS31.bring 1 rfl).bring 1 rfl).taken 2), rfl⟩ ?_
        rintro s34 F w113 _ o111 ⟨hE38, hS112, rfl⟩ hb109 ho110
        unfold m_spec_SameShard_b1 at hb109
        refine WP.seq ?_
        refine WP.seq ?_
        refine WP.region ?_
        refine RW.run ttok 2 rfl ?_
        refine RW.load1 ttok rfl rfl rfl rfl rfl ((hS112.bring 1 rfl).box) 0 rfl rfl rfl rfl ?_
        refine RW.run ttok 2 rfl ?_
        refine RW.nil ?_
        refine WP.cond (decide (s34 < (x0.Cells.length : Int))) rfl (fun hc => ?_) (fun hc => ?_)
        · skip
          rw [if_pos hc] at hb109
          refine WP.skip ?_
          refine WP.seq ?_
          refine WP.block ?_
          refine WP.seq ?_
          refine WP.drawnM 0 mixed 10 (by kernel_rfl) (by kernel_rfl) [([], 1023), ([0], 1022), ([], 1023), ([1, 2], 1017), ([], 1023), ([4], 1007), ([], 1023), ([5, 6], 927), ([3, 7], 887), ([8], 767)] (by kernel_rfl) (fun hsk114 => ?_)
          have hS115 := hS112.step (Ext.draw _)
          refine DM.run (fuel := 6) ttok hsk114 [0, 2, 4, 6] 85 (by kernel_rfl) (by kernel_rfl) rfl ?_
          refine DM.load1 ttok hsk114 1 87 (by kernel_rfl) (by kernel_rfl) (by kernel_rfl) (by kernel_rfl) rfl (by kernel_rfl) rfl rfl rfl rfl rfl ((hS112.bring 1 rfl).box) 0 rfl rfl rfl rfl ?_
          obtain ⟨x116, hx117, hb109⟩ := bind_some hb109
          refine DM.idx ttok hS112.ext hsk114 3 95 (by kernel_rfl) (by kernel_rfl) (by kernel_rfl) (by kernel_rfl) rfl (by kernel_rfl) rfl rfl rfl rfl rfl rfl (by decide) rfl rfl h3 (idx_some hx117).1 (idx_some hx117).2 rfl rfl (fun p118 es119 ha120 hr121 => ?_)
          obtain ⟨A122, k123, A125, k126, e128, h124, h127⟩ := ty123_open hr121; subst e128
          refine DM.load1 ttok hsk114 5 127 (by kernel_rfl) (by kernel_rfl) (by kernel_rfl) (by kernel_rfl) rfl (by kernel_rfl) rfl rfl rfl rfl rfl ((hS112.bring 0 rfl).box) 0 rfl rfl rfl rfl ?_
          obtain ⟨x129, hx130, hb109⟩ := bind_some hb109
          refine DM.idx ttok hS112.ext hsk114 7 255 (by kernel_rfl) (by kernel_rfl) (by kernel_rfl) (by kernel_rfl) rfl (by kernel_rfl) rfl rfl rfl rfl rfl rfl (by decide) rfl rfl h13 (idx_some hx130).1 (idx_some hx130).2 rfl rfl (fun p131 es132 ha133 hr134 => ?_)
          obtain ⟨A135, k136, A138, k139, e141, h137, h140⟩ := ty123_open hr134; subst e141
          obtain ⟨r142, hx143, hb109⟩ := bind_some hb109
          refine DM.one hsk114 8 (by kernel_rfl) (LM.call hsk114 511 (by kernel_rfl) (by kernel_rfl) rfl rfl rfl rfl enters51 (spec_l27SameCell_ok (ty123.ext hS115.ext hr121) (At.ext hS115.ext ha120) (ty123.ext hS115.ext hr134) (At.ext hS115.ext ha133) hx143) (fun v144 w145 hR146 => ?_))
          obtain ⟨rfl, hR147⟩ := hR146
          refine ⟨hR147.ext, ?_⟩
          have hS148 := hS115.join hR147
          refine DM.run (fuel := 0) ttok hsk114 [9] 1023 (by kernel_rfl) (by kernel_rfl) rfl ?_
          refine DM.weak [(2, .pointer (some ⟨g21, 0, none⟩)), (3, .pointer (some ⟨g25, 0, none⟩)), (5, .int .i64 s34), (49, .bool (!r142))] ⟨rfl, rfl, rfl, rfl, trivial⟩ ?_
          refine DM.done hsk114 (by kernel_rfl) ?_
          refine WP.cond (!r142) rfl (fun hc => ?_) (fun hc => ?_)
          · skip
            rw [if_pos hc] at hb109
            refine WP.seq ?_
            refine WP.region ?_
            refine RW.run ttok 1 rfl ?_
            refine RW.nil ?_
            refine WP.ret ?_
            cases hb109
            cases ho110
            have hm : some _ = some _ := hm
            cases hm
            exact ⟨_, .cons (.tmp rfl) .nil, rfl, (hS148.taken 0)⟩
          · skip
            rw [if_neg (not_t hc)] at hb109
            refine WP.skip ?_
            refine WP.region ?_
            refine RW.run ttok 3 rfl ?_
            refine RW.nil ?_
            cases hb109
            exact ⟨_, [(2, .pointer (some ⟨g21, 0, none⟩)), (3, .pointer (some ⟨g25, 0, none⟩)), (5, .int .i64 (w64 (s34 + 1)))], ⟨rfl, rfl, rfl, trivial⟩, rfl, ((hE38.trans (Ext.draw _)).trans hR147.ext), (((hS148.bring 1 rfl).bring 1 rfl).taken 2), rfl⟩
        · skip
          rw [if_neg (not_t hc)] at hb109
          refine WP.exit ?_
          cases hb109
          exact ⟨_, [(2, .pointer (some ⟨g21, 0, none⟩)), (3, .pointer (some ⟨g25, 0, none⟩))], ⟨rfl, rfl, trivial⟩, ho110, hE38, (((hS112.bring 1 rfl).bring 1 rfl).taken 2), rfl⟩
  · skip
    refine WP.region ?_
    refine RW.run ttok 1 rfl ?_
    refine RW.load1 ttok rfl rfl rfl rfl rfl ((hS28.bring 1 rfl).box) 0 rfl rfl rfl rfl ?_
    refine RW.run ttok 2 rfl ?_
    refine RW.load1 ttok rfl rfl rfl rfl rfl ((hS28.bring 0 rfl).box) 0 rfl rfl rfl rfl ?_
    refine RW.run ttok 3 rfl ?_
    by_cases hg149 : ((x0.Cells.length : Int) != (x1.Cells.length : Int)) = true
    · skip
      rw [if_pos hg149] at hm
      refine RW.know 15 rfl (congrArg Value.bool hg149) ?_
      refine RW.run ttok 17 rfl ?_
      refine RW.nil ?_
      exact ⟨true, [(2, .pointer (some ⟨g21, 0, none⟩)), (3, .pointer (some ⟨g25, 0, none⟩)), (32, .bool true)], ⟨rfl, rfl, rfl, trivial⟩, hm, (Ext.refl _), (((hS28.bring 1 rfl).bring 1 rfl).taken 2), rfl⟩
    · skip
      rw [if_neg hg149] at hm
      refine RW.know 15 rfl (congrArg Value.bool (Bool.eq_false_iff.2 hg149)) ?_
      refine RW.run ttok 1 rfl ?_
      refine RW.load1 ttok rfl rfl rfl rfl rfl ((hS28.bring 1 rfl).box) 1 rfl rfl rfl rfl ?_
      refine RW.run ttok 2 rfl ?_
      refine RW.load1 ttok rfl rfl rfl rfl rfl ((hS28.bring 0 rfl).box) 1 rfl rfl rfl rfl ?_
      refine RW.run ttok 4 rfl ?_
      by_cases hg150 : ((x0.Vars.length : Int) != (x1.Vars.length : Int)) = true
      · skip
        rw [if_pos hg150] at hm
        refine RW.know 24 rfl (congrArg Value.bool hg150) ?_
        refine RW.run ttok 8 rfl ?_
        refine RW.nil ?_
        exact ⟨true, [(2, .pointer (some ⟨g21, 0, none⟩)), (3, .pointer (some ⟨g25, 0, none⟩)), (32, .bool true)], ⟨rfl, rfl, rfl, trivial⟩, hm, (Ext.refl _), (((hS28.bring 1 rfl).bring 1 rfl).taken 2), rfl⟩
      · skip
        rw [if_neg hg150] at hm
        refine RW.know 24 rfl (congrArg Value.bool (Bool.eq_false_iff.2 hg150)) ?_
        refine RW.run ttok 1 rfl ?_
        refine RW.load1 ttok rfl rfl rfl rfl rfl ((hS28.bring 1 rfl).box) 2 rfl rfl rfl rfl ?_
        refine RW.run ttok 2 rfl ?_
        refine RW.load1 ttok rfl rfl rfl rfl rfl ((hS28.bring 0 rfl).box) 2 rfl rfl rfl rfl ?_
        refine RW.run ttok 3 rfl ?_
        refine RW.nil ?_
        exact ⟨((x0.Redexes.length : Int) != (x1.Redexes.length : Int)), [(2, .pointer (some ⟨g21, 0, none⟩)), (3, .pointer (some ⟨g25, 0, none⟩)), (32, .bool ((x0.Redexes.length : Int) != (x1.Redexes.length : Int)))], ⟨rfl, rfl, rfl, trivial⟩, hm, (Ext.refl _), (((hS28.bring 1 rfl).bring 1 rfl).taken 2), rfl⟩

theorem enters55 : Enters Try.prog 55 := ⟨_, _, Try.func55, rfl, by kernel_rfl⟩
def m_slices_EqualFunc_impl_ShardCell_impl_ShardCell_impl_ShardCell_impl_ShardCell_j1 (fuel : Nat) (t2 : Unit) : Option Bool := some true
def m_slices_EqualFunc_impl_ShardCell_impl_ShardCell_impl_ShardCell_impl_ShardCell_b1 (fuel : Nat) (x0 : (List D.ShardCell)) (x1 : (List D.ShardCell)) (x2 : D.ShardCell → D.ShardCell → Option Bool) (s1 : Int) : Option (Rd (Int) (Unit) (Bool)) := (if (decide (s1 < (x0.length : Int))) = true then ((idx x0 s1).bind fun x14 => ((idx x1 s1).bind fun x34 => ((x2 x14 x34).bind fun r54 => (if (!r54) = true then some (.ret false) else some (.next (w64 (s1 + 1))))))) else some (.brk ()))
def m_slices_EqualFunc_impl_ShardCell_impl_ShardCell_impl_ShardCell_impl_ShardCell (fuel : Nat) (x0 : (List D.ShardCell)) (x1 : (List D.ShardCell)) (x2 : D.ShardCell → D.ShardCell → Option Bool) : Option (Bool) := (if ((x0.length : Int) != (x1.length : Int)) = true then some false else ((iter (m_slices_EqualFunc_impl_ShardCell_impl_ShardCell_impl_ShardCell_impl_ShardCell_b1 fuel x0 x1 x2) fuel 0).bind fun o => aft o (m_slices_EqualFunc_impl_ShardCell_impl_ShardCell_impl_ShardCell_impl_ShardCell_j1 fuel)))

set_option maxRecDepth 100000 in
theorem slices_EqualFunc_impl_ShardCell_impl_ShardCell_impl_ShardCell_impl_ShardCell_ok {w : World} {A0_ : Option Addr} {k0_ : Nat} {x0 : (List D.ShardCell)} {A1_ : Option Addr} {k1_ : Nat} {x1 : (List D.ShardCell)} {f2_ : Nat} {u2_ : List Value} {x2 : D.ShardCell → D.ShardCell → Option Bool} (h0_ : ty29.ro w [.slice A0_ x0.length k0_] x0) (h1_ : ty29.ro w [.slice A1_ x1.length k1_] x1) (h2_ : Enters Try.prog f2_ ∧ ∀ {w9 : World}, Ext w w9 → ∀ {cz0 : List Value} {z0 : D.ShardCell} {cz1 : List Value} {z1 : D.ShardCell} {y9 : Bool}, ty123.ro w9 cz0 z0 → ty123.ro w9 cz1 z1 → x2 z0 z1 = some y9 → Calls Try.prog f2_ ⟨[.agg ⟨cz0⟩, .agg ⟨cz1⟩] ++ u2_⟩ w9 (Ret fun v w8 => v = .bool y9 ∧ St w9 w8 [])) {fuel : Nat} {r : Bool} (hm : m_slices_EqualFunc_impl_ShardCell_impl_ShardCell_impl_ShardCell_impl_ShardCell fuel x0 x1 x2 = some r) :
    Calls Try.prog 55 ⟨[.slice A0_ x0.length k0_, .slice A1_ x1.length k1_, .func (.func f2_) #[] ⟨u2_⟩]⟩ w (Ret fun v w8 => v = .bool r ∧ St w w8 []) := by
  refine Calls.into Try.func55 rfl 32 rfl rfl _ rfl ?_
  unfold m_slices_EqualFunc_impl_ShardCell_impl_ShardCell_impl_ShardCell_impl_ShardCell at hm
  have hS := St.start w
  refine WP.seq ?_
  refine WP.region ?_
  refine RW.run ttok 1 rfl ?_
  refine RW.nil ?_
  refine WP.seq ?_
  refine WP.seq ?_
  refine WP.region ?_
  refine RW.run ttok 5 rfl ?_
  refine RW.nil ?_
  refine WP.cond ((x0.length : Int) != (x1.length : Int)) rfl (fun hc => ?_) (fun hc => ?_)
  · skip
    rw [if_pos hc] at hm
    refine WP.seq ?_
    refine WP.region ?_
    refine RW.run ttok 1 rfl ?_
    refine RW.nil ?_
    refine WP.ret ?_
    cases hm
    exact ⟨_, .cons (.tmp rfl) .nil, rfl, (hS.taken 0)⟩
  · skip
    rw [if_neg (not_t hc)] at hm
    refine WP.skip ?_
    refine WP.seq ?_
    refine WP.seq ?_
    refine WP.region ?_
    refine RW.run ttok 3 rfl ?_
    refine RW.nil ?_
    obtain ⟨o5, hl6, hm⟩ := bind_some hm
    refine WP.cut (fun (t2 : Unit) F w9 => o5 = .inl t2 ∧ St w w9 [] ∧ F = []) ?_ ?_
    · skip
      rintro t2 F w4 ⟨ho8, hS7, rfl⟩
      subst ho8
      rw [aft_inl] at hm
      unfold m_slices_EqualFunc_impl_ShardCell_impl_ShardCell_impl_ShardCell_impl_ShardCell_j1 at hm
      refine WP.seq ?_
      refine WP.region ?_
      refine RW.run ttok 1 rfl ?_
      refine RW.nil ?_
      refine WP.ret ?_
      cases hm
      exact ⟨_, .cons (.tmp rfl) .nil, rfl, (hS7.taken 0)⟩
    · skip
      refine WP.block ?_
      refine WP.weak [(1, .slice A1_ x1.length k1_), (2, .func (.func f2_) #[] ⟨u2_⟩), (15, .slice A0_ x0.length k0_), (16, .int .i64 (x0.length : Int)), (17, .int .i64 0)] ⟨rfl, rfl, rfl, rfl, rfl, trivial⟩ ?_
      refine WP.iter (fun (s1 : Int) F w9 => St w w9 [] ∧ F = [(1, .slice A1_ x1.length k1_), (2, .func (.func f2_) #[] ⟨u2_⟩), (15, .slice A0_ x0.length k0_), (16, .int .i64 (x0.length : Int)), (17, .int .i64 s1)]) _ hl6 ⟨(hS.taken 0), rfl⟩ ?_
      rintro s1 F w13 _ o11 ⟨hS12, rfl⟩ hb9 ho10
      unfold m_slices_EqualFunc_impl_ShardCell_impl_ShardCell_impl_ShardCell_impl_ShardCell_b1 at hb9
      refine WP.seq ?_
      refine WP.region ?_
      refine RW.run ttok 1 rfl ?_
      refine RW.nil ?_
      refine WP.seq ?_
      refine WP.cond (decide (s1 < (x0.length : Int))) rfl (fun hc => ?_) (fun hc => ?_)
      · skip
        rw [if_pos hc] at hb9
        refine WP.skip ?_
        refine WP.seq ?_
        refine WP.block ?_
        refine WP.seq ?_
        refine WP.region ?_
        refine RW.run ttok 1 rfl ?_
        obtain ⟨x14, hx15, hb9⟩ := bind_some hb9
        refine RW.idx ttok hS12.ext rfl rfl rfl rfl rfl rfl (by decide) rfl rfl h0_ (idx_some hx15).1 (idx_some hx15).2 rfl rfl (fun p16 es17 ha18 hr19 => ?_)
        obtain ⟨A20, k21, A23, k24, e26, h22, h25⟩ := ty123_open hr19; subst e26
        refine RW.loadN ttok rfl rfl rfl rfl rfl (At.ext hS12.ext ha18) rfl rfl rfl ?_
        refine RW.new ttok hS12 rfl rfl rfl rfl (fun g27 w28 e29 hS30 => ?_)
        refine RW.run ttok 1 rfl ?_
        have hS31 := hS30.bring 0 rfl
        refine RW.store ttok (A := []) hS31 rfl rfl rfl rfl rfl 0 rfl rfl rfl rfl rfl (fun w32 hS33 => ?_)
        refine RW.nil ?_
        refine WP.seq ?_
        refine WP.region ?_
        refine RW.run ttok 2 rfl ?_
        obtain ⟨x34, hx35, hb9⟩ := bind_some hb9
        refine RW.idx ttok hS33.ext rfl rfl rfl rfl rfl rfl (by decide) rfl rfl h1_ (idx_some hx35).1 (idx_some hx35).2 rfl rfl (fun p36 es37 ha38 hr39 => ?_)
        obtain ⟨A40, k41, A43, k44, e46, h42, h45⟩ := ty123_open hr39; subst e46
        refine RW.loadN ttok rfl rfl rfl rfl rfl (At.ext hS33.ext ha38) rfl rfl rfl ?_
        refine RW.new ttok hS33 rfl rfl rfl rfl (fun g47 w48 e49 hS50 => ?_)
        have hS51 := hS50.bring 0 rfl
        refine RW.store ttok (A := []) hS51 rfl rfl rfl rfl rfl 0 rfl rfl rfl rfl rfl (fun w52 hS53 => ?_)
        refine RW.nil ?_
        refine WP.seq ?_
        refine WP.region ?_
        refine RW.run ttok 1 rfl ?_
        refine RW.loadN ttok rfl rfl rfl rfl rfl ((hS53.bring 1 rfl).box) rfl rfl rfl ?_
        refine RW.loadN ttok rfl rfl rfl rfl rfl ((hS53.bring 0 rfl).box) rfl rfl rfl ?_
        obtain ⟨r54, hx55, hb9⟩ := bind_some hb9
        refine RW.call rfl rfl rfl h2_.1 (h2_.2 hS53.ext (ty123_shut x14 (ty72.ext hS53.ext h22) (ty121.ext hS53.ext h25)) (ty123_shut x34 (ty72.ext hS53.ext h42) (ty121.ext hS53.ext h45)) hx55) (fun v56 w57 hR58 => ?_)
        obtain ⟨rfl, hR59⟩ := hR58
        have hS60 := hS53.join hR59
        refine RW.run ttok 1 rfl ?_
        refine RW.nil ?_
        refine WP.cond (!r54) rfl (fun hc => ?_) (fun hc => ?_)
        · skip
          rw [if_pos hc] at hb9
          refine WP.seq ?_
          refine WP.region ?_
          refine RW.run ttok 1 rfl ?_
          refine RW.nil ?_
          refine WP.ret ?_
          cases hb9
          cases ho10
          have hm : some _ = some _ := hm
          cases hm
          exact ⟨_, .cons (.tmp rfl) .nil, rfl, (hS60.taken 0)⟩
        · skip
          rw [if_neg (not_t hc)] at hb9
          refine WP.skip ?_
          refine WP.region ?_
          refine RW.run ttok 2 rfl ?_
          refine RW.nil ?_
          cases hb9
          exact ⟨_, [(1, .slice A1_ x1.length k1_), (2, .func (.func f2_) #[] ⟨u2_⟩), (15, .slice A0_ x0.length k0_), (16, .int .i64 (x0.length : Int)), (17, .int .i64 (w64 (s1 + 1)))], ⟨rfl, rfl, rfl, rfl, rfl, trivial⟩, rfl, (hS60.taken 0), rfl⟩
      · skip
        rw [if_neg (not_t hc)] at hb9
        refine WP.exit ?_
        cases hb9
        exact ⟨_, [], trivial, ho10, (hS12.taken 0), rfl⟩

theorem enters78 : Enters Try.prog 78 := ⟨_, _, Try.func78, rfl, by kernel_rfl⟩
def m_slices_Equal_int64_int64_j1 (fuel : Nat) (t2 : Unit) : Option Bool := some true
def m_slices_Equal_int64_int64_b1 (fuel : Nat) (x0 : (List Int)) (x1 : (List Int)) (s1 : Int) : Option (Rd (Int) (Unit) (Bool)) := (if (decide (s1 < (x0.length : Int))) = true then ((idx x0 s1).bind fun x19 => ((idx x1 s1).bind fun x25 => (if (x19 != x25) = true then some (.ret false) else some (.next (w64 (s1 + 1)))))) else some (.brk ()))
def m_slices_Equal_int64_int64 (fuel : Nat) (x0 : (List Int)) (x1 : (List Int)) : Option (Bool) := (if ((x0.length : Int) != (x1.length : Int)) = true then some false else ((iter (m_slices_Equal_int64_int64_b1 fuel x0 x1) fuel 0).bind fun o => aft o (m_slices_Equal_int64_int64_j1 fuel)))

set_option maxRecDepth 100000 in
theorem slices_Equal_int64_int64_ok {w : World} {A0_ : Option Addr} {k0_ : Nat} {x0 : (List Int)} {A1_ : Option Addr} {k1_ : Nat} {x1 : (List Int)} (h0_ : ty72.ro w [.slice A0_ x0.length k0_] x0) (h1_ : ty72.ro w [.slice A1_ x1.length k1_] x1) {fuel : Nat} {r : Bool} (hm : m_slices_Equal_int64_int64 fuel x0 x1 = some r) :
    Calls Try.prog 78 ⟨[.slice A0_ x0.length k0_, .slice A1_ x1.length k1_]⟩ w (Ret fun v w8 => v = .bool r ∧ St w w8 []) := by
  refine Calls.into Try.func78 rfl 26 rfl rfl _ rfl ?_
  unfold m_slices_Equal_int64_int64 at hm
  have hS := St.start w
  refine WP.seq ?_
  refine WP.region ?_
  refine RW.run ttok 1 rfl ?_
  refine RW.nil ?_
  refine WP.seq ?_
  refine WP.seq ?_
  refine WP.region ?_
  refine RW.run ttok 5 rfl ?_
  refine RW.nil ?_
  refine WP.cond ((x0.length : Int) != (x1.length : Int)) rfl (fun hc => ?_) (fun hc => ?_)
  · skip
    rw [if_pos hc] at hm
    refine WP.seq ?_
    refine WP.region ?_
    refine RW.run ttok 1 rfl ?_
    refine RW.nil ?_
    refine WP.ret ?_
    cases hm
    exact ⟨_, .cons (.tmp rfl) .nil, rfl, (hS.taken 0)⟩
  · skip
    rw [if_neg (not_t hc)] at hm
    refine WP.skip ?_
    refine WP.seq ?_
    refine WP.seq ?_
    refine WP.region ?_
    refine RW.run ttok 3 rfl ?_
    refine RW.nil ?_
    obtain ⟨o8, hl9, hm⟩ := bind_some hm
    refine WP.cut (fun (t2 : Unit) F w9 => o8 = .inl t2 ∧ Ext w w9 ∧ St w w9 [] ∧ F = []) ?_ ?_
    · skip
      rintro t2 F w7 ⟨ho11, hE6, hS10, rfl⟩
      subst ho11
      rw [aft_inl] at hm
      unfold m_slices_Equal_int64_int64_j1 at hm
      refine WP.seq ?_
      refine WP.region ?_
      refine RW.run ttok 1 rfl ?_
      refine RW.nil ?_
      refine WP.ret ?_
      cases hm
      exact ⟨_, .cons (.tmp rfl) .nil, rfl, (hS10.taken 0)⟩
    · skip
      refine WP.block ?_
      refine WP.weak [(0, .slice A0_ x0.length k0_), (1, .slice A1_ x1.length k1_), (12, .int .i64 (x0.length : Int)), (13, .int .i64 0)] ⟨rfl, rfl, rfl, rfl, trivial⟩ ?_
      refine WP.iter (fun (s1 : Int) F w9 => Ext w w9 ∧ St w w9 [] ∧ F = [(0, .slice A0_ x0.length k0_), (1, .slice A1_ x1.length k1_), (12, .int .i64 (x0.length : Int)), (13, .int .i64 s1)]) _ hl9 ⟨(Ext.refl _), (hS.taken 0), rfl⟩ ?_
      rintro s1 F w16 _ o14 ⟨hE5, hS15, rfl⟩ hb12 ho13
      unfold m_slices_Equal_int64_int64_b1 at hb12
      refine WP.seq ?_
      refine WP.region ?_
      refine RW.run ttok 1 rfl ?_
      refine RW.nil ?_
      refine WP.seq ?_
      refine WP.cond (decide (s1 < (x0.length : Int))) rfl (fun hc => ?_) (fun hc => ?_)
      · skip
        rw [if_pos hc] at hb12
        refine WP.skip ?_
        refine WP.seq ?_
        refine WP.block ?_
        refine WP.seq ?_
        refine WP.region ?_
        refine RW.run ttok 2 rfl ?_
        refine RW.nil ?_
        refine WP.seq ?_
        refine WP.drawnM 0 mixed 9 (by kernel_rfl) (by kernel_rfl) [([], 511), ([], 511), ([0, 1], 508), ([2], 507), ([], 511), ([], 511), ([4, 5], 463), ([6], 447), ([3, 7], 375)] (by kernel_rfl) (fun hsk17 => ?_)
        have hS18 := hS15.step (Ext.draw _)
        refine DM.run (fuel := 5) ttok hsk17 [0, 1, 4, 5] 51 (by kernel_rfl) (by kernel_rfl) rfl ?_
        obtain ⟨x19, hx20, hb12⟩ := bind_some hb12
        refine DM.idx ttok hS15.ext hsk17 2 55 (by kernel_rfl) (by kernel_rfl) (by kernel_rfl) (by kernel_rfl) rfl (by kernel_rfl) rfl rfl rfl rfl rfl rfl (by decide) rfl rfl h0_ (idx_some hx20).1 (idx_some hx20).2 rfl rfl (fun p21 es22 ha23 hr24 => ?_)
        cases hr24
        refine DM.load1 ttok hsk17 3 63 (by kernel_rfl) (by kernel_rfl) (by kernel_rfl) (by kernel_rfl) rfl (by kernel_rfl) rfl rfl rfl rfl rfl (At.ext hS15.ext ha23) 0 rfl rfl rfl rfl ?_
        obtain ⟨x25, hx26, hb12⟩ := bind_some hb12
        refine DM.idx ttok hS15.ext hsk17 6 127 (by kernel_rfl) (by kernel_rfl) (by kernel_rfl) (by kernel_rfl) rfl (by kernel_rfl) rfl rfl rfl rfl rfl rfl (by decide) rfl rfl h1_ (idx_some hx26).1 (idx_some hx26).2 rfl rfl (fun p27 es28 ha29 hr30 => ?_)
        cases hr30
        refine DM.load1 ttok hsk17 7 255 (by kernel_rfl) (by kernel_rfl) (by kernel_rfl) (by kernel_rfl) rfl (by kernel_rfl) rfl rfl rfl rfl rfl (At.ext hS15.ext ha29) 0 rfl rfl rfl rfl ?_
        refine DM.run (fuel := 0) ttok hsk17 [8] 511 (by kernel_rfl) (by kernel_rfl) rfl ?_
        refine DM.weak [(0, .slice A0_ x0.length k0_), (1, .slice A1_ x1.length k1_), (12, .int .i64 (x0.length : Int)), (13, .int .i64 s1), (24, .bool (x19 != x25))] ⟨rfl, rfl, rfl, rfl, rfl, trivial⟩ ?_
        refine DM.done hsk17 (by kernel_rfl) ?_
        refine WP.cond (x19 != x25) rfl (fun hc => ?_) (fun hc => ?_)
        · skip
          rw [if_pos hc] at hb12
          refine WP.seq ?_
          refine WP.region ?_
          refine RW.run ttok 1 rfl ?_
          refine RW.nil ?_
          refine WP.ret ?_
          cases hb12
          cases ho13
          have hm : some _ = some _ := hm
          cases hm
          exact ⟨_, .cons (.tmp rfl) .nil, rfl, (hS18.taken 0)⟩
        · skip
          rw [if_neg (not_t hc)] at hb12
          refine WP.skip ?_
          refine WP.region ?_
          refine RW.run ttok 2 rfl ?_
          refine RW.nil ?_
          cases hb12
          exact ⟨_, [(0, .slice A0_ x0.length k0_), (1, .slice A1_ x1.length k1_), (12, .int .i64 (x0.length : Int)), (13, .int .i64 (w64 (s1 + 1)))], ⟨rfl, rfl, rfl, rfl, trivial⟩, rfl, (hE5.trans (Ext.draw _)), (hS18.taken 0), rfl⟩
      · skip
        rw [if_neg (not_t hc)] at hb12
        refine WP.exit ?_
        cases hb12
        exact ⟨_, [], trivial, ho13, hE5, (hS15.taken 0), rfl⟩

theorem enters129 : Enters Try.prog 129 := ⟨_, _, Try.func129, rfl, by kernel_rfl⟩
def m_slices_Equal_impl_Address_impl_Address_j1 (fuel : Nat) (t2 : Unit) : Option Bool := some true
def m_slices_Equal_impl_Address_impl_Address_b1 (fuel : Nat) (x0 : (List D.Address)) (x1 : (List D.Address)) (s1 : Int) : Option (Rd (Int) (Unit) (Bool)) := (if (decide (s1 < (x0.length : Int))) = true then ((idx x0 s1).bind fun x19 => ((idx x1 s1).bind fun x26 => (if (!(((x19.Machine : Int) == x26.Machine) && (((x19.Kind : Int) == x26.Kind) && (((x19.Index : Int) == x26.Index) && true)))) = true then some (.ret false) else some (.next (w64 (s1 + 1)))))) else some (.brk ()))
def m_slices_Equal_impl_Address_impl_Address (fuel : Nat) (x0 : (List D.Address)) (x1 : (List D.Address)) : Option (Bool) := (if ((x0.length : Int) != (x1.length : Int)) = true then some false else ((iter (m_slices_Equal_impl_Address_impl_Address_b1 fuel x0 x1) fuel 0).bind fun o => aft o (m_slices_Equal_impl_Address_impl_Address_j1 fuel)))

set_option maxRecDepth 100000 in
theorem slices_Equal_impl_Address_impl_Address_ok {w : World} {A0_ : Option Addr} {k0_ : Nat} {x0 : (List D.Address)} {A1_ : Option Addr} {k1_ : Nat} {x1 : (List D.Address)} (h0_ : ty121.ro w [.slice A0_ x0.length k0_] x0) (h1_ : ty121.ro w [.slice A1_ x1.length k1_] x1) {fuel : Nat} {r : Bool} (hm : m_slices_Equal_impl_Address_impl_Address fuel x0 x1 = some r) :
    Calls Try.prog 129 ⟨[.slice A0_ x0.length k0_, .slice A1_ x1.length k1_]⟩ w (Ret fun v w8 => v = .bool r ∧ St w w8 []) := by
  refine Calls.into Try.func129 rfl 26 rfl rfl _ rfl ?_
  unfold m_slices_Equal_impl_Address_impl_Address at hm
  have hS := St.start w
  refine WP.seq ?_
  refine WP.region ?_
  refine RW.run ttok 1 rfl ?_
  refine RW.nil ?_
  refine WP.seq ?_
  refine WP.seq ?_
  refine WP.region ?_
  refine RW.run ttok 5 rfl ?_
  refine RW.nil ?_
  refine WP.cond ((x0.length : Int) != (x1.length : Int)) rfl (fun hc => ?_) (fun hc => ?_)
  · skip
    rw [if_pos hc] at hm
    refine WP.seq ?_
    refine WP.region ?_
    refine RW.run ttok 1 rfl ?_
    refine RW.nil ?_
    refine WP.ret ?_
    cases hm
    exact ⟨_, .cons (.tmp rfl) .nil, rfl, (hS.taken 0)⟩
  · skip
    rw [if_neg (not_t hc)] at hm
    refine WP.skip ?_
    refine WP.seq ?_
    refine WP.seq ?_
    refine WP.region ?_
    refine RW.run ttok 3 rfl ?_
    refine RW.nil ?_
    obtain ⟨o8, hl9, hm⟩ := bind_some hm
    refine WP.cut (fun (t2 : Unit) F w9 => o8 = .inl t2 ∧ Ext w w9 ∧ St w w9 [] ∧ F = []) ?_ ?_
    · skip
      rintro t2 F w7 ⟨ho11, hE6, hS10, rfl⟩
      subst ho11
      rw [aft_inl] at hm
      unfold m_slices_Equal_impl_Address_impl_Address_j1 at hm
      refine WP.seq ?_
      refine WP.region ?_
      refine RW.run ttok 1 rfl ?_
      refine RW.nil ?_
      refine WP.ret ?_
      cases hm
      exact ⟨_, .cons (.tmp rfl) .nil, rfl, (hS10.taken 0)⟩
    · skip
      refine WP.block ?_
      refine WP.weak [(0, .slice A0_ x0.length k0_), (1, .slice A1_ x1.length k1_), (12, .int .i64 (x0.length : Int)), (13, .int .i64 0)] ⟨rfl, rfl, rfl, rfl, trivial⟩ ?_
      refine WP.iter (fun (s1 : Int) F w9 => Ext w w9 ∧ St w w9 [] ∧ F = [(0, .slice A0_ x0.length k0_), (1, .slice A1_ x1.length k1_), (12, .int .i64 (x0.length : Int)), (13, .int .i64 s1)]) _ hl9 ⟨(Ext.refl _), (hS.taken 0), rfl⟩ ?_
      rintro s1 F w16 _ o14 ⟨hE5, hS15, rfl⟩ hb12 ho13
      unfold m_slices_Equal_impl_Address_impl_Address_b1 at hb12
      refine WP.seq ?_
      refine WP.region ?_
      refine RW.run ttok 1 rfl ?_
      refine RW.nil ?_
      refine WP.seq ?_
      refine WP.cond (decide (s1 < (x0.length : Int))) rfl (fun hc => ?_) (fun hc => ?_)
      · skip
        rw [if_pos hc] at hb12
        refine WP.skip ?_
        refine WP.seq ?_
        refine WP.block ?_
        refine WP.seq ?_
        refine WP.region ?_
        refine RW.run ttok 2 rfl ?_
        refine RW.nil ?_
        refine WP.seq ?_
        refine WP.drawnM 0 mixed 9 (by kernel_rfl) (by kernel_rfl) [([], 511), ([], 511), ([0, 1], 508), ([2], 507), ([], 511), ([], 511), ([4, 5], 463), ([6], 447), ([3, 7], 375)] (by kernel_rfl) (fun hsk17 => ?_)
        have hS18 := hS15.step (Ext.draw _)
        refine DM.run (fuel := 5) ttok hsk17 [0, 1, 4, 5] 51 (by kernel_rfl) (by kernel_rfl) rfl ?_
        obtain ⟨x19, hx20, hb12⟩ := bind_some hb12
        refine DM.idx ttok hS15.ext hsk17 2 55 (by kernel_rfl) (by kernel_rfl) (by kernel_rfl) (by kernel_rfl) rfl (by kernel_rfl) rfl rfl rfl rfl rfl rfl (by decide) rfl rfl h0_ (idx_some hx20).1 (idx_some hx20).2 rfl rfl (fun p21 es22 ha23 hr24 => ?_)
        have e25 := ty44_open hr24; subst e25
        refine DM.loadN ttok hsk17 3 63 (by kernel_rfl) (by kernel_rfl) (by kernel_rfl) (by kernel_rfl) rfl (by kernel_rfl) rfl rfl rfl rfl rfl (At.ext hS15.ext ha23) rfl rfl rfl ?_
        obtain ⟨x26, hx27, hb12⟩ := bind_some hb12
        refine DM.idx ttok hS15.ext hsk17 6 127 (by kernel_rfl) (by kernel_rfl) (by kernel_rfl) (by kernel_rfl) rfl (by kernel_rfl) rfl rfl rfl rfl rfl rfl (by decide) rfl rfl h1_ (idx_some hx27).1 (idx_some hx27).2 rfl rfl (fun p28 es29 ha30 hr31 => ?_)
        have e32 := ty44_open hr31; subst e32
        refine DM.loadN ttok hsk17 7 255 (by kernel_rfl) (by kernel_rfl) (by kernel_rfl) (by kernel_rfl) rfl (by kernel_rfl) rfl rfl rfl rfl rfl (At.ext hS15.ext ha30) rfl rfl rfl ?_
        refine DM.run (fuel := 0) ttok hsk17 [8] 511 (by kernel_rfl) (by kernel_rfl) rfl ?_
        refine DM.weak [(0, .slice A0_ x0.length k0_), (1, .slice A1_ x1.length k1_), (12, .int .i64 (x0.length : Int)), (13, .int .i64 s1), (24, .bool (!(((x19.Machine : Int) == x26.Machine) && (((x19.Kind : Int) == x26.Kind) && (((x19.Index : Int) == x26.Index) && true)))))] ⟨rfl, rfl, rfl, rfl, rfl, trivial⟩ ?_
        refine DM.done hsk17 (by kernel_rfl) ?_
        refine WP.cond (!(((x19.Machine : Int) == x26.Machine) && (((x19.Kind : Int) == x26.Kind) && (((x19.Index : Int) == x26.Index) && true)))) rfl (fun hc => ?_) (fun hc => ?_)
        · skip
          rw [if_pos hc] at hb12
          refine WP.seq ?_
          refine WP.region ?_
          refine RW.run ttok 1 rfl ?_
          refine RW.nil ?_
          refine WP.ret ?_
          cases hb12
          cases ho13
          have hm : some _ = some _ := hm
          cases hm
          exact ⟨_, .cons (.tmp rfl) .nil, rfl, (hS18.taken 0)⟩
        · skip
          rw [if_neg (not_t hc)] at hb12
          refine WP.skip ?_
          refine WP.region ?_
          refine RW.run ttok 2 rfl ?_
          refine RW.nil ?_
          cases hb12
          exact ⟨_, [(0, .slice A0_ x0.length k0_), (1, .slice A1_ x1.length k1_), (12, .int .i64 (x0.length : Int)), (13, .int .i64 (w64 (s1 + 1)))], ⟨rfl, rfl, rfl, rfl, trivial⟩, rfl, (hE5.trans (Ext.draw _)), (hS18.taken 0), rfl⟩
      · skip
        rw [if_neg (not_t hc)] at hb12
        refine WP.exit ?_
        cases hb12
        exact ⟨_, [], trivial, ho13, hE5, (hS15.taken 0), rfl⟩

theorem enters56 : Enters Try.prog 56 := ⟨_, _, Try.func56, rfl, by kernel_rfl⟩
def m_impl_sameShardCell (fuel : Nat) (x0 : D.ShardCell) (x1 : D.ShardCell) : Option (Bool) := (if (x0.Kind == x1.Kind) = true then (if (x0.Level == x1.Level) = true then (if (x0.Value == x1.Value) = true then ((m_slices_Equal_int64_int64 fuel x0.Data x1.Data).bind fun r26 => (if r26 = true then ((m_slices_Equal_impl_Address_impl_Address fuel x0.Aux x1.Aux).bind fun r34 => some r34) else some false)) else some false) else some false) else some false)

set_option maxRecDepth 100000 in
theorem impl_sameShardCell_ok {w : World} {c0_ : List Value} {x0 : D.ShardCell} {c1_ : List Value} {x1 : D.ShardCell} (h0_ : ty123.ro w c0_ x0) (h1_ : ty123.ro w c1_ x1) {fuel : Nat} {r : Bool} (hm : m_impl_sameShardCell fuel x0 x1 = some r) :
    Calls Try.prog 56 ⟨[.agg ⟨c0_⟩, .agg ⟨c1_⟩]⟩ w (Ret fun v w8 => v = .bool r ∧ St w w8 []) := by
  obtain ⟨A1, k2, A4, k5, e7, h3, h6⟩ := ty123_open h0_; subst e7
  obtain ⟨A8, k9, A11, k12, e14, h10, h13⟩ := ty123_open h1_; subst e14
  refine Calls.into Try.func56 rfl 38 rfl rfl _ rfl ?_
  unfold m_impl_sameShardCell at hm
  have hS := St.start w
  refine WP.seq ?_
  refine WP.region ?_
  refine RW.new ttok hS rfl rfl rfl rfl (fun g15 w16 e17 hS18 => ?_)
  refine RW.new ttok hS18 rfl rfl rfl rfl (fun g19 w20 e21 hS22 => ?_)
  refine RW.run ttok 1 rfl ?_
  refine RW.nil ?_
  refine WP.seq ?_
  refine WP.region ?_
  refine RW.run ttok 1 rfl ?_
  refine RW.load1 ttok rfl rfl rfl rfl rfl ((hS22.bring 1 rfl).box) 0 rfl rfl rfl rfl ?_
  refine RW.run ttok 1 rfl ?_
  refine RW.load1 ttok rfl rfl rfl rfl rfl ((hS22.bring 0 rfl).box) 0 rfl rfl rfl rfl ?_
  refine RW.run ttok 2 rfl ?_
  by_cases hg23 : (x0.Kind == x1.Kind) = true
  · skip
    rw [if_pos hg23] at hm
    refine RW.know 10 rfl (congrArg Value.bool hg23) ?_
    refine RW.run ttok 1 rfl ?_
    refine RW.load1 ttok rfl rfl rfl rfl rfl ((hS22.bring 1 rfl).box) 1 rfl rfl rfl rfl ?_
    refine RW.run ttok 1 rfl ?_
    refine RW.load1 ttok rfl rfl rfl rfl rfl ((hS22.bring 0 rfl).box) 1 rfl rfl rfl rfl ?_
    refine RW.run ttok 3 rfl ?_
    by_cases hg24 : (x0.Level == x1.Level) = true
    · skip
      rw [if_pos hg24] at hm
      refine RW.know 17 rfl (congrArg Value.bool hg24) ?_
      refine RW.run ttok 1 rfl ?_
      refine RW.load1 ttok rfl rfl rfl rfl rfl ((hS22.bring 1 rfl).box) 2 rfl rfl rfl rfl ?_
      refine RW.run ttok 1 rfl ?_
      refine RW.load1 ttok rfl rfl rfl rfl rfl ((hS22.bring 0 rfl).box) 2 rfl rfl rfl rfl ?_
      refine RW.run ttok 3 rfl ?_
      by_cases hg25 : (x0.Value == x1.Value) = true
      · skip
        rw [if_pos hg25] at hm
        refine RW.know 24 rfl (congrArg Value.bool hg25) ?_
        refine RW.run ttok 1 rfl ?_
        refine RW.load1 ttok rfl rfl rfl rfl rfl ((hS22.bring 1 rfl).box) 3 rfl rfl rfl rfl ?_
        refine RW.run ttok 1 rfl ?_
        refine RW.load1 ttok rfl rfl rfl rfl rfl ((hS22.bring 0 rfl).box) 3 rfl rfl rfl rfl ?_
        obtain ⟨r26, hx27, hm⟩ := bind_some hm
        refine RW.call rfl rfl rfl enters78 (slices_Equal_int64_int64_ok (ty72.ext hS22.ext h3) (ty72.ext hS22.ext h10) hx27) (fun v28 w29 hR30 => ?_)
        obtain ⟨rfl, hR31⟩ := hR30
        have hS32 := hS22.join hR31
        refine RW.run ttok 2 rfl ?_
        by_cases hg33 : r26 = true
        · skip
          rw [if_pos hg33] at hm
          refine RW.know 31 rfl (congrArg Value.bool hg33) ?_
          refine RW.run ttok 1 rfl ?_
          refine RW.load1 ttok rfl rfl rfl rfl rfl ((hS32.bring 1 rfl).box) 4 rfl rfl rfl rfl ?_
          refine RW.run ttok 1 rfl ?_
          refine RW.load1 ttok rfl rfl rfl rfl rfl ((hS32.bring 0 rfl).box) 4 rfl rfl rfl rfl ?_
          obtain ⟨r34, hx35, hm⟩ := bind_some hm
          refine RW.call rfl rfl rfl enters129 (slices_Equal_impl_Address_impl_Address_ok (ty121.ext hS32.ext h6) (ty121.ext hS32.ext h13) hx35) (fun v36 w37 hR38 => ?_)
          obtain ⟨rfl, hR39⟩ := hR38
          have hS40 := hS32.join hR39
          refine RW.run ttok 2 rfl ?_
          refine RW.nil ?_
          refine WP.ret ?_
          cases hm
          exact ⟨_, .cons (.tmp rfl) .nil, rfl, (hS40.taken 0)⟩
        · skip
          rw [if_neg hg33] at hm
          refine RW.know 31 rfl (congrArg Value.bool (Bool.eq_false_iff.2 hg33)) ?_
          refine RW.run ttok 7 rfl ?_
          refine RW.nil ?_
          refine WP.ret ?_
          cases hm
          exact ⟨_, .cons (.tmp rfl) .nil, rfl, (hS32.taken 0)⟩
      · skip
        rw [if_neg hg25] at hm
        refine RW.know 24 rfl (congrArg Value.bool (Bool.eq_false_iff.2 hg25)) ?_
        refine RW.run ttok 14 rfl ?_
        refine RW.nil ?_
        refine WP.ret ?_
        cases hm
        exact ⟨_, .cons (.tmp rfl) .nil, rfl, (hS22.taken 0)⟩
    · skip
      rw [if_neg hg24] at hm
      refine RW.know 17 rfl (congrArg Value.bool (Bool.eq_false_iff.2 hg24)) ?_
      refine RW.run ttok 21 rfl ?_
      refine RW.nil ?_
      refine WP.ret ?_
      cases hm
      exact ⟨_, .cons (.tmp rfl) .nil, rfl, (hS22.taken 0)⟩
  · skip
    rw [if_neg hg23] at hm
    refine RW.know 10 rfl (congrArg Value.bool (Bool.eq_false_iff.2 hg23)) ?_
    refine RW.run ttok 28 rfl ?_
    refine RW.nil ?_
    refine WP.ret ?_
    cases hm
    exact ⟨_, .cons (.tmp rfl) .nil, rfl, (hS22.taken 0)⟩

theorem enters57 : Enters Try.prog 57 := ⟨_, _, Try.func57, rfl, by kernel_rfl⟩
def m_slices_Equal_impl_ShardVar_impl_ShardVar_j1 (fuel : Nat) (t2 : Unit) : Option Bool := some true
def m_slices_Equal_impl_ShardVar_impl_ShardVar_b1 (fuel : Nat) (x0 : (List D.ShardVar)) (x1 : (List D.ShardVar)) (s1 : Int) : Option (Rd (Int) (Unit) (Bool)) := (if (decide (s1 < (x0.length : Int))) = true then ((idx x0 s1).bind fun x19 => ((idx x1 s1).bind fun x26 => (if (!((x19.Used == x26.Used) && ((x19.Full == x26.Full) && ((((x19.Held.Machine : Int) == x26.Held.Machine) && (((x19.Held.Kind : Int) == x26.Held.Kind) && (((x19.Held.Index : Int) == x26.Held.Index) && true))) && true)))) = true then some (.ret false) else some (.next (w64 (s1 + 1)))))) else some (.brk ()))
def m_slices_Equal_impl_ShardVar_impl_ShardVar (fuel : Nat) (x0 : (List D.ShardVar)) (x1 : (List D.ShardVar)) : Option (Bool) := (if ((x0.length : Int) != (x1.length : Int)) = true then some false else ((iter (m_slices_Equal_impl_ShardVar_impl_ShardVar_b1 fuel x0 x1) fuel 0).bind fun o => aft o (m_slices_Equal_impl_ShardVar_impl_ShardVar_j1 fuel)))

set_option maxRecDepth 100000 in
theorem slices_Equal_impl_ShardVar_impl_ShardVar_ok {w : World} {A0_ : Option Addr} {k0_ : Nat} {x0 : (List D.ShardVar)} {A1_ : Option Addr} {k1_ : Nat} {x1 : (List D.ShardVar)} (h0_ : ty30.ro w [.slice A0_ x0.length k0_] x0) (h1_ : ty30.ro w [.slice A1_ x1.length k1_] x1) {fuel : Nat} {r : Bool} (hm : m_slices_Equal_impl_ShardVar_impl_ShardVar fuel x0 x1 = some r) :
    Calls Try.prog 57 ⟨[.slice A0_ x0.length k0_, .slice A1_ x1.length k1_]⟩ w (Ret fun v w8 => v = .bool r ∧ St w w8 []) := by
  refine Calls.into Try.func57 rfl 26 rfl rfl _ rfl ?_
  unfold m_slices_Equal_impl_ShardVar_impl_ShardVar at hm
  have hS := St.start w
  refine WP.seq ?_
  refine WP.region ?_
  refine RW.run ttok 1 rfl ?_
  refine RW.nil ?_
  refine WP.seq ?_
  refine WP.seq ?_
  refine WP.region ?_
  refine RW.run ttok 5 rfl ?_
  refine RW.nil ?_
  refine WP.cond ((x0.length : Int) != (x1.length : Int)) rfl (fun hc => ?_) (fun hc => ?_)
  · skip
    rw [if_pos hc] at hm
    refine WP.seq ?_
    refine WP.region ?_
    refine RW.run ttok 1 rfl ?_
    refine RW.nil ?_
    refine WP.ret ?_
    cases hm
    exact ⟨_, .cons (.tmp rfl) .nil, rfl, (hS.taken 0)⟩
  · skip
    rw [if_neg (not_t hc)] at hm
    refine WP.skip ?_
    refine WP.seq ?_
    refine WP.seq ?_
    refine WP.region ?_
    refine RW.run ttok 3 rfl ?_
    refine RW.nil ?_
    obtain ⟨o8, hl9, hm⟩ := bind_some hm
    refine WP.cut (fun (t2 : Unit) F w9 => o8 = .inl t2 ∧ Ext w w9 ∧ St w w9 [] ∧ F = []) ?_ ?_
    · skip
      rintro t2 F w7 ⟨ho11, hE6, hS10, rfl⟩
      subst ho11
      rw [aft_inl] at hm
      unfold m_slices_Equal_impl_ShardVar_impl_ShardVar_j1 at hm
      refine WP.seq ?_
      refine WP.region ?_
      refine RW.run ttok 1 rfl ?_
      refine RW.nil ?_
      refine WP.ret ?_
      cases hm
      exact ⟨_, .cons (.tmp rfl) .nil, rfl, (hS10.taken 0)⟩
    · skip
      refine WP.block ?_
      refine WP.weak [(0, .slice A0_ x0.length k0_), (1, .slice A1_ x1.length k1_), (12, .int .i64 (x0.length : Int)), (13, .int .i64 0)] ⟨rfl, rfl, rfl, rfl, trivial⟩ ?_
      refine WP.iter (fun (s1 : Int) F w9 => Ext w w9 ∧ St w w9 [] ∧ F = [(0, .slice A0_ x0.length k0_), (1, .slice A1_ x1.length k1_), (12, .int .i64 (x0.length : Int)), (13, .int .i64 s1)]) _ hl9 ⟨(Ext.refl _), (hS.taken 0), rfl⟩ ?_
      rintro s1 F w16 _ o14 ⟨hE5, hS15, rfl⟩ hb12 ho13
      unfold m_slices_Equal_impl_ShardVar_impl_ShardVar_b1 at hb12
      refine WP.seq ?_
      refine WP.region ?_
      refine RW.run ttok 1 rfl ?_
      refine RW.nil ?_
      refine WP.seq ?_
      refine WP.cond (decide (s1 < (x0.length : Int))) rfl (fun hc => ?_) (fun hc => ?_)
      · skip
        rw [if_pos hc] at hb12
        refine WP.skip ?_
        refine WP.seq ?_
        refine WP.block ?_
        refine WP.seq ?_
        refine WP.region ?_
        refine RW.run ttok 2 rfl ?_
        refine RW.nil ?_
        refine WP.seq ?_
        refine WP.drawnM 0 mixed 9 (by kernel_rfl) (by kernel_rfl) [([], 511), ([], 511), ([0, 1], 508), ([2], 507), ([], 511), ([], 511), ([4, 5], 463), ([6], 447), ([3, 7], 375)] (by kernel_rfl) (fun hsk17 => ?_)
        have hS18 := hS15.step (Ext.draw _)
        refine DM.run (fuel := 5) ttok hsk17 [0, 1, 4, 5] 51 (by kernel_rfl) (by kernel_rfl) rfl ?_
        obtain ⟨x19, hx20, hb12⟩ := bind_some hb12
        refine DM.idx ttok hS15.ext hsk17 2 55 (by kernel_rfl) (by kernel_rfl) (by kernel_rfl) (by kernel_rfl) rfl (by kernel_rfl) rfl rfl rfl rfl rfl rfl (by decide) rfl rfl h0_ (idx_some hx20).1 (idx_some hx20).2 rfl rfl (fun p21 es22 ha23 hr24 => ?_)
        have e25 := ty125_open hr24; subst e25
        refine DM.loadN ttok hsk17 3 63 (by kernel_rfl) (by kernel_rfl) (by kernel_rfl) (by kernel_rfl) rfl (by kernel_rfl) rfl rfl rfl rfl rfl (At.ext hS15.ext ha23) rfl rfl rfl ?_
        obtain ⟨x26, hx27, hb12⟩ := bind_some hb12
        refine DM.idx ttok hS15.ext hsk17 6 127 (by kernel_rfl) (by kernel_rfl) (by kernel_rfl) (by kernel_rfl) rfl (by kernel_rfl) rfl rfl rfl rfl rfl rfl (by decide) rfl rfl h1_ (idx_some hx27).1 (idx_some hx27).2 rfl rfl (fun p28 es29 ha30 hr31 => ?_)
        have e32 := ty125_open hr31; subst e32
        refine DM.loadN ttok hsk17 7 255 (by kernel_rfl) (by kernel_rfl) (by kernel_rfl) (by kernel_rfl) rfl (by kernel_rfl) rfl rfl rfl rfl rfl (At.ext hS15.ext ha30) rfl rfl rfl ?_
        refine DM.run (fuel := 0) ttok hsk17 [8] 511 (by kernel_rfl) (by kernel_rfl) rfl ?_
        refine DM.weak [(0, .slice A0_ x0.length k0_), (1, .slice A1_ x1.length k1_), (12, .int .i64 (x0.length : Int)), (13, .int .i64 s1), (24, .bool (!((x19.Used == x26.Used) && ((x19.Full == x26.Full) && ((((x19.Held.Machine : Int) == x26.Held.Machine) && (((x19.Held.Kind : Int) == x26.Held.Kind) && (((x19.Held.Index : Int) == x26.Held.Index) && true))) && true)))))] ⟨rfl, rfl, rfl, rfl, rfl, trivial⟩ ?_
        refine DM.done hsk17 (by kernel_rfl) ?_
        refine WP.cond (!((x19.Used == x26.Used) && ((x19.Full == x26.Full) && ((((x19.Held.Machine : Int) == x26.Held.Machine) && (((x19.Held.Kind : Int) == x26.Held.Kind) && (((x19.Held.Index : Int) == x26.Held.Index) && true))) && true)))) rfl (fun hc => ?_) (fun hc => ?_)
        · skip
          rw [if_pos hc] at hb12
          refine WP.seq ?_
          refine WP.region ?_
          refine RW.run ttok 1 rfl ?_
          refine RW.nil ?_
          refine WP.ret ?_
          cases hb12
          cases ho13
          have hm : some _ = some _ := hm
          cases hm
          exact ⟨_, .cons (.tmp rfl) .nil, rfl, (hS18.taken 0)⟩
        · skip
          rw [if_neg (not_t hc)] at hb12
          refine WP.skip ?_
          refine WP.region ?_
          refine RW.run ttok 2 rfl ?_
          refine RW.nil ?_
          cases hb12
          exact ⟨_, [(0, .slice A0_ x0.length k0_), (1, .slice A1_ x1.length k1_), (12, .int .i64 (x0.length : Int)), (13, .int .i64 (w64 (s1 + 1)))], ⟨rfl, rfl, rfl, rfl, trivial⟩, rfl, (hE5.trans (Ext.draw _)), (hS18.taken 0), rfl⟩
      · skip
        rw [if_neg (not_t hc)] at hb12
        refine WP.exit ?_
        cases hb12
        exact ⟨_, [], trivial, ho13, hE5, (hS15.taken 0), rfl⟩

theorem enters58 : Enters Try.prog 58 := ⟨_, _, Try.func58, rfl, by kernel_rfl⟩
def m_slices_Equal_impl_ShardRedex_impl_ShardRedex_j1 (fuel : Nat) (t2 : Unit) : Option Bool := some true
def m_slices_Equal_impl_ShardRedex_impl_ShardRedex_b1 (fuel : Nat) (x0 : (List D.ShardRedex)) (x1 : (List D.ShardRedex)) (s1 : Int) : Option (Rd (Int) (Unit) (Bool)) := (if (decide (s1 < (x0.length : Int))) = true then ((idx x0 s1).bind fun x19 => ((idx x1 s1).bind fun x26 => (if (!((((x19.A.Machine : Int) == x26.A.Machine) && (((x19.A.Kind : Int) == x26.A.Kind) && (((x19.A.Index : Int) == x26.A.Index) && true))) && ((((x19.B.Machine : Int) == x26.B.Machine) && (((x19.B.Kind : Int) == x26.B.Kind) && (((x19.B.Index : Int) == x26.B.Index) && true))) && true))) = true then some (.ret false) else some (.next (w64 (s1 + 1)))))) else some (.brk ()))
def m_slices_Equal_impl_ShardRedex_impl_ShardRedex (fuel : Nat) (x0 : (List D.ShardRedex)) (x1 : (List D.ShardRedex)) : Option (Bool) := (if ((x0.length : Int) != (x1.length : Int)) = true then some false else ((iter (m_slices_Equal_impl_ShardRedex_impl_ShardRedex_b1 fuel x0 x1) fuel 0).bind fun o => aft o (m_slices_Equal_impl_ShardRedex_impl_ShardRedex_j1 fuel)))

set_option maxRecDepth 100000 in
theorem slices_Equal_impl_ShardRedex_impl_ShardRedex_ok {w : World} {A0_ : Option Addr} {k0_ : Nat} {x0 : (List D.ShardRedex)} {A1_ : Option Addr} {k1_ : Nat} {x1 : (List D.ShardRedex)} (h0_ : ty31.ro w [.slice A0_ x0.length k0_] x0) (h1_ : ty31.ro w [.slice A1_ x1.length k1_] x1) {fuel : Nat} {r : Bool} (hm : m_slices_Equal_impl_ShardRedex_impl_ShardRedex fuel x0 x1 = some r) :
    Calls Try.prog 58 ⟨[.slice A0_ x0.length k0_, .slice A1_ x1.length k1_]⟩ w (Ret fun v w8 => v = .bool r ∧ St w w8 []) := by
  refine Calls.into Try.func58 rfl 26 rfl rfl _ rfl ?_
  unfold m_slices_Equal_impl_ShardRedex_impl_ShardRedex at hm
  have hS := St.start w
  refine WP.seq ?_
  refine WP.region ?_
  refine RW.run ttok 1 rfl ?_
  refine RW.nil ?_
  refine WP.seq ?_
  refine WP.seq ?_
  refine WP.region ?_
  refine RW.run ttok 5 rfl ?_
  refine RW.nil ?_
  refine WP.cond ((x0.length : Int) != (x1.length : Int)) rfl (fun hc => ?_) (fun hc => ?_)
  · skip
    rw [if_pos hc] at hm
    refine WP.seq ?_
    refine WP.region ?_
    refine RW.run ttok 1 rfl ?_
    refine RW.nil ?_
    refine WP.ret ?_
    cases hm
    exact ⟨_, .cons (.tmp rfl) .nil, rfl, (hS.taken 0)⟩
  · skip
    rw [if_neg (not_t hc)] at hm
    refine WP.skip ?_
    refine WP.seq ?_
    refine WP.seq ?_
    refine WP.region ?_
    refine RW.run ttok 3 rfl ?_
    refine RW.nil ?_
    obtain ⟨o8, hl9, hm⟩ := bind_some hm
    refine WP.cut (fun (t2 : Unit) F w9 => o8 = .inl t2 ∧ Ext w w9 ∧ St w w9 [] ∧ F = []) ?_ ?_
    · skip
      rintro t2 F w7 ⟨ho11, hE6, hS10, rfl⟩
      subst ho11
      rw [aft_inl] at hm
      unfold m_slices_Equal_impl_ShardRedex_impl_ShardRedex_j1 at hm
      refine WP.seq ?_
      refine WP.region ?_
      refine RW.run ttok 1 rfl ?_
      refine RW.nil ?_
      refine WP.ret ?_
      cases hm
      exact ⟨_, .cons (.tmp rfl) .nil, rfl, (hS10.taken 0)⟩
    · skip
      refine WP.block ?_
      refine WP.weak [(0, .slice A0_ x0.length k0_), (1, .slice A1_ x1.length k1_), (12, .int .i64 (x0.length : Int)), (13, .int .i64 0)] ⟨rfl, rfl, rfl, rfl, trivial⟩ ?_
      refine WP.iter (fun (s1 : Int) F w9 => Ext w w9 ∧ St w w9 [] ∧ F = [(0, .slice A0_ x0.length k0_), (1, .slice A1_ x1.length k1_), (12, .int .i64 (x0.length : Int)), (13, .int .i64 s1)]) _ hl9 ⟨(Ext.refl _), (hS.taken 0), rfl⟩ ?_
      rintro s1 F w16 _ o14 ⟨hE5, hS15, rfl⟩ hb12 ho13
      unfold m_slices_Equal_impl_ShardRedex_impl_ShardRedex_b1 at hb12
      refine WP.seq ?_
      refine WP.region ?_
      refine RW.run ttok 1 rfl ?_
      refine RW.nil ?_
      refine WP.seq ?_
      refine WP.cond (decide (s1 < (x0.length : Int))) rfl (fun hc => ?_) (fun hc => ?_)
      · skip
        rw [if_pos hc] at hb12
        refine WP.skip ?_
        refine WP.seq ?_
        refine WP.block ?_
        refine WP.seq ?_
        refine WP.region ?_
        refine RW.run ttok 2 rfl ?_
        refine RW.nil ?_
        refine WP.seq ?_
        refine WP.drawnM 0 mixed 9 (by kernel_rfl) (by kernel_rfl) [([], 511), ([], 511), ([0, 1], 508), ([2], 507), ([], 511), ([], 511), ([4, 5], 463), ([6], 447), ([3, 7], 375)] (by kernel_rfl) (fun hsk17 => ?_)
        have hS18 := hS15.step (Ext.draw _)
        refine DM.run (fuel := 5) ttok hsk17 [0, 1, 4, 5] 51 (by kernel_rfl) (by kernel_rfl) rfl ?_
        obtain ⟨x19, hx20, hb12⟩ := bind_some hb12
        refine DM.idx ttok hS15.ext hsk17 2 55 (by kernel_rfl) (by kernel_rfl) (by kernel_rfl) (by kernel_rfl) rfl (by kernel_rfl) rfl rfl rfl rfl rfl rfl (by decide) rfl rfl h0_ (idx_some hx20).1 (idx_some hx20).2 rfl rfl (fun p21 es22 ha23 hr24 => ?_)
        have e25 := ty127_open hr24; subst e25
        refine DM.loadN ttok hsk17 3 63 (by kernel_rfl) (by kernel_rfl) (by kernel_rfl) (by kernel_rfl) rfl (by kernel_rfl) rfl rfl rfl rfl rfl (At.ext hS15.ext ha23) rfl rfl rfl ?_
        obtain ⟨x26, hx27, hb12⟩ := bind_some hb12
        refine DM.idx ttok hS15.ext hsk17 6 127 (by kernel_rfl) (by kernel_rfl) (by kernel_rfl) (by kernel_rfl) rfl (by kernel_rfl) rfl rfl rfl rfl rfl rfl (by decide) rfl rfl h1_ (idx_some hx27).1 (idx_some hx27).2 rfl rfl (fun p28 es29 ha30 hr31 => ?_)
        have e32 := ty127_open hr31; subst e32
        refine DM.loadN ttok hsk17 7 255 (by kernel_rfl) (by kernel_rfl) (by kernel_rfl) (by kernel_rfl) rfl (by kernel_rfl) rfl rfl rfl rfl rfl (At.ext hS15.ext ha30) rfl rfl rfl ?_
        refine DM.run (fuel := 0) ttok hsk17 [8] 511 (by kernel_rfl) (by kernel_rfl) rfl ?_
        refine DM.weak [(0, .slice A0_ x0.length k0_), (1, .slice A1_ x1.length k1_), (12, .int .i64 (x0.length : Int)), (13, .int .i64 s1), (24, .bool (!((((x19.A.Machine : Int) == x26.A.Machine) && (((x19.A.Kind : Int) == x26.A.Kind) && (((x19.A.Index : Int) == x26.A.Index) && true))) && ((((x19.B.Machine : Int) == x26.B.Machine) && (((x19.B.Kind : Int) == x26.B.Kind) && (((x19.B.Index : Int) == x26.B.Index) && true))) && true))))] ⟨rfl, rfl, rfl, rfl, rfl, trivial⟩ ?_
        refine DM.done hsk17 (by kernel_rfl) ?_
        refine WP.cond (!((((x19.A.Machine : Int) == x26.A.Machine) && (((x19.A.Kind : Int) == x26.A.Kind) && (((x19.A.Index : Int) == x26.A.Index) && true))) && ((((x19.B.Machine : Int) == x26.B.Machine) && (((x19.B.Kind : Int) == x26.B.Kind) && (((x19.B.Index : Int) == x26.B.Index) && true))) && true))) rfl (fun hc => ?_) (fun hc => ?_)
        · skip
          rw [if_pos hc] at hb12
          refine WP.seq ?_
          refine WP.region ?_
          refine RW.run ttok 1 rfl ?_
          refine RW.nil ?_
          refine WP.ret ?_
          cases hb12
          cases ho13
          have hm : some _ = some _ := hm
          cases hm
          exact ⟨_, .cons (.tmp rfl) .nil, rfl, (hS18.taken 0)⟩
        · skip
          rw [if_neg (not_t hc)] at hb12
          refine WP.skip ?_
          refine WP.region ?_
          refine RW.run ttok 2 rfl ?_
          refine RW.nil ?_
          cases hb12
          exact ⟨_, [(0, .slice A0_ x0.length k0_), (1, .slice A1_ x1.length k1_), (12, .int .i64 (x0.length : Int)), (13, .int .i64 (w64 (s1 + 1)))], ⟨rfl, rfl, rfl, rfl, trivial⟩, rfl, (hE5.trans (Ext.draw _)), (hS18.taken 0), rfl⟩
      · skip
        rw [if_neg (not_t hc)] at hb12
        refine WP.exit ?_
        cases hb12
        exact ⟨_, [], trivial, ho13, hE5, (hS15.taken 0), rfl⟩

theorem enters14 : Enters Try.prog 14 := ⟨_, _, Try.func14, rfl, by kernel_rfl⟩
def m_impl_SameShard (fuel : Nat) (x0 : D.Shard) (x1 : D.Shard) : Option (Bool) := ((m_slices_EqualFunc_impl_ShardCell_impl_ShardCell_impl_ShardCell_impl_ShardCell fuel x0.Cells x1.Cells (fun y0 y1 => m_impl_sameShardCell fuel y0 y1)).bind fun r29 => (if r29 = true then ((m_slices_Equal_impl_ShardVar_impl_ShardVar fuel x0.Vars x1.Vars).bind fun r37 => (if r37 = true then ((m_slices_Equal_impl_ShardRedex_impl_ShardRedex fuel x0.Redexes x1.Redexes).bind fun r45 => some r45) else some false)) else some false))

set_option maxRecDepth 100000 in
theorem impl_SameShard_ok {w : World} {c0_ : List Value} {x0 : D.Shard} {c1_ : List Value} {x1 : D.Shard} (h0_ : ty33.ro w c0_ x0) (h1_ : ty33.ro w c1_ x1) {fuel : Nat} {r : Bool} (hm : m_impl_SameShard fuel x0 x1 = some r) :
    Calls Try.prog 14 ⟨[.agg ⟨c0_⟩, .agg ⟨c1_⟩]⟩ w (Ret fun v w8 => v = .bool r ∧ St w w8 []) := by
  obtain ⟨A1, k2, A4, k5, A7, k8, e10, h3, h6, h9⟩ := ty33_open h0_; subst e10
  obtain ⟨A11, k12, A14, k15, A17, k18, e20, h13, h16, h19⟩ := ty33_open h1_; subst e20
  refine Calls.into Try.func14 rfl 24 rfl rfl _ rfl ?_
  unfold m_impl_SameShard at hm
  have hS := St.start w
  refine WP.seq ?_
  refine WP.region ?_
  refine RW.new ttok hS rfl rfl rfl rfl (fun g21 w22 e23 hS24 => ?_)
  refine RW.new ttok hS24 rfl rfl rfl rfl (fun g25 w26 e27 hS28 => ?_)
  refine RW.run ttok 1 rfl ?_
  refine RW.nil ?_
  refine WP.seq ?_
  refine WP.region ?_
  refine RW.run ttok 1 rfl ?_
  refine RW.load1 ttok rfl rfl rfl rfl rfl ((hS28.bring 1 rfl).box) 0 rfl rfl rfl rfl ?_
  refine RW.run ttok 1 rfl ?_
  refine RW.load1 ttok rfl rfl rfl rfl rfl ((hS28.bring 0 rfl).box) 0 rfl rfl rfl rfl ?_
  obtain ⟨r29, hx30, hm⟩ := bind_some hm
  refine RW.call rfl rfl rfl enters55 (slices_EqualFunc_impl_ShardCell_impl_ShardCell_impl_ShardCell_impl_ShardCell_ok (ty29.ext hS28.ext h3) (ty29.ext hS28.ext h13) ⟨enters56, fun e9 => (fun a0_0 a1_0 hx9 => impl_sameShardCell_ok a0_0 a1_0 hx9)⟩ hx30) (fun v31 w32 hR33 => ?_)
  obtain ⟨rfl, hR34⟩ := hR33
  have hS35 := hS28.join hR34
  refine RW.run ttok 1 rfl ?_
  by_cases hg36 : r29 = true
  · skip
    rw [if_pos hg36] at hm
    refine RW.know 10 rfl (congrArg Value.bool hg36) ?_
    refine RW.run ttok 1 rfl ?_
    refine RW.load1 ttok rfl rfl rfl rfl rfl ((hS35.bring 1 rfl).box) 1 rfl rfl rfl rfl ?_
    refine RW.run ttok 1 rfl ?_
    refine RW.load1 ttok rfl rfl rfl rfl rfl ((hS35.bring 0 rfl).box) 1 rfl rfl rfl rfl ?_
    obtain ⟨r37, hx38, hm⟩ := bind_some hm
    refine RW.call rfl rfl rfl enters57 (slices_Equal_impl_ShardVar_impl_ShardVar_ok (ty30.ext hS35.ext h6) (ty30.ext hS35.ext h16) hx38) (fun v39 w40 hR41 => ?_)
    obtain ⟨rfl, hR42⟩ := hR41
    have hS43 := hS35.join hR42
    refine RW.run ttok 2 rfl ?_
    by_cases hg44 : r37 = true
    · skip
      rw [if_pos hg44] at hm
      refine RW.know 17 rfl (congrArg Value.bool hg44) ?_
      refine RW.run ttok 1 rfl ?_
      refine RW.load1 ttok rfl rfl rfl rfl rfl ((hS43.bring 1 rfl).box) 2 rfl rfl rfl rfl ?_
      refine RW.run ttok 1 rfl ?_
      refine RW.load1 ttok rfl rfl rfl rfl rfl ((hS43.bring 0 rfl).box) 2 rfl rfl rfl rfl ?_
      obtain ⟨r45, hx46, hm⟩ := bind_some hm
      refine RW.call rfl rfl rfl enters58 (slices_Equal_impl_ShardRedex_impl_ShardRedex_ok (ty31.ext hS43.ext h9) (ty31.ext hS43.ext h19) hx46) (fun v47 w48 hR49 => ?_)
      obtain ⟨rfl, hR50⟩ := hR49
      have hS51 := hS43.join hR50
      refine RW.run ttok 2 rfl ?_
      refine RW.nil ?_
      refine WP.ret ?_
      cases hm
      exact ⟨_, .cons (.tmp rfl) .nil, rfl, (hS51.taken 0)⟩
    · skip
      rw [if_neg hg44] at hm
      refine RW.know 17 rfl (congrArg Value.bool (Bool.eq_false_iff.2 hg44)) ?_
      refine RW.run ttok 7 rfl ?_
      refine RW.nil ?_
      refine WP.ret ?_
      cases hm
      exact ⟨_, .cons (.tmp rfl) .nil, rfl, (hS43.taken 0)⟩
  · skip
    rw [if_neg hg36] at hm
    refine RW.know 10 rfl (congrArg Value.bool (Bool.eq_false_iff.2 hg36)) ?_
    refine RW.run ttok 14 rfl ?_
    refine RW.nil ?_
    refine WP.ret ?_
    cases hm
    exact ⟨_, .cons (.tmp rfl) .nil, rfl, (hS35.taken 0)⟩

theorem enters95 : Enters Try.prog 95 := ⟨_, _, Try.func95, rfl, by kernel_rfl⟩
def m_laws_eqInt64S_j1 (fuel : Nat) (t2 : Unit) : Option Bool := some true
def m_laws_eqInt64S_b1 (fuel : Nat) (x0 : (List Int)) (x1 : (List Int)) (s1 : Int) : Option (Rd (Int) (Unit) (Bool)) := (if (decide (s1 < (x0.length : Int))) = true then ((idx x0 s1).bind fun x19 => ((idx x1 s1).bind fun x25 => (if (x19 != x25) = true then some (.ret false) else some (.next (w64 (s1 + 1)))))) else some (.brk ()))
def m_laws_eqInt64S (fuel : Nat) (x0 : (List Int)) (x1 : (List Int)) : Option (Bool) := (if ((x0.length : Int) != (x1.length : Int)) = true then some false else ((iter (m_laws_eqInt64S_b1 fuel x0 x1) fuel 0).bind fun o => aft o (m_laws_eqInt64S_j1 fuel)))

set_option maxRecDepth 100000 in
theorem laws_eqInt64S_ok {w : World} {A0_ : Option Addr} {k0_ : Nat} {x0 : (List Int)} {A1_ : Option Addr} {k1_ : Nat} {x1 : (List Int)} (h0_ : ty72.ro w [.slice A0_ x0.length k0_] x0) (h1_ : ty72.ro w [.slice A1_ x1.length k1_] x1) {fuel : Nat} {r : Bool} (hm : m_laws_eqInt64S fuel x0 x1 = some r) :
    Calls Try.prog 95 ⟨[.slice A0_ x0.length k0_, .slice A1_ x1.length k1_]⟩ w (Ret fun v w8 => v = .bool r ∧ St w w8 []) := by
  refine Calls.into Try.func95 rfl 26 rfl rfl _ rfl ?_
  unfold m_laws_eqInt64S at hm
  have hS := St.start w
  refine WP.seq ?_
  refine WP.region ?_
  refine RW.run ttok 1 rfl ?_
  refine RW.nil ?_
  refine WP.seq ?_
  refine WP.seq ?_
  refine WP.region ?_
  refine RW.run ttok 5 rfl ?_
  refine RW.nil ?_
  refine WP.cond ((x0.length : Int) != (x1.length : Int)) rfl (fun hc => ?_) (fun hc => ?_)
  · skip
    rw [if_pos hc] at hm
    refine WP.seq ?_
    refine WP.region ?_
    refine RW.run ttok 1 rfl ?_
    refine RW.nil ?_
    refine WP.ret ?_
    cases hm
    exact ⟨_, .cons (.tmp rfl) .nil, rfl, (hS.taken 0)⟩
  · skip
    rw [if_neg (not_t hc)] at hm
    refine WP.skip ?_
    refine WP.seq ?_
    refine WP.seq ?_
    refine WP.region ?_
    refine RW.run ttok 1 rfl ?_
    refine RW.nil ?_
    obtain ⟨o8, hl9, hm⟩ := bind_some hm
    refine WP.cut (fun (t2 : Unit) F w9 => o8 = .inl t2 ∧ Ext w w9 ∧ St w w9 [] ∧ F = []) ?_ ?_
    · skip
      rintro t2 F w7 ⟨ho11, hE6, hS10, rfl⟩
      subst ho11
      rw [aft_inl] at hm
      unfold m_laws_eqInt64S_j1 at hm
      refine WP.seq ?_
      refine WP.region ?_
      refine RW.run ttok 1 rfl ?_
      refine RW.nil ?_
      refine WP.ret ?_
      cases hm
      exact ⟨_, .cons (.tmp rfl) .nil, rfl, (hS10.taken 0)⟩
    · skip
      refine WP.block ?_
      refine WP.weak [(0, .slice A0_ x0.length k0_), (1, .slice A1_ x1.length k1_), (5, .int .i64 0)] ⟨rfl, rfl, rfl, trivial⟩ ?_
      refine WP.iter (fun (s1 : Int) F w9 => Ext w w9 ∧ St w w9 [] ∧ F = [(0, .slice A0_ x0.length k0_), (1, .slice A1_ x1.length k1_), (5, .int .i64 s1)]) _ hl9 ⟨(Ext.refl _), (hS.taken 0), rfl⟩ ?_
      rintro s1 F w16 _ o14 ⟨hE5, hS15, rfl⟩ hb12 ho13
      unfold m_laws_eqInt64S_b1 at hb12
      refine WP.seq ?_
      refine WP.seq ?_
      refine WP.region ?_
      refine RW.run ttok 4 rfl ?_
      refine RW.nil ?_
      refine WP.cond (decide (s1 < (x0.length : Int))) rfl (fun hc => ?_) (fun hc => ?_)
      · skip
        rw [if_pos hc] at hb12
        refine WP.skip ?_
        refine WP.seq ?_
        refine WP.block ?_
        refine WP.seq ?_
        refine WP.drawnM 0 mixed 9 (by kernel_rfl) (by kernel_rfl) [([], 511), ([], 511), ([0, 1], 508), ([2], 507), ([], 511), ([], 511), ([4, 5], 463), ([6], 447), ([3, 7], 375)] (by kernel_rfl) (fun hsk17 => ?_)
        have hS18 := hS15.step (Ext.draw _)
        refine DM.run (fuel := 5) ttok hsk17 [0, 1, 4, 5] 51 (by kernel_rfl) (by kernel_rfl) rfl ?_
        obtain ⟨x19, hx20, hb12⟩ := bind_some hb12
        refine DM.idx ttok hS15.ext hsk17 2 55 (by kernel_rfl) (by kernel_rfl) (by kernel_rfl) (by kernel_rfl) rfl (by kernel_rfl) rfl rfl rfl rfl rfl rfl (by decide) rfl rfl h0_ (idx_some hx20).1 (idx_some hx20).2 rfl rfl (fun p21 es22 ha23 hr24 => ?_)
        cases hr24
        refine DM.load1 ttok hsk17 3 63 (by kernel_rfl) (by kernel_rfl) (by kernel_rfl) (by kernel_rfl) rfl (by kernel_rfl) rfl rfl rfl rfl rfl (At.ext hS15.ext ha23) 0 rfl rfl rfl rfl ?_
        obtain ⟨x25, hx26, hb12⟩ := bind_some hb12
        refine DM.idx ttok hS15.ext hsk17 6 127 (by kernel_rfl) (by kernel_rfl) (by kernel_rfl) (by kernel_rfl) rfl (by kernel_rfl) rfl rfl rfl rfl rfl rfl (by decide) rfl rfl h1_ (idx_some hx26).1 (idx_some hx26).2 rfl rfl (fun p27 es28 ha29 hr30 => ?_)
        cases hr30
        refine DM.load1 ttok hsk17 7 255 (by kernel_rfl) (by kernel_rfl) (by kernel_rfl) (by kernel_rfl) rfl (by kernel_rfl) rfl rfl rfl rfl rfl (At.ext hS15.ext ha29) 0 rfl rfl rfl rfl ?_
        refine DM.run (fuel := 0) ttok hsk17 [8] 511 (by kernel_rfl) (by kernel_rfl) rfl ?_
        refine DM.weak [(0, .slice A0_ x0.length k0_), (1, .slice A1_ x1.length k1_), (5, .int .i64 s1), (25, .bool (x19 != x25))] ⟨rfl, rfl, rfl, rfl, trivial⟩ ?_
        refine DM.done hsk17 (by kernel_rfl) ?_
        refine WP.cond (x19 != x25) rfl (fun hc => ?_) (fun hc => ?_)
        · skip
          rw [if_pos hc] at hb12
          refine WP.seq ?_
          refine WP.region ?_
          refine RW.run ttok 1 rfl ?_
          refine RW.nil ?_
          refine WP.ret ?_
          cases hb12
          cases ho13
          have hm : some _ = some _ := hm
          cases hm
          exact ⟨_, .cons (.tmp rfl) .nil, rfl, (hS18.taken 0)⟩
        · skip
          rw [if_neg (not_t hc)] at hb12
          refine WP.skip ?_
          refine WP.region ?_
          refine RW.run ttok 3 rfl ?_
          refine RW.nil ?_
          cases hb12
          exact ⟨_, [(0, .slice A0_ x0.length k0_), (1, .slice A1_ x1.length k1_), (5, .int .i64 (w64 (s1 + 1)))], ⟨rfl, rfl, rfl, trivial⟩, rfl, (hE5.trans (Ext.draw _)), (hS18.taken 0), rfl⟩
      · skip
        rw [if_neg (not_t hc)] at hb12
        refine WP.exit ?_
        cases hb12
        exact ⟨_, [], trivial, ho13, hE5, (hS15.taken 0), rfl⟩

theorem enters67 : Enters Try.prog 67 := ⟨_, _, Try.func67, rfl, by kernel_rfl⟩
def m_laws_eqAddress (fuel : Nat) (x0 : D.Address) (x1 : D.Address) : Option (Bool) := (if (x0.Machine != x1.Machine) = true then some false else (if (x0.Kind != x1.Kind) = true then some false else (if (x0.Index != x1.Index) = true then some false else some true)))

set_option maxRecDepth 100000 in
theorem laws_eqAddress_ok {w : World} {c0_ : List Value} {x0 : D.Address} {c1_ : List Value} {x1 : D.Address} (h0_ : ty44.ro w c0_ x0) (h1_ : ty44.ro w c1_ x1) {fuel : Nat} {r : Bool} (hm : m_laws_eqAddress fuel x0 x1 = some r) :
    Calls Try.prog 67 ⟨[.agg ⟨c0_⟩, .agg ⟨c1_⟩]⟩ w (Ret fun v w8 => v = .bool r ∧ St w w8 []) := by
  have e1 := ty44_open h0_; subst e1
  have e2 := ty44_open h1_; subst e2
  refine Calls.into Try.func67 rfl 20 rfl rfl _ rfl ?_
  unfold m_laws_eqAddress at hm
  have hS := St.start w
  refine WP.seq ?_
  refine WP.region ?_
  refine RW.new ttok hS rfl rfl rfl rfl (fun g3 w4 e5 hS6 => ?_)
  refine RW.new ttok hS6 rfl rfl rfl rfl (fun g7 w8 e9 hS10 => ?_)
  refine RW.run ttok 1 rfl ?_
  refine RW.nil ?_
  refine WP.seq ?_
  refine WP.seq ?_
  refine WP.region ?_
  refine RW.run ttok 1 rfl ?_
  refine RW.load1 ttok rfl rfl rfl rfl rfl ((hS10.bring 1 rfl).box) 0 rfl rfl rfl rfl ?_
  refine RW.run ttok 1 rfl ?_
  refine RW.load1 ttok rfl rfl rfl rfl rfl ((hS10.bring 0 rfl).box) 0 rfl rfl rfl rfl ?_
  refine RW.run ttok 1 rfl ?_
  refine RW.nil ?_
  refine WP.cond (x0.Machine != x1.Machine) rfl (fun hc => ?_) (fun hc => ?_)
  · skip
    rw [if_pos hc] at hm
    refine WP.seq ?_
    refine WP.region ?_
    refine RW.run ttok 1 rfl ?_
    refine RW.nil ?_
    refine WP.ret ?_
    cases hm
    exact ⟨_, .cons (.tmp rfl) .nil, rfl, (hS10.taken 0)⟩
  · skip
    rw [if_neg (not_t hc)] at hm
    refine WP.skip ?_
    refine WP.seq ?_
    refine WP.seq ?_
    refine WP.region ?_
    refine RW.run ttok 1 rfl ?_
    refine RW.load1 ttok rfl rfl rfl rfl rfl ((hS10.bring 1 rfl).box) 1 rfl rfl rfl rfl ?_
    refine RW.run ttok 1 rfl ?_
    refine RW.load1 ttok rfl rfl rfl rfl rfl ((hS10.bring 0 rfl).box) 1 rfl rfl rfl rfl ?_
    refine RW.run ttok 1 rfl ?_
    refine RW.nil ?_
    refine WP.cond (x0.Kind != x1.Kind) rfl (fun hc => ?_) (fun hc => ?_)
    · skip
      rw [if_pos hc] at hm
      refine WP.seq ?_
      refine WP.region ?_
      refine RW.run ttok 1 rfl ?_
      refine RW.nil ?_
      refine WP.ret ?_
      cases hm
      exact ⟨_, .cons (.tmp rfl) .nil, rfl, (hS10.taken 0)⟩
    · skip
      rw [if_neg (not_t hc)] at hm
      refine WP.skip ?_
      refine WP.seq ?_
      refine WP.seq ?_
      refine WP.region ?_
      refine RW.run ttok 1 rfl ?_
      refine RW.load1 ttok rfl rfl rfl rfl rfl ((hS10.bring 1 rfl).box) 2 rfl rfl rfl rfl ?_
      refine RW.run ttok 1 rfl ?_
      refine RW.load1 ttok rfl rfl rfl rfl rfl ((hS10.bring 0 rfl).box) 2 rfl rfl rfl rfl ?_
      refine RW.run ttok 1 rfl ?_
      refine RW.nil ?_
      refine WP.cond (x0.Index != x1.Index) rfl (fun hc => ?_) (fun hc => ?_)
      · skip
        rw [if_pos hc] at hm
        refine WP.seq ?_
        refine WP.region ?_
        refine RW.run ttok 1 rfl ?_
        refine RW.nil ?_
        refine WP.ret ?_
        cases hm
        exact ⟨_, .cons (.tmp rfl) .nil, rfl, (hS10.taken 0)⟩
      · skip
        rw [if_neg (not_t hc)] at hm
        refine WP.skip ?_
        refine WP.seq ?_
        refine WP.region ?_
        refine RW.run ttok 1 rfl ?_
        refine RW.nil ?_
        refine WP.ret ?_
        cases hm
        exact ⟨_, .cons (.tmp rfl) .nil, rfl, (hS10.taken 0)⟩

theorem enters170 : Enters Try.prog 170 := ⟨_, _, Try.func170, rfl, by kernel_rfl⟩
def m_laws_eqAddressS_j1 (fuel : Nat) (t2 : Unit) : Option Bool := some true
def m_laws_eqAddressS_b1 (fuel : Nat) (x0 : (List D.Address)) (x1 : (List D.Address)) (s1 : Int) : Option (Rd (Int) (Unit) (Bool)) := (if (decide (s1 < (x0.length : Int))) = true then ((idx x0 s1).bind fun x19 => ((idx x1 s1).bind fun x26 => ((m_laws_eqAddress fuel x19 x26).bind fun r33 => (if (!r33) = true then some (.ret false) else some (.next (w64 (s1 + 1))))))) else some (.brk ()))
def m_laws_eqAddressS (fuel : Nat) (x0 : (List D.Address)) (x1 : (List D.Address)) : Option (Bool) := (if ((x0.length : Int) != (x1.length : Int)) = true then some false else ((iter (m_laws_eqAddressS_b1 fuel x0 x1) fuel 0).bind fun o => aft o (m_laws_eqAddressS_j1 fuel)))

set_option maxRecDepth 100000 in
theorem laws_eqAddressS_ok {w : World} {A0_ : Option Addr} {k0_ : Nat} {x0 : (List D.Address)} {A1_ : Option Addr} {k1_ : Nat} {x1 : (List D.Address)} (h0_ : ty121.ro w [.slice A0_ x0.length k0_] x0) (h1_ : ty121.ro w [.slice A1_ x1.length k1_] x1) {fuel : Nat} {r : Bool} (hm : m_laws_eqAddressS fuel x0 x1 = some r) :
    Calls Try.prog 170 ⟨[.slice A0_ x0.length k0_, .slice A1_ x1.length k1_]⟩ w (Ret fun v w8 => v = .bool r ∧ St w w8 []) := by
  refine Calls.into Try.func170 rfl 27 rfl rfl _ rfl ?_
  unfold m_laws_eqAddressS at hm
  have hS := St.start w
  refine WP.seq ?_
  refine WP.region ?_
  refine RW.run ttok 1 rfl ?_
  refine RW.nil ?_
  refine WP.seq ?_
  refine WP.seq ?_
  refine WP.region ?_
  refine RW.run ttok 5 rfl ?_
  refine RW.nil ?_
  refine WP.cond ((x0.length : Int) != (x1.length : Int)) rfl (fun hc => ?_) (fun hc => ?_)
  · skip
    rw [if_pos hc] at hm
    refine WP.seq ?_
    refine WP.region ?_
    refine RW.run ttok 1 rfl ?_
    refine RW.nil ?_
    refine WP.ret ?_
    cases hm
    exact ⟨_, .cons (.tmp rfl) .nil, rfl, (hS.taken 0)⟩
  · skip
    rw [if_neg (not_t hc)] at hm
    refine WP.skip ?_
    refine WP.seq ?_
    refine WP.seq ?_
    refine WP.region ?_
    refine RW.run ttok 1 rfl ?_
    refine RW.nil ?_
    obtain ⟨o8, hl9, hm⟩ := bind_some hm
    refine WP.cut (fun (t2 : Unit) F w9 => o8 = .inl t2 ∧ Ext w w9 ∧ St w w9 [] ∧ F = []) ?_ ?_
    · skip
      rintro t2 F w7 ⟨ho11, hE6, hS10, rfl⟩
      subst ho11
      rw [aft_inl] at hm
      unfold m_laws_eqAddressS_j1 at hm
      refine WP.seq ?_
      refine WP.region ?_
      refine RW.run ttok 1 rfl ?_
      refine RW.nil ?_
      refine WP.ret ?_
      cases hm
      exact ⟨_, .cons (.tmp rfl) .nil, rfl, (hS10.taken 0)⟩
    · skip
      refine WP.block ?_
      refine WP.weak [(0, .slice A0_ x0.length k0_), (1, .slice A1_ x1.length k1_), (5, .int .i64 0)] ⟨rfl, rfl, rfl, trivial⟩ ?_
      refine WP.iter (fun (s1 : Int) F w9 => Ext w w9 ∧ St w w9 [] ∧ F = [(0, .slice A0_ x0.length k0_), (1, .slice A1_ x1.length k1_), (5, .int .i64 s1)]) _ hl9 ⟨(Ext.refl _), (hS.taken 0), rfl⟩ ?_
      rintro s1 F w16 _ o14 ⟨hE5, hS15, rfl⟩ hb12 ho13
      unfold m_laws_eqAddressS_b1 at hb12
      refine WP.seq ?_
      refine WP.seq ?_
      refine WP.region ?_
      refine RW.run ttok 4 rfl ?_
      refine RW.nil ?_
      refine WP.cond (decide (s1 < (x0.length : Int))) rfl (fun hc => ?_) (fun hc => ?_)
      · skip
        rw [if_pos hc] at hb12
        refine WP.skip ?_
        refine WP.seq ?_
        refine WP.block ?_
        refine WP.seq ?_
        refine WP.drawnM 0 mixed 10 (by kernel_rfl) (by kernel_rfl) [([], 1023), ([], 1023), ([0, 1], 1020), ([2], 1019), ([], 1023), ([], 1023), ([4, 5], 975), ([6], 959), ([3, 7], 887), ([8], 767)] (by kernel_rfl) (fun hsk17 => ?_)
        have hS18 := hS15.step (Ext.draw _)
        refine DM.run (fuel := 6) ttok hsk17 [0, 1, 4, 5] 51 (by kernel_rfl) (by kernel_rfl) rfl ?_
        obtain ⟨x19, hx20, hb12⟩ := bind_some hb12
        refine DM.idx ttok hS15.ext hsk17 2 55 (by kernel_rfl) (by kernel_rfl) (by kernel_rfl) (by kernel_rfl) rfl (by kernel_rfl) rfl rfl rfl rfl rfl rfl (by decide) rfl rfl h0_ (idx_some hx20).1 (idx_some hx20).2 rfl rfl (fun p21 es22 ha23 hr24 => ?_)
        have e25 := ty44_open hr24; subst e25
        refine DM.loadN ttok hsk17 3 63 (by kernel_rfl) (by kernel_rfl) (by kernel_rfl) (by kernel_rfl) rfl (by kernel_rfl) rfl rfl rfl rfl rfl (At.ext hS15.ext ha23) rfl rfl rfl ?_
        obtain ⟨x26, hx27, hb12⟩ := bind_some hb12
        refine DM.idx ttok hS15.ext hsk17 6 127 (by kernel_rfl) (by kernel_rfl) (by kernel_rfl) (by kernel_rfl) rfl (by kernel_rfl) rfl rfl rfl rfl rfl rfl (by decide) rfl rfl h1_ (idx_some hx27).1 (idx_some hx27).2 rfl rfl (fun p28 es29 ha30 hr31 => ?_)
        have e32 := ty44_open hr31; subst e32
        refine DM.loadN ttok hsk17 7 255 (by kernel_rfl) (by kernel_rfl) (by kernel_rfl) (by kernel_rfl) rfl (by kernel_rfl) rfl rfl rfl rfl rfl (At.ext hS15.ext ha30) rfl rfl rfl ?_
        obtain ⟨r33, hx34, hb12⟩ := bind_some hb12
        refine DM.one hsk17 8 (by kernel_rfl) (LM.call hsk17 511 (by kernel_rfl) (by kernel_rfl) rfl rfl rfl rfl enters67 (laws_eqAddress_ok (ty44.ext hS18.ext hr24) (ty44.ext hS18.ext hr31) hx34) (fun v35 w36 hR37 => ?_))
        obtain ⟨rfl, hR38⟩ := hR37
        refine ⟨hR38.ext, ?_⟩
        have hS39 := hS18.join hR38
        refine DM.run (fuel := 0) ttok hsk17 [9] 1023 (by kernel_rfl) (by kernel_rfl) rfl ?_
        refine DM.weak [(0, .slice A0_ x0.length k0_), (1, .slice A1_ x1.length k1_), (5, .int .i64 s1), (26, .bool (!r33))] ⟨rfl, rfl, rfl, rfl, trivial⟩ ?_
        refine DM.done hsk17 (by kernel_rfl) ?_
        refine WP.cond (!r33) rfl (fun hc => ?_) (fun hc => ?_)
        · skip
          rw [if_pos hc] at hb12
          refine WP.seq ?_
          refine WP.region ?_
          refine RW.run ttok 1 rfl ?_
          refine RW.nil ?_
          refine WP.ret ?_
          cases hb12
          cases ho13
          have hm : some _ = some _ := hm
          cases hm
          exact ⟨_, .cons (.tmp rfl) .nil, rfl, (hS39.taken 0)⟩
        · skip
          rw [if_neg (not_t hc)] at hb12
          refine WP.skip ?_
          refine WP.region ?_
          refine RW.run ttok 3 rfl ?_
          refine RW.nil ?_
          cases hb12
          exact ⟨_, [(0, .slice A0_ x0.length k0_), (1, .slice A1_ x1.length k1_), (5, .int .i64 (w64 (s1 + 1)))], ⟨rfl, rfl, rfl, trivial⟩, rfl, ((hE5.trans (Ext.draw _)).trans hR38.ext), (hS39.taken 0), rfl⟩
      · skip
        rw [if_neg (not_t hc)] at hb12
        refine WP.exit ?_
        cases hb12
        exact ⟨_, [], trivial, ho13, hE5, (hS15.taken 0), rfl⟩

theorem enters130 : Enters Try.prog 130 := ⟨_, _, Try.func130, rfl, by kernel_rfl⟩
def m_laws_eqShardCell (fuel : Nat) (x0 : D.ShardCell) (x1 : D.ShardCell) : Option (Bool) := (if (x0.Kind != x1.Kind) = true then some false else (if (x0.Level != x1.Level) = true then some false else (if (x0.Value != x1.Value) = true then some false else ((m_laws_eqInt64S fuel x0.Data x1.Data).bind fun r23 => (if (!r23) = true then some false else ((m_laws_eqAddressS fuel x0.Aux x1.Aux).bind fun r30 => (if (!r30) = true then some false else some true)))))))

set_option maxRecDepth 100000 in
theorem laws_eqShardCell_ok {w : World} {c0_ : List Value} {x0 : D.ShardCell} {c1_ : List Value} {x1 : D.ShardCell} (h0_ : ty123.ro w c0_ x0) (h1_ : ty123.ro w c1_ x1) {fuel : Nat} {r : Bool} (hm : m_laws_eqShardCell fuel x0 x1 = some r) :
    Calls Try.prog 130 ⟨[.agg ⟨c0_⟩, .agg ⟨c1_⟩]⟩ w (Ret fun v w8 => v = .bool r ∧ St w w8 []) := by
  obtain ⟨A1, k2, A4, k5, e7, h3, h6⟩ := ty123_open h0_; subst e7
  obtain ⟨A8, k9, A11, k12, e14, h10, h13⟩ := ty123_open h1_; subst e14
  refine Calls.into Try.func130 rfl 32 rfl rfl _ rfl ?_
  unfold m_laws_eqShardCell at hm
  have hS := St.start w
  refine WP.seq ?_
  refine WP.region ?_
  refine RW.new ttok hS rfl rfl rfl rfl (fun g15 w16 e17 hS18 => ?_)
  refine RW.new ttok hS18 rfl rfl rfl rfl (fun g19 w20 e21 hS22 => ?_)
  refine RW.run ttok 1 rfl ?_
  refine RW.nil ?_
  refine WP.seq ?_
  refine WP.seq ?_
  refine WP.region ?_
  refine RW.run ttok 1 rfl ?_
  refine RW.load1 ttok rfl rfl rfl rfl rfl ((hS22.bring 1 rfl).box) 0 rfl rfl rfl rfl ?_
  refine RW.run ttok 1 rfl ?_
  refine RW.load1 ttok rfl rfl rfl rfl rfl ((hS22.bring 0 rfl).box) 0 rfl rfl rfl rfl ?_
  refine RW.run ttok 1 rfl ?_
  refine RW.nil ?_
  refine WP.cond (x0.Kind != x1.Kind) rfl (fun hc => ?_) (fun hc => ?_)
  · skip
    rw [if_pos hc] at hm
    refine WP.seq ?_
    refine WP.region ?_
    refine RW.run ttok 1 rfl ?_
    refine RW.nil ?_
    refine WP.ret ?_
    cases hm
    exact ⟨_, .cons (.tmp rfl) .nil, rfl, (hS22.taken 0)⟩
  · skip
    rw [if_neg (not_t hc)] at hm
    refine WP.skip ?_
    refine WP.seq ?_
    refine WP.seq ?_
    refine WP.region ?_
    refine RW.run ttok 1 rfl ?_
    refine RW.load1 ttok rfl rfl rfl rfl rfl ((hS22.bring 1 rfl).box) 1 rfl rfl rfl rfl ?_
    refine RW.run ttok 1 rfl ?_
    refine RW.load1 ttok rfl rfl rfl rfl rfl ((hS22.bring 0 rfl).box) 1 rfl rfl rfl rfl ?_
    refine RW.run ttok 1 rfl ?_
    refine RW.nil ?_
    refine WP.cond (x0.Level != x1.Level) rfl (fun hc => ?_) (fun hc => ?_)
    · skip
      rw [if_pos hc] at hm
      refine WP.seq ?_
      refine WP.region ?_
      refine RW.run ttok 1 rfl ?_
      refine RW.nil ?_
      refine WP.ret ?_
      cases hm
      exact ⟨_, .cons (.tmp rfl) .nil, rfl, (hS22.taken 0)⟩
    · skip
      rw [if_neg (not_t hc)] at hm
      refine WP.skip ?_
      refine WP.seq ?_
      refine WP.seq ?_
      refine WP.region ?_
      refine RW.run ttok 1 rfl ?_
      refine RW.load1 ttok rfl rfl rfl rfl rfl ((hS22.bring 1 rfl).box) 2 rfl rfl rfl rfl ?_
      refine RW.run ttok 1 rfl ?_
      refine RW.load1 ttok rfl rfl rfl rfl rfl ((hS22.bring 0 rfl).box) 2 rfl rfl rfl rfl ?_
      refine RW.run ttok 1 rfl ?_
      refine RW.nil ?_
      refine WP.cond (x0.Value != x1.Value) rfl (fun hc => ?_) (fun hc => ?_)
      · skip
        rw [if_pos hc] at hm
        refine WP.seq ?_
        refine WP.region ?_
        refine RW.run ttok 1 rfl ?_
        refine RW.nil ?_
        refine WP.ret ?_
        cases hm
        exact ⟨_, .cons (.tmp rfl) .nil, rfl, (hS22.taken 0)⟩
      · skip
        rw [if_neg (not_t hc)] at hm
        refine WP.skip ?_
        refine WP.seq ?_
        refine WP.seq ?_
        refine WP.region ?_
        refine RW.run ttok 1 rfl ?_
        refine RW.load1 ttok rfl rfl rfl rfl rfl ((hS22.bring 1 rfl).box) 3 rfl rfl rfl rfl ?_
        refine RW.run ttok 1 rfl ?_
        refine RW.load1 ttok rfl rfl rfl rfl rfl ((hS22.bring 0 rfl).box) 3 rfl rfl rfl rfl ?_
        obtain ⟨r23, hx24, hm⟩ := bind_some hm
        refine RW.call rfl rfl rfl enters95 (laws_eqInt64S_ok (ty72.ext hS22.ext h3) (ty72.ext hS22.ext h10) hx24) (fun v25 w26 hR27 => ?_)
        obtain ⟨rfl, hR28⟩ := hR27
        have hS29 := hS22.join hR28
        refine RW.run ttok 1 rfl ?_
        refine RW.nil ?_
        refine WP.cond (!r23) rfl (fun hc => ?_) (fun hc => ?_)
        · skip
          rw [if_pos hc] at hm
          refine WP.seq ?_
          refine WP.region ?_
          refine RW.run ttok 1 rfl ?_
          refine RW.nil ?_
          refine WP.ret ?_
          cases hm
          exact ⟨_, .cons (.tmp rfl) .nil, rfl, (hS29.taken 0)⟩
        · skip
          rw [if_neg (not_t hc)] at hm
          refine WP.skip ?_
          refine WP.seq ?_
          refine WP.seq ?_
          refine WP.region ?_
          refine RW.run ttok 1 rfl ?_
          refine RW.load1 ttok rfl rfl rfl rfl rfl ((hS29.bring 1 rfl).box) 4 rfl rfl rfl rfl ?_
          refine RW.run ttok 1 rfl ?_
          refine RW.load1 ttok rfl rfl rfl rfl rfl ((hS29.bring 0 rfl).box) 4 rfl rfl rfl rfl ?_
          obtain ⟨r30, hx31, hm⟩ := bind_some hm
          refine RW.call rfl rfl rfl enters170 (laws_eqAddressS_ok (ty121.ext hS29.ext h6) (ty121.ext hS29.ext h13) hx31) (fun v32 w33 hR34 => ?_)
          obtain ⟨rfl, hR35⟩ := hR34
          have hS36 := hS29.join hR35
          refine RW.run ttok 1 rfl ?_
          refine RW.nil ?_
          refine WP.cond (!r30) rfl (fun hc => ?_) (fun hc => ?_)
          · skip
            rw [if_pos hc] at hm
            refine WP.seq ?_
            refine WP.region ?_
            refine RW.run ttok 1 rfl ?_
            refine RW.nil ?_
            refine WP.ret ?_
            cases hm
            exact ⟨_, .cons (.tmp rfl) .nil, rfl, (hS36.taken 0)⟩
          · skip
            rw [if_neg (not_t hc)] at hm
            refine WP.skip ?_
            refine WP.seq ?_
            refine WP.region ?_
            refine RW.run ttok 1 rfl ?_
            refine RW.nil ?_
            refine WP.ret ?_
            cases hm
            exact ⟨_, .cons (.tmp rfl) .nil, rfl, (hS36.taken 0)⟩

theorem enters59 : Enters Try.prog 59 := ⟨_, _, Try.func59, rfl, by kernel_rfl⟩
def m_laws_eqShardCellS_j1 (fuel : Nat) (t2 : Unit) : Option Bool := some true
def m_laws_eqShardCellS_b1 (fuel : Nat) (x0 : (List D.ShardCell)) (x1 : (List D.ShardCell)) (s1 : Int) : Option (Rd (Int) (Unit) (Bool)) := (if (decide (s1 < (x0.length : Int))) = true then ((idx x0 s1).bind fun x19 => ((idx x1 s1).bind fun x32 => ((m_laws_eqShardCell fuel x19 x32).bind fun r45 => (if (!r45) = true then some (.ret false) else some (.next (w64 (s1 + 1))))))) else some (.brk ()))
def m_laws_eqShardCellS (fuel : Nat) (x0 : (List D.ShardCell)) (x1 : (List D.ShardCell)) : Option (Bool) := (if ((x0.length : Int) != (x1.length : Int)) = true then some false else ((iter (m_laws_eqShardCellS_b1 fuel x0 x1) fuel 0).bind fun o => aft o (m_laws_eqShardCellS_j1 fuel)))

set_option maxRecDepth 100000 in
theorem laws_eqShardCellS_ok {w : World} {A0_ : Option Addr} {k0_ : Nat} {x0 : (List D.ShardCell)} {A1_ : Option Addr} {k1_ : Nat} {x1 : (List D.ShardCell)} (h0_ : ty29.ro w [.slice A0_ x0.length k0_] x0) (h1_ : ty29.ro w [.slice A1_ x1.length k1_] x1) {fuel : Nat} {r : Bool} (hm : m_laws_eqShardCellS fuel x0 x1 = some r) :
    Calls Try.prog 59 ⟨[.slice A0_ x0.length k0_, .slice A1_ x1.length k1_]⟩ w (Ret fun v w8 => v = .bool r ∧ St w w8 []) := by
  refine Calls.into Try.func59 rfl 27 rfl rfl _ rfl ?_
  unfold m_laws_eqShardCellS at hm
  have hS := St.start w
  refine WP.seq ?_
  refine WP.region ?_
  refine RW.run ttok 1 rfl ?_
  refine RW.nil ?_
  refine WP.seq ?_
  refine WP.seq ?_
  refine WP.region ?_
  refine RW.run ttok 5 rfl ?_
  refine RW.nil ?_
  refine WP.cond ((x0.length : Int) != (x1.length : Int)) rfl (fun hc => ?_) (fun hc => ?_)
  · skip
    rw [if_pos hc] at hm
    refine WP.seq ?_
    refine WP.region ?_
    refine RW.run ttok 1 rfl ?_
    refine RW.nil ?_
    refine WP.ret ?_
    cases hm
    exact ⟨_, .cons (.tmp rfl) .nil, rfl, (hS.taken 0)⟩
  · skip
    rw [if_neg (not_t hc)] at hm
    refine WP.skip ?_
    refine WP.seq ?_
    refine WP.seq ?_
    refine WP.region ?_
    refine RW.run ttok 1 rfl ?_
    refine RW.nil ?_
    obtain ⟨o8, hl9, hm⟩ := bind_some hm
    refine WP.cut (fun (t2 : Unit) F w9 => o8 = .inl t2 ∧ Ext w w9 ∧ St w w9 [] ∧ F = []) ?_ ?_
    · skip
      rintro t2 F w7 ⟨ho11, hE6, hS10, rfl⟩
      subst ho11
      rw [aft_inl] at hm
      unfold m_laws_eqShardCellS_j1 at hm
      refine WP.seq ?_
      refine WP.region ?_
      refine RW.run ttok 1 rfl ?_
      refine RW.nil ?_
      refine WP.ret ?_
      cases hm
      exact ⟨_, .cons (.tmp rfl) .nil, rfl, (hS10.taken 0)⟩
    · skip
      refine WP.block ?_
      refine WP.weak [(0, .slice A0_ x0.length k0_), (1, .slice A1_ x1.length k1_), (5, .int .i64 0)] ⟨rfl, rfl, rfl, trivial⟩ ?_
      refine WP.iter (fun (s1 : Int) F w9 => Ext w w9 ∧ St w w9 [] ∧ F = [(0, .slice A0_ x0.length k0_), (1, .slice A1_ x1.length k1_), (5, .int .i64 s1)]) _ hl9 ⟨(Ext.refl _), (hS.taken 0), rfl⟩ ?_
      rintro s1 F w16 _ o14 ⟨hE5, hS15, rfl⟩ hb12 ho13
      unfold m_laws_eqShardCellS_b1 at hb12
      refine WP.seq ?_
      refine WP.seq ?_
      refine WP.region ?_
      refine RW.run ttok 4 rfl ?_
      refine RW.nil ?_
      refine WP.cond (decide (s1 < (x0.length : Int))) rfl (fun hc => ?_) (fun hc => ?_)
      · skip
        rw [if_pos hc] at hb12
        refine WP.skip ?_
        refine WP.seq ?_
        refine WP.block ?_
        refine WP.seq ?_
        refine WP.drawnM 0 mixed 10 (by kernel_rfl) (by kernel_rfl) [([], 1023), ([], 1023), ([0, 1], 1020), ([2], 1019), ([], 1023), ([], 1023), ([4, 5], 975), ([6], 959), ([3, 7], 887), ([8], 767)] (by kernel_rfl) (fun hsk17 => ?_)
        have hS18 := hS15.step (Ext.draw _)
        refine DM.run (fuel := 6) ttok hsk17 [0, 1, 4, 5] 51 (by kernel_rfl) (by kernel_rfl) rfl ?_
        obtain ⟨x19, hx20, hb12⟩ := bind_some hb12
        refine DM.idx ttok hS15.ext hsk17 2 55 (by kernel_rfl) (by kernel_rfl) (by kernel_rfl) (by kernel_rfl) rfl (by kernel_rfl) rfl rfl rfl rfl rfl rfl (by decide) rfl rfl h0_ (idx_some hx20).1 (idx_some hx20).2 rfl rfl (fun p21 es22 ha23 hr24 => ?_)
        obtain ⟨A25, k26, A28, k29, e31, h27, h30⟩ := ty123_open hr24; subst e31
        refine DM.loadN ttok hsk17 3 63 (by kernel_rfl) (by kernel_rfl) (by kernel_rfl) (by kernel_rfl) rfl (by kernel_rfl) rfl rfl rfl rfl rfl (At.ext hS15.ext ha23) rfl rfl rfl ?_
        obtain ⟨x32, hx33, hb12⟩ := bind_some hb12
        refine DM.idx ttok hS15.ext hsk17 6 127 (by kernel_rfl) (by kernel_rfl) (by kernel_rfl) (by kernel_rfl) rfl (by kernel_rfl) rfl rfl rfl rfl rfl rfl (by decide) rfl rfl h1_ (idx_some hx33).1 (idx_some hx33).2 rfl rfl (fun p34 es35 ha36 hr37 => ?_)
        obtain ⟨A38, k39, A41, k42, e44, h40, h43⟩ := ty123_open hr37; subst e44
        refine DM.loadN ttok hsk17 7 255 (by kernel_rfl) (by kernel_rfl) (by kernel_rfl) (by kernel_rfl) rfl (by kernel_rfl) rfl rfl rfl rfl rfl (At.ext hS15.ext ha36) rfl rfl rfl ?_
        obtain ⟨r45, hx46, hb12⟩ := bind_some hb12
        refine DM.one hsk17 8 (by kernel_rfl) (LM.call hsk17 511 (by kernel_rfl) (by kernel_rfl) rfl rfl rfl rfl enters130 (laws_eqShardCell_ok (ty123.ext hS18.ext hr24) (ty123.ext hS18.ext hr37) hx46) (fun v47 w48 hR49 => ?_))
        obtain ⟨rfl, hR50⟩ := hR49
        refine ⟨hR50.ext, ?_⟩
        have hS51 := hS18.join hR50
        refine DM.run (fuel := 0) ttok hsk17 [9] 1023 (by kernel_rfl) (by kernel_rfl) rfl ?_
        refine DM.weak [(0, .slice A0_ x0.length k0_), (1, .slice A1_ x1.length k1_), (5, .int .i64 s1), (26, .bool (!r45))] ⟨rfl, rfl, rfl, rfl, trivial⟩ ?_
        refine DM.done hsk17 (by kernel_rfl) ?_
        refine WP.cond (!r45) rfl (fun hc => ?_) (fun hc => ?_)
        · skip
          rw [if_pos hc] at hb12
          refine WP.seq ?_
          refine WP.region ?_
          refine RW.run ttok 1 rfl ?_
          refine RW.nil ?_
          refine WP.ret ?_
          cases hb12
          cases ho13
          have hm : some _ = some _ := hm
          cases hm
          exact ⟨_, .cons (.tmp rfl) .nil, rfl, (hS51.taken 0)⟩
        · skip
          rw [if_neg (not_t hc)] at hb12
          refine WP.skip ?_
          refine WP.region ?_
          refine RW.run ttok 3 rfl ?_
          refine RW.nil ?_
          cases hb12
          exact ⟨_, [(0, .slice A0_ x0.length k0_), (1, .slice A1_ x1.length k1_), (5, .int .i64 (w64 (s1 + 1)))], ⟨rfl, rfl, rfl, trivial⟩, rfl, ((hE5.trans (Ext.draw _)).trans hR50.ext), (hS51.taken 0), rfl⟩
      · skip
        rw [if_neg (not_t hc)] at hb12
        refine WP.exit ?_
        cases hb12
        exact ⟨_, [], trivial, ho13, hE5, (hS15.taken 0), rfl⟩

theorem enters131 : Enters Try.prog 131 := ⟨_, _, Try.func131, rfl, by kernel_rfl⟩
def m_laws_eqShardVar (fuel : Nat) (x0 : D.ShardVar) (x1 : D.ShardVar) : Option (Bool) := (if (!(x0.Used == x1.Used)) = true then some false else (if (!(x0.Full == x1.Full)) = true then some false else ((m_laws_eqAddress fuel x0.Held x1.Held).bind fun r11 => (if (!r11) = true then some false else some true))))

set_option maxRecDepth 100000 in
theorem laws_eqShardVar_ok {w : World} {c0_ : List Value} {x0 : D.ShardVar} {c1_ : List Value} {x1 : D.ShardVar} (h0_ : ty125.ro w c0_ x0) (h1_ : ty125.ro w c1_ x1) {fuel : Nat} {r : Bool} (hm : m_laws_eqShardVar fuel x0 x1 = some r) :
    Calls Try.prog 131 ⟨[.agg ⟨c0_⟩, .agg ⟨c1_⟩]⟩ w (Ret fun v w8 => v = .bool r ∧ St w w8 []) := by
  have e1 := ty125_open h0_; subst e1
  have e2 := ty125_open h1_; subst e2
  refine Calls.into Try.func131 rfl 21 rfl rfl _ rfl ?_
  unfold m_laws_eqShardVar at hm
  have hS := St.start w
  refine WP.seq ?_
  refine WP.region ?_
  refine RW.new ttok hS rfl rfl rfl rfl (fun g3 w4 e5 hS6 => ?_)
  refine RW.new ttok hS6 rfl rfl rfl rfl (fun g7 w8 e9 hS10 => ?_)
  refine RW.run ttok 1 rfl ?_
  refine RW.nil ?_
  refine WP.seq ?_
  refine WP.seq ?_
  refine WP.region ?_
  refine RW.run ttok 1 rfl ?_
  refine RW.load1 ttok rfl rfl rfl rfl rfl ((hS10.bring 1 rfl).box) 0 rfl rfl rfl rfl ?_
  refine RW.run ttok 1 rfl ?_
  refine RW.load1 ttok rfl rfl rfl rfl rfl ((hS10.bring 0 rfl).box) 0 rfl rfl rfl rfl ?_
  refine RW.run ttok 1 rfl ?_
  refine RW.nil ?_
  refine WP.cond (!(x0.Used == x1.Used)) rfl (fun hc => ?_) (fun hc => ?_)
  · skip
    rw [if_pos hc] at hm
    refine WP.seq ?_
    refine WP.region ?_
    refine RW.run ttok 1 rfl ?_
    refine RW.nil ?_
    refine WP.ret ?_
    cases hm
    exact ⟨_, .cons (.tmp rfl) .nil, rfl, (hS10.taken 0)⟩
  · skip
    rw [if_neg (not_t hc)] at hm
    refine WP.skip ?_
    refine WP.seq ?_
    refine WP.seq ?_
    refine WP.region ?_
    refine RW.run ttok 1 rfl ?_
    refine RW.load1 ttok rfl rfl rfl rfl rfl ((hS10.bring 1 rfl).box) 1 rfl rfl rfl rfl ?_
    refine RW.run ttok 1 rfl ?_
    refine RW.load1 ttok rfl rfl rfl rfl rfl ((hS10.bring 0 rfl).box) 1 rfl rfl rfl rfl ?_
    refine RW.run ttok 1 rfl ?_
    refine RW.nil ?_
    refine WP.cond (!(x0.Full == x1.Full)) rfl (fun hc => ?_) (fun hc => ?_)
    · skip
      rw [if_pos hc] at hm
      refine WP.seq ?_
      refine WP.region ?_
      refine RW.run ttok 1 rfl ?_
      refine RW.nil ?_
      refine WP.ret ?_
      cases hm
      exact ⟨_, .cons (.tmp rfl) .nil, rfl, (hS10.taken 0)⟩
    · skip
      rw [if_neg (not_t hc)] at hm
      refine WP.skip ?_
      refine WP.seq ?_
      refine WP.seq ?_
      refine WP.region ?_
      refine RW.run ttok 1 rfl ?_
      refine RW.loadN ttok rfl rfl rfl rfl rfl (At.sub ((hS10.bring 1 rfl).box) 2 3) rfl rfl rfl ?_
      refine RW.run ttok 1 rfl ?_
      refine RW.loadN ttok rfl rfl rfl rfl rfl (At.sub ((hS10.bring 0 rfl).box) 2 3) rfl rfl rfl ?_
      obtain ⟨r11, hx12, hm⟩ := bind_some hm
      refine RW.call rfl rfl rfl enters67 (laws_eqAddress_ok (ty44_shut x0.Held) (ty44_shut x1.Held) hx12) (fun v13 w14 hR15 => ?_)
      obtain ⟨rfl, hR16⟩ := hR15
      have hS17 := hS10.join hR16
      refine RW.run ttok 1 rfl ?_
      refine RW.nil ?_
      refine WP.cond (!r11) rfl (fun hc => ?_) (fun hc => ?_)
      · skip
        rw [if_pos hc] at hm
        refine WP.seq ?_
        refine WP.region ?_
        refine RW.run ttok 1 rfl ?_
        refine RW.nil ?_
        refine WP.ret ?_
        cases hm
        exact ⟨_, .cons (.tmp rfl) .nil, rfl, (hS17.taken 0)⟩
      · skip
        rw [if_neg (not_t hc)] at hm
        refine WP.skip ?_
        refine WP.seq ?_
        refine WP.region ?_
        refine RW.run ttok 1 rfl ?_
        refine RW.nil ?_
        refine WP.ret ?_
        cases hm
        exact ⟨_, .cons (.tmp rfl) .nil, rfl, (hS17.taken 0)⟩

theorem enters60 : Enters Try.prog 60 := ⟨_, _, Try.func60, rfl, by kernel_rfl⟩
def m_laws_eqShardVarS_j1 (fuel : Nat) (t2 : Unit) : Option Bool := some true
def m_laws_eqShardVarS_b1 (fuel : Nat) (x0 : (List D.ShardVar)) (x1 : (List D.ShardVar)) (s1 : Int) : Option (Rd (Int) (Unit) (Bool)) := (if (decide (s1 < (x0.length : Int))) = true then ((idx x0 s1).bind fun x19 => ((idx x1 s1).bind fun x26 => ((m_laws_eqShardVar fuel x19 x26).bind fun r33 => (if (!r33) = true then some (.ret false) else some (.next (w64 (s1 + 1))))))) else some (.brk ()))
def m_laws_eqShardVarS (fuel : Nat) (x0 : (List D.ShardVar)) (x1 : (List D.ShardVar)) : Option (Bool) := (if ((x0.length : Int) != (x1.length : Int)) = true then some false else ((iter (m_laws_eqShardVarS_b1 fuel x0 x1) fuel 0).bind fun o => aft o (m_laws_eqShardVarS_j1 fuel)))

set_option maxRecDepth 100000 in
theorem laws_eqShardVarS_ok {w : World} {A0_ : Option Addr} {k0_ : Nat} {x0 : (List D.ShardVar)} {A1_ : Option Addr} {k1_ : Nat} {x1 : (List D.ShardVar)} (h0_ : ty30.ro w [.slice A0_ x0.length k0_] x0) (h1_ : ty30.ro w [.slice A1_ x1.length k1_] x1) {fuel : Nat} {r : Bool} (hm : m_laws_eqShardVarS fuel x0 x1 = some r) :
    Calls Try.prog 60 ⟨[.slice A0_ x0.length k0_, .slice A1_ x1.length k1_]⟩ w (Ret fun v w8 => v = .bool r ∧ St w w8 []) := by
  refine Calls.into Try.func60 rfl 27 rfl rfl _ rfl ?_
  unfold m_laws_eqShardVarS at hm
  have hS := St.start w
  refine WP.seq ?_
  refine WP.region ?_
  refine RW.run ttok 1 rfl ?_
  refine RW.nil ?_
  refine WP.seq ?_
  refine WP.seq ?_
  refine WP.region ?_
  refine RW.run ttok 5 rfl ?_
  refine RW.nil ?_
  refine WP.cond ((x0.length : Int) != (x1.length : Int)) rfl (fun hc => ?_) (fun hc => ?_)
  · skip
    rw [if_pos hc] at hm
    refine WP.seq ?_
    refine WP.region ?_
    refine RW.run ttok 1 rfl ?_
    refine RW.nil ?_
    refine WP.ret ?_
    cases hm
    exact ⟨_, .cons (.tmp rfl) .nil, rfl, (hS.taken 0)⟩
  · skip
    rw [if_neg (not_t hc)] at hm
    refine WP.skip ?_
    refine WP.seq ?_
    refine WP.seq ?_
    refine WP.region ?_
    refine RW.run ttok 1 rfl ?_
    refine RW.nil ?_
    obtain ⟨o8, hl9, hm⟩ := bind_some hm
    refine WP.cut (fun (t2 : Unit) F w9 => o8 = .inl t2 ∧ Ext w w9 ∧ St w w9 [] ∧ F = []) ?_ ?_
    · skip
      rintro t2 F w7 ⟨ho11, hE6, hS10, rfl⟩
      subst ho11
      rw [aft_inl] at hm
      unfold m_laws_eqShardVarS_j1 at hm
      refine WP.seq ?_
      refine WP.region ?_
      refine RW.run ttok 1 rfl ?_
      refine RW.nil ?_
      refine WP.ret ?_
      cases hm
      exact ⟨_, .cons (.tmp rfl) .nil, rfl, (hS10.taken 0)⟩
    · skip
      refine WP.block ?_
      refine WP.weak [(0, .slice A0_ x0.length k0_), (1, .slice A1_ x1.length k1_), (5, .int .i64 0)] ⟨rfl, rfl, rfl, trivial⟩ ?_
      refine WP.iter (fun (s1 : Int) F w9 => Ext w w9 ∧ St w w9 [] ∧ F = [(0, .slice A0_ x0.length k0_), (1, .slice A1_ x1.length k1_), (5, .int .i64 s1)]) _ hl9 ⟨(Ext.refl _), (hS.taken 0), rfl⟩ ?_
      rintro s1 F w16 _ o14 ⟨hE5, hS15, rfl⟩ hb12 ho13
      unfold m_laws_eqShardVarS_b1 at hb12
      refine WP.seq ?_
      refine WP.seq ?_
      refine WP.region ?_
      refine RW.run ttok 4 rfl ?_
      refine RW.nil ?_
      refine WP.cond (decide (s1 < (x0.length : Int))) rfl (fun hc => ?_) (fun hc => ?_)
      · skip
        rw [if_pos hc] at hb12
        refine WP.skip ?_
        refine WP.seq ?_
        refine WP.block ?_
        refine WP.seq ?_
        refine WP.drawnM 0 mixed 10 (by kernel_rfl) (by kernel_rfl) [([], 1023), ([], 1023), ([0, 1], 1020), ([2], 1019), ([], 1023), ([], 1023), ([4, 5], 975), ([6], 959), ([3, 7], 887), ([8], 767)] (by kernel_rfl) (fun hsk17 => ?_)
        have hS18 := hS15.step (Ext.draw _)
        refine DM.run (fuel := 6) ttok hsk17 [0, 1, 4, 5] 51 (by kernel_rfl) (by kernel_rfl) rfl ?_
        obtain ⟨x19, hx20, hb12⟩ := bind_some hb12
        refine DM.idx ttok hS15.ext hsk17 2 55 (by kernel_rfl) (by kernel_rfl) (by kernel_rfl) (by kernel_rfl) rfl (by kernel_rfl) rfl rfl rfl rfl rfl rfl (by decide) rfl rfl h0_ (idx_some hx20).1 (idx_some hx20).2 rfl rfl (fun p21 es22 ha23 hr24 => ?_)
        have e25 := ty125_open hr24; subst e25
        refine DM.loadN ttok hsk17 3 63 (by kernel_rfl) (by kernel_rfl) (by kernel_rfl) (by kernel_rfl) rfl (by kernel_rfl) rfl rfl rfl rfl rfl (At.ext hS15.ext ha23) rfl rfl rfl ?_
        obtain ⟨x26, hx27, hb12⟩ := bind_some hb12
        refine DM.idx ttok hS15.ext hsk17 6 127 (by kernel_rfl) (by kernel_rfl) (by kernel_rfl) (by kernel_rfl) rfl (by kernel_rfl) rfl rfl rfl rfl rfl rfl (by decide) rfl rfl h1_ (idx_some hx27).1 (idx_some hx27).2 rfl rfl (fun p28 es29 ha30 hr31 => ?_)
        have e32 := ty125_open hr31; subst e32
        refine DM.loadN ttok hsk17 7 255 (by kernel_rfl) (by kernel_rfl) (by kernel_rfl) (by kernel_rfl) rfl (by kernel_rfl) rfl rfl rfl rfl rfl (At.ext hS15.ext ha30) rfl rfl rfl ?_
        obtain ⟨r33, hx34, hb12⟩ := bind_some hb12
        refine DM.one hsk17 8 (by kernel_rfl) (LM.call hsk17 511 (by kernel_rfl) (by kernel_rfl) rfl rfl rfl rfl enters131 (laws_eqShardVar_ok (ty125.ext hS18.ext hr24) (ty125.ext hS18.ext hr31) hx34) (fun v35 w36 hR37 => ?_))
        obtain ⟨rfl, hR38⟩ := hR37
        refine ⟨hR38.ext, ?_⟩
        have hS39 := hS18.join hR38
        refine DM.run (fuel := 0) ttok hsk17 [9] 1023 (by kernel_rfl) (by kernel_rfl) rfl ?_
        refine DM.weak [(0, .slice A0_ x0.length k0_), (1, .slice A1_ x1.length k1_), (5, .int .i64 s1), (26, .bool (!r33))] ⟨rfl, rfl, rfl, rfl, trivial⟩ ?_
        refine DM.done hsk17 (by kernel_rfl) ?_
        refine WP.cond (!r33) rfl (fun hc => ?_) (fun hc => ?_)
        · skip
          rw [if_pos hc] at hb12
          refine WP.seq ?_
          refine WP.region ?_
          refine RW.run ttok 1 rfl ?_
          refine RW.nil ?_
          refine WP.ret ?_
          cases hb12
          cases ho13
          have hm : some _ = some _ := hm
          cases hm
          exact ⟨_, .cons (.tmp rfl) .nil, rfl, (hS39.taken 0)⟩
        · skip
          rw [if_neg (not_t hc)] at hb12
          refine WP.skip ?_
          refine WP.region ?_
          refine RW.run ttok 3 rfl ?_
          refine RW.nil ?_
          cases hb12
          exact ⟨_, [(0, .slice A0_ x0.length k0_), (1, .slice A1_ x1.length k1_), (5, .int .i64 (w64 (s1 + 1)))], ⟨rfl, rfl, rfl, trivial⟩, rfl, ((hE5.trans (Ext.draw _)).trans hR38.ext), (hS39.taken 0), rfl⟩
      · skip
        rw [if_neg (not_t hc)] at hb12
        refine WP.exit ?_
        cases hb12
        exact ⟨_, [], trivial, ho13, hE5, (hS15.taken 0), rfl⟩

theorem enters132 : Enters Try.prog 132 := ⟨_, _, Try.func132, rfl, by kernel_rfl⟩
def m_laws_eqShardRedex (fuel : Nat) (x0 : D.ShardRedex) (x1 : D.ShardRedex) : Option (Bool) := ((m_laws_eqAddress fuel x0.A x1.A).bind fun r11 => (if (!r11) = true then some false else ((m_laws_eqAddress fuel x0.B x1.B).bind fun r18 => (if (!r18) = true then some false else some true))))

set_option maxRecDepth 100000 in
theorem laws_eqShardRedex_ok {w : World} {c0_ : List Value} {x0 : D.ShardRedex} {c1_ : List Value} {x1 : D.ShardRedex} (h0_ : ty127.ro w c0_ x0) (h1_ : ty127.ro w c1_ x1) {fuel : Nat} {r : Bool} (hm : m_laws_eqShardRedex fuel x0 x1 = some r) :
    Calls Try.prog 132 ⟨[.agg ⟨c0_⟩, .agg ⟨c1_⟩]⟩ w (Ret fun v w8 => v = .bool r ∧ St w w8 []) := by
  have e1 := ty127_open h0_; subst e1
  have e2 := ty127_open h1_; subst e2
  refine Calls.into Try.func132 rfl 17 rfl rfl _ rfl ?_
  unfold m_laws_eqShardRedex at hm
  have hS := St.start w
  refine WP.seq ?_
  refine WP.region ?_
  refine RW.new ttok hS rfl rfl rfl rfl (fun g3 w4 e5 hS6 => ?_)
  refine RW.new ttok hS6 rfl rfl rfl rfl (fun g7 w8 e9 hS10 => ?_)
  refine RW.run ttok 1 rfl ?_
  refine RW.nil ?_
  refine WP.seq ?_
  refine WP.seq ?_
  refine WP.region ?_
  refine RW.run ttok 1 rfl ?_
  refine RW.loadN ttok rfl rfl rfl rfl rfl (At.sub ((hS10.bring 1 rfl).box) 0 3) rfl rfl rfl ?_
  refine RW.run ttok 1 rfl ?_
  refine RW.loadN ttok rfl rfl rfl rfl rfl (At.sub ((hS10.bring 0 rfl).box) 0 3) rfl rfl rfl ?_
  obtain ⟨r11, hx12, hm⟩ := bind_some hm
  refine RW.call rfl rfl rfl enters67 (laws_eqAddress_ok (ty44_shut x0.A) (ty44_shut x1.A) hx12) (fun v13 w14 hR15 => ?_)
  obtain ⟨rfl, hR16⟩ := hR15
  have hS17 := hS10.join hR16
  refine RW.run ttok 1 rfl ?_
  refine RW.nil ?_
  refine WP.cond (!r11) rfl (fun hc => ?_) (fun hc => ?_)
  · skip
    rw [if_pos hc] at hm
    refine WP.seq ?_
    refine WP.region ?_
    refine RW.run ttok 1 rfl ?_
    refine RW.nil ?_
    refine WP.ret ?_
    cases hm
    exact ⟨_, .cons (.tmp rfl) .nil, rfl, (hS17.taken 0)⟩
  · skip
    rw [if_neg (not_t hc)] at hm
    refine WP.skip ?_
    refine WP.seq ?_
    refine WP.seq ?_
    refine WP.region ?_
    refine RW.run ttok 1 rfl ?_
    refine RW.loadN ttok rfl rfl rfl rfl rfl (At.sub ((hS17.bring 1 rfl).box) 3 3) rfl rfl rfl ?_
    refine RW.run ttok 1 rfl ?_
    refine RW.loadN ttok rfl rfl rfl rfl rfl (At.sub ((hS17.bring 0 rfl).box) 3 3) rfl rfl rfl ?_
    obtain ⟨r18, hx19, hm⟩ := bind_some hm
    refine RW.call rfl rfl rfl enters67 (laws_eqAddress_ok (ty44_shut x0.B) (ty44_shut x1.B) hx19) (fun v20 w21 hR22 => ?_)
    obtain ⟨rfl, hR23⟩ := hR22
    have hS24 := hS17.join hR23
    refine RW.run ttok 1 rfl ?_
    refine RW.nil ?_
    refine WP.cond (!r18) rfl (fun hc => ?_) (fun hc => ?_)
    · skip
      rw [if_pos hc] at hm
      refine WP.seq ?_
      refine WP.region ?_
      refine RW.run ttok 1 rfl ?_
      refine RW.nil ?_
      refine WP.ret ?_
      cases hm
      exact ⟨_, .cons (.tmp rfl) .nil, rfl, (hS24.taken 0)⟩
    · skip
      rw [if_neg (not_t hc)] at hm
      refine WP.skip ?_
      refine WP.seq ?_
      refine WP.region ?_
      refine RW.run ttok 1 rfl ?_
      refine RW.nil ?_
      refine WP.ret ?_
      cases hm
      exact ⟨_, .cons (.tmp rfl) .nil, rfl, (hS24.taken 0)⟩

theorem enters61 : Enters Try.prog 61 := ⟨_, _, Try.func61, rfl, by kernel_rfl⟩
def m_laws_eqShardRedexS_j1 (fuel : Nat) (t2 : Unit) : Option Bool := some true
def m_laws_eqShardRedexS_b1 (fuel : Nat) (x0 : (List D.ShardRedex)) (x1 : (List D.ShardRedex)) (s1 : Int) : Option (Rd (Int) (Unit) (Bool)) := (if (decide (s1 < (x0.length : Int))) = true then ((idx x0 s1).bind fun x19 => ((idx x1 s1).bind fun x26 => ((m_laws_eqShardRedex fuel x19 x26).bind fun r33 => (if (!r33) = true then some (.ret false) else some (.next (w64 (s1 + 1))))))) else some (.brk ()))
def m_laws_eqShardRedexS (fuel : Nat) (x0 : (List D.ShardRedex)) (x1 : (List D.ShardRedex)) : Option (Bool) := (if ((x0.length : Int) != (x1.length : Int)) = true then some false else ((iter (m_laws_eqShardRedexS_b1 fuel x0 x1) fuel 0).bind fun o => aft o (m_laws_eqShardRedexS_j1 fuel)))

set_option maxRecDepth 100000 in
theorem laws_eqShardRedexS_ok {w : World} {A0_ : Option Addr} {k0_ : Nat} {x0 : (List D.ShardRedex)} {A1_ : Option Addr} {k1_ : Nat} {x1 : (List D.ShardRedex)} (h0_ : ty31.ro w [.slice A0_ x0.length k0_] x0) (h1_ : ty31.ro w [.slice A1_ x1.length k1_] x1) {fuel : Nat} {r : Bool} (hm : m_laws_eqShardRedexS fuel x0 x1 = some r) :
    Calls Try.prog 61 ⟨[.slice A0_ x0.length k0_, .slice A1_ x1.length k1_]⟩ w (Ret fun v w8 => v = .bool r ∧ St w w8 []) := by
  refine Calls.into Try.func61 rfl 27 rfl rfl _ rfl ?_
  unfold m_laws_eqShardRedexS at hm
  have hS := St.start w
  refine WP.seq ?_
  refine WP.region ?_
  refine RW.run ttok 1 rfl ?_
  refine RW.nil ?_
  refine WP.seq ?_
  refine WP.seq ?_
  refine WP.region ?_
  refine RW.run ttok 5 rfl ?_
  refine RW.nil ?_
  refine WP.cond ((x0.length : Int) != (x1.length : Int)) rfl (fun hc => ?_) (fun hc => ?_)
  · skip
    rw [if_pos hc] at hm
    refine WP.seq ?_
    refine WP.region ?_
    refine RW.run ttok 1 rfl ?_
    refine RW.nil ?_
    refine WP.ret ?_
    cases hm
    exact ⟨_, .cons (.tmp rfl) .nil, rfl, (hS.taken 0)⟩
  · skip
    rw [if_neg (not_t hc)] at hm
    refine WP.skip ?_
    refine WP.seq ?_
    refine WP.seq ?_
    refine WP.region ?_
    refine RW.run ttok 1 rfl ?_
    refine RW.nil ?_
    obtain ⟨o8, hl9, hm⟩ := bind_some hm
    refine WP.cut (fun (t2 : Unit) F w9 => o8 = .inl t2 ∧ Ext w w9 ∧ St w w9 [] ∧ F = []) ?_ ?_
    · skip
      rintro t2 F w7 ⟨ho11, hE6, hS10, rfl⟩
      subst ho11
      rw [aft_inl] at hm
      unfold m_laws_eqShardRedexS_j1 at hm
      refine WP.seq ?_
      refine WP.region ?_
      refine RW.run ttok 1 rfl ?_
      refine RW.nil ?_
      refine WP.ret ?_
      cases hm
      exact ⟨_, .cons (.tmp rfl) .nil, rfl, (hS10.taken 0)⟩
    · skip
      refine WP.block ?_
      refine WP.weak [(0, .slice A0_ x0.length k0_), (1, .slice A1_ x1.length k1_), (5, .int .i64 0)] ⟨rfl, rfl, rfl, trivial⟩ ?_
      refine WP.iter (fun (s1 : Int) F w9 => Ext w w9 ∧ St w w9 [] ∧ F = [(0, .slice A0_ x0.length k0_), (1, .slice A1_ x1.length k1_), (5, .int .i64 s1)]) _ hl9 ⟨(Ext.refl _), (hS.taken 0), rfl⟩ ?_
      rintro s1 F w16 _ o14 ⟨hE5, hS15, rfl⟩ hb12 ho13
      unfold m_laws_eqShardRedexS_b1 at hb12
      refine WP.seq ?_
      refine WP.seq ?_
      refine WP.region ?_
      refine RW.run ttok 4 rfl ?_
      refine RW.nil ?_
      refine WP.cond (decide (s1 < (x0.length : Int))) rfl (fun hc => ?_) (fun hc => ?_)
      · skip
        rw [if_pos hc] at hb12
        refine WP.skip ?_
        refine WP.seq ?_
        refine WP.block ?_
        refine WP.seq ?_
        refine WP.drawnM 0 mixed 10 (by kernel_rfl) (by kernel_rfl) [([], 1023), ([], 1023), ([0, 1], 1020), ([2], 1019), ([], 1023), ([], 1023), ([4, 5], 975), ([6], 959), ([3, 7], 887), ([8], 767)] (by kernel_rfl) (fun hsk17 => ?_)
        have hS18 := hS15.step (Ext.draw _)
        refine DM.run (fuel := 6) ttok hsk17 [0, 1, 4, 5] 51 (by kernel_rfl) (by kernel_rfl) rfl ?_
        obtain ⟨x19, hx20, hb12⟩ := bind_some hb12
        refine DM.idx ttok hS15.ext hsk17 2 55 (by kernel_rfl) (by kernel_rfl) (by kernel_rfl) (by kernel_rfl) rfl (by kernel_rfl) rfl rfl rfl rfl rfl rfl (by decide) rfl rfl h0_ (idx_some hx20).1 (idx_some hx20).2 rfl rfl (fun p21 es22 ha23 hr24 => ?_)
        have e25 := ty127_open hr24; subst e25
        refine DM.loadN ttok hsk17 3 63 (by kernel_rfl) (by kernel_rfl) (by kernel_rfl) (by kernel_rfl) rfl (by kernel_rfl) rfl rfl rfl rfl rfl (At.ext hS15.ext ha23) rfl rfl rfl ?_
        obtain ⟨x26, hx27, hb12⟩ := bind_some hb12
        refine DM.idx ttok hS15.ext hsk17 6 127 (by kernel_rfl) (by kernel_rfl) (by kernel_rfl) (by kernel_rfl) rfl (by kernel_rfl) rfl rfl rfl rfl rfl rfl (by decide) rfl rfl h1_ (idx_some hx27).1 (idx_some hx27).2 rfl rfl (fun p28 es29 ha30 hr31 => ?_)
        have e32 := ty127_open hr31; subst e32
        refine DM.loadN ttok hsk17 7 255 (by kernel_rfl) (by kernel_rfl) (by kernel_rfl) (by kernel_rfl) rfl (by kernel_rfl) rfl rfl rfl rfl rfl (At.ext hS15.ext ha30) rfl rfl rfl ?_
        obtain ⟨r33, hx34, hb12⟩ := bind_some hb12
        refine DM.one hsk17 8 (by kernel_rfl) (LM.call hsk17 511 (by kernel_rfl) (by kernel_rfl) rfl rfl rfl rfl enters132 (laws_eqShardRedex_ok (ty127.ext hS18.ext hr24) (ty127.ext hS18.ext hr31) hx34) (fun v35 w36 hR37 => ?_))
        obtain ⟨rfl, hR38⟩ := hR37
        refine ⟨hR38.ext, ?_⟩
        have hS39 := hS18.join hR38
        refine DM.run (fuel := 0) ttok hsk17 [9] 1023 (by kernel_rfl) (by kernel_rfl) rfl ?_
        refine DM.weak [(0, .slice A0_ x0.length k0_), (1, .slice A1_ x1.length k1_), (5, .int .i64 s1), (26, .bool (!r33))] ⟨rfl, rfl, rfl, rfl, trivial⟩ ?_
        refine DM.done hsk17 (by kernel_rfl) ?_
        refine WP.cond (!r33) rfl (fun hc => ?_) (fun hc => ?_)
        · skip
          rw [if_pos hc] at hb12
          refine WP.seq ?_
          refine WP.region ?_
          refine RW.run ttok 1 rfl ?_
          refine RW.nil ?_
          refine WP.ret ?_
          cases hb12
          cases ho13
          have hm : some _ = some _ := hm
          cases hm
          exact ⟨_, .cons (.tmp rfl) .nil, rfl, (hS39.taken 0)⟩
        · skip
          rw [if_neg (not_t hc)] at hb12
          refine WP.skip ?_
          refine WP.region ?_
          refine RW.run ttok 3 rfl ?_
          refine RW.nil ?_
          cases hb12
          exact ⟨_, [(0, .slice A0_ x0.length k0_), (1, .slice A1_ x1.length k1_), (5, .int .i64 (w64 (s1 + 1)))], ⟨rfl, rfl, rfl, trivial⟩, rfl, ((hE5.trans (Ext.draw _)).trans hR38.ext), (hS39.taken 0), rfl⟩
      · skip
        rw [if_neg (not_t hc)] at hb12
        refine WP.exit ?_
        cases hb12
        exact ⟨_, [], trivial, ho13, hE5, (hS15.taken 0), rfl⟩

theorem enters15 : Enters Try.prog 15 := ⟨_, _, Try.func15, rfl, by kernel_rfl⟩
def m_laws_eqShard (fuel : Nat) (x0 : D.Shard) (x1 : D.Shard) : Option (Bool) := ((m_laws_eqShardCellS fuel x0.Cells x1.Cells).bind fun r29 => (if (!r29) = true then some false else ((m_laws_eqShardVarS fuel x0.Vars x1.Vars).bind fun r36 => (if (!r36) = true then some false else ((m_laws_eqShardRedexS fuel x0.Redexes x1.Redexes).bind fun r43 => (if (!r43) = true then some false else some true))))))

set_option maxRecDepth 100000 in
theorem laws_eqShard_ok {w : World} {c0_ : List Value} {x0 : D.Shard} {c1_ : List Value} {x1 : D.Shard} (h0_ : ty33.ro w c0_ x0) (h1_ : ty33.ro w c1_ x1) {fuel : Nat} {r : Bool} (hm : m_laws_eqShard fuel x0 x1 = some r) :
    Calls Try.prog 15 ⟨[.agg ⟨c0_⟩, .agg ⟨c1_⟩]⟩ w (Ret fun v w8 => v = .bool r ∧ St w w8 []) := by
  obtain ⟨A1, k2, A4, k5, A7, k8, e10, h3, h6, h9⟩ := ty33_open h0_; subst e10
  obtain ⟨A11, k12, A14, k15, A17, k18, e20, h13, h16, h19⟩ := ty33_open h1_; subst e20
  refine Calls.into Try.func15 rfl 23 rfl rfl _ rfl ?_
  unfold m_laws_eqShard at hm
  have hS := St.start w
  refine WP.seq ?_
  refine WP.region ?_
  refine RW.new ttok hS rfl rfl rfl rfl (fun g21 w22 e23 hS24 => ?_)
  refine RW.new ttok hS24 rfl rfl rfl rfl (fun g25 w26 e27 hS28 => ?_)
  refine RW.run ttok 1 rfl ?_
  refine RW.nil ?_
  refine WP.seq ?_
  refine WP.seq ?_
  refine WP.region ?_
  refine RW.run ttok 1 rfl ?_
  refine RW.load1 ttok rfl rfl rfl rfl rfl ((hS28.bring 1 rfl).box) 0 rfl rfl rfl rfl ?_
  refine RW.run ttok 1 rfl ?_
  refine RW.load1 ttok rfl rfl rfl rfl rfl ((hS28.bring 0 rfl).box) 0 rfl rfl rfl rfl ?_
  obtain ⟨r29, hx30, hm⟩ := bind_some hm
  refine RW.call rfl rfl rfl enters59 (laws_eqShardCellS_ok (ty29.ext hS28.ext h3) (ty29.ext hS28.ext h13) hx30) (fun v31 w32 hR33 => ?_)
  obtain ⟨rfl, hR34⟩ := hR33
  have hS35 := hS28.join hR34
  refine RW.run ttok 1 rfl ?_
  refine RW.nil ?_
  refine WP.cond (!r29) rfl (fun hc => ?_) (fun hc => ?_)
  · skip
    rw [if_pos hc] at hm
    refine WP.seq ?_
    refine WP.region ?_
    refine RW.run ttok 1 rfl ?_
    refine RW.nil ?_
    refine WP.ret ?_
    cases hm
    exact ⟨_, .cons (.tmp rfl) .nil, rfl, (hS35.taken 0)⟩
  · skip
    rw [if_neg (not_t hc)] at hm
    refine WP.skip ?_
    refine WP.seq ?_
    refine WP.seq ?_
    refine WP.region ?_
    refine RW.run ttok 1 rfl ?_
    refine RW.load1 ttok rfl rfl rfl rfl rfl ((hS35.bring 1 rfl).box) 1 rfl rfl rfl rfl ?_
    refine RW.run ttok 1 rfl ?_
    refine RW.load1 ttok rfl rfl rfl rfl rfl ((hS35.bring 0 rfl).box) 1 rfl rfl rfl rfl ?_
    obtain ⟨r36, hx37, hm⟩ := bind_some hm
    refine RW.call rfl rfl rfl enters60 (laws_eqShardVarS_ok (ty30.ext hS35.ext h6) (ty30.ext hS35.ext h16) hx37) (fun v38 w39 hR40 => ?_)
    obtain ⟨rfl, hR41⟩ := hR40
    have hS42 := hS35.join hR41
    refine RW.run ttok 1 rfl ?_
    refine RW.nil ?_
    refine WP.cond (!r36) rfl (fun hc => ?_) (fun hc => ?_)
    · skip
      rw [if_pos hc] at hm
      refine WP.seq ?_
      refine WP.region ?_
      refine RW.run ttok 1 rfl ?_
      refine RW.nil ?_
      refine WP.ret ?_
      cases hm
      exact ⟨_, .cons (.tmp rfl) .nil, rfl, (hS42.taken 0)⟩
    · skip
      rw [if_neg (not_t hc)] at hm
      refine WP.skip ?_
      refine WP.seq ?_
      refine WP.seq ?_
      refine WP.region ?_
      refine RW.run ttok 1 rfl ?_
      refine RW.load1 ttok rfl rfl rfl rfl rfl ((hS42.bring 1 rfl).box) 2 rfl rfl rfl rfl ?_
      refine RW.run ttok 1 rfl ?_
      refine RW.load1 ttok rfl rfl rfl rfl rfl ((hS42.bring 0 rfl).box) 2 rfl rfl rfl rfl ?_
      obtain ⟨r43, hx44, hm⟩ := bind_some hm
      refine RW.call rfl rfl rfl enters61 (laws_eqShardRedexS_ok (ty31.ext hS42.ext h9) (ty31.ext hS42.ext h19) hx44) (fun v45 w46 hR47 => ?_)
      obtain ⟨rfl, hR48⟩ := hR47
      have hS49 := hS42.join hR48
      refine RW.run ttok 1 rfl ?_
      refine RW.nil ?_
      refine WP.cond (!r43) rfl (fun hc => ?_) (fun hc => ?_)
      · skip
        rw [if_pos hc] at hm
        refine WP.seq ?_
        refine WP.region ?_
        refine RW.run ttok 1 rfl ?_
        refine RW.nil ?_
        refine WP.ret ?_
        cases hm
        exact ⟨_, .cons (.tmp rfl) .nil, rfl, (hS49.taken 0)⟩
      · skip
        rw [if_neg (not_t hc)] at hm
        refine WP.skip ?_
        refine WP.seq ?_
        refine WP.region ?_
        refine RW.run ttok 1 rfl ?_
        refine RW.nil ?_
        refine WP.ret ?_
        cases hm
        exact ⟨_, .cons (.tmp rfl) .nil, rfl, (hS49.taken 0)⟩

theorem enters3 : Enters Try.prog 3 := ⟨_, _, Try.func3, rfl, by kernel_rfl⟩
def m_laws_FnExactSameShard (fuel : Nat) (x0 : D.Shard) (x1 : D.Shard) : Option (Bool) := ((m_laws_szShard fuel x0 1048576).bind fun r29 => (if (decide (r29 < 0)) = true then some true else ((m_laws_szShard fuel x1 r29).bind fun r36 => (if (decide (r36 < 0)) = true then some true else ((m_laws_toShard fuel x0).bind fun r45 => ((m_laws_toShard fuel x1).bind fun r58 => ((m_spec_SameShard fuel r45 r58).bind fun r71 => ((m_laws_toShard fuel x0).bind fun r78 => ((m_laws_toShard fuel x1).bind fun r98 => ((m_impl_SameShard fuel r78 r98).bind fun r118 => (if (!(r118 == r71)) = true then some false else ((m_laws_toShard fuel x0).bind fun r127 => ((m_laws_eqShard fuel r78 r127).bind fun r140 => (if (!r140) = true then some false else ((m_laws_toShard fuel x1).bind fun r149 => ((m_laws_eqShard fuel r98 r149).bind fun r162 => (if (!r162) = true then some false else some true)))))))))))))))))

set_option maxRecDepth 100000 in
theorem laws_FnExactSameShard_ok {w : World} {c0_ : List Value} {x0 : D.Shard} {c1_ : List Value} {x1 : D.Shard} (h0_ : ty26.ro w c0_ x0) (h1_ : ty26.ro w c1_ x1) {fuel : Nat} {r : Bool} (hm : m_laws_FnExactSameShard fuel x0 x1 = some r) :
    Calls Try.prog 3 ⟨[.agg ⟨c0_⟩, .agg ⟨c1_⟩]⟩ w (Ret fun v w8 => v = .bool r ∧ St w w8 []) := by
  obtain ⟨A1, k2, A4, k5, A7, k8, e10, h3, h6, h9⟩ := ty26_open h0_; subst e10
  obtain ⟨A11, k12, A14, k15, A17, k18, e20, h13, h16, h19⟩ := ty26_open h1_; subst e20
  refine Calls.into Try.func3 rfl 45 rfl rfl _ rfl ?_
  unfold m_laws_FnExactSameShard at hm
  have hS := St.start w
  refine WP.seq ?_
  refine WP.region ?_
  refine RW.new ttok hS rfl rfl rfl rfl (fun g21 w22 e23 hS24 => ?_)
  refine RW.new ttok hS24 rfl rfl rfl rfl (fun g25 w26 e27 hS28 => ?_)
  refine RW.run ttok 1 rfl ?_
  refine RW.nil ?_
  refine WP.seq ?_
  refine WP.region ?_
  refine RW.run ttok 1 rfl ?_
  refine RW.nil ?_
  refine WP.seq ?_
  refine WP.region ?_
  refine RW.loadN ttok rfl rfl rfl rfl rfl ((hS28.bring 1 rfl).box) rfl rfl rfl ?_
  refine RW.run ttok 1 rfl ?_
  obtain ⟨r29, hx30, hm⟩ := bind_some hm
  refine RW.call rfl rfl rfl enters11 (laws_szShard_ok (ty26.ext hS28.ext h0_) hx30) (fun v31 w32 hR33 => ?_)
  obtain ⟨rfl, hR34⟩ := hR33
  have hS35 := hS28.join hR34
  refine RW.run ttok 1 rfl ?_
  refine RW.nil ?_
  refine WP.seq ?_
  refine WP.seq ?_
  refine WP.region ?_
  refine RW.run ttok 2 rfl ?_
  refine RW.nil ?_
  refine WP.cond (decide (r29 < 0)) rfl (fun hc => ?_) (fun hc => ?_)
  · skip
    rw [if_pos hc] at hm
    refine WP.seq ?_
    refine WP.region ?_
    refine RW.run ttok 1 rfl ?_
    refine RW.nil ?_
    refine WP.ret ?_
    cases hm
    exact ⟨_, .cons (.tmp rfl) .nil, rfl, (hS35.taken 0)⟩
  · skip
    rw [if_neg (not_t hc)] at hm
    refine WP.skip ?_
    refine WP.seq ?_
    refine WP.region ?_
    refine RW.loadN ttok rfl rfl rfl rfl rfl ((hS35.bring 0 rfl).box) rfl rfl rfl ?_
    refine RW.run ttok 1 rfl ?_
    obtain ⟨r36, hx37, hm⟩ := bind_some hm
    refine RW.call rfl rfl rfl enters11 (laws_szShard_ok (ty26.ext hS35.ext h1_) hx37) (fun v38 w39 hR40 => ?_)
    obtain ⟨rfl, hR41⟩ := hR40
    have hS42 := hS35.join hR41
    refine RW.run ttok 1 rfl ?_
    refine RW.nil ?_
    refine WP.seq ?_
    refine WP.seq ?_
    refine WP.region ?_
    refine RW.run ttok 2 rfl ?_
    refine RW.nil ?_
    refine WP.cond (decide (r36 < 0)) rfl (fun hc => ?_) (fun hc => ?_)
    · skip
      rw [if_pos hc] at hm
      refine WP.seq ?_
      refine WP.region ?_
      refine RW.run ttok 1 rfl ?_
      refine RW.nil ?_
      refine WP.ret ?_
      cases hm
      exact ⟨_, .cons (.tmp rfl) .nil, rfl, (hS42.taken 0)⟩
    · skip
      rw [if_neg (not_t hc)] at hm
      refine WP.skip ?_
      refine WP.seq ?_
      refine WP.drawnM 0 mixed 6 (by kernel_rfl) (by kernel_rfl) [([], 63), ([0], 62), ([], 63), ([2, 1], 59), ([1, 3, 3], 53), ([4, 4, 0, 1, 2, 3, 4], 47)] (by kernel_rfl) (fun hsk43 => ?_)
      have hS44 := hS42.step (Ext.draw _)
      refine DM.loadN ttok hsk43 0 1 (by kernel_rfl) (by kernel_rfl) (by kernel_rfl) (by kernel_rfl) rfl (by kernel_rfl) rfl rfl rfl rfl rfl ((hS42.bring 1 rfl).box) rfl rfl rfl ?_
      refine DM.loadN ttok hsk43 2 5 (by kernel_rfl) (by kernel_rfl) (by kernel_rfl) (by kernel_rfl) rfl (by kernel_rfl) rfl rfl rfl rfl rfl ((hS42.bring 0 rfl).box) rfl rfl rfl ?_
      obtain ⟨r45, hx46, hm⟩ := bind_some hm
      refine DM.one hsk43 1 (by kernel_rfl) (LM.call hsk43 7 (by kernel_rfl) (by kernel_rfl) rfl rfl rfl rfl enters13 (laws_toShard_ok (ty26.ext hS44.ext h0_) hx46) (fun v47 w48 hR49 => ?_))
      obtain ⟨A50, k51, A52, k53, A54, k55, rfl, hR56⟩ := hR49
      refine ⟨hR56.ext, ?_⟩
      have hS57 := hS44.join hR56
      obtain ⟨r58, hx59, hm⟩ := bind_some hm
      refine DM.one hsk43 3 (by kernel_rfl) (LM.call hsk43 15 (by kernel_rfl) (by kernel_rfl) rfl rfl rfl rfl enters13 (laws_toShard_ok (ty26.ext hS57.ext h1_) hx59) (fun v60 w61 hR62 => ?_))
      obtain ⟨A63, k64, A65, k66, A67, k68, rfl, hR69⟩ := hR62
      refine ⟨hR69.ext, ?_⟩
      have hS70 := hS57.join hR69
      obtain ⟨r71, hx72, hm⟩ := bind_some hm
      refine DM.one hsk43 4 (by kernel_rfl) (LM.call hsk43 31 (by kernel_rfl) (by kernel_rfl) rfl rfl rfl rfl enters12 (spec_SameShard_ok (ty33_shut r45 ((hS70.bring 3 rfl).own) ((hS70.bring 4 rfl).own) ((hS70.bring 5 rfl).own)) (ty33_shut r58 ((hS70.bring 0 rfl).own) ((hS70.bring 1 rfl).own) ((hS70.bring 2 rfl).own)) hx72) (fun v73 w74 hR75 => ?_))
      obtain ⟨rfl, hR76⟩ := hR75
      refine ⟨hR76.ext, ?_⟩
      have hS77 := hS70.join hR76
      refine DM.run (fuel := 0) ttok hsk43 [5] 63 (by kernel_rfl) (by kernel_rfl) rfl ?_
      refine DM.weak [(2, .pointer (some ⟨g21, 0, none⟩)), (3, .pointer (some ⟨g25, 0, none⟩)), (6, .bool r71)] ⟨rfl, rfl, rfl, trivial⟩ ?_
      refine DM.done hsk43 (by kernel_rfl) ?_
      refine WP.seq ?_
      refine WP.region ?_
      refine RW.loadN ttok rfl rfl rfl rfl rfl ((hS77.bring 7 rfl).box) rfl rfl rfl ?_
      obtain ⟨r78, hx79, hm⟩ := bind_some hm
      refine RW.call rfl rfl rfl enters13 (laws_toShard_ok (ty26.ext hS77.ext h0_) hx79) (fun v80 w81 hR82 => ?_)
      obtain ⟨A83, k84, A85, k86, A87, k88, rfl, hR89⟩ := hR82
      have hS90 := hS77.join hR89
      refine RW.new ttok hS90 rfl rfl rfl rfl (fun g91 w92 e93 hS94 => ?_)
      have hS95 := hS94.bring 0 rfl
      refine RW.store ttok (A := []) hS95 rfl rfl rfl rfl rfl 0 rfl rfl rfl rfl rfl (fun w96 hS97 => ?_)
      refine RW.nil ?_
      refine WP.seq ?_
      refine WP.region ?_
      refine RW.loadN ttok rfl rfl rfl rfl rfl ((hS97.bring 10 rfl).box) rfl rfl rfl ?_
      obtain ⟨r98, hx99, hm⟩ := bind_some hm
      refine RW.call rfl rfl rfl enters13 (laws_toShard_ok (ty26.ext hS97.ext h1_) hx99) (fun v100 w101 hR102 => ?_)
      obtain ⟨A103, k104, A105, k106, A107, k108, rfl, hR109⟩ := hR102
      have hS110 := hS97.join hR109
      refine RW.new ttok hS110 rfl rfl rfl rfl (fun g111 w112 e113 hS114 => ?_)
      have hS115 := hS114.bring 0 rfl
      refine RW.store ttok (A := []) hS115 rfl rfl rfl rfl rfl 0 rfl rfl rfl rfl rfl (fun w116 hS117 => ?_)
      refine RW.nil ?_
      refine WP.seq ?_
      refine WP.region ?_
      refine RW.loadN ttok rfl rfl rfl rfl rfl ((hS117.bring 4 rfl).box) rfl rfl rfl ?_
      refine RW.loadN ttok rfl rfl rfl rfl rfl ((hS117.bring 0 rfl).box) rfl rfl rfl ?_
      obtain ⟨r118, hx119, hm⟩ := bind_some hm
      refine RW.call rfl rfl rfl enters14 (impl_SameShard_ok (ty33_shut r78 ((hS117.bring 5 rfl).own) ((hS117.bring 6 rfl).own) ((hS117.bring 7 rfl).own)) (ty33_shut r98 ((hS117.bring 1 rfl).own) ((hS117.bring 2 rfl).own) ((hS117.bring 3 rfl).own)) hx119) (fun v120 w121 hR122 => ?_)
      obtain ⟨rfl, hR123⟩ := hR122
      have hS124 := hS117.join hR123
      refine RW.run ttok 1 rfl ?_
      refine RW.nil ?_
      refine WP.seq ?_
      refine WP.seq ?_
      refine WP.region ?_
      refine RW.run ttok 3 rfl ?_
      refine RW.nil ?_
      refine WP.cond (!(r118 == r71)) rfl (fun hc => ?_) (fun hc => ?_)
      · skip
        rw [if_pos hc] at hm
        refine WP.seq ?_
        refine WP.region ?_
        refine RW.run ttok 1 rfl ?_
        refine RW.nil ?_
        refine WP.ret ?_
        cases hm
        exact ⟨_, .cons (.tmp rfl) .nil, rfl, (hS124.taken 0)⟩
      · skip
        rw [if_neg (not_t hc)] at hm
        refine WP.skip ?_
        refine WP.seq ?_
        refine WP.seq ?_
        refine WP.drawnM 0 mixed 5 (by kernel_rfl) (by kernel_rfl) [([], 31), ([], 31), ([1], 29), ([0, 2, 2], 26), ([3], 23)] (by kernel_rfl) (fun hsk125 => ?_)
        have hS126 := hS124.step (Ext.draw _)
        refine DM.loadN ttok hsk125 0 1 (by kernel_rfl) (by kernel_rfl) (by kernel_rfl) (by kernel_rfl) rfl (by kernel_rfl) rfl rfl rfl rfl rfl ((hS124.bring 4 rfl).box) rfl rfl rfl ?_
        refine DM.loadN ttok hsk125 1 3 (by kernel_rfl) (by kernel_rfl) (by kernel_rfl) (by kernel_rfl) rfl (by kernel_rfl) rfl rfl rfl rfl rfl ((hS124.bring 15 rfl).box) rfl rfl rfl ?_
        obtain ⟨r127, hx128, hm⟩ := bind_some hm
        refine DM.one hsk125 2 (by kernel_rfl) (LM.call hsk125 7 (by kernel_rfl) (by kernel_rfl) rfl rfl rfl rfl enters13 (laws_toShard_ok (ty26.ext hS126.ext h0_) hx128) (fun v129 w130 hR131 => ?_))
        obtain ⟨A132, k133, A134, k135, A136, k137, rfl, hR138⟩ := hR131
        refine ⟨hR138.ext, ?_⟩
        have hS139 := hS126.join hR138
        obtain ⟨r140, hx141, hm⟩ := bind_some hm
        refine DM.one hsk125 3 (by kernel_rfl) (LM.call hsk125 15 (by kernel_rfl) (by kernel_rfl) rfl rfl rfl rfl enters15 (laws_eqShard_ok (ty33_shut r78 ((hS139.bring 8 rfl).own) ((hS139.bring 9 rfl).own) ((hS139.bring 10 rfl).own)) (ty33_shut r127 ((hS139.bring 0 rfl).own) ((hS139.bring 1 rfl).own) ((hS139.bring 2 rfl).own)) hx141) (fun v142 w143 hR144 => ?_))
        obtain ⟨rfl, hR145⟩ := hR144
        refine ⟨hR145.ext, ?_⟩
        have hS146 := hS139.join hR145
        refine DM.run (fuel := 0) ttok hsk125 [4] 31 (by kernel_rfl) (by kernel_rfl) rfl ?_
        refine DM.weak [(3, .pointer (some ⟨g25, 0, none⟩)), (8, .pointer (some ⟨g111, 0, none⟩)), (39, .bool (!r140))] ⟨rfl, rfl, rfl, trivial⟩ ?_
        refine DM.done hsk125 (by kernel_rfl) ?_
        refine WP.cond (!r140) rfl (fun hc => ?_) (fun hc => ?_)
        · skip
          rw [if_pos hc] at hm
          refine WP.seq ?_
          refine WP.region ?_
          refine RW.run ttok 1 rfl ?_
          refine RW.nil ?_
          refine WP.ret ?_
          cases hm
          exact ⟨_, .cons (.tmp rfl) .nil, rfl, (hS146.taken 0)⟩
        · skip
          rw [if_neg (not_t hc)] at hm
          refine WP.skip ?_
          refine WP.seq ?_
          refine WP.seq ?_
          refine WP.drawnM 0 mixed 5 (by kernel_rfl) (by kernel_rfl) [([], 31), ([], 31), ([1], 29), ([0, 2, 2], 26), ([3], 23)] (by kernel_rfl) (fun hsk147 => ?_)
          have hS148 := hS146.step (Ext.draw _)
          refine DM.loadN ttok hsk147 0 1 (by kernel_rfl) (by kernel_rfl) (by kernel_rfl) (by kernel_rfl) rfl (by kernel_rfl) rfl rfl rfl rfl rfl ((hS146.bring 3 rfl).box) rfl rfl rfl ?_
          refine DM.loadN ttok hsk147 1 3 (by kernel_rfl) (by kernel_rfl) (by kernel_rfl) (by kernel_rfl) rfl (by kernel_rfl) rfl rfl rfl rfl rfl ((hS146.bring 17 rfl).box) rfl rfl rfl ?_
          obtain ⟨r149, hx150, hm⟩ := bind_some hm
          refine DM.one hsk147 2 (by kernel_rfl) (LM.call hsk147 7 (by kernel_rfl) (by kernel_rfl) rfl rfl rfl rfl enters13 (laws_toShard_ok (ty26.ext hS148.ext h1_) hx150) (fun v151 w152 hR153 => ?_))
          obtain ⟨A154, k155, A156, k157, A158, k159, rfl, hR160⟩ := hR153
          refine ⟨hR160.ext, ?_⟩
          have hS161 := hS148.join hR160
          obtain ⟨r162, hx163, hm⟩ := bind_some hm
          refine DM.one hsk147 3 (by kernel_rfl) (LM.call hsk147 15 (by kernel_rfl) (by kernel_rfl) rfl rfl rfl rfl enters15 (laws_eqShard_ok (ty33_shut r98 ((hS161.bring 7 rfl).own) ((hS161.bring 8 rfl).own) ((hS161.bring 9 rfl).own)) (ty33_shut r149 ((hS161.bring 0 rfl).own) ((hS161.bring 1 rfl).own) ((hS161.bring 2 rfl).own)) hx163) (fun v164 w165 hR166 => ?_))
          obtain ⟨rfl, hR167⟩ := hR166
          refine ⟨hR167.ext, ?_⟩
          have hS168 := hS161.join hR167
          refine DM.run (fuel := 0) ttok hsk147 [4] 31 (by kernel_rfl) (by kernel_rfl) rfl ?_
          refine DM.weak [(44, .bool (!r162))] ⟨rfl, trivial⟩ ?_
          refine DM.done hsk147 (by kernel_rfl) ?_
          refine WP.cond (!r162) rfl (fun hc => ?_) (fun hc => ?_)
          · skip
            rw [if_pos hc] at hm
            refine WP.seq ?_
            refine WP.region ?_
            refine RW.run ttok 1 rfl ?_
            refine RW.nil ?_
            refine WP.ret ?_
            cases hm
            exact ⟨_, .cons (.tmp rfl) .nil, rfl, (hS168.taken 0)⟩
          · skip
            rw [if_neg (not_t hc)] at hm
            refine WP.skip ?_
            refine WP.seq ?_
            refine WP.region ?_
            refine RW.run ttok 1 rfl ?_
            refine RW.nil ?_
            refine WP.ret ?_
            cases hm
            exact ⟨_, .cons (.tmp rfl) .nil, rfl, (hS168.taken 0)⟩

theorem enters62 : Enters Try.prog 62 := ⟨_, _, Try.func62, rfl, by kernel_rfl⟩
def m_laws_szShardS_j1 (fuel : Nat) (t2 : Int) : Option Int := some t2
def m_laws_szShardS_b1 (fuel : Nat) (x0 : (List D.Shard)) (s1 : Int × Int) : Option (Rd (Int × Int) (Int) (Int)) := (if (decide (s1.2 < (x0.length : Int))) = true then ((idx x0 s1.2).bind fun x17 => ((m_laws_szShard fuel x17 s1.1).bind fun r33 => (if (decide (r33 < 0)) = true then some (.ret (-1)) else some (.next (r33, w64 (s1.2 + 1)))))) else some (.brk s1.1))
def m_laws_szShardS (fuel : Nat) (x0 : (List D.Shard)) (x1 : Int) : Option (Int) := (if (decide ((w64 (x1 - (x0.length : Int))) < 0)) = true then some (-1) else ((iter (m_laws_szShardS_b1 fuel x0) fuel (w64 (x1 - (x0.length : Int)), 0)).bind fun o => aft o (m_laws_szShardS_j1 fuel)))

set_option maxRecDepth 100000 in
theorem laws_szShardS_ok {w : World} {A0_ : Option Addr} {k0_ : Nat} {x0 : (List D.Shard)} {x1 : Int} (h0_ : ty36.ro w [.slice A0_ x0.length k0_] x0) {fuel : Nat} {r : Int} (hm : m_laws_szShardS fuel x0 x1 = some r) :
    Calls Try.prog 62 ⟨[.slice A0_ x0.length k0_, .int .i64 x1]⟩ w (Ret fun v w8 => v = .int .i64 r ∧ St w w8 []) := by
  refine Calls.into Try.func62 rfl 27 rfl rfl _ rfl ?_
  unfold m_laws_szShardS at hm
  have hS := St.start w
  refine WP.seq ?_
  refine WP.region ?_
  refine RW.run ttok 1 rfl ?_
  refine RW.nil ?_
  refine WP.seq ?_
  refine WP.region ?_
  refine RW.run ttok 5 rfl ?_
  refine RW.nil ?_
  refine WP.seq ?_
  refine WP.seq ?_
  refine WP.region ?_
  refine RW.run ttok 2 rfl ?_
  refine RW.nil ?_
  refine WP.cond (decide ((w64 (x1 - (x0.length : Int))) < 0)) rfl (fun hc => ?_) (fun hc => ?_)
  · skip
    rw [if_pos hc] at hm
    refine WP.seq ?_
    refine WP.region ?_
    refine RW.run ttok 1 rfl ?_
    refine RW.nil ?_
    refine WP.ret ?_
    cases hm
    exact ⟨_, .cons (.tmp rfl) .nil, rfl, (hS.taken 0)⟩
  · skip
    rw [if_neg (not_t hc)] at hm
    refine WP.skip ?_
    refine WP.seq ?_
    refine WP.seq ?_
    refine WP.region ?_
    refine RW.run ttok 1 rfl ?_
    refine RW.nil ?_
    obtain ⟨o8, hl9, hm⟩ := bind_some hm
    refine WP.cut (fun (t2 : Int) F w9 => o8 = .inl t2 ∧ Ext w w9 ∧ St w w9 [] ∧ F = [(1, .int .i64 t2)]) ?_ ?_
    · skip
      rintro t2 F w7 ⟨ho11, hE6, hS10, rfl⟩
      subst ho11
      rw [aft_inl] at hm
      unfold m_laws_szShardS_j1 at hm
      refine WP.seq ?_
      refine WP.region ?_
      refine RW.run ttok 2 rfl ?_
      refine RW.nil ?_
      refine WP.ret ?_
      cases hm
      exact ⟨_, .cons (.tmp rfl) .nil, rfl, (hS10.taken 0)⟩
    · skip
      refine WP.block ?_
      refine WP.weak [(0, .slice A0_ x0.length k0_), (1, .int .i64 (w64 (x1 - (x0.length : Int)))), (5, .int .i64 0)] ⟨rfl, rfl, rfl, trivial⟩ ?_
      refine WP.iter (fun (s1 : Int × Int) F w9 => Ext w w9 ∧ St w w9 [] ∧ F = [(0, .slice A0_ x0.length k0_), (1, .int .i64 s1.1), (5, .int .i64 s1.2)]) _ hl9 ⟨(Ext.refl _), (hS.taken 0), rfl⟩ ?_
      rintro s1 F w16 _ o14 ⟨hE5, hS15, rfl⟩ hb12 ho13
      unfold m_laws_szShardS_b1 at hb12
      refine WP.seq ?_
      refine WP.seq ?_
      refine WP.region ?_
      refine RW.run ttok 4 rfl ?_
      refine RW.nil ?_
      refine WP.cond (decide (s1.2 < (x0.length : Int))) rfl (fun hc => ?_) (fun hc => ?_)
      · skip
        rw [if_pos hc] at hb12
        refine WP.skip ?_
        refine WP.seq ?_
        refine WP.block ?_
        refine WP.seq ?_
        refine WP.region ?_
        refine RW.run ttok 2 rfl ?_
        obtain ⟨x17, hx18, hb12⟩ := bind_some hb12
        refine RW.idx ttok hS15.ext rfl rfl rfl rfl rfl rfl (by decide) rfl rfl h0_ (idx_some hx18).1 (idx_some hx18).2 rfl rfl (fun p19 es20 ha21 hr22 => ?_)
        obtain ⟨A23, k24, A26, k27, A29, k30, e32, h25, h28, h31⟩ := ty26_open hr22; subst e32
        refine RW.loadN ttok rfl rfl rfl rfl rfl (At.ext hS15.ext ha21) rfl rfl rfl ?_
        refine RW.run ttok 1 rfl ?_
        obtain ⟨r33, hx34, hb12⟩ := bind_some hb12
        refine RW.call rfl rfl rfl enters11 (laws_szShard_ok (ty26.ext hS15.ext hr22) hx34) (fun v35 w36 hR37 => ?_)
        obtain ⟨rfl, hR38⟩ := hR37
        have hS39 := hS15.join hR38
        refine RW.run ttok 1 rfl ?_
        refine RW.nil ?_
        refine WP.seq ?_
        refine WP.region ?_
        refine RW.run ttok 2 rfl ?_
        refine RW.nil ?_
        refine WP.cond (decide (r33 < 0)) rfl (fun hc => ?_) (fun hc => ?_)
        · skip
          rw [if_pos hc] at hb12
          refine WP.seq ?_
          refine WP.region ?_
          refine RW.run ttok 1 rfl ?_
          refine RW.nil ?_
          refine WP.ret ?_
          cases hb12
          cases ho13
          have hm : some _ = some _ := hm
          cases hm
          exact ⟨_, .cons (.tmp rfl) .nil, rfl, (hS39.taken 0)⟩
        · skip
          rw [if_neg (not_t hc)] at hb12
          refine WP.skip ?_
          refine WP.region ?_
          refine RW.run ttok 3 rfl ?_
          refine RW.nil ?_
          cases hb12
          exact ⟨_, [(0, .slice A0_ x0.length k0_), (1, .int .i64 r33), (5, .int .i64 (w64 (s1.2 + 1)))], ⟨rfl, rfl, rfl, trivial⟩, rfl, (hE5.trans hR38.ext), (hS39.taken 0), rfl⟩
      · skip
        rw [if_neg (not_t hc)] at hb12
        refine WP.exit ?_
        cases hb12
        exact ⟨_, [(1, .int .i64 s1.1)], ⟨rfl, trivial⟩, ho13, hE5, (hS15.taken 0), rfl⟩

theorem enters16 : Enters Try.prog 16 := ⟨_, _, Try.func16, rfl, by kernel_rfl⟩
def m_laws_szGrid (fuel : Nat) (x0 : D.Grid) (x1 : Int) : Option (Int) := ((m_laws_szShardS fuel x0.Shards x1).bind fun r9 => (if (decide (r9 < 0)) = true then some (-1) else some r9))

set_option maxRecDepth 100000 in
theorem laws_szGrid_ok {w : World} {c0_ : List Value} {x0 : D.Grid} {x1 : Int} (h0_ : ty40.ro w c0_ x0) {fuel : Nat} {r : Int} (hm : m_laws_szGrid fuel x0 x1 = some r) :
    Calls Try.prog 16 ⟨[.agg ⟨c0_⟩, .int .i64 x1]⟩ w (Ret fun v w8 => v = .int .i64 r ∧ St w w8 []) := by
  obtain ⟨A1, k2, e4, h3⟩ := ty40_open h0_; subst e4
  refine Calls.into Try.func16 rfl 12 rfl rfl _ rfl ?_
  unfold m_laws_szGrid at hm
  have hS := St.start w
  refine WP.seq ?_
  refine WP.region ?_
  refine RW.new ttok hS rfl rfl rfl rfl (fun g5 w6 e7 hS8 => ?_)
  refine RW.run ttok 1 rfl ?_
  refine RW.nil ?_
  refine WP.seq ?_
  refine WP.region ?_
  refine RW.run ttok 1 rfl ?_
  refine RW.load1 ttok rfl rfl rfl rfl rfl ((hS8.bring 0 rfl).box) 0 rfl rfl rfl rfl ?_
  refine RW.run ttok 1 rfl ?_
  obtain ⟨r9, hx10, hm⟩ := bind_some hm
  refine RW.call rfl rfl rfl enters62 (laws_szShardS_ok (ty36.ext hS8.ext h3) hx10) (fun v11 w12 hR13 => ?_)
  obtain ⟨rfl, hR14⟩ := hR13
  have hS15 := hS8.join hR14
  refine RW.run ttok 1 rfl ?_
  refine RW.nil ?_
  refine WP.seq ?_
  refine WP.seq ?_
  refine WP.region ?_
  refine RW.run ttok 2 rfl ?_
  refine RW.nil ?_
  refine WP.cond (decide (r9 < 0)) rfl (fun hc => ?_) (fun hc => ?_)
  · skip
    rw [if_pos hc] at hm
    refine WP.seq ?_
    refine WP.region ?_
    refine RW.run ttok 1 rfl ?_
    refine RW.nil ?_
    refine WP.ret ?_
    cases hm
    exact ⟨_, .cons (.tmp rfl) .nil, rfl, (hS15.taken 0)⟩
  · skip
    rw [if_neg (not_t hc)] at hm
    refine WP.skip ?_
    refine WP.seq ?_
    refine WP.region ?_
    refine RW.run ttok 2 rfl ?_
    refine RW.nil ?_
    refine WP.ret ?_
    cases hm
    exact ⟨_, .cons (.tmp rfl) .nil, rfl, (hS15.taken 0)⟩

end Go.E
