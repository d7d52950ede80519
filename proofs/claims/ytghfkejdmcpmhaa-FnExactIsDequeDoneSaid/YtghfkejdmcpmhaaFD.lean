/- Models of functions and proofs that the code runs as they say (written by program). Conditions: the model gives a value. -/
import Derived.Test.YtghfkejdmcpmhaaIter
namespace Go.E
open Go.RowKit Go.Proofs
set_option linter.unusedVariables false
set_option linter.unusedSimpArgs false

theorem enters83 : Enters Try.prog 83 := ⟨_, _, Try.func83, rfl, by kernel_rfl⟩
def m_laws_szInt64S (fuel : Nat) (x0 : (List Int)) (x1 : Int) : Option (Int) := (if (decide ((w64 (x1 - (x0.length : Int))) < 0)) = true then some (-1) else some (w64 (x1 - (x0.length : Int))))

set_option maxRecDepth 100000 in
theorem laws_szInt64S_ok {w : World} {A0_ : Option Addr} {k0_ : Nat} {x0 : (List Int)} {x1 : Int} (h0_ : ty72.ro w [.slice A0_ x0.length k0_] x0) {fuel : Nat} {r : Int} (hm : m_laws_szInt64S fuel x0 x1 = some r) :
    Calls Try.prog 83 ⟨[.slice A0_ x0.length k0_, .int .i64 x1]⟩ w (Ret fun v w8 => v = .int .i64 r ∧ St w w8 []) := by
  refine Calls.into Try.func83 rfl 12 rfl rfl _ rfl ?_
  unfold m_laws_szInt64S at hm
  have hS := St.start w
  refine WP.seq ?_
  refine WP.region ?_
  refine RW.run ttok 1 rfl ?_
  refine RW.nil ?_
  refine WP.seq ?_
  refine WP.region ?_
  refine RW.run ttok 5 rfl ?_
  refine RW.nil ?_
  refine WP.seq ?_
  refine WP.seq ?_
  refine WP.region ?_
  refine RW.run ttok 2 rfl ?_
  refine RW.nil ?_
  refine WP.cond (decide ((w64 (x1 - (x0.length : Int))) < 0)) rfl (fun hc => ?_) (fun hc => ?_)
  · skip
    rw [if_pos hc] at hm
    refine WP.seq ?_
    refine WP.region ?_
    refine RW.run ttok 1 rfl ?_
    refine RW.nil ?_
    refine WP.ret ?_
    cases hm
    exact ⟨_, .cons (.tmp rfl) .nil, rfl, (hS.taken 0)⟩
  · skip
    rw [if_neg (not_t hc)] at hm
    refine WP.skip ?_
    refine WP.seq ?_
    refine WP.region ?_
    refine RW.run ttok 2 rfl ?_
    refine RW.nil ?_
    refine WP.ret ?_
    cases hm
    exact ⟨_, .cons (.tmp rfl) .nil, rfl, (hS.taken 0)⟩

theorem enters154 : Enters Try.prog 154 := ⟨_, _, Try.func154, rfl, by kernel_rfl⟩
def m_laws_szDequeActor (fuel : Nat) (x0 : D.DequeActor) (x1 : Int) : Option (Int) := ((m_laws_szInt64S fuel x0.Todo x1).bind fun r9 => (if (decide (r9 < 0)) = true then some (-1) else some r9))

set_option maxRecDepth 100000 in
theorem laws_szDequeActor_ok {w : World} {c0_ : List Value} {x0 : D.DequeActor} {x1 : Int} (h0_ : ty246.ro w c0_ x0) {fuel : Nat} {r : Int} (hm : m_laws_szDequeActor fuel x0 x1 = some r) :
    Calls Try.prog 154 ⟨[.agg ⟨c0_⟩, .int .i64 x1]⟩ w (Ret fun v w8 => v = .int .i64 r ∧ St w w8 []) := by
  obtain ⟨A1, k2, e4, h3⟩ := ty246_open h0_; subst e4
  refine Calls.into Try.func154 rfl 12 rfl rfl _ rfl ?_
  unfold m_laws_szDequeActor at hm
  have hS := St.start w
  refine WP.seq ?_
  refine WP.region ?_
  refine RW.new ttok hS rfl rfl rfl rfl (fun g5 w6 e7 hS8 => ?_)
  refine RW.run ttok 1 rfl ?_
  refine RW.nil ?_
  refine WP.seq ?_
  refine WP.region ?_
  refine RW.run ttok 1 rfl ?_
  refine RW.load1 ttok rfl rfl rfl rfl rfl ((hS8.bring 0 rfl).box) 0 rfl rfl rfl rfl ?_
  refine RW.run ttok 1 rfl ?_
  obtain ⟨r9, hx10, hm⟩ := bind_some hm
  refine RW.call rfl rfl rfl enters83 (laws_szInt64S_ok (ty72.ext hS8.ext h3) hx10) (fun v11 w12 hR13 => ?_)
  obtain ⟨rfl, hR14⟩ := hR13
  have hS15 := hS8.join hR14
  refine RW.run ttok 1 rfl ?_
  refine RW.nil ?_
  refine WP.seq ?_
  refine WP.seq ?_
  refine WP.region ?_
  refine RW.run ttok 2 rfl ?_
  refine RW.nil ?_
  refine WP.cond (decide (r9 < 0)) rfl (fun hc => ?_) (fun hc => ?_)
  · skip
    rw [if_pos hc] at hm
    refine WP.seq ?_
    refine WP.region ?_
    refine RW.run ttok 1 rfl ?_
    refine RW.nil ?_
    refine WP.ret ?_
    cases hm
    exact ⟨_, .cons (.tmp rfl) .nil, rfl, (hS15.taken 0)⟩
  · skip
    rw [if_neg (not_t hc)] at hm
    refine WP.skip ?_
    refine WP.seq ?_
    refine WP.region ?_
    refine RW.run ttok 2 rfl ?_
    refine RW.nil ?_
    refine WP.ret ?_
    cases hm
    exact ⟨_, .cons (.tmp rfl) .nil, rfl, (hS15.taken 0)⟩

theorem enters106 : Enters Try.prog 106 := ⟨_, _, Try.func106, rfl, by kernel_rfl⟩
def m_laws_szDequeActorS_j1 (fuel : Nat) (t2 : Int) : Option Int := some t2
def m_laws_szDequeActorS_b1 (fuel : Nat) (x0 : (List D.DequeActor)) (s1 : Int × Int) : Option (Rd (Int × Int) (Int) (Int)) := (if (decide (s1.2 < (x0.length : Int))) = true then ((idx x0 s1.2).bind fun x17 => ((m_laws_szDequeActor fuel x17 s1.1).bind fun r27 => (if (decide (r27 < 0)) = true then some (.ret (-1)) else some (.next (r27, w64 (s1.2 + 1)))))) else some (.brk s1.1))
def m_laws_szDequeActorS (fuel : Nat) (x0 : (List D.DequeActor)) (x1 : Int) : Option (Int) := (if (decide ((w64 (x1 - (x0.length : Int))) < 0)) = true then some (-1) else ((iter (m_laws_szDequeActorS_b1 fuel x0) fuel (w64 (x1 - (x0.length : Int)), 0)).bind fun o => aft o (m_laws_szDequeActorS_j1 fuel)))

set_option maxRecDepth 100000 in
theorem laws_szDequeActorS_ok {w : World} {A0_ : Option Addr} {k0_ : Nat} {x0 : (List D.DequeActor)} {x1 : Int} (h0_ : ty103.ro w [.slice A0_ x0.length k0_] x0) {fuel : Nat} {r : Int} (hm : m_laws_szDequeActorS fuel x0 x1 = some r) :
    Calls Try.prog 106 ⟨[.slice A0_ x0.length k0_, .int .i64 x1]⟩ w (Ret fun v w8 => v = .int .i64 r ∧ St w w8 []) := by
  refine Calls.into Try.func106 rfl 27 rfl rfl _ rfl ?_
  unfold m_laws_szDequeActorS at hm
  have hS := St.start w
  refine WP.seq ?_
  refine WP.region ?_
  refine RW.run ttok 1 rfl ?_
  refine RW.nil ?_
  refine WP.seq ?_
  refine WP.region ?_
  refine RW.run ttok 5 rfl ?_
  refine RW.nil ?_
  refine WP.seq ?_
  refine WP.seq ?_
  refine WP.region ?_
  refine RW.run ttok 2 rfl ?_
  refine RW.nil ?_
  refine WP.cond (decide ((w64 (x1 - (x0.length : Int))) < 0)) rfl (fun hc => ?_) (fun hc => ?_)
  · skip
    rw [if_pos hc] at hm
    refine WP.seq ?_
    refine WP.region ?_
    refine RW.run ttok 1 rfl ?_
    refine RW.nil ?_
    refine WP.ret ?_
    cases hm
    exact ⟨_, .cons (.tmp rfl) .nil, rfl, (hS.taken 0)⟩
  · skip
    rw [if_neg (not_t hc)] at hm
    refine WP.skip ?_
    refine WP.seq ?_
    refine WP.seq ?_
    refine WP.region ?_
    refine RW.run ttok 1 rfl ?_
    refine RW.nil ?_
    obtain ⟨o8, hl9, hm⟩ := bind_some hm
    refine WP.cut (fun (t2 : Int) F w9 => o8 = .inl t2 ∧ Ext w w9 ∧ St w w9 [] ∧ F = [(1, .int .i64 t2)]) ?_ ?_
    · skip
      rintro t2 F w7 ⟨ho11, hE6, hS10, rfl⟩
      subst ho11
      rw [aft_inl] at hm
      unfold m_laws_szDequeActorS_j1 at hm
      refine WP.seq ?_
      refine WP.region ?_
      refine RW.run ttok 2 rfl ?_
      refine RW.nil ?_
      refine WP.ret ?_
      cases hm
      exact ⟨_, .cons (.tmp rfl) .nil, rfl, (hS10.taken 0)⟩
    · skip
      refine WP.block ?_
      refine WP.weak [(0, .slice A0_ x0.length k0_), (1, .int .i64 (w64 (x1 - (x0.length : Int)))), (5, .int .i64 0)] ⟨rfl, rfl, rfl, trivial⟩ ?_
      refine WP.iter (fun (s1 : Int × Int) F w9 => Ext w w9 ∧ St w w9 [] ∧ F = [(0, .slice A0_ x0.length k0_), (1, .int .i64 s1.1), (5, .int .i64 s1.2)]) _ hl9 ⟨(Ext.refl _), (hS.taken 0), rfl⟩ ?_
      rintro s1 F w16 _ o14 ⟨hE5, hS15, rfl⟩ hb12 ho13
      unfold m_laws_szDequeActorS_b1 at hb12
      refine WP.seq ?_
      refine WP.seq ?_
      refine WP.region ?_
      refine RW.run ttok 4 rfl ?_
      refine RW.nil ?_
      refine WP.cond (decide (s1.2 < (x0.length : Int))) rfl (fun hc => ?_) (fun hc => ?_)
      · skip
        rw [if_pos hc] at hb12
        refine WP.skip ?_
        refine WP.seq ?_
        refine WP.block ?_
        refine WP.seq ?_
        refine WP.region ?_
        refine RW.run ttok 2 rfl ?_
        obtain ⟨x17, hx18, hb12⟩ := bind_some hb12
        refine RW.idx ttok hS15.ext rfl rfl rfl rfl rfl rfl (by decide) rfl rfl h0_ (idx_some hx18).1 (idx_some hx18).2 rfl rfl (fun p19 es20 ha21 hr22 => ?_)
        obtain ⟨A23, k24, e26, h25⟩ := ty246_open hr22; subst e26
        refine RW.loadN ttok rfl rfl rfl rfl rfl (At.ext hS15.ext ha21) rfl rfl rfl ?_
        refine RW.run ttok 1 rfl ?_
        obtain ⟨r27, hx28, hb12⟩ := bind_some hb12
        refine RW.call rfl rfl rfl enters154 (laws_szDequeActor_ok (ty246.ext hS15.ext hr22) hx28) (fun v29 w30 hR31 => ?_)
        obtain ⟨rfl, hR32⟩ := hR31
        have hS33 := hS15.join hR32
        refine RW.run ttok 1 rfl ?_
        refine RW.nil ?_
        refine WP.seq ?_
        refine WP.region ?_
        refine RW.run ttok 2 rfl ?_
        refine RW.nil ?_
        refine WP.cond (decide (r27 < 0)) rfl (fun hc => ?_) (fun hc => ?_)
        · skip
          rw [if_pos hc] at hb12
          refine WP.seq ?_
          refine WP.region ?_
          refine RW.run ttok 1 rfl ?_
          refine RW.nil ?_
          refine WP.ret ?_
          cases hb12
          cases ho13
          have hm : some _ = some _ := hm
          cases hm
          exact ⟨_, .cons (.tmp rfl) .nil, rfl, (hS33.taken 0)⟩
        · skip
          rw [if_neg (not_t hc)] at hb12
          refine WP.skip ?_
          refine WP.region ?_
          refine RW.run ttok 3 rfl ?_
          refine RW.nil ?_
          cases hb12
          exact ⟨_, [(0, .slice A0_ x0.length k0_), (1, .int .i64 r27), (5, .int .i64 (w64 (s1.2 + 1)))], ⟨rfl, rfl, rfl, trivial⟩, rfl, (hE5.trans hR32.ext), (hS33.taken 0), rfl⟩
      · skip
        rw [if_neg (not_t hc)] at hb12
        refine WP.exit ?_
        cases hb12
        exact ⟨_, [(1, .int .i64 s1.1)], ⟨rfl, trivial⟩, ho13, hE5, (hS15.taken 0), rfl⟩

theorem enters107 : Enters Try.prog 107 := ⟨_, _, Try.func107, rfl, by kernel_rfl⟩
def m_laws_szHandedS (fuel : Nat) (x0 : (List D.Handed)) (x1 : Int) : Option (Int) := (if (decide ((w64 (x1 - (x0.length : Int))) < 0)) = true then some (-1) else some (w64 (x1 - (x0.length : Int))))

set_option maxRecDepth 100000 in
theorem laws_szHandedS_ok {w : World} {A0_ : Option Addr} {k0_ : Nat} {x0 : (List D.Handed)} {x1 : Int} (h0_ : ty104.ro w [.slice A0_ x0.length k0_] x0) {fuel : Nat} {r : Int} (hm : m_laws_szHandedS fuel x0 x1 = some r) :
    Calls Try.prog 107 ⟨[.slice A0_ x0.length k0_, .int .i64 x1]⟩ w (Ret fun v w8 => v = .int .i64 r ∧ St w w8 []) := by
  refine Calls.into Try.func107 rfl 12 rfl rfl _ rfl ?_
  unfold m_laws_szHandedS at hm
  have hS := St.start w
  refine WP.seq ?_
  refine WP.region ?_
  refine RW.run ttok 1 rfl ?_
  refine RW.nil ?_
  refine WP.seq ?_
  refine WP.region ?_
  refine RW.run ttok 5 rfl ?_
  refine RW.nil ?_
  refine WP.seq ?_
  refine WP.seq ?_
  refine WP.region ?_
  refine RW.run ttok 2 rfl ?_
  refine RW.nil ?_
  refine WP.cond (decide ((w64 (x1 - (x0.length : Int))) < 0)) rfl (fun hc => ?_) (fun hc => ?_)
  · skip
    rw [if_pos hc] at hm
    refine WP.seq ?_
    refine WP.region ?_
    refine RW.run ttok 1 rfl ?_
    refine RW.nil ?_
    refine WP.ret ?_
    cases hm
    exact ⟨_, .cons (.tmp rfl) .nil, rfl, (hS.taken 0)⟩
  · skip
    rw [if_neg (not_t hc)] at hm
    refine WP.skip ?_
    refine WP.seq ?_
    refine WP.region ?_
    refine RW.run ttok 2 rfl ?_
    refine RW.nil ?_
    refine WP.ret ?_
    cases hm
    exact ⟨_, .cons (.tmp rfl) .nil, rfl, (hS.taken 0)⟩

theorem enters41 : Enters Try.prog 41 := ⟨_, _, Try.func41, rfl, by kernel_rfl⟩
def m_laws_szDeque (fuel : Nat) (x0 : D.Deque) (x1 : Int) : Option (Int) := ((m_laws_szInt64S fuel x0.Buffer x1).bind fun r18 => (if (decide (r18 < 0)) = true then some (-1) else ((m_laws_szDequeActorS fuel x0.Actors r18).bind fun r25 => (if (decide (r25 < 0)) = true then some (-1) else ((m_laws_szHandedS fuel x0.Taken r25).bind fun r32 => (if (decide (r32 < 0)) = true then some (-1) else ((m_laws_szInt64S fuel x0.Refused r32).bind fun r39 => (if (decide (r39 < 0)) = true then some (-1) else some r39))))))))

set_option maxRecDepth 100000 in
theorem laws_szDeque_ok {w : World} {c0_ : List Value} {x0 : D.Deque} {x1 : Int} (h0_ : ty106.ro w c0_ x0) {fuel : Nat} {r : Int} (hm : m_laws_szDeque fuel x0 x1 = some r) :
    Calls Try.prog 41 ⟨[.agg ⟨c0_⟩, .int .i64 x1]⟩ w (Ret fun v w8 => v = .int .i64 r ∧ St w w8 []) := by
  obtain ⟨A1, k2, A4, k5, A7, k8, A10, k11, e13, h3, h6, h9, h12⟩ := ty106_open h0_; subst e13
  refine Calls.into Try.func41 rfl 30 rfl rfl _ rfl ?_
  unfold m_laws_szDeque at hm
  have hS := St.start w
  refine WP.seq ?_
  refine WP.region ?_
  refine RW.new ttok hS rfl rfl rfl rfl (fun g14 w15 e16 hS17 => ?_)
  refine RW.run ttok 1 rfl ?_
  refine RW.nil ?_
  refine WP.seq ?_
  refine WP.region ?_
  refine RW.run ttok 1 rfl ?_
  refine RW.load1 ttok rfl rfl rfl rfl rfl ((hS17.bring 0 rfl).box) 2 rfl rfl rfl rfl ?_
  refine RW.run ttok 1 rfl ?_
  obtain ⟨r18, hx19, hm⟩ := bind_some hm
  refine RW.call rfl rfl rfl enters83 (laws_szInt64S_ok (ty72.ext hS17.ext h3) hx19) (fun v20 w21 hR22 => ?_)
  obtain ⟨rfl, hR23⟩ := hR22
  have hS24 := hS17.join hR23
  refine RW.run ttok 1 rfl ?_
  refine RW.nil ?_
  refine WP.seq ?_
  refine WP.seq ?_
  refine WP.region ?_
  refine RW.run ttok 2 rfl ?_
  refine RW.nil ?_
  refine WP.cond (decide (r18 < 0)) rfl (fun hc => ?_) (fun hc => ?_)
  · skip
    rw [if_pos hc] at hm
    refine WP.seq ?_
    refine WP.region ?_
    refine RW.run ttok 1 rfl ?_
    refine RW.nil ?_
    refine WP.ret ?_
    cases hm
    exact ⟨_, .cons (.tmp rfl) .nil, rfl, (hS24.taken 0)⟩
  · skip
    rw [if_neg (not_t hc)] at hm
    refine WP.skip ?_
    refine WP.seq ?_
    refine WP.region ?_
    refine RW.run ttok 1 rfl ?_
    refine RW.load1 ttok rfl rfl rfl rfl rfl ((hS24.bring 0 rfl).box) 3 rfl rfl rfl rfl ?_
    refine RW.run ttok 1 rfl ?_
    obtain ⟨r25, hx26, hm⟩ := bind_some hm
    refine RW.call rfl rfl rfl enters106 (laws_szDequeActorS_ok (ty103.ext hS24.ext h6) hx26) (fun v27 w28 hR29 => ?_)
    obtain ⟨rfl, hR30⟩ := hR29
    have hS31 := hS24.join hR30
    refine RW.run ttok 1 rfl ?_
    refine RW.nil ?_
    refine WP.seq ?_
    refine WP.seq ?_
    refine WP.region ?_
    refine RW.run ttok 2 rfl ?_
    refine RW.nil ?_
    refine WP.cond (decide (r25 < 0)) rfl (fun hc => ?_) (fun hc => ?_)
    · skip
      rw [if_pos hc] at hm
      refine WP.seq ?_
      refine WP.region ?_
      refine RW.run ttok 1 rfl ?_
      refine RW.nil ?_
      refine WP.ret ?_
      cases hm
      exact ⟨_, .cons (.tmp rfl) .nil, rfl, (hS31.taken 0)⟩
    · skip
      rw [if_neg (not_t hc)] at hm
      refine WP.skip ?_
      refine WP.seq ?_
      refine WP.region ?_
      refine RW.run ttok 1 rfl ?_
      refine RW.load1 ttok rfl rfl rfl rfl rfl ((hS31.bring 0 rfl).box) 4 rfl rfl rfl rfl ?_
      refine RW.run ttok 1 rfl ?_
      obtain ⟨r32, hx33, hm⟩ := bind_some hm
      refine RW.call rfl rfl rfl enters107 (laws_szHandedS_ok (ty104.ext hS31.ext h9) hx33) (fun v34 w35 hR36 => ?_)
      obtain ⟨rfl, hR37⟩ := hR36
      have hS38 := hS31.join hR37
      refine RW.run ttok 1 rfl ?_
      refine RW.nil ?_
      refine WP.seq ?_
      refine WP.seq ?_
      refine WP.region ?_
      refine RW.run ttok 2 rfl ?_
      refine RW.nil ?_
      refine WP.cond (decide (r32 < 0)) rfl (fun hc => ?_) (fun hc => ?_)
      · skip
        rw [if_pos hc] at hm
        refine WP.seq ?_
        refine WP.region ?_
        refine RW.run ttok 1 rfl ?_
        refine RW.nil ?_
        refine WP.ret ?_
        cases hm
        exact ⟨_, .cons (.tmp rfl) .nil, rfl, (hS38.taken 0)⟩
      · skip
        rw [if_neg (not_t hc)] at hm
        refine WP.skip ?_
        refine WP.seq ?_
        refine WP.region ?_
        refine RW.run ttok 1 rfl ?_
        refine RW.load1 ttok rfl rfl rfl rfl rfl ((hS38.bring 0 rfl).box) 5 rfl rfl rfl rfl ?_
        refine RW.run ttok 1 rfl ?_
        obtain ⟨r39, hx40, hm⟩ := bind_some hm
        refine RW.call rfl rfl rfl enters83 (laws_szInt64S_ok (ty72.ext hS38.ext h12) hx40) (fun v41 w42 hR43 => ?_)
        obtain ⟨rfl, hR44⟩ := hR43
        have hS45 := hS38.join hR44
        refine RW.run ttok 1 rfl ?_
        refine RW.nil ?_
        refine WP.seq ?_
        refine WP.seq ?_
        refine WP.region ?_
        refine RW.run ttok 2 rfl ?_
        refine RW.nil ?_
        refine WP.cond (decide (r39 < 0)) rfl (fun hc => ?_) (fun hc => ?_)
        · skip
          rw [if_pos hc] at hm
          refine WP.seq ?_
          refine WP.region ?_
          refine RW.run ttok 1 rfl ?_
          refine RW.nil ?_
          refine WP.ret ?_
          cases hm
          exact ⟨_, .cons (.tmp rfl) .nil, rfl, (hS45.taken 0)⟩
        · skip
          rw [if_neg (not_t hc)] at hm
          refine WP.skip ?_
          refine WP.seq ?_
          refine WP.region ?_
          refine RW.run ttok 2 rfl ?_
          refine RW.nil ?_
          refine WP.ret ?_
          cases hm
          exact ⟨_, .cons (.tmp rfl) .nil, rfl, (hS45.taken 0)⟩

theorem enters89 : Enters Try.prog 89 := ⟨_, _, Try.func89, rfl, by kernel_rfl⟩
def m_laws_toInt64S_j1 (fuel : Nat) (t9 : (List Int)) : Option (List Int) := some t9
def m_laws_toInt64S_b1 (fuel : Nat) (x0 : (List Int)) (s8 : Int × (List Int)) : Option (Rd (Int × (List Int)) ((List Int)) ((List Int))) := (if (decide (s8.1 < (x0.length : Int))) = true then ((idx x0 s8.1).bind fun x27 => (if decide (0 ≤ s8.1 ∧ s8.1.toNat < s8.2.length) = true then some (.next (w64 (s8.1 + 1), (s8.2.set s8.1.toNat x27))) else none)) else some (.brk s8.2))
def m_laws_toInt64S (fuel : Nat) (x0 : (List Int)) : Option ((List Int)) := (if decide (0 ≤ (x0.length : Int) ∧ (x0.length : Int) ≤ 4294967296) = true then ((iter (m_laws_toInt64S_b1 fuel x0) fuel (0, (List.replicate (x0.length : Int).toNat (0 : Int)))).bind fun o => aft o (m_laws_toInt64S_j1 fuel)) else none)

set_option maxRecDepth 100000 in
theorem laws_toInt64S_ok {w : World} {A0_ : Option Addr} {k0_ : Nat} {x0 : (List Int)} (h0_ : ty72.ro w [.slice A0_ x0.length k0_] x0) {fuel : Nat} {r : (List Int)} (hm : m_laws_toInt64S fuel x0 = some r) :
    Calls Try.prog 89 ⟨[.slice A0_ x0.length k0_]⟩ w (Ret fun v w8 => ∃ A0 k0, v = .slice A0 r.length k0 ∧ St w w8 [Own ty72 [.slice A0 r.length k0] r]) := by
  refine Calls.into Try.func89 rfl 22 rfl rfl _ rfl ?_
  unfold m_laws_toInt64S at hm
  have hS := St.start w
  refine WP.seq ?_
  refine WP.region ?_
  refine RW.run ttok 1 rfl ?_
  refine RW.nil ?_
  refine WP.seq ?_
  refine WP.region ?_
  refine RW.run ttok 2 rfl ?_
  by_cases hk1 : decide (0 ≤ (x0.length : Int) ∧ (x0.length : Int) ≤ 4294967296) = true
  case neg => rw [if_neg hk1] at hm; cases hm
  rw [if_pos hk1] at hm
  have hz7 := of_decide_eq_true hk1
  refine RW.make (U := tInt) ttok (0 : Int) hS rfl rfl rfl rfl rfl rfl rfl rfl hz7.1 (by have := hz7.2; show _ * (8 : Int) ≤ _; omega) (by have := hz7.2; simp only [maxLen]; omega) (fun _ => ⟨rfl, rfl⟩) rfl rfl (fun A2 k3 w4 e5 hS6 => ?_)
  refine RW.run ttok 1 rfl ?_
  refine RW.nil ?_
  refine WP.seq ?_
  refine WP.seq ?_
  refine WP.region ?_
  refine RW.run ttok 1 rfl ?_
  refine RW.nil ?_
  obtain ⟨o18, hl19, hm⟩ := bind_some hm
  refine WP.cut (fun (t9 : (List Int)) F w9 => ∃ A15 k16, o18 = .inl t9 ∧ St w w9 [Own ty72 [.slice A15 t9.length k16] t9] ∧ F = [(3, .slice A15 t9.length k16)]) ?_ ?_
  · skip
    rintro t9 F w17 ⟨A15, k16, ho21, hS20, rfl⟩
    subst ho21
    rw [aft_inl] at hm
    unfold m_laws_toInt64S_j1 at hm
    refine WP.seq ?_
    refine WP.region ?_
    refine RW.run ttok 2 rfl ?_
    refine RW.nil ?_
    refine WP.ret ?_
    cases hm
    exact ⟨_, .cons (.tmp rfl) .nil, A15, k16, rfl, ((hS20.bring 0 rfl).taken 1)⟩
  · skip
    refine WP.block ?_
    refine WP.weak [(0, .slice A0_ x0.length k0_), (3, .slice A2 (List.replicate (x0.length : Int).toNat (0 : Int)).length k3), (4, .int .i64 0)] ⟨rfl, rfl, rfl, trivial⟩ ?_
    refine WP.iter (fun (s8 : Int × (List Int)) F w9 => ∃ A13 k14, St w w9 [Own ty72 [.slice A13 s8.2.length k14] s8.2] ∧ F = [(0, .slice A0_ x0.length k0_), (3, .slice A13 s8.2.length k14), (4, .int .i64 s8.1)]) _ hl19 ⟨A2, k3, ((hS6.bring 0 rfl).taken 1), rfl⟩ ?_
    rintro s8 F w26 _ o24 ⟨A13, k14, hS25, rfl⟩ hb22 ho23
    unfold m_laws_toInt64S_b1 at hb22
    refine WP.seq ?_
    refine WP.seq ?_
    refine WP.region ?_
    refine RW.run ttok 4 rfl ?_
    refine RW.nil ?_
    refine WP.cond (decide (s8.1 < (x0.length : Int))) rfl (fun hc => ?_) (fun hc => ?_)
    · skip
      rw [if_pos hc] at hb22
      refine WP.skip ?_
      refine WP.seq ?_
      refine WP.block ?_
      refine WP.region ?_
      refine RW.run ttok 4 rfl ?_
      obtain ⟨x27, hx28, hb22⟩ := bind_some hb22
      refine RW.idx ttok hS25.ext rfl rfl rfl rfl rfl rfl (by decide) rfl rfl h0_ (idx_some hx28).1 (idx_some hx28).2 rfl rfl (fun p29 es30 ha31 hr32 => ?_)
      cases hr32
      refine RW.load1 ttok rfl rfl rfl rfl rfl (At.ext hS25.ext ha31) 0 rfl rfl rfl rfl ?_
      have hS33 := hS25.bring 0 rfl
      by_cases hk34 : decide (0 ≤ s8.1 ∧ s8.1.toNat < s8.2.length) = true
      case neg => rw [if_neg hk34] at hb22; cases hb22
      rw [if_pos hk34] at hb22
      have hb35 := of_decide_eq_true hk34
      refine RW.idxOwn ttok hS33 rfl rfl rfl rfl rfl rfl rfl rfl hb35.1 hb35.2 rfl rfl (fun q36 hq37 => ?_)
      have hS38 := hS33.flat (T := tInt) (cs := [.int .i64 x27]) (x := x27) ⟨rfl, rfl⟩
      have hS39 := hS38.bring 1 rfl
      refine RW.storeEl ttok hS39 rfl rfl rfl rfl rfl rfl hb35.2 hq37 rfl rfl (fun w40 hS41 => ?_)
      refine RW.know (u := .slice A13 (s8.2.set s8.1.toNat x27).length k14) 3 rfl (by simp) ?_
      refine RW.know (u := .slice A13 (s8.2.set s8.1.toNat x27).length k14) 14 rfl (by simp) ?_
      refine RW.nil ?_
      refine WP.region ?_
      refine RW.run ttok 3 rfl ?_
      refine RW.nil ?_
      cases hb22
      exact ⟨_, [(0, .slice A0_ x0.length k0_), (3, .slice A13 (s8.2.set s8.1.toNat x27).length k14), (4, .int .i64 (w64 (s8.1 + 1)))], ⟨rfl, rfl, rfl, trivial⟩, rfl, A13, k14, ((hS41.bring 0 rfl).taken 1), rfl⟩
    · skip
      rw [if_neg (not_t hc)] at hb22
      refine WP.exit ?_
      cases hb22
      exact ⟨_, [(3, .slice A13 s8.2.length k14)], ⟨rfl, trivial⟩, A13, k14, ho23, ((hS25.bring 0 rfl).taken 1), rfl⟩

theorem enters159 : Enters Try.prog 159 := ⟨_, _, Try.func159, rfl, by kernel_rfl⟩
def m_laws_toDequeActor (fuel : Nat) (x0 : D.DequeActor) : Option (D.DequeActor) := ((m_laws_toInt64S fuel x0.Todo).bind fun r17 => some (⟨r17, x0.Pc, x0.T, x0.B, x0.X⟩ : D.DequeActor))

set_option maxRecDepth 100000 in
theorem laws_toDequeActor_ok {w : World} {c0_ : List Value} {x0 : D.DequeActor} (h0_ : ty246.ro w c0_ x0) {fuel : Nat} {r : D.DequeActor} (hm : m_laws_toDequeActor fuel x0 = some r) :
    Calls Try.prog 159 ⟨[.agg ⟨c0_⟩]⟩ w (Ret fun v w8 => ∃ A0 k0, v = .agg ⟨[.slice A0 r.Todo.length k0, .int .i64 r.Pc, .int .i64 r.T, .int .i64 r.B, .int .i64 r.X]⟩ ∧ St w w8 [Own ty72 [.slice A0 r.Todo.length k0] r.Todo]) := by
  obtain ⟨A1, k2, e4, h3⟩ := ty246_open h0_; subst e4
  refine Calls.into Try.func159 rfl 21 rfl rfl _ rfl ?_
  unfold m_laws_toDequeActor at hm
  have hS := St.start w
  refine WP.seq ?_
  refine WP.region ?_
  refine RW.new ttok hS rfl rfl rfl rfl (fun g5 w6 e7 hS8 => ?_)
  refine RW.new ttok hS8 rfl rfl rfl rfl (fun g9 w10 e11 hS12 => ?_)
  refine RW.nil ?_
  refine WP.seq ?_
  refine WP.region ?_
  refine RW.new ttok hS12 rfl rfl rfl rfl (fun g13 w14 e15 hS16 => ?_)
  refine RW.nil ?_
  refine WP.seq ?_
  refine WP.region ?_
  refine RW.run ttok 1 rfl ?_
  refine RW.load1 ttok rfl rfl rfl rfl rfl ((hS16.bring 2 rfl).box) 0 rfl rfl rfl rfl ?_
  obtain ⟨r17, hx18, hm⟩ := bind_some hm
  refine RW.call rfl rfl rfl enters89 (laws_toInt64S_ok (ty72.ext hS16.ext h3) hx18) (fun v19 w20 hR21 => ?_)
  obtain ⟨A22, k23, rfl, hR24⟩ := hR21
  have hS25 := hS16.join hR24
  refine RW.run ttok 1 rfl ?_
  have hS26 := hS25.bring 1 rfl
  refine RW.store ttok (A := []) hS26 rfl rfl rfl rfl rfl 0 rfl rfl rfl rfl rfl (fun w27 hS28 => ?_)
  refine RW.nil ?_
  refine WP.seq ?_
  refine WP.region ?_
  refine RW.run ttok 1 rfl ?_
  refine RW.load1 ttok rfl rfl rfl rfl rfl ((hS28.bring 3 rfl).box) 1 rfl rfl rfl rfl ?_
  refine RW.run ttok 1 rfl ?_
  have hS29 := hS28.bring 0 rfl
  refine RW.store ttok (A := []) hS29 rfl rfl rfl rfl rfl 1 rfl rfl rfl rfl rfl (fun w30 hS31 => ?_)
  refine RW.nil ?_
  refine WP.seq ?_
  refine WP.region ?_
  refine RW.run ttok 1 rfl ?_
  refine RW.load1 ttok rfl rfl rfl rfl rfl ((hS31.bring 3 rfl).box) 2 rfl rfl rfl rfl ?_
  refine RW.run ttok 1 rfl ?_
  have hS32 := hS31.bring 0 rfl
  refine RW.store ttok (A := []) hS32 rfl rfl rfl rfl rfl 2 rfl rfl rfl rfl rfl (fun w33 hS34 => ?_)
  refine RW.nil ?_
  refine WP.seq ?_
  refine WP.region ?_
  refine RW.run ttok 1 rfl ?_
  refine RW.load1 ttok rfl rfl rfl rfl rfl ((hS34.bring 3 rfl).box) 3 rfl rfl rfl rfl ?_
  refine RW.run ttok 1 rfl ?_
  have hS35 := hS34.bring 0 rfl
  refine RW.store ttok (A := []) hS35 rfl rfl rfl rfl rfl 3 rfl rfl rfl rfl rfl (fun w36 hS37 => ?_)
  refine RW.nil ?_
  refine WP.seq ?_
  refine WP.region ?_
  refine RW.run ttok 1 rfl ?_
  refine RW.load1 ttok rfl rfl rfl rfl rfl ((hS37.bring 3 rfl).box) 4 rfl rfl rfl rfl ?_
  refine RW.run ttok 1 rfl ?_
  have hS38 := hS37.bring 0 rfl
  refine RW.store ttok (A := []) hS38 rfl rfl rfl rfl rfl 4 rfl rfl rfl rfl rfl (fun w39 hS40 => ?_)
  refine RW.nil ?_
  refine WP.seq ?_
  refine WP.region ?_
  refine RW.loadN ttok rfl rfl rfl rfl rfl ((hS40.bring 0 rfl).box) rfl rfl rfl ?_
  have hS41 := hS40.bring 2 rfl
  refine RW.store ttok (A := []) hS41 rfl rfl rfl rfl rfl 0 rfl rfl rfl rfl rfl (fun w42 hS43 => ?_)
  refine RW.nil ?_
  refine WP.ret ?_
  cases hm
  exact ⟨_, .cons (ResIs.agg ttok rfl rfl rfl ((hS43.bring 0 rfl).box) rfl) .nil, A22, k23, rfl, ((hS43.bring 2 rfl).taken 1)⟩

theorem enters109 : Enters Try.prog 109 := ⟨_, _, Try.func109, rfl, by kernel_rfl⟩
def m_laws_toDequeActorS_j1 (fuel : Nat) (t9 : (List D.DequeActor)) : Option (List D.DequeActor) := some t9
def m_laws_toDequeActorS_b1 (fuel : Nat) (x0 : (List D.DequeActor)) (s8 : Int × (List D.DequeActor)) : Option (Rd (Int × (List D.DequeActor)) ((List D.DequeActor)) ((List D.DequeActor))) := (if (decide (s8.1 < (x0.length : Int))) = true then ((idx x0 s8.1).bind fun x27 => ((m_laws_toDequeActor fuel x27).bind fun r37 => (if decide (0 ≤ s8.1 ∧ s8.1.toNat < s8.2.length) = true then some (.next (w64 (s8.1 + 1), (s8.2.set s8.1.toNat r37))) else none))) else some (.brk s8.2))
def m_laws_toDequeActorS (fuel : Nat) (x0 : (List D.DequeActor)) : Option ((List D.DequeActor)) := (if decide (0 ≤ (x0.length : Int) ∧ (x0.length : Int) ≤ 4294967296) = true then ((iter (m_laws_toDequeActorS_b1 fuel x0) fuel (0, (List.replicate (x0.length : Int).toNat (⟨([] : (List Int)), (0 : Int), (0 : Int), (0 : Int), (0 : Int)⟩ : D.DequeActor)))).bind fun o => aft o (m_laws_toDequeActorS_j1 fuel)) else none)

set_option maxRecDepth 100000 in
theorem laws_toDequeActorS_ok {w : World} {A0_ : Option Addr} {k0_ : Nat} {x0 : (List D.DequeActor)} (h0_ : ty103.ro w [.slice A0_ x0.length k0_] x0) {fuel : Nat} {r : (List D.DequeActor)} (hm : m_laws_toDequeActorS fuel x0 = some r) :
    Calls Try.prog 109 ⟨[.slice A0_ x0.length k0_]⟩ w (Ret fun v w8 => ∃ A0 k0, v = .slice A0 r.length k0 ∧ St w w8 [Own ty109 [.slice A0 r.length k0] r]) := by
  refine Calls.into Try.func109 rfl 23 rfl rfl _ rfl ?_
  unfold m_laws_toDequeActorS at hm
  have hS := St.start w
  refine WP.seq ?_
  refine WP.region ?_
  refine RW.run ttok 1 rfl ?_
  refine RW.nil ?_
  refine WP.seq ?_
  refine WP.region ?_
  refine RW.run ttok 2 rfl ?_
  by_cases hk1 : decide (0 ≤ (x0.length : Int) ∧ (x0.length : Int) ≤ 4294967296) = true
  case neg => rw [if_neg hk1] at hm; cases hm
  rw [if_pos hk1] at hm
  have hz7 := of_decide_eq_true hk1
  refine RW.make (U := ty191) ttok (⟨([] : (List Int)), (0 : Int), (0 : Int), (0 : Int), (0 : Int)⟩ : D.DequeActor) hS rfl rfl rfl rfl rfl rfl rfl rfl hz7.1 (by have := hz7.2; show _ * (56 : Int) ≤ _; omega) (by have := hz7.2; simp only [maxLen]; omega) (fun _ => (ty191_ownI (c := (⟨([] : (List Int)), (0 : Int), (0 : Int), (0 : Int), (0 : Int)⟩ : D.DequeActor)) ⟨[], [], rfl, (slNilOwn tInt 2 _), rfl⟩)) rfl rfl (fun A2 k3 w4 e5 hS6 => ?_)
  refine RW.run ttok 1 rfl ?_
  refine RW.nil ?_
  refine WP.seq ?_
  refine WP.seq ?_
  refine WP.region ?_
  refine RW.run ttok 1 rfl ?_
  refine RW.nil ?_
  obtain ⟨o18, hl19, hm⟩ := bind_some hm
  refine WP.cut (fun (t9 : (List D.DequeActor)) F w9 => ∃ A15 k16, o18 = .inl t9 ∧ St w w9 [Own ty109 [.slice A15 t9.length k16] t9] ∧ F = [(3, .slice A15 t9.length k16)]) ?_ ?_
  · skip
    rintro t9 F w17 ⟨A15, k16, ho21, hS20, rfl⟩
    subst ho21
    rw [aft_inl] at hm
    unfold m_laws_toDequeActorS_j1 at hm
    refine WP.seq ?_
    refine WP.region ?_
    refine RW.run ttok 2 rfl ?_
    refine RW.nil ?_
    refine WP.ret ?_
    cases hm
    exact ⟨_, .cons (.tmp rfl) .nil, A15, k16, rfl, ((hS20.bring 0 rfl).taken 1)⟩
  · skip
    refine WP.block ?_
    refine WP.weak [(0, .slice A0_ x0.length k0_), (3, .slice A2 (List.replicate (x0.length : Int).toNat (⟨([] : (List Int)), (0 : Int), (0 : Int), (0 : Int), (0 : Int)⟩ : D.DequeActor)).length k3), (4, .int .i64 0)] ⟨rfl, rfl, rfl, trivial⟩ ?_
    refine WP.iter (fun (s8 : Int × (List D.DequeActor)) F w9 => ∃ A13 k14, St w w9 [Own ty109 [.slice A13 s8.2.length k14] s8.2] ∧ F = [(0, .slice A0_ x0.length k0_), (3, .slice A13 s8.2.length k14), (4, .int .i64 s8.1)]) _ hl19 ⟨A2, k3, ((hS6.bring 0 rfl).taken 1), rfl⟩ ?_
    rintro s8 F w26 _ o24 ⟨A13, k14, hS25, rfl⟩ hb22 ho23
    unfold m_laws_toDequeActorS_b1 at hb22
    refine WP.seq ?_
    refine WP.seq ?_
    refine WP.region ?_
    refine RW.run ttok 4 rfl ?_
    refine RW.nil ?_
    refine WP.cond (decide (s8.1 < (x0.length : Int))) rfl (fun hc => ?_) (fun hc => ?_)
    · skip
      rw [if_pos hc] at hb22
      refine WP.skip ?_
      refine WP.seq ?_
      refine WP.block ?_
      refine WP.region ?_
      refine RW.run ttok 4 rfl ?_
      obtain ⟨x27, hx28, hb22⟩ := bind_some hb22
      refine RW.idx ttok hS25.ext rfl rfl rfl rfl rfl rfl (by decide) rfl rfl h0_ (idx_some hx28).1 (idx_some hx28).2 rfl rfl (fun p29 es30 ha31 hr32 => ?_)
      obtain ⟨A33, k34, e36, h35⟩ := ty246_open hr32; subst e36
      refine RW.loadN ttok rfl rfl rfl rfl rfl (At.ext hS25.ext ha31) rfl rfl rfl ?_
      obtain ⟨r37, hx38, hb22⟩ := bind_some hb22
      refine RW.call rfl rfl rfl enters159 (laws_toDequeActor_ok (ty246.ext hS25.ext hr32) hx38) (fun v39 w40 hR41 => ?_)
      obtain ⟨A42, k43, rfl, hR44⟩ := hR41
      have hS45 := hS25.join hR44
      have hS46 := hS45.bring 1 rfl
      by_cases hk47 : decide (0 ≤ s8.1 ∧ s8.1.toNat < s8.2.length) = true
      case neg => rw [if_neg hk47] at hb22; cases hb22
      rw [if_pos hk47] at hb22
      have hb48 := of_decide_eq_true hk47
      refine RW.idxOwn ttok hS46 rfl rfl rfl rfl rfl rfl rfl rfl hb48.1 hb48.2 rfl rfl (fun q49 hq50 => ?_)
      have hS51 := hS46.bring 1 rfl
      have hS52 := ty191_shutS (c := r37) (B := _) hS51
      have hS53 := hS52.bring 1 rfl
      refine RW.storeEl ttok hS53 rfl rfl rfl rfl rfl rfl hb48.2 hq50 rfl rfl (fun w54 hS55 => ?_)
      refine RW.know (u := .slice A13 (s8.2.set s8.1.toNat r37).length k14) 3 rfl (by simp) ?_
      refine RW.know (u := .slice A13 (s8.2.set s8.1.toNat r37).length k14) 14 rfl (by simp) ?_
      refine RW.nil ?_
      refine WP.region ?_
      refine RW.run ttok 3 rfl ?_
      refine RW.nil ?_
      cases hb22
      exact ⟨_, [(0, .slice A0_ x0.length k0_), (3, .slice A13 (s8.2.set s8.1.toNat r37).length k14), (4, .int .i64 (w64 (s8.1 + 1)))], ⟨rfl, rfl, rfl, trivial⟩, rfl, A13, k14, ((hS55.bring 0 rfl).taken 1), rfl⟩
    · skip
      rw [if_neg (not_t hc)] at hb22
      refine WP.exit ?_
      cases hb22
      exact ⟨_, [(3, .slice A13 s8.2.length k14)], ⟨rfl, trivial⟩, A13, k14, ho23, ((hS25.bring 0 rfl).taken 1), rfl⟩

theorem enters160 : Enters Try.prog 160 := ⟨_, _, Try.func160, rfl, by kernel_rfl⟩
def m_laws_toHanded (fuel : Nat) (x0 : D.Handed) : Option (D.Handed) := some (⟨x0.Actor, x0.Value⟩ : D.Handed)

set_option maxRecDepth 100000 in
theorem laws_toHanded_ok {w : World} {c0_ : List Value} {x0 : D.Handed} (h0_ : ty252.ro w c0_ x0) {fuel : Nat} {r : D.Handed} (hm : m_laws_toHanded fuel x0 = some r) :
    Calls Try.prog 160 ⟨[.agg ⟨c0_⟩]⟩ w (Ret fun v w8 => v = .agg ⟨[.int .i64 r.Actor, .int .i64 r.Value]⟩ ∧ St w w8 []) := by
  have e1 := ty252_open h0_; subst e1
  refine Calls.into Try.func160 rfl 11 rfl rfl _ rfl ?_
  unfold m_laws_toHanded at hm
  have hS := St.start w
  refine WP.seq ?_
  refine WP.region ?_
  refine RW.new ttok hS rfl rfl rfl rfl (fun g2 w3 e4 hS5 => ?_)
  refine RW.new ttok hS5 rfl rfl rfl rfl (fun g6 w7 e8 hS9 => ?_)
  refine RW.nil ?_
  refine WP.seq ?_
  refine WP.region ?_
  refine RW.new ttok hS9 rfl rfl rfl rfl (fun g10 w11 e12 hS13 => ?_)
  refine RW.nil ?_
  refine WP.seq ?_
  refine WP.region ?_
  refine RW.run ttok 1 rfl ?_
  refine RW.load1 ttok rfl rfl rfl rfl rfl ((hS13.bring 2 rfl).box) 0 rfl rfl rfl rfl ?_
  refine RW.run ttok 1 rfl ?_
  have hS14 := hS13.bring 0 rfl
  refine RW.store ttok (A := []) hS14 rfl rfl rfl rfl rfl 0 rfl rfl rfl rfl rfl (fun w15 hS16 => ?_)
  refine RW.nil ?_
  refine WP.seq ?_
  refine WP.region ?_
  refine RW.run ttok 1 rfl ?_
  refine RW.load1 ttok rfl rfl rfl rfl rfl ((hS16.bring 2 rfl).box) 1 rfl rfl rfl rfl ?_
  refine RW.run ttok 1 rfl ?_
  have hS17 := hS16.bring 0 rfl
  refine RW.store ttok (A := []) hS17 rfl rfl rfl rfl rfl 1 rfl rfl rfl rfl rfl (fun w18 hS19 => ?_)
  refine RW.nil ?_
  refine WP.seq ?_
  refine WP.region ?_
  refine RW.loadN ttok rfl rfl rfl rfl rfl ((hS19.bring 0 rfl).box) rfl rfl rfl ?_
  have hS20 := hS19.bring 1 rfl
  refine RW.store ttok (A := []) hS20 rfl rfl rfl rfl rfl 0 rfl rfl rfl rfl rfl (fun w21 hS22 => ?_)
  refine RW.nil ?_
  refine WP.ret ?_
  cases hm
  exact ⟨_, .cons (ResIs.agg ttok rfl rfl rfl ((hS22.bring 0 rfl).box) rfl) .nil, rfl, (hS22.taken 0)⟩

theorem enters110 : Enters Try.prog 110 := ⟨_, _, Try.func110, rfl, by kernel_rfl⟩
def m_laws_toHandedS_j1 (fuel : Nat) (t9 : (List D.Handed)) : Option (List D.Handed) := some t9
def m_laws_toHandedS_b1 (fuel : Nat) (x0 : (List D.Handed)) (s8 : Int × (List D.Handed)) : Option (Rd (Int × (List D.Handed)) ((List D.Handed)) ((List D.Handed))) := (if (decide (s8.1 < (x0.length : Int))) = true then ((idx x0 s8.1).bind fun x27 => ((m_laws_toHanded fuel x27).bind fun r34 => (if decide (0 ≤ s8.1 ∧ s8.1.toNat < s8.2.length) = true then some (.next (w64 (s8.1 + 1), (s8.2.set s8.1.toNat r34))) else none))) else some (.brk s8.2))
def m_laws_toHandedS (fuel : Nat) (x0 : (List D.Handed)) : Option ((List D.Handed)) := (if decide (0 ≤ (x0.length : Int) ∧ (x0.length : Int) ≤ 4294967296) = true then ((iter (m_laws_toHandedS_b1 fuel x0) fuel (0, (List.replicate (x0.length : Int).toNat (⟨(0 : Int), (0 : Int)⟩ : D.Handed)))).bind fun o => aft o (m_laws_toHandedS_j1 fuel)) else none)

set_option maxRecDepth 100000 in
theorem laws_toHandedS_ok {w : World} {A0_ : Option Addr} {k0_ : Nat} {x0 : (List D.Handed)} (h0_ : ty104.ro w [.slice A0_ x0.length k0_] x0) {fuel : Nat} {r : (List D.Handed)} (hm : m_laws_toHandedS fuel x0 = some r) :
    Calls Try.prog 110 ⟨[.slice A0_ x0.length k0_]⟩ w (Ret fun v w8 => ∃ A0 k0, v = .slice A0 r.length k0 ∧ St w w8 [Own ty110 [.slice A0 r.length k0] r]) := by
  refine Calls.into Try.func110 rfl 23 rfl rfl _ rfl ?_
  unfold m_laws_toHandedS at hm
  have hS := St.start w
  refine WP.seq ?_
  refine WP.region ?_
  refine RW.run ttok 1 rfl ?_
  refine RW.nil ?_
  refine WP.seq ?_
  refine WP.region ?_
  refine RW.run ttok 2 rfl ?_
  by_cases hk1 : decide (0 ≤ (x0.length : Int) ∧ (x0.length : Int) ≤ 4294967296) = true
  case neg => rw [if_neg hk1] at hm; cases hm
  rw [if_pos hk1] at hm
  have hz7 := of_decide_eq_true hk1
  refine RW.make (U := ty196) ttok (⟨(0 : Int), (0 : Int)⟩ : D.Handed) hS rfl rfl rfl rfl rfl rfl rfl rfl hz7.1 (by have := hz7.2; show _ * (16 : Int) ≤ _; omega) (by have := hz7.2; simp only [maxLen]; omega) (fun _ => (ty196_ownI (c := (⟨(0 : Int), (0 : Int)⟩ : D.Handed)) rfl)) rfl rfl (fun A2 k3 w4 e5 hS6 => ?_)
  refine RW.run ttok 1 rfl ?_
  refine RW.nil ?_
  refine WP.seq ?_
  refine WP.seq ?_
  refine WP.region ?_
  refine RW.run ttok 1 rfl ?_
  refine RW.nil ?_
  obtain ⟨o18, hl19, hm⟩ := bind_some hm
  refine WP.cut (fun (t9 : (List D.Handed)) F w9 => ∃ A15 k16, o18 = .inl t9 ∧ St w w9 [Own ty110 [.slice A15 t9.length k16] t9] ∧ F = [(3, .slice A15 t9.length k16)]) ?_ ?_
  · skip
    rintro t9 F w17 ⟨A15, k16, ho21, hS20, rfl⟩
    subst ho21
    rw [aft_inl] at hm
    unfold m_laws_toHandedS_j1 at hm
    refine WP.seq ?_
    refine WP.region ?_
    refine RW.run ttok 2 rfl ?_
    refine RW.nil ?_
    refine WP.ret ?_
    cases hm
    exact ⟨_, .cons (.tmp rfl) .nil, A15, k16, rfl, ((hS20.bring 0 rfl).taken 1)⟩
  · skip
    refine WP.block ?_
    refine WP.weak [(0, .slice A0_ x0.length k0_), (3, .slice A2 (List.replicate (x0.length : Int).toNat (⟨(0 : Int), (0 : Int)⟩ : D.Handed)).length k3), (4, .int .i64 0)] ⟨rfl, rfl, rfl, trivial⟩ ?_
    refine WP.iter (fun (s8 : Int × (List D.Handed)) F w9 => ∃ A13 k14, St w w9 [Own ty110 [.slice A13 s8.2.length k14] s8.2] ∧ F = [(0, .slice A0_ x0.length k0_), (3, .slice A13 s8.2.length k14), (4, .int .i64 s8.1)]) _ hl19 ⟨A2, k3, ((hS6.bring 0 rfl).taken 1), rfl⟩ ?_
    rintro s8 F w26 _ o24 ⟨A13, k14, hS25, rfl⟩ hb22 ho23
    unfold m_laws_toHandedS_b1 at hb22
    refine WP.seq ?_
    refine WP.seq ?_
    refine WP.region ?_
    refine RW.run ttok 4 rfl ?_
    refine RW.nil ?_
    refine WP.cond (decide (s8.1 < (x0.length : Int))) rfl (fun hc => ?_) (fun hc => ?_)
    · skip
      rw [if_pos hc] at hb22
      refine WP.skip ?_
      refine WP.seq ?_
      refine WP.block ?_
      refine WP.region ?_
      refine RW.run ttok 4 rfl ?_
      obtain ⟨x27, hx28, hb22⟩ := bind_some hb22
      refine RW.idx ttok hS25.ext rfl rfl rfl rfl rfl rfl (by decide) rfl rfl h0_ (idx_some hx28).1 (idx_some hx28).2 rfl rfl (fun p29 es30 ha31 hr32 => ?_)
      have e33 := ty252_open hr32; subst e33
      refine RW.loadN ttok rfl rfl rfl rfl rfl (At.ext hS25.ext ha31) rfl rfl rfl ?_
      obtain ⟨r34, hx35, hb22⟩ := bind_some hb22
      refine RW.call rfl rfl rfl enters160 (laws_toHanded_ok (ty252.ext hS25.ext hr32) hx35) (fun v36 w37 hR38 => ?_)
      obtain ⟨rfl, hR39⟩ := hR38
      have hS40 := hS25.join hR39
      have hS41 := hS40.bring 0 rfl
      by_cases hk42 : decide (0 ≤ s8.1 ∧ s8.1.toNat < s8.2.length) = true
      case neg => rw [if_neg hk42] at hb22; cases hb22
      rw [if_pos hk42] at hb22
      have hb43 := of_decide_eq_true hk42
      refine RW.idxOwn ttok hS41 rfl rfl rfl rfl rfl rfl rfl rfl hb43.1 hb43.2 rfl rfl (fun q44 hq45 => ?_)
      have hS46 := ty196_shutS (c := r34) (B := _) hS41
      have hS47 := hS46.bring 1 rfl
      refine RW.storeEl ttok hS47 rfl rfl rfl rfl rfl rfl hb43.2 hq45 rfl rfl (fun w48 hS49 => ?_)
      refine RW.know (u := .slice A13 (s8.2.set s8.1.toNat r34).length k14) 3 rfl (by simp) ?_
      refine RW.know (u := .slice A13 (s8.2.set s8.1.toNat r34).length k14) 14 rfl (by simp) ?_
      refine RW.nil ?_
      refine WP.region ?_
      refine RW.run ttok 3 rfl ?_
      refine RW.nil ?_
      cases hb22
      exact ⟨_, [(0, .slice A0_ x0.length k0_), (3, .slice A13 (s8.2.set s8.1.toNat r34).length k14), (4, .int .i64 (w64 (s8.1 + 1)))], ⟨rfl, rfl, rfl, trivial⟩, rfl, A13, k14, ((hS49.bring 0 rfl).taken 1), rfl⟩
    · skip
      rw [if_neg (not_t hc)] at hb22
      refine WP.exit ?_
      cases hb22
      exact ⟨_, [(3, .slice A13 s8.2.length k14)], ⟨rfl, trivial⟩, A13, k14, ho23, ((hS25.bring 0 rfl).taken 1), rfl⟩

theorem enters43 : Enters Try.prog 43 := ⟨_, _, Try.func43, rfl, by kernel_rfl⟩
def m_laws_toDeque (fuel : Nat) (x0 : D.Deque) : Option (D.Deque) := ((m_laws_toInt64S fuel x0.Buffer).bind fun r32 => ((m_laws_toDequeActorS fuel x0.Actors).bind fun r44 => ((m_laws_toHandedS fuel x0.Taken).bind fun r56 => ((m_laws_toInt64S fuel x0.Refused).bind fun r68 => some (⟨x0.Top, x0.Bottom, r32, r44, r56, r68⟩ : D.Deque)))))

set_option maxRecDepth 100000 in
theorem laws_toDeque_ok {w : World} {c0_ : List Value} {x0 : D.Deque} (h0_ : ty106.ro w c0_ x0) {fuel : Nat} {r : D.Deque} (hm : m_laws_toDeque fuel x0 = some r) :
    Calls Try.prog 43 ⟨[.agg ⟨c0_⟩]⟩ w (Ret fun v w8 => ∃ A0 k0 A1 k1 A2 k2 A3 k3, v = .agg ⟨[.int .i64 r.Top, .int .i64 r.Bottom, .slice A0 r.Buffer.length k0, .slice A1 r.Actors.length k1, .slice A2 r.Taken.length k2, .slice A3 r.Refused.length k3]⟩ ∧ St w w8 [Own ty72 [.slice A0 r.Buffer.length k0] r.Buffer, Own ty109 [.slice A1 r.Actors.length k1] r.Actors, Own ty110 [.slice A2 r.Taken.length k2] r.Taken, Own ty72 [.slice A3 r.Refused.length k3] r.Refused]) := by
  obtain ⟨A1, k2, A4, k5, A7, k8, A10, k11, e13, h3, h6, h9, h12⟩ := ty106_open h0_; subst e13
  refine Calls.into Try.func43 rfl 27 rfl rfl _ rfl ?_
  unfold m_laws_toDeque at hm
  have hS := St.start w
  refine WP.seq ?_
  refine WP.region ?_
  refine RW.new ttok hS rfl rfl rfl rfl (fun g14 w15 e16 hS17 => ?_)
  refine RW.new ttok hS17 rfl rfl rfl rfl (fun g18 w19 e20 hS21 => ?_)
  refine RW.nil ?_
  refine WP.seq ?_
  refine WP.region ?_
  refine RW.new ttok hS21 rfl rfl rfl rfl (fun g22 w23 e24 hS25 => ?_)
  refine RW.nil ?_
  refine WP.seq ?_
  refine WP.region ?_
  refine RW.run ttok 1 rfl ?_
  refine RW.load1 ttok rfl rfl rfl rfl rfl ((hS25.bring 2 rfl).box) 0 rfl rfl rfl rfl ?_
  refine RW.run ttok 1 rfl ?_
  have hS26 := hS25.bring 0 rfl
  refine RW.store ttok (A := []) hS26 rfl rfl rfl rfl rfl 0 rfl rfl rfl rfl rfl (fun w27 hS28 => ?_)
  refine RW.nil ?_
  refine WP.seq ?_
  refine WP.region ?_
  refine RW.run ttok 1 rfl ?_
  refine RW.load1 ttok rfl rfl rfl rfl rfl ((hS28.bring 2 rfl).box) 1 rfl rfl rfl rfl ?_
  refine RW.run ttok 1 rfl ?_
  have hS29 := hS28.bring 0 rfl
  refine RW.store ttok (A := []) hS29 rfl rfl rfl rfl rfl 1 rfl rfl rfl rfl rfl (fun w30 hS31 => ?_)
  refine RW.nil ?_
  refine WP.seq ?_
  refine WP.region ?_
  refine RW.run ttok 1 rfl ?_
  refine RW.load1 ttok rfl rfl rfl rfl rfl ((hS31.bring 2 rfl).box) 2 rfl rfl rfl rfl ?_
  obtain ⟨r32, hx33, hm⟩ := bind_some hm
  refine RW.call rfl rfl rfl enters89 (laws_toInt64S_ok (ty72.ext hS31.ext h3) hx33) (fun v34 w35 hR36 => ?_)
  obtain ⟨A37, k38, rfl, hR39⟩ := hR36
  have hS40 := hS31.join hR39
  refine RW.run ttok 1 rfl ?_
  have hS41 := hS40.bring 1 rfl
  refine RW.store ttok (A := []) hS41 rfl rfl rfl rfl rfl 2 rfl rfl rfl rfl rfl (fun w42 hS43 => ?_)
  refine RW.nil ?_
  refine WP.seq ?_
  refine WP.region ?_
  refine RW.run ttok 1 rfl ?_
  refine RW.load1 ttok rfl rfl rfl rfl rfl ((hS43.bring 3 rfl).box) 3 rfl rfl rfl rfl ?_
  obtain ⟨r44, hx45, hm⟩ := bind_some hm
  refine RW.call rfl rfl rfl enters109 (laws_toDequeActorS_ok (ty103.ext hS43.ext h6) hx45) (fun v46 w47 hR48 => ?_)
  obtain ⟨A49, k50, rfl, hR51⟩ := hR48
  have hS52 := hS43.join hR51
  refine RW.run ttok 1 rfl ?_
  have hS53 := hS52.bring 1 rfl
  refine RW.store ttok (A := []) hS53 rfl rfl rfl rfl rfl 3 rfl rfl rfl rfl rfl (fun w54 hS55 => ?_)
  refine RW.nil ?_
  refine WP.seq ?_
  refine WP.region ?_
  refine RW.run ttok 1 rfl ?_
  refine RW.load1 ttok rfl rfl rfl rfl rfl ((hS55.bring 4 rfl).box) 4 rfl rfl rfl rfl ?_
  obtain ⟨r56, hx57, hm⟩ := bind_some hm
  refine RW.call rfl rfl rfl enters110 (laws_toHandedS_ok (ty104.ext hS55.ext h9) hx57) (fun v58 w59 hR60 => ?_)
  obtain ⟨A61, k62, rfl, hR63⟩ := hR60
  have hS64 := hS55.join hR63
  refine RW.run ttok 1 rfl ?_
  have hS65 := hS64.bring 1 rfl
  refine RW.store ttok (A := []) hS65 rfl rfl rfl rfl rfl 4 rfl rfl rfl rfl rfl (fun w66 hS67 => ?_)
  refine RW.nil ?_
  refine WP.seq ?_
  refine WP.region ?_
  refine RW.run ttok 1 rfl ?_
  refine RW.load1 ttok rfl rfl rfl rfl rfl ((hS67.bring 5 rfl).box) 5 rfl rfl rfl rfl ?_
  obtain ⟨r68, hx69, hm⟩ := bind_some hm
  refine RW.call rfl rfl rfl enters89 (laws_toInt64S_ok (ty72.ext hS67.ext h12) hx69) (fun v70 w71 hR72 => ?_)
  obtain ⟨A73, k74, rfl, hR75⟩ := hR72
  have hS76 := hS67.join hR75
  refine RW.run ttok 1 rfl ?_
  have hS77 := hS76.bring 1 rfl
  refine RW.store ttok (A := []) hS77 rfl rfl rfl rfl rfl 5 rfl rfl rfl rfl rfl (fun w78 hS79 => ?_)
  refine RW.nil ?_
  refine WP.seq ?_
  refine WP.region ?_
  refine RW.loadN ttok rfl rfl rfl rfl rfl ((hS79.bring 0 rfl).box) rfl rfl rfl ?_
  have hS80 := hS79.bring 5 rfl
  refine RW.store ttok (A := []) hS80 rfl rfl rfl rfl rfl 0 rfl rfl rfl rfl rfl (fun w81 hS82 => ?_)
  refine RW.nil ?_
  refine WP.ret ?_
  cases hm
  exact ⟨_, .cons (ResIs.agg ttok rfl rfl rfl ((hS82.bring 0 rfl).box) rfl) .nil, A37, k38, A49, k50, A61, k62, A73, k74, rfl, (((((hS82.bring 2 rfl).bring 3 rfl).bring 4 rfl).bring 5 rfl).taken 4)⟩

theorem enters155 : Enters Try.prog 155 := ⟨_, _, Try.func155, rfl, by kernel_rfl⟩
def m_spec_l00In (fuel : Nat) (x0 : Int) (x1 : Int) (x2 : Int) : Option (Bool) := (if (decide (x0 ≥ x1)) = true then some (decide (x0 ≤ x2)) else some false)

set_option maxRecDepth 100000 in
theorem spec_l00In_ok {w : World} {x0 : Int} {x1 : Int} {x2 : Int}  {fuel : Nat} {r : Bool} (hm : m_spec_l00In fuel x0 x1 x2 = some r) :
    Calls Try.prog 155 ⟨[.int .i64 x0, .int .i64 x1, .int .i64 x2]⟩ w (Ret fun v w8 => v = .bool r ∧ St w w8 []) := by
  refine Calls.into Try.func155 rfl 15 rfl rfl _ rfl ?_
  unfold m_spec_l00In at hm
  have hS := St.start w
  refine WP.seq ?_
  refine WP.region ?_
  refine RW.run ttok 1 rfl ?_
  refine RW.nil ?_
  refine WP.seq ?_
  refine WP.region ?_
  refine RW.run ttok 4 rfl ?_
  by_cases hg1 : (decide (x0 ≥ x1)) = true
  · skip
    rw [if_pos hg1] at hm
    refine RW.know 10 rfl (congrArg Value.bool hg1) ?_
    refine RW.run ttok 5 rfl ?_
    refine RW.nil ?_
    refine WP.ret ?_
    cases hm
    exact ⟨_, .cons (.tmp rfl) .nil, rfl, (hS.taken 0)⟩
  · skip
    rw [if_neg hg1] at hm
    refine RW.know 10 rfl (congrArg Value.bool (Bool.eq_false_iff.2 hg1)) ?_
    refine RW.run ttok 5 rfl ?_
    refine RW.nil ?_
    refine WP.ret ?_
    cases hm
    exact ⟨_, .cons (.tmp rfl) .nil, rfl, (hS.taken 0)⟩

theorem enters156 : Enters Try.prog 156 := ⟨_, _, Try.func156, rfl, by kernel_rfl⟩
def m_spec_l23Task (fuel : Nat) (x0 : Int) : Option (Bool) := ((m_spec_l00In fuel x0 1 1000).bind fun r1 => some r1)

set_option maxRecDepth 100000 in
theorem spec_l23Task_ok {w : World} {x0 : Int}  {fuel : Nat} {r : Bool} (hm : m_spec_l23Task fuel x0 = some r) :
    Calls Try.prog 156 ⟨[.int .i64 x0]⟩ w (Ret fun v w8 => v = .bool r ∧ St w w8 []) := by
  refine Calls.into Try.func156 rfl 5 rfl rfl _ rfl ?_
  unfold m_spec_l23Task at hm
  have hS := St.start w
  refine WP.seq ?_
  refine WP.region ?_
  refine RW.run ttok 1 rfl ?_
  refine RW.nil ?_
  refine WP.seq ?_
  refine WP.region ?_
  refine RW.run ttok 1 rfl ?_
  obtain ⟨r1, hx2, hm⟩ := bind_some hm
  refine RW.call rfl rfl rfl enters155 (spec_l00In_ok  hx2) (fun v3 w4 hR5 => ?_)
  obtain ⟨rfl, hR6⟩ := hR5
  have hS7 := hS.join hR6
  refine RW.run ttok 1 rfl ?_
  refine RW.nil ?_
  refine WP.ret ?_
  cases hm
  exact ⟨_, .cons (.tmp rfl) .nil, rfl, (hS7.taken 0)⟩

theorem enters157 : Enters Try.prog 157 := ⟨_, _, Try.func157, rfl, by kernel_rfl⟩
def m_spec_l23Actor_j4 (fuel : Nat) (x0 : D.DequeActor) (x1 : Bool) (t21 : Bool) (t26 : Bool) : Option Bool := (if t26 = true then some t21 else ((idx x0.Todo 0).bind fun x31 => (if (x31 != 0) = true then (if (decide (x0.Pc < 3)) = true then some (decide (x0.B ≥ 0)) else some false) else (if x1 = true then some true else some (decide (x0.B ≥ 0))))))
def m_spec_l23Actor_j3 (fuel : Nat) (x0 : D.DequeActor) (x1 : Bool) (t21 : Bool) : Option Bool := (if (x0.Pc == 0) = true then m_spec_l23Actor_j4 fuel x0 x1 t21 true else m_spec_l23Actor_j4 fuel x0 x1 t21 ((x0.Todo.length : Int) == 0))
def m_spec_l23Actor_j2 (fuel : Nat) (x0 : D.DequeActor) (x1 : Bool) (t11 : Unit) : Option Bool := (if (x0.Pc == 0) = true then (if (x0.T == 0) = true then (if (x0.B == 0) = true then m_spec_l23Actor_j3 fuel x0 x1 (x0.X == 0) else m_spec_l23Actor_j3 fuel x0 x1 false) else m_spec_l23Actor_j3 fuel x0 x1 false) else m_spec_l23Actor_j3 fuel x0 x1 false)
def m_spec_l23Actor_j5 (fuel : Nat) (s10 : Int) (t48 : Bool) : Option (Rd (Int) (Unit) (Bool)) := (if t48 = true then some (.ret false) else some (.next (w64 (s10 + 1))))
def m_spec_l23Actor_b1 (fuel : Nat) (x0 : D.DequeActor) (x1 : Bool) (s10 : Int) : Option (Rd (Int) (Unit) (Bool)) := (if (decide (s10 < (x0.Todo.length : Int))) = true then ((idx x0.Todo s10).bind fun x53 => (if (x53 != 0) = true then (if (!x1) = true then m_spec_l23Actor_j5 fuel s10 true else ((idx x0.Todo s10).bind fun x61 => ((m_spec_l23Task fuel x61).bind fun r67 => m_spec_l23Actor_j5 fuel s10 (!r67)))) else m_spec_l23Actor_j5 fuel s10 false)) else some (.brk ()))
def m_spec_l23Actor_j1 (fuel : Nat) (x0 : D.DequeActor) (x1 : Bool) (t5 : Bool) : Option Bool := (if t5 = true then some false else ((iter (m_spec_l23Actor_b1 fuel x0 x1) fuel 0).bind fun o => aft o (m_spec_l23Actor_j2 fuel x0 x1)))
def m_spec_l23Actor (fuel : Nat) (x0 : D.DequeActor) (x1 : Bool) : Option (Bool) := (if (decide ((x0.Todo.length : Int) > 10)) = true then m_spec_l23Actor_j1 fuel x0 x1 true else ((m_spec_l00In fuel x0.Pc 0 3).bind fun r75 => (if (!r75) = true then m_spec_l23Actor_j1 fuel x0 x1 true else ((m_spec_l00In fuel x0.T 0 1000).bind fun r83 => (if (!r83) = true then m_spec_l23Actor_j1 fuel x0 x1 true else ((m_spec_l00In fuel x0.B (-1) 1000).bind fun r91 => (if (!r91) = true then m_spec_l23Actor_j1 fuel x0 x1 true else ((m_spec_l00In fuel x0.X 0 1000).bind fun r99 => m_spec_l23Actor_j1 fuel x0 x1 (!r99)))))))))

set_option maxRecDepth 100000 in
theorem spec_l23Actor_ok {w : World} {p0_ : Addr} {c0_ : List Value} {x0 : D.DequeActor} {x1 : Bool} (h0_ : ty191.ro w c0_ x0) (g0_ : At w p0_ c0_) {fuel : Nat} {r : Bool} (hm : m_spec_l23Actor fuel x0 x1 = some r) :
    Calls Try.prog 157 ⟨[.pointer (some p0_), .bool x1]⟩ w (Ret fun v w8 => v = .bool r ∧ St w w8 []) := by
  obtain ⟨A1, k2, e4, h3⟩ := ty191_open h0_; subst e4
  refine Calls.into Try.func157 rfl 144 rfl rfl _ rfl ?_
  unfold m_spec_l23Actor at hm
  have hS := St.start w
  refine WP.seq ?_
  refine WP.region ?_
  refine RW.run ttok 1 rfl ?_
  refine RW.nil ?_
  refine WP.seq ?_
  refine WP.seq ?_
  refine WP.cut (fun (t5 : Bool) F w9 => m_spec_l23Actor_j1 fuel x0 x1 t5 = some r ∧ Ext w w9 ∧ St w w9 [] ∧ F = [(0, .pointer (some p0_)), (1, .bool x1), (44, .bool t5)]) ?_ ?_
  · skip
    rintro t5 F w8 ⟨hm, hE6, hS7, rfl⟩
    unfold m_spec_l23Actor_j1 at hm
    refine WP.cond t5 rfl (fun hc => ?_) (fun hc => ?_)
    · skip
      rw [if_pos hc] at hm
      refine WP.seq ?_
      refine WP.region ?_
      refine RW.run ttok 1 rfl ?_
      refine RW.nil ?_
      refine WP.ret ?_
      cases hm
      exact ⟨_, .cons (.tmp rfl) .nil, rfl, (hS7.taken 0)⟩
    · skip
      rw [if_neg (not_t hc)] at hm
      refine WP.skip ?_
      refine WP.seq ?_
      refine WP.seq ?_
      refine WP.region ?_
      refine RW.run ttok 1 rfl ?_
      refine RW.nil ?_
      obtain ⟨o17, hl18, hm⟩ := bind_some hm
      refine WP.cut (fun (t11 : Unit) F w9 => o17 = .inl t11 ∧ Ext w8 w9 ∧ St w w9 [] ∧ F = [(0, .pointer (some p0_)), (1, .bool x1)]) ?_ ?_
      · skip
        rintro t11 F w16 ⟨ho20, hE15, hS19, rfl⟩
        subst ho20
        rw [aft_inl] at hm
        unfold m_spec_l23Actor_j2 at hm
        refine WP.seq ?_
        refine WP.cut (fun (t21 : Bool) F w9 => m_spec_l23Actor_j3 fuel x0 x1 t21 = some r ∧ Ext w16 w9 ∧ St w w9 [] ∧ F = [(0, .pointer (some p0_)), (1, .bool x1), (6, .bool t21)]) ?_ ?_
        · skip
          rintro t21 F w24 ⟨hm, hE22, hS23, rfl⟩
          unfold m_spec_l23Actor_j3 at hm
          refine WP.seq ?_
          refine WP.seq ?_
          refine WP.cut (fun (t26 : Bool) F w9 => m_spec_l23Actor_j4 fuel x0 x1 t21 t26 = some r ∧ Ext w24 w9 ∧ St w w9 [] ∧ F = [(0, .pointer (some p0_)), (1, .bool x1), (6, .bool t21), (115, .bool t26)]) ?_ ?_
          · skip
            rintro t26 F w29 ⟨hm, hE27, hS28, rfl⟩
            unfold m_spec_l23Actor_j4 at hm
            refine WP.cond t26 rfl (fun hc => ?_) (fun hc => ?_)
            · skip
              rw [if_pos hc] at hm
              refine WP.seq ?_
              refine WP.region ?_
              refine RW.run ttok 2 rfl ?_
              refine RW.nil ?_
              refine WP.ret ?_
              cases hm
              exact ⟨_, .cons (.tmp rfl) .nil, rfl, (hS28.taken 0)⟩
            · skip
              rw [if_neg (not_t hc)] at hm
              refine WP.skip ?_
              refine WP.seq ?_
              refine WP.seq ?_
              refine WP.region ?_
              refine RW.run ttok 3 rfl ?_
              refine RW.load1 ttok rfl rfl rfl rfl rfl (At.ext hS28.ext g0_) 0 rfl rfl rfl rfl ?_
              obtain ⟨x31, hx32, hm⟩ := bind_some hm
              refine RW.idx ttok hS28.ext rfl rfl rfl rfl rfl rfl (by decide) rfl rfl h3 (idx_some hx32).1 (idx_some hx32).2 rfl rfl (fun p33 es34 ha35 hr36 => ?_)
              cases hr36
              refine RW.load1 ttok rfl rfl rfl rfl rfl (At.ext hS28.ext ha35) 0 rfl rfl rfl rfl ?_
              refine RW.run ttok 1 rfl ?_
              refine RW.nil ?_
              refine WP.cond (x31 != 0) rfl (fun hc => ?_) (fun hc => ?_)
              · skip
                rw [if_pos hc] at hm
                refine WP.seq ?_
                refine WP.region ?_
                refine RW.run ttok 3 rfl ?_
                refine RW.load1 ttok rfl rfl rfl rfl rfl (At.ext hS28.ext g0_) 1 rfl rfl rfl rfl ?_
                refine RW.run ttok 2 rfl ?_
                by_cases hg37 : (decide (x0.Pc < 3)) = true
                · skip
                  rw [if_pos hg37] at hm
                  refine RW.know 129 rfl (congrArg Value.bool hg37) ?_
                  refine RW.run ttok 3 rfl ?_
                  refine RW.load1 ttok rfl rfl rfl rfl rfl (At.ext hS28.ext g0_) 3 rfl rfl rfl rfl ?_
                  refine RW.run ttok 3 rfl ?_
                  refine RW.nil ?_
                  refine WP.ret ?_
                  cases hm
                  exact ⟨_, .cons (.tmp rfl) .nil, rfl, (hS28.taken 0)⟩
                · skip
                  rw [if_neg hg37] at hm
                  refine RW.know 129 rfl (congrArg Value.bool (Bool.eq_false_iff.2 hg37)) ?_
                  refine RW.run ttok 7 rfl ?_
                  refine RW.nil ?_
                  refine WP.ret ?_
                  cases hm
                  exact ⟨_, .cons (.tmp rfl) .nil, rfl, (hS28.taken 0)⟩
              · skip
                rw [if_neg (not_t hc)] at hm
                refine WP.skip ?_
                refine WP.seq ?_
                refine WP.region ?_
                refine RW.run ttok 2 rfl ?_
                by_cases hg38 : x1 = true
                · skip
                  rw [if_pos hg38] at hm
                  refine RW.know 137 rfl (congrArg Value.bool hg38) ?_
                  refine RW.run ttok 7 rfl ?_
                  refine RW.nil ?_
                  refine WP.ret ?_
                  cases hm
                  exact ⟨_, .cons (.tmp rfl) .nil, rfl, (hS28.taken 0)⟩
                · skip
                  rw [if_neg hg38] at hm
                  refine RW.know 137 rfl (congrArg Value.bool (Bool.eq_false_iff.2 hg38)) ?_
                  refine RW.run ttok 3 rfl ?_
                  refine RW.load1 ttok rfl rfl rfl rfl rfl (At.ext hS28.ext g0_) 3 rfl rfl rfl rfl ?_
                  refine RW.run ttok 3 rfl ?_
                  refine RW.nil ?_
                  refine WP.ret ?_
                  cases hm
                  exact ⟨_, .cons (.tmp rfl) .nil, rfl, (hS28.taken 0)⟩
          · skip
            refine WP.region ?_
            refine RW.run ttok 3 rfl ?_
            refine RW.load1 ttok rfl rfl rfl rfl rfl (At.ext hS23.ext g0_) 1 rfl rfl rfl rfl ?_
            refine RW.run ttok 2 rfl ?_
            by_cases hg39 : (x0.Pc == 0) = true
            · skip
              rw [if_pos hg39] at hm
              refine RW.know 108 rfl (congrArg Value.bool hg39) ?_
              refine RW.run ttok 7 rfl ?_
              refine RW.nil ?_
              exact ⟨true, [(0, .pointer (some p0_)), (1, .bool x1), (6, .bool t21), (115, .bool true)], ⟨rfl, rfl, rfl, rfl, trivial⟩, hm, (Ext.refl _), (hS23.taken 0), rfl⟩
            · skip
              rw [if_neg hg39] at hm
              refine RW.know 108 rfl (congrArg Value.bool (Bool.eq_false_iff.2 hg39)) ?_
              refine RW.run ttok 3 rfl ?_
              refine RW.load1 ttok rfl rfl rfl rfl rfl (At.ext hS23.ext g0_) 0 rfl rfl rfl rfl ?_
              refine RW.run ttok 3 rfl ?_
              refine RW.nil ?_
              exact ⟨((x0.Todo.length : Int) == 0), [(0, .pointer (some p0_)), (1, .bool x1), (6, .bool t21), (115, .bool ((x0.Todo.length : Int) == 0))], ⟨rfl, rfl, rfl, rfl, trivial⟩, hm, (Ext.refl _), (hS23.taken 0), rfl⟩
        · skip
          refine WP.region ?_
          refine RW.run ttok 3 rfl ?_
          refine RW.load1 ttok rfl rfl rfl rfl rfl (At.ext hS19.ext g0_) 1 rfl rfl rfl rfl ?_
          refine RW.run ttok 2 rfl ?_
          by_cases hg40 : (x0.Pc == 0) = true
          · skip
            rw [if_pos hg40] at hm
            refine RW.know 82 rfl (congrArg Value.bool hg40) ?_
            refine RW.run ttok 3 rfl ?_
            refine RW.load1 ttok rfl rfl rfl rfl rfl (At.ext hS19.ext g0_) 2 rfl rfl rfl rfl ?_
            refine RW.run ttok 3 rfl ?_
            by_cases hg41 : (x0.T == 0) = true
            · skip
              rw [if_pos hg41] at hm
              refine RW.know 89 rfl (congrArg Value.bool hg41) ?_
              refine RW.run ttok 3 rfl ?_
              refine RW.load1 ttok rfl rfl rfl rfl rfl (At.ext hS19.ext g0_) 3 rfl rfl rfl rfl ?_
              refine RW.run ttok 3 rfl ?_
              by_cases hg42 : (x0.B == 0) = true
              · skip
                rw [if_pos hg42] at hm
                refine RW.know 96 rfl (congrArg Value.bool hg42) ?_
                refine RW.run ttok 3 rfl ?_
                refine RW.load1 ttok rfl rfl rfl rfl rfl (At.ext hS19.ext g0_) 4 rfl rfl rfl rfl ?_
                refine RW.run ttok 3 rfl ?_
                refine RW.nil ?_
                exact ⟨(x0.X == 0), [(0, .pointer (some p0_)), (1, .bool x1), (6, .bool (x0.X == 0))], ⟨rfl, rfl, rfl, trivial⟩, hm, (Ext.refl _), (hS19.taken 0), rfl⟩
              · skip
                rw [if_neg hg42] at hm
                refine RW.know 96 rfl (congrArg Value.bool (Bool.eq_false_iff.2 hg42)) ?_
                refine RW.run ttok 7 rfl ?_
                refine RW.nil ?_
                exact ⟨false, [(0, .pointer (some p0_)), (1, .bool x1), (6, .bool false)], ⟨rfl, rfl, rfl, trivial⟩, hm, (Ext.refl _), (hS19.taken 0), rfl⟩
            · skip
              rw [if_neg hg41] at hm
              refine RW.know 89 rfl (congrArg Value.bool (Bool.eq_false_iff.2 hg41)) ?_
              refine RW.run ttok 14 rfl ?_
              refine RW.nil ?_
              exact ⟨false, [(0, .pointer (some p0_)), (1, .bool x1), (6, .bool false)], ⟨rfl, rfl, rfl, trivial⟩, hm, (Ext.refl _), (hS19.taken 0), rfl⟩
          · skip
            rw [if_neg hg40] at hm
            refine RW.know 82 rfl (congrArg Value.bool (Bool.eq_false_iff.2 hg40)) ?_
            refine RW.run ttok 21 rfl ?_
            refine RW.nil ?_
            exact ⟨false, [(0, .pointer (some p0_)), (1, .bool x1), (6, .bool false)], ⟨rfl, rfl, rfl, trivial⟩, hm, (Ext.refl _), (hS19.taken 0), rfl⟩
      · skip
        refine WP.block ?_
        refine WP.weak [(0, .pointer (some p0_)), (1, .bool x1), (5, .int .i64 0)] ⟨rfl, rfl, rfl, trivial⟩ ?_
        refine WP.iter (fun (s10 : Int) F w9 => Ext w8 w9 ∧ St w w9 [] ∧ F = [(0, .pointer (some p0_)), (1, .bool x1), (5, .int .i64 s10)]) _ hl18 ⟨(Ext.refl _), (hS7.taken 0), rfl⟩ ?_
        rintro s10 F w47 _ o45 ⟨hE14, hS46, rfl⟩ hb43 ho44
        unfold m_spec_l23Actor_b1 at hb43
        refine WP.seq ?_
        refine WP.seq ?_
        refine WP.region ?_
        refine RW.run ttok 4 rfl ?_
        refine RW.load1 ttok rfl rfl rfl rfl rfl (At.ext hS46.ext g0_) 0 rfl rfl rfl rfl ?_
        refine RW.run ttok 2 rfl ?_
        refine RW.nil ?_
        refine WP.cond (decide (s10 < (x0.Todo.length : Int))) rfl (fun hc => ?_) (fun hc => ?_)
        · skip
          rw [if_pos hc] at hb43
          refine WP.skip ?_
          refine WP.seq ?_
          refine WP.block ?_
          refine WP.seq ?_
          refine WP.cut (fun (t48 : Bool) F w9 => m_spec_l23Actor_j5 fuel s10 t48 = some o45 ∧ Ext w47 w9 ∧ St w w9 [] ∧ F = [(0, .pointer (some p0_)), (1, .bool x1), (5, .int .i64 s10), (76, .bool t48)]) ?_ ?_
          · skip
            rintro t48 F w51 ⟨hb43, hE49, hS50, rfl⟩
            unfold m_spec_l23Actor_j5 at hb43
            refine WP.cond t48 rfl (fun hc => ?_) (fun hc => ?_)
            · skip
              rw [if_pos hc] at hb43
              refine WP.seq ?_
              refine WP.region ?_
              refine RW.run ttok 1 rfl ?_
              refine RW.nil ?_
              refine WP.ret ?_
              cases hb43
              cases ho44
              have hm : some _ = some _ := hm
              cases hm
              exact ⟨_, .cons (.tmp rfl) .nil, rfl, (hS50.taken 0)⟩
            · skip
              rw [if_neg (not_t hc)] at hb43
              refine WP.skip ?_
              refine WP.region ?_
              refine RW.run ttok 3 rfl ?_
              refine RW.nil ?_
              cases hb43
              exact ⟨_, [(0, .pointer (some p0_)), (1, .bool x1), (5, .int .i64 (w64 (s10 + 1)))], ⟨rfl, rfl, rfl, trivial⟩, rfl, (hE14.trans hE49), (hS50.taken 0), rfl⟩
          · skip
            refine WP.region ?_
            refine RW.run ttok 3 rfl ?_
            refine RW.load1 ttok rfl rfl rfl rfl rfl (At.ext hS46.ext g0_) 0 rfl rfl rfl rfl ?_
            refine RW.run ttok 1 rfl ?_
            obtain ⟨x53, hx54, hb43⟩ := bind_some hb43
            refine RW.idx ttok hS46.ext rfl rfl rfl rfl rfl rfl (by decide) rfl rfl h3 (idx_some hx54).1 (idx_some hx54).2 rfl rfl (fun p55 es56 ha57 hr58 => ?_)
            cases hr58
            refine RW.load1 ttok rfl rfl rfl rfl rfl (At.ext hS46.ext ha57) 0 rfl rfl rfl rfl ?_
            refine RW.run ttok 2 rfl ?_
            by_cases hg59 : (x53 != 0) = true
            · skip
              rw [if_pos hg59] at hb43
              refine RW.know 62 rfl (congrArg Value.bool hg59) ?_
              refine RW.run ttok 3 rfl ?_
              by_cases hg60 : (!x1) = true
              · skip
                rw [if_pos hg60] at hb43
                refine RW.know 65 rfl (congrArg Value.bool hg60) ?_
                refine RW.run ttok 11 rfl ?_
                refine RW.nil ?_
                exact ⟨true, [(0, .pointer (some p0_)), (1, .bool x1), (5, .int .i64 s10), (76, .bool true)], ⟨rfl, rfl, rfl, rfl, trivial⟩, hb43, (Ext.refl _), (hS46.taken 0), rfl⟩
              · skip
                rw [if_neg hg60] at hb43
                refine RW.know 65 rfl (congrArg Value.bool (Bool.eq_false_iff.2 hg60)) ?_
                refine RW.run ttok 3 rfl ?_
                refine RW.load1 ttok rfl rfl rfl rfl rfl (At.ext hS46.ext g0_) 0 rfl rfl rfl rfl ?_
                refine RW.run ttok 1 rfl ?_
                obtain ⟨x61, hx62, hb43⟩ := bind_some hb43
                refine RW.idx ttok hS46.ext rfl rfl rfl rfl rfl rfl (by decide) rfl rfl h3 (idx_some hx62).1 (idx_some hx62).2 rfl rfl (fun p63 es64 ha65 hr66 => ?_)
                cases hr66
                refine RW.load1 ttok rfl rfl rfl rfl rfl (At.ext hS46.ext ha65) 0 rfl rfl rfl rfl ?_
                obtain ⟨r67, hx68, hb43⟩ := bind_some hb43
                refine RW.call rfl rfl rfl enters156 (spec_l23Task_ok  hx68) (fun v69 w70 hR71 => ?_)
                obtain ⟨rfl, hR72⟩ := hR71
                have hS73 := hS46.join hR72
                refine RW.run ttok 3 rfl ?_
                refine RW.nil ?_
                exact ⟨!r67, [(0, .pointer (some p0_)), (1, .bool x1), (5, .int .i64 s10), (76, .bool (!r67))], ⟨rfl, rfl, rfl, rfl, trivial⟩, hb43, hR72.ext, (hS73.taken 0), rfl⟩
            · skip
              rw [if_neg hg59] at hb43
              refine RW.know 62 rfl (congrArg Value.bool (Bool.eq_false_iff.2 hg59)) ?_
              refine RW.run ttok 14 rfl ?_
              refine RW.nil ?_
              exact ⟨false, [(0, .pointer (some p0_)), (1, .bool x1), (5, .int .i64 s10), (76, .bool false)], ⟨rfl, rfl, rfl, rfl, trivial⟩, hb43, (Ext.refl _), (hS46.taken 0), rfl⟩
        · skip
          rw [if_neg (not_t hc)] at hb43
          refine WP.exit ?_
          cases hb43
          exact ⟨_, [(0, .pointer (some p0_)), (1, .bool x1)], ⟨rfl, rfl, trivial⟩, ho44, hE14, (hS46.taken 0), rfl⟩
  · skip
    refine WP.region ?_
    refine RW.run ttok 3 rfl ?_
    refine RW.load1 ttok rfl rfl rfl rfl rfl (At.ext hS.ext g0_) 0 rfl rfl rfl rfl ?_
    refine RW.run ttok 3 rfl ?_
    by_cases hg74 : (decide ((x0.Todo.length : Int) > 10)) = true
    · skip
      rw [if_pos hg74] at hm
      refine RW.know 13 rfl (congrArg Value.bool hg74) ?_
      refine RW.run ttok 31 rfl ?_
      refine RW.nil ?_
      exact ⟨true, [(0, .pointer (some p0_)), (1, .bool x1), (44, .bool true)], ⟨rfl, rfl, rfl, trivial⟩, hm, (Ext.refl _), (hS.taken 0), rfl⟩
    · skip
      rw [if_neg hg74] at hm
      refine RW.know 13 rfl (congrArg Value.bool (Bool.eq_false_iff.2 hg74)) ?_
      refine RW.run ttok 3 rfl ?_
      refine RW.load1 ttok rfl rfl rfl rfl rfl (At.ext hS.ext g0_) 1 rfl rfl rfl rfl ?_
      obtain ⟨r75, hx76, hm⟩ := bind_some hm
      refine RW.call rfl rfl rfl enters155 (spec_l00In_ok  hx76) (fun v77 w78 hR79 => ?_)
      obtain ⟨rfl, hR80⟩ := hR79
      have hS81 := hS.join hR80
      refine RW.run ttok 3 rfl ?_
      by_cases hg82 : (!r75) = true
      · skip
        rw [if_pos hg82] at hm
        refine RW.know 21 rfl (congrArg Value.bool hg82) ?_
        refine RW.run ttok 23 rfl ?_
        refine RW.nil ?_
        exact ⟨true, [(0, .pointer (some p0_)), (1, .bool x1), (44, .bool true)], ⟨rfl, rfl, rfl, trivial⟩, hm, hR80.ext, (hS81.taken 0), rfl⟩
      · skip
        rw [if_neg hg82] at hm
        refine RW.know 21 rfl (congrArg Value.bool (Bool.eq_false_iff.2 hg82)) ?_
        refine RW.run ttok 3 rfl ?_
        refine RW.load1 ttok rfl rfl rfl rfl rfl (At.ext hS81.ext g0_) 2 rfl rfl rfl rfl ?_
        obtain ⟨r83, hx84, hm⟩ := bind_some hm
        refine RW.call rfl rfl rfl enters155 (spec_l00In_ok  hx84) (fun v85 w86 hR87 => ?_)
        obtain ⟨rfl, hR88⟩ := hR87
        have hS89 := hS81.join hR88
        refine RW.run ttok 3 rfl ?_
        by_cases hg90 : (!r83) = true
        · skip
          rw [if_pos hg90] at hm
          refine RW.know 29 rfl (congrArg Value.bool hg90) ?_
          refine RW.run ttok 15 rfl ?_
          refine RW.nil ?_
          exact ⟨true, [(0, .pointer (some p0_)), (1, .bool x1), (44, .bool true)], ⟨rfl, rfl, rfl, trivial⟩, hm, (hR80.ext.trans hR88.ext), (hS89.taken 0), rfl⟩
        · skip
          rw [if_neg hg90] at hm
          refine RW.know 29 rfl (congrArg Value.bool (Bool.eq_false_iff.2 hg90)) ?_
          refine RW.run ttok 3 rfl ?_
          refine RW.load1 ttok rfl rfl rfl rfl rfl (At.ext hS89.ext g0_) 3 rfl rfl rfl rfl ?_
          obtain ⟨r91, hx92, hm⟩ := bind_some hm
          refine RW.call rfl rfl rfl enters155 (spec_l00In_ok  hx92) (fun v93 w94 hR95 => ?_)
          obtain ⟨rfl, hR96⟩ := hR95
          have hS97 := hS89.join hR96
          refine RW.run ttok 3 rfl ?_
          by_cases hg98 : (!r91) = true
          · skip
            rw [if_pos hg98] at hm
            refine RW.know 37 rfl (congrArg Value.bool hg98) ?_
            refine RW.run ttok 7 rfl ?_
            refine RW.nil ?_
            exact ⟨true, [(0, .pointer (some p0_)), (1, .bool x1), (44, .bool true)], ⟨rfl, rfl, rfl, trivial⟩, hm, ((hR80.ext.trans hR88.ext).trans hR96.ext), (hS97.taken 0), rfl⟩
          · skip
            rw [if_neg hg98] at hm
            refine RW.know 37 rfl (congrArg Value.bool (Bool.eq_false_iff.2 hg98)) ?_
            refine RW.run ttok 3 rfl ?_
            refine RW.load1 ttok rfl rfl rfl rfl rfl (At.ext hS97.ext g0_) 4 rfl rfl rfl rfl ?_
            obtain ⟨r99, hx100, hm⟩ := bind_some hm
            refine RW.call rfl rfl rfl enters155 (spec_l00In_ok  hx100) (fun v101 w102 hR103 => ?_)
            obtain ⟨rfl, hR104⟩ := hR103
            have hS105 := hS97.join hR104
            refine RW.run ttok 2 rfl ?_
            refine RW.nil ?_
            exact ⟨!r99, [(0, .pointer (some p0_)), (1, .bool x1), (44, .bool (!r99))], ⟨rfl, rfl, rfl, trivial⟩, hm, (((hR80.ext.trans hR88.ext).trans hR96.ext).trans hR104.ext), (hS105.taken 0), rfl⟩

theorem enters158 : Enters Try.prog 158 := ⟨_, _, Try.func158, rfl, by kernel_rfl⟩
def m_spec_l23Room_j2 (fuel : Nat) (x0 : D.Deque) (t29 : Int) : Option Bool := ((m_spec_l00In fuel (w64 (x0.Bottom - x0.Top)) t29 (x0.Buffer.length : Int)).bind fun r36 => some r36)
def m_spec_l23Room_j1 (fuel : Nat) (x0 : D.Deque) (t24 : Bool) : Option Bool := (if t24 = true then m_spec_l23Room_j2 fuel x0 (-1) else m_spec_l23Room_j2 fuel x0 0)
def m_spec_l23Room (fuel : Nat) (x0 : D.Deque) : Option (Bool) := ((idx x0.Actors 0).bind fun x14 => (if (decide (x14.Pc > 0)) = true then ((idx x14.Todo 0).bind fun x44 => m_spec_l23Room_j1 fuel x0 (x44 == 0)) else m_spec_l23Room_j1 fuel x0 false))

set_option maxRecDepth 100000 in
theorem spec_l23Room_ok {w : World} {p0_ : Addr} {c0_ : List Value} {x0 : D.Deque} (h0_ : ty112.ro w c0_ x0) (g0_ : At w p0_ c0_) {fuel : Nat} {r : Bool} (hm : m_spec_l23Room fuel x0 = some r) :
    Calls Try.prog 158 ⟨[.pointer (some p0_)]⟩ w (Ret fun v w8 => v = .bool r ∧ St w w8 []) := by
  obtain ⟨A1, k2, A4, k5, A7, k8, A10, k11, e13, h3, h6, h9, h12⟩ := ty112_open h0_; subst e13
  refine Calls.into Try.func158 rfl 40 rfl rfl _ rfl ?_
  unfold m_spec_l23Room at hm
  have hS := St.start w
  refine WP.seq ?_
  refine WP.region ?_
  refine RW.run ttok 1 rfl ?_
  refine RW.nil ?_
  refine WP.seq ?_
  refine WP.region ?_
  refine RW.run ttok 3 rfl ?_
  refine RW.load1 ttok rfl rfl rfl rfl rfl (At.ext hS.ext g0_) 3 rfl rfl rfl rfl ?_
  obtain ⟨x14, hx15, hm⟩ := bind_some hm
  refine RW.idx ttok hS.ext rfl rfl rfl rfl rfl rfl (by decide) rfl rfl h6 (idx_some hx15).1 (idx_some hx15).2 rfl rfl (fun p16 es17 ha18 hr19 => ?_)
  obtain ⟨A20, k21, e23, h22⟩ := ty191_open hr19; subst e23
  refine RW.run ttok 1 rfl ?_
  refine RW.nil ?_
  refine WP.seq ?_
  refine WP.region ?_
  refine RW.run ttok 1 rfl ?_
  refine RW.nil ?_
  refine WP.seq ?_
  refine WP.seq ?_
  refine WP.cut (fun (t24 : Bool) F w9 => m_spec_l23Room_j1 fuel x0 t24 = some r ∧ Ext w w9 ∧ St w w9 [] ∧ F = [(0, .pointer (some p0_)), (4, .int .i64 0), (23, .bool t24)]) ?_ ?_
  · skip
    rintro t24 F w27 ⟨hm, hE25, hS26, rfl⟩
    unfold m_spec_l23Room_j1 at hm
    refine WP.cut (fun (t29 : Int) F w9 => m_spec_l23Room_j2 fuel x0 t29 = some r ∧ Ext w27 w9 ∧ St w w9 [] ∧ F = [(0, .pointer (some p0_)), (4, .int .i64 t29)]) ?_ ?_
    · skip
      rintro t29 F w32 ⟨hm, hE30, hS31, rfl⟩
      unfold m_spec_l23Room_j2 at hm
      refine WP.seq ?_
      refine WP.drawnM 0 mixed 17 (by kernel_rfl) (by kernel_rfl) [([], 131071), ([0], 131070), ([1], 131069), ([2], 131067), ([], 131071), ([4], 131055), ([5], 131039), ([6], 131007), ([3, 7], 130935), ([], 131071), ([], 131071), ([10], 130047), ([11], 129023), ([12], 126975), ([13], 122879), ([8, 9, 14], 113919), ([15, 15, 0, 1, 2, 3, 4, 5, 6, 7, 8, 9, 10, 11, 12, 13, 14, 15], 98303)] (by kernel_rfl) (fun hsk34 => ?_)
      have hS35 := hS31.step (Ext.draw _)
      refine DM.run (fuel := 7) ttok hsk34 [0, 1, 2, 4, 5, 6, 9, 10, 11, 12] 7799 (by kernel_rfl) (by kernel_rfl) rfl ?_
      refine DM.weak [(26, .pointer (some (p0_.add 1))), (30, .pointer (some p0_)), (33, .int .i64 t29), (36, .pointer (some (p0_.add 2)))] ⟨rfl, rfl, rfl, rfl, trivial⟩ ?_
      refine DM.load1 ttok hsk34 3 7807 (by kernel_rfl) (by kernel_rfl) (by kernel_rfl) (by kernel_rfl) rfl (by kernel_rfl) rfl rfl rfl rfl rfl (At.ext hS31.ext g0_) 1 rfl rfl rfl rfl ?_
      refine DM.load1 ttok hsk34 7 7935 (by kernel_rfl) (by kernel_rfl) (by kernel_rfl) (by kernel_rfl) rfl (by kernel_rfl) rfl rfl rfl rfl rfl (At.ext hS31.ext g0_) 0 rfl rfl rfl rfl ?_
      refine DM.run (fuel := 4) ttok hsk34 [8] 8191 (by kernel_rfl) (by kernel_rfl) rfl ?_
      refine DM.load1 ttok hsk34 13 16383 (by kernel_rfl) (by kernel_rfl) (by kernel_rfl) (by kernel_rfl) rfl (by kernel_rfl) rfl rfl rfl rfl rfl (At.ext hS31.ext g0_) 2 rfl rfl rfl rfl ?_
      refine DM.run (fuel := 2) ttok hsk34 [14] 32767 (by kernel_rfl) (by kernel_rfl) rfl ?_
      refine DM.weak [(32, .int .i64 (w64 (x0.Bottom - x0.Top))), (33, .int .i64 t29), (38, .int .i64 (x0.Buffer.length : Int))] ⟨rfl, rfl, rfl, trivial⟩ ?_
      obtain ⟨r36, hx37, hm⟩ := bind_some hm
      refine DM.one hsk34 15 (by kernel_rfl) (LM.call hsk34 65535 (by kernel_rfl) (by kernel_rfl) rfl rfl rfl rfl enters155 (spec_l00In_ok  hx37) (fun v38 w39 hR40 => ?_))
      obtain ⟨rfl, hR41⟩ := hR40
      refine ⟨hR41.ext, ?_⟩
      have hS42 := hS35.join hR41
      refine DM.run (fuel := 0) ttok hsk34 [16] 131071 (by kernel_rfl) (by kernel_rfl) rfl ?_
      refine DM.done hsk34 (by kernel_rfl) ?_
      refine WP.ret ?_
      cases hm
      exact ⟨_, .cons (.tmp rfl) .nil, rfl, (hS42.taken 0)⟩
    · skip
      refine WP.cond t24 rfl (fun hc => ?_) (fun hc => ?_)
      · skip
        rw [if_pos hc] at hm
        refine WP.region ?_
        refine RW.run ttok 1 rfl ?_
        refine RW.nil ?_
        exact ⟨(-1), [(0, .pointer (some p0_)), (4, .int .i64 (-1))], ⟨rfl, rfl, trivial⟩, hm, (Ext.refl _), (hS26.taken 0), rfl⟩
      · skip
        rw [if_neg (not_t hc)] at hm
        refine WP.skip ?_
        exact ⟨0, [(0, .pointer (some p0_)), (4, .int .i64 0)], ⟨rfl, rfl, trivial⟩, hm, (Ext.refl _), (hS26.taken 0), rfl⟩
  · skip
    refine WP.region ?_
    refine RW.run ttok 3 rfl ?_
    refine RW.load1 ttok rfl rfl rfl rfl rfl (At.ext hS.ext ha18) 1 rfl rfl rfl rfl ?_
    refine RW.run ttok 2 rfl ?_
    by_cases hg43 : (decide (x14.Pc > 0)) = true
    · skip
      rw [if_pos hg43] at hm
      refine RW.know 15 rfl (congrArg Value.bool hg43) ?_
      refine RW.run ttok 3 rfl ?_
      refine RW.load1 ttok rfl rfl rfl rfl rfl (At.ext hS.ext ha18) 0 rfl rfl rfl rfl ?_
      obtain ⟨x44, hx45, hm⟩ := bind_some hm
      refine RW.idx ttok hS.ext rfl rfl rfl rfl rfl rfl (by decide) rfl rfl h22 (idx_some hx45).1 (idx_some hx45).2 rfl rfl (fun p46 es47 ha48 hr49 => ?_)
      cases hr49
      refine RW.load1 ttok rfl rfl rfl rfl rfl (At.ext hS.ext ha48) 0 rfl rfl rfl rfl ?_
      refine RW.run ttok 2 rfl ?_
      refine RW.nil ?_
      exact ⟨(x44 == 0), [(0, .pointer (some p0_)), (4, .int .i64 0), (23, .bool (x44 == 0))], ⟨rfl, rfl, rfl, trivial⟩, hm, (Ext.refl _), (hS.taken 0), rfl⟩
    · skip
      rw [if_neg hg43] at hm
      refine RW.know 15 rfl (congrArg Value.bool (Bool.eq_false_iff.2 hg43)) ?_
      refine RW.run ttok 8 rfl ?_
      refine RW.nil ?_
      exact ⟨false, [(0, .pointer (some p0_)), (4, .int .i64 0), (23, .bool false)], ⟨rfl, rfl, rfl, trivial⟩, hm, (Ext.refl _), (hS.taken 0), rfl⟩

theorem enters108 : Enters Try.prog 108 := ⟨_, _, Try.func108, rfl, by kernel_rfl⟩
def m_spec_l23Ok_j5 (fuel : Nat) (x0 : D.Deque) (t53 : Unit) : Option Bool := ((m_spec_l23Room fuel x0).bind fun r63 => some r63)
def m_spec_l23Ok_b4 (fuel : Nat) (x0 : D.Deque) (s52 : Int) : Option (Rd (Int) (Unit) (Bool)) := (if (decide (s52 < (x0.Refused.length : Int))) = true then ((idx x0.Refused s52).bind fun x75 => ((m_spec_l23Task fuel x75).bind fun r81 => (if (!r81) = true then some (.ret false) else some (.next (w64 (s52 + 1)))))) else some (.brk ()))
def m_spec_l23Ok_j4 (fuel : Nat) (x0 : D.Deque) (t42 : Unit) : Option Bool := ((iter (m_spec_l23Ok_b4 fuel x0) fuel 0).bind fun o => aft o (m_spec_l23Ok_j5 fuel x0))
def m_spec_l23Ok_j6 (fuel : Nat) (s41 : Int) (t93 : Bool) : Option (Rd (Int) (Unit) (Bool)) := (if t93 = true then some (.ret false) else some (.next (w64 (s41 + 1))))
def m_spec_l23Ok_b3 (fuel : Nat) (x0 : D.Deque) (s41 : Int) : Option (Rd (Int) (Unit) (Bool)) := (if (decide (s41 < (x0.Taken.length : Int))) = true then ((idx x0.Taken s41).bind fun x100 => ((m_spec_l00In fuel x100.Actor 0 (w64 ((x0.Actors.length : Int) - 1))).bind fun r107 => (if (!r107) = true then m_spec_l23Ok_j6 fuel s41 true else ((idx x0.Taken s41).bind fun x115 => ((m_spec_l00In fuel x115.Value 0 1000).bind fun r122 => m_spec_l23Ok_j6 fuel s41 (!r122)))))) else some (.brk ()))
def m_spec_l23Ok_j3 (fuel : Nat) (x0 : D.Deque) (t31 : Unit) : Option Bool := ((iter (m_spec_l23Ok_b3 fuel x0) fuel 0).bind fun o => aft o (m_spec_l23Ok_j4 fuel x0))
def m_spec_l23Ok_b2 (fuel : Nat) (x0 : D.Deque) (s30 : Int) : Option (Rd (Int) (Unit) (Bool)) := (if (decide (s30 < (x0.Actors.length : Int))) = true then ((idx x0.Actors s30).bind fun x134 => ((m_spec_l23Actor fuel x134 (s30 == 0)).bind fun r144 => (if (!r144) = true then some (.ret false) else some (.next (w64 (s30 + 1)))))) else some (.brk ()))
def m_spec_l23Ok_j2 (fuel : Nat) (x0 : D.Deque) (t20 : Unit) : Option Bool := ((iter (m_spec_l23Ok_b2 fuel x0) fuel 0).bind fun o => aft o (m_spec_l23Ok_j3 fuel x0))
def m_spec_l23Ok_j7 (fuel : Nat) (s19 : Int) (t156 : Bool) : Option (Rd (Int) (Unit) (Bool)) := (if t156 = true then some (.ret false) else some (.next (w64 (s19 + 1))))
def m_spec_l23Ok_b1 (fuel : Nat) (x0 : D.Deque) (s19 : Int) : Option (Rd (Int) (Unit) (Bool)) := (if (decide (s19 < (x0.Buffer.length : Int))) = true then ((idx x0.Buffer s19).bind fun x161 => (if (x161 != 0) = true then ((idx x0.Buffer s19).bind fun x168 => ((m_spec_l23Task fuel x168).bind fun r174 => m_spec_l23Ok_j7 fuel s19 (!r174))) else m_spec_l23Ok_j7 fuel s19 false)) else some (.brk ()))
def m_spec_l23Ok_j1 (fuel : Nat) (x0 : D.Deque) (t14 : Bool) : Option Bool := (if t14 = true then some false else ((iter (m_spec_l23Ok_b1 fuel x0) fuel 0).bind fun o => aft o (m_spec_l23Ok_j2 fuel x0)))
def m_spec_l23Ok (fuel : Nat) (x0 : D.Deque) : Option (Bool) := ((m_spec_l00In fuel (x0.Buffer.length : Int) 1 8).bind fun r181 => (if (!r181) = true then m_spec_l23Ok_j1 fuel x0 true else ((m_spec_l00In fuel x0.Top 0 1000).bind fun r189 => (if (!r189) = true then m_spec_l23Ok_j1 fuel x0 true else ((m_spec_l00In fuel x0.Bottom (-1) 1000).bind fun r197 => (if (!r197) = true then m_spec_l23Ok_j1 fuel x0 true else ((m_spec_l00In fuel (x0.Actors.length : Int) 1 4).bind fun r205 => (if (!r205) = true then m_spec_l23Ok_j1 fuel x0 true else (if (decide ((x0.Taken.length : Int) > 1000)) = true then m_spec_l23Ok_j1 fuel x0 true else m_spec_l23Ok_j1 fuel x0 (decide ((x0.Refused.length : Int) > 1000)))))))))))

set_option maxRecDepth 100000 in
theorem spec_l23Ok_ok {w : World} {p0_ : Addr} {c0_ : List Value} {x0 : D.Deque} (h0_ : ty112.ro w c0_ x0) (g0_ : At w p0_ c0_) {fuel : Nat} {r : Bool} (hm : m_spec_l23Ok fuel x0 = some r) :
    Calls Try.prog 108 ⟨[.pointer (some p0_)]⟩ w (Ret fun v w8 => v = .bool r ∧ St w w8 []) := by
  obtain ⟨A1, k2, A4, k5, A7, k8, A10, k11, e13, h3, h6, h9, h12⟩ := ty112_open h0_; subst e13
  refine Calls.into Try.func108 rfl 161 rfl rfl _ rfl ?_
  unfold m_spec_l23Ok at hm
  have hS := St.start w
  refine WP.seq ?_
  refine WP.region ?_
  refine RW.run ttok 1 rfl ?_
  refine RW.nil ?_
  refine WP.seq ?_
  refine WP.region ?_
  refine RW.run ttok 3 rfl ?_
  refine RW.load1 ttok rfl rfl rfl rfl rfl (At.ext hS.ext g0_) 2 rfl rfl rfl rfl ?_
  refine RW.run ttok 2 rfl ?_
  refine RW.nil ?_
  refine WP.seq ?_
  refine WP.seq ?_
  refine WP.cut (fun (t14 : Bool) F w9 => m_spec_l23Ok_j1 fuel x0 t14 = some r ∧ Ext w w9 ∧ St w w9 [] ∧ F = [(0, .pointer (some p0_)), (56, .bool t14)]) ?_ ?_
  · skip
    rintro t14 F w17 ⟨hm, hE15, hS16, rfl⟩
    unfold m_spec_l23Ok_j1 at hm
    refine WP.cond t14 rfl (fun hc => ?_) (fun hc => ?_)
    · skip
      rw [if_pos hc] at hm
      refine WP.seq ?_
      refine WP.region ?_
      refine RW.run ttok 1 rfl ?_
      refine RW.nil ?_
      refine WP.ret ?_
      cases hm
      exact ⟨_, .cons (.tmp rfl) .nil, rfl, (hS16.taken 0)⟩
    · skip
      rw [if_neg (not_t hc)] at hm
      refine WP.skip ?_
      refine WP.seq ?_
      refine WP.seq ?_
      refine WP.region ?_
      refine RW.run ttok 1 rfl ?_
      refine RW.nil ?_
      obtain ⟨o26, hl27, hm⟩ := bind_some hm
      refine WP.cut (fun (t20 : Unit) F w9 => o26 = .inl t20 ∧ Ext w17 w9 ∧ St w w9 [] ∧ F = [(0, .pointer (some p0_))]) ?_ ?_
      · skip
        rintro t20 F w25 ⟨ho29, hE24, hS28, rfl⟩
        subst ho29
        rw [aft_inl] at hm
        unfold m_spec_l23Ok_j2 at hm
        refine WP.seq ?_
        refine WP.seq ?_
        refine WP.region ?_
        refine RW.run ttok 1 rfl ?_
        refine RW.nil ?_
        obtain ⟨o37, hl38, hm⟩ := bind_some hm
        refine WP.cut (fun (t31 : Unit) F w9 => o37 = .inl t31 ∧ Ext w25 w9 ∧ St w w9 [] ∧ F = [(0, .pointer (some p0_))]) ?_ ?_
        · skip
          rintro t31 F w36 ⟨ho40, hE35, hS39, rfl⟩
          subst ho40
          rw [aft_inl] at hm
          unfold m_spec_l23Ok_j3 at hm
          refine WP.seq ?_
          refine WP.seq ?_
          refine WP.region ?_
          refine RW.run ttok 1 rfl ?_
          refine RW.nil ?_
          obtain ⟨o48, hl49, hm⟩ := bind_some hm
          refine WP.cut (fun (t42 : Unit) F w9 => o48 = .inl t42 ∧ Ext w36 w9 ∧ St w w9 [] ∧ F = [(0, .pointer (some p0_))]) ?_ ?_
          · skip
            rintro t42 F w47 ⟨ho51, hE46, hS50, rfl⟩
            subst ho51
            rw [aft_inl] at hm
            unfold m_spec_l23Ok_j4 at hm
            refine WP.seq ?_
            refine WP.seq ?_
            refine WP.region ?_
            refine RW.run ttok 1 rfl ?_
            refine RW.nil ?_
            obtain ⟨o59, hl60, hm⟩ := bind_some hm
            refine WP.cut (fun (t53 : Unit) F w9 => o59 = .inl t53 ∧ Ext w47 w9 ∧ St w w9 [] ∧ F = [(0, .pointer (some p0_))]) ?_ ?_
            · skip
              rintro t53 F w58 ⟨ho62, hE57, hS61, rfl⟩
              subst ho62
              rw [aft_inl] at hm
              unfold m_spec_l23Ok_j5 at hm
              refine WP.seq ?_
              refine WP.region ?_
              refine RW.run ttok 1 rfl ?_
              obtain ⟨r63, hx64, hm⟩ := bind_some hm
              refine RW.call rfl rfl rfl enters158 (spec_l23Room_ok (ty112.ext hS61.ext h0_) (At.ext hS61.ext g0_) hx64) (fun v65 w66 hR67 => ?_)
              obtain ⟨rfl, hR68⟩ := hR67
              have hS69 := hS61.join hR68
              refine RW.run ttok 1 rfl ?_
              refine RW.nil ?_
              refine WP.ret ?_
              cases hm
              exact ⟨_, .cons (.tmp rfl) .nil, rfl, (hS69.taken 0)⟩
            · skip
              refine WP.block ?_
              refine WP.weak [(0, .pointer (some p0_)), (7, .int .i64 0)] ⟨rfl, rfl, trivial⟩ ?_
              refine WP.iter (fun (s52 : Int) F w9 => Ext w47 w9 ∧ St w w9 [] ∧ F = [(0, .pointer (some p0_)), (7, .int .i64 s52)]) _ hl60 ⟨(Ext.refl _), (hS50.taken 0), rfl⟩ ?_
              rintro s52 F w74 _ o72 ⟨hE56, hS73, rfl⟩ hb70 ho71
              unfold m_spec_l23Ok_b4 at hb70
              refine WP.seq ?_
              refine WP.seq ?_
              refine WP.region ?_
              refine RW.run ttok 4 rfl ?_
              refine RW.load1 ttok rfl rfl rfl rfl rfl (At.ext hS73.ext g0_) 5 rfl rfl rfl rfl ?_
              refine RW.run ttok 2 rfl ?_
              refine RW.nil ?_
              refine WP.cond (decide (s52 < (x0.Refused.length : Int))) rfl (fun hc => ?_) (fun hc => ?_)
              · skip
                rw [if_pos hc] at hb70
                refine WP.skip ?_
                refine WP.seq ?_
                refine WP.block ?_
                refine WP.seq ?_
                refine WP.region ?_
                refine RW.run ttok 3 rfl ?_
                refine RW.load1 ttok rfl rfl rfl rfl rfl (At.ext hS73.ext g0_) 5 rfl rfl rfl rfl ?_
                refine RW.run ttok 1 rfl ?_
                obtain ⟨x75, hx76, hb70⟩ := bind_some hb70
                refine RW.idx ttok hS73.ext rfl rfl rfl rfl rfl rfl (by decide) rfl rfl h12 (idx_some hx76).1 (idx_some hx76).2 rfl rfl (fun p77 es78 ha79 hr80 => ?_)
                cases hr80
                refine RW.load1 ttok rfl rfl rfl rfl rfl (At.ext hS73.ext ha79) 0 rfl rfl rfl rfl ?_
                obtain ⟨r81, hx82, hb70⟩ := bind_some hb70
                refine RW.call rfl rfl rfl enters156 (spec_l23Task_ok  hx82) (fun v83 w84 hR85 => ?_)
                obtain ⟨rfl, hR86⟩ := hR85
                have hS87 := hS73.join hR86
                refine RW.run ttok 1 rfl ?_
                refine RW.nil ?_
                refine WP.cond (!r81) rfl (fun hc => ?_) (fun hc => ?_)
                · skip
                  rw [if_pos hc] at hb70
                  refine WP.seq ?_
                  refine WP.region ?_
                  refine RW.run ttok 1 rfl ?_
                  refine RW.nil ?_
                  refine WP.ret ?_
                  cases hb70
                  cases ho71
                  have hm : some _ = some _ := hm
                  cases hm
                  exact ⟨_, .cons (.tmp rfl) .nil, rfl, (hS87.taken 0)⟩
                · skip
                  rw [if_neg (not_t hc)] at hb70
                  refine WP.skip ?_
                  refine WP.region ?_
                  refine RW.run ttok 3 rfl ?_
                  refine RW.nil ?_
                  cases hb70
                  exact ⟨_, [(0, .pointer (some p0_)), (7, .int .i64 (w64 (s52 + 1)))], ⟨rfl, rfl, trivial⟩, rfl, (hE56.trans hR86.ext), (hS87.taken 0), rfl⟩
              · skip
                rw [if_neg (not_t hc)] at hb70
                refine WP.exit ?_
                cases hb70
                exact ⟨_, [(0, .pointer (some p0_))], ⟨rfl, trivial⟩, ho71, hE56, (hS73.taken 0), rfl⟩
          · skip
            refine WP.block ?_
            refine WP.weak [(0, .pointer (some p0_)), (6, .int .i64 0)] ⟨rfl, rfl, trivial⟩ ?_
            refine WP.iter (fun (s41 : Int) F w9 => Ext w36 w9 ∧ St w w9 [] ∧ F = [(0, .pointer (some p0_)), (6, .int .i64 s41)]) _ hl49 ⟨(Ext.refl _), (hS39.taken 0), rfl⟩ ?_
            rintro s41 F w92 _ o90 ⟨hE45, hS91, rfl⟩ hb88 ho89
            unfold m_spec_l23Ok_b3 at hb88
            refine WP.seq ?_
            refine WP.seq ?_
            refine WP.region ?_
            refine RW.run ttok 4 rfl ?_
            refine RW.load1 ttok rfl rfl rfl rfl rfl (At.ext hS91.ext g0_) 4 rfl rfl rfl rfl ?_
            refine RW.run ttok 2 rfl ?_
            refine RW.nil ?_
            refine WP.cond (decide (s41 < (x0.Taken.length : Int))) rfl (fun hc => ?_) (fun hc => ?_)
            · skip
              rw [if_pos hc] at hb88
              refine WP.skip ?_
              refine WP.seq ?_
              refine WP.block ?_
              refine WP.seq ?_
              refine WP.cut (fun (t93 : Bool) F w9 => m_spec_l23Ok_j6 fuel s41 t93 = some o90 ∧ Ext w92 w9 ∧ St w w9 [] ∧ F = [(0, .pointer (some p0_)), (6, .int .i64 s41), (140, .bool t93)]) ?_ ?_
              · skip
                rintro t93 F w96 ⟨hb88, hE94, hS95, rfl⟩
                unfold m_spec_l23Ok_j6 at hb88
                refine WP.cond t93 rfl (fun hc => ?_) (fun hc => ?_)
                · skip
                  rw [if_pos hc] at hb88
                  refine WP.seq ?_
                  refine WP.region ?_
                  refine RW.run ttok 1 rfl ?_
                  refine RW.nil ?_
                  refine WP.ret ?_
                  cases hb88
                  cases ho89
                  have hm : some _ = some _ := hm
                  cases hm
                  exact ⟨_, .cons (.tmp rfl) .nil, rfl, (hS95.taken 0)⟩
                · skip
                  rw [if_neg (not_t hc)] at hb88
                  refine WP.skip ?_
                  refine WP.region ?_
                  refine RW.run ttok 3 rfl ?_
                  refine RW.nil ?_
                  cases hb88
                  exact ⟨_, [(0, .pointer (some p0_)), (6, .int .i64 (w64 (s41 + 1)))], ⟨rfl, rfl, trivial⟩, rfl, (hE45.trans hE94), (hS95.taken 0), rfl⟩
              · skip
                refine WP.drawnM 0 mixed 28 (by kernel_rfl) (by kernel_rfl) [([], 268435455), ([0], 268435454), ([1], 268435453), ([2], 268435451), ([], 268435455), ([3, 4], 268435431), ([5], 268435423), ([6], 268435391), ([], 268435455), ([8], 268435199), ([9], 268434943), ([10], 268434431), ([11], 268433407), ([12], 268431359), ([7, 13], 268427135), ([14], 268419071), ([15, 14], 268402687), ([16], 268369919), ([17, 16], 268238847), ([18, 16], 268107775), ([19, 16], 267845631), ([16], 268369919), ([20, 21, 16], 265224191), ([22, 16], 264175615), ([23, 16], 259981311), ([24, 16, 16], 251592703), ([25, 16], 234815487), ([16, 26], 201261055)] (by kernel_rfl) (fun hsk98 => ?_)
                have hS99 := hS91.step (Ext.draw _)
                refine DM.run (fuel := 21) ttok hsk98 [0, 1, 2, 4, 8, 9, 10] 1815 (by kernel_rfl) (by kernel_rfl) rfl ?_
                refine DM.weak [(0, .pointer (some p0_)), (6, .int .i64 s41), (115, .pointer (some (p0_.add 4))), (117, .int .i64 s41), (123, .pointer (some (p0_.add 3)))] ⟨rfl, rfl, rfl, rfl, rfl, trivial⟩ ?_
                refine DM.load1 ttok hsk98 3 1823 (by kernel_rfl) (by kernel_rfl) (by kernel_rfl) (by kernel_rfl) rfl (by kernel_rfl) rfl rfl rfl rfl rfl (At.ext hS91.ext g0_) 4 rfl rfl rfl rfl ?_
                obtain ⟨x100, hx101, hb88⟩ := bind_some hb88
                refine DM.idx ttok hS91.ext hsk98 5 1855 (by kernel_rfl) (by kernel_rfl) (by kernel_rfl) (by kernel_rfl) rfl (by kernel_rfl) rfl rfl rfl rfl rfl rfl (by decide) rfl rfl h9 (idx_some hx101).1 (idx_some hx101).2 rfl rfl (fun p102 es103 ha104 hr105 => ?_)
                have e106 := ty196_open hr105; subst e106
                refine DM.run (fuel := 18) ttok hsk98 [6] 1919 (by kernel_rfl) (by kernel_rfl) rfl ?_
                refine DM.load1 ttok hsk98 7 2047 (by kernel_rfl) (by kernel_rfl) (by kernel_rfl) (by kernel_rfl) rfl (by kernel_rfl) rfl rfl rfl rfl rfl (At.ext hS91.ext ha104) 0 rfl rfl rfl rfl ?_
                refine DM.load1 ttok hsk98 11 4095 (by kernel_rfl) (by kernel_rfl) (by kernel_rfl) (by kernel_rfl) rfl (by kernel_rfl) rfl rfl rfl rfl rfl (At.ext hS91.ext g0_) 3 rfl rfl rfl rfl ?_
                refine DM.run (fuel := 14) ttok hsk98 [12, 13] 16383 (by kernel_rfl) (by kernel_rfl) rfl ?_
                refine DM.weak [(0, .pointer (some p0_)), (6, .int .i64 s41), (120, .int .i64 x100.Actor), (126, .int .i64 (w64 ((x0.Actors.length : Int) - 1)))] ⟨rfl, rfl, rfl, rfl, trivial⟩ ?_
                obtain ⟨r107, hx108, hb88⟩ := bind_some hb88
                refine DM.one hsk98 14 (by kernel_rfl) (LM.call hsk98 32767 (by kernel_rfl) (by kernel_rfl) rfl rfl rfl rfl enters155 (spec_l00In_ok  hx108) (fun v109 w110 hR111 => ?_))
                obtain ⟨rfl, hR112⟩ := hR111
                refine ⟨hR112.ext, ?_⟩
                have hS113 := hS99.join hR112
                refine DM.run (fuel := 11) ttok hsk98 [15, 16] 131071 (by kernel_rfl) (by kernel_rfl) rfl ?_
                by_cases hg114 : (!r107) = true
                · skip
                  rw [if_pos hg114] at hb88
                  refine DM.know 129 rfl (congrArg Value.bool hg114) ?_
                  refine DM.run (fuel := 0) ttok hsk98 [17, 18, 19, 20, 21, 22, 23, 24, 25, 26, 27] 268435455 (by kernel_rfl) (by kernel_rfl) rfl ?_
                  refine DM.weak [(0, .pointer (some p0_)), (6, .int .i64 s41), (140, .bool true)] ⟨rfl, rfl, rfl, trivial⟩ ?_
                  refine DM.done hsk98 (by kernel_rfl) ?_
                  exact ⟨true, [(0, .pointer (some p0_)), (6, .int .i64 s41), (140, .bool true)], ⟨rfl, rfl, rfl, trivial⟩, hb88, ((Ext.draw _).trans hR112.ext), (hS113.taken 0), rfl⟩
                · skip
                  rw [if_neg hg114] at hb88
                  refine DM.know 129 rfl (congrArg Value.bool (Bool.eq_false_iff.2 hg114)) ?_
                  refine DM.run (fuel := 7) ttok hsk98 [17, 18, 19, 21] 3145727 (by kernel_rfl) (by kernel_rfl) rfl ?_
                  refine DM.weak [(0, .pointer (some p0_)), (6, .int .i64 s41), (129, .bool false), (132, .pointer (some (p0_.add 4))), (134, .int .i64 s41)] ⟨rfl, rfl, rfl, rfl, rfl, trivial⟩ ?_
                  refine DM.load1 ttok hsk98 20 4194303 (by kernel_rfl) (by kernel_rfl) (by kernel_rfl) (by kernel_rfl) rfl (by kernel_rfl) rfl rfl rfl rfl rfl (At.ext hS91.ext g0_) 4 rfl rfl rfl rfl ?_
                  obtain ⟨x115, hx116, hb88⟩ := bind_some hb88
                  refine DM.idx ttok hS91.ext hsk98 22 8388607 (by kernel_rfl) (by kernel_rfl) (by kernel_rfl) (by kernel_rfl) rfl (by kernel_rfl) rfl rfl rfl rfl rfl rfl (by decide) rfl rfl h9 (idx_some hx116).1 (idx_some hx116).2 rfl rfl (fun p117 es118 ha119 hr120 => ?_)
                  have e121 := ty196_open hr120; subst e121
                  refine DM.run (fuel := 4) ttok hsk98 [23] 16777215 (by kernel_rfl) (by kernel_rfl) rfl ?_
                  refine DM.load1 ttok hsk98 24 33554431 (by kernel_rfl) (by kernel_rfl) (by kernel_rfl) (by kernel_rfl) rfl (by kernel_rfl) rfl rfl rfl rfl rfl (At.ext hS91.ext ha119) 1 rfl rfl rfl rfl ?_
                  obtain ⟨r122, hx123, hb88⟩ := bind_some hb88
                  refine DM.one hsk98 25 (by kernel_rfl) (LM.call hsk98 67108863 (by kernel_rfl) (by kernel_rfl) rfl rfl rfl rfl enters155 (spec_l00In_ok  hx123) (fun v124 w125 hR126 => ?_))
                  obtain ⟨rfl, hR127⟩ := hR126
                  refine ⟨hR127.ext, ?_⟩
                  have hS128 := hS113.join hR127
                  refine DM.run (fuel := 0) ttok hsk98 [26, 27] 268435455 (by kernel_rfl) (by kernel_rfl) rfl ?_
                  refine DM.weak [(0, .pointer (some p0_)), (6, .int .i64 s41), (140, .bool (!r122))] ⟨rfl, rfl, rfl, trivial⟩ ?_
                  refine DM.done hsk98 (by kernel_rfl) ?_
                  exact ⟨!r122, [(0, .pointer (some p0_)), (6, .int .i64 s41), (140, .bool (!r122))], ⟨rfl, rfl, rfl, trivial⟩, hb88, (((Ext.draw _).trans hR112.ext).trans hR127.ext), (hS128.taken 0), rfl⟩
            · skip
              rw [if_neg (not_t hc)] at hb88
              refine WP.exit ?_
              cases hb88
              exact ⟨_, [(0, .pointer (some p0_))], ⟨rfl, trivial⟩, ho89, hE45, (hS91.taken 0), rfl⟩
        · skip
          refine WP.block ?_
          refine WP.weak [(0, .pointer (some p0_)), (5, .int .i64 0)] ⟨rfl, rfl, trivial⟩ ?_
          refine WP.iter (fun (s30 : Int) F w9 => Ext w25 w9 ∧ St w w9 [] ∧ F = [(0, .pointer (some p0_)), (5, .int .i64 s30)]) _ hl38 ⟨(Ext.refl _), (hS28.taken 0), rfl⟩ ?_
          rintro s30 F w133 _ o131 ⟨hE34, hS132, rfl⟩ hb129 ho130
          unfold m_spec_l23Ok_b2 at hb129
          refine WP.seq ?_
          refine WP.seq ?_
          refine WP.region ?_
          refine RW.run ttok 4 rfl ?_
          refine RW.load1 ttok rfl rfl rfl rfl rfl (At.ext hS132.ext g0_) 3 rfl rfl rfl rfl ?_
          refine RW.run ttok 2 rfl ?_
          refine RW.nil ?_
          refine WP.cond (decide (s30 < (x0.Actors.length : Int))) rfl (fun hc => ?_) (fun hc => ?_)
          · skip
            rw [if_pos hc] at hb129
            refine WP.skip ?_
            refine WP.seq ?_
            refine WP.block ?_
            refine WP.seq ?_
            refine WP.region ?_
            refine RW.run ttok 3 rfl ?_
            refine RW.load1 ttok rfl rfl rfl rfl rfl (At.ext hS132.ext g0_) 3 rfl rfl rfl rfl ?_
            refine RW.run ttok 1 rfl ?_
            obtain ⟨x134, hx135, hb129⟩ := bind_some hb129
            refine RW.idx ttok hS132.ext rfl rfl rfl rfl rfl rfl (by decide) rfl rfl h6 (idx_some hx135).1 (idx_some hx135).2 rfl rfl (fun p136 es137 ha138 hr139 => ?_)
            obtain ⟨A140, k141, e143, h142⟩ := ty191_open hr139; subst e143
            refine RW.run ttok 2 rfl ?_
            obtain ⟨r144, hx145, hb129⟩ := bind_some hb129
            refine RW.call rfl rfl rfl enters157 (spec_l23Actor_ok (ty191.ext hS132.ext hr139) (At.ext hS132.ext ha138) hx145) (fun v146 w147 hR148 => ?_)
            obtain ⟨rfl, hR149⟩ := hR148
            have hS150 := hS132.join hR149
            refine RW.run ttok 1 rfl ?_
            refine RW.nil ?_
            refine WP.cond (!r144) rfl (fun hc => ?_) (fun hc => ?_)
            · skip
              rw [if_pos hc] at hb129
              refine WP.seq ?_
              refine WP.region ?_
              refine RW.run ttok 1 rfl ?_
              refine RW.nil ?_
              refine WP.ret ?_
              cases hb129
              cases ho130
              have hm : some _ = some _ := hm
              cases hm
              exact ⟨_, .cons (.tmp rfl) .nil, rfl, (hS150.taken 0)⟩
            · skip
              rw [if_neg (not_t hc)] at hb129
              refine WP.skip ?_
              refine WP.region ?_
              refine RW.run ttok 3 rfl ?_
              refine RW.nil ?_
              cases hb129
              exact ⟨_, [(0, .pointer (some p0_)), (5, .int .i64 (w64 (s30 + 1)))], ⟨rfl, rfl, trivial⟩, rfl, (hE34.trans hR149.ext), (hS150.taken 0), rfl⟩
          · skip
            rw [if_neg (not_t hc)] at hb129
            refine WP.exit ?_
            cases hb129
            exact ⟨_, [(0, .pointer (some p0_))], ⟨rfl, trivial⟩, ho130, hE34, (hS132.taken 0), rfl⟩
      · skip
        refine WP.block ?_
        refine WP.weak [(0, .pointer (some p0_)), (4, .int .i64 0)] ⟨rfl, rfl, trivial⟩ ?_
        refine WP.iter (fun (s19 : Int) F w9 => Ext w17 w9 ∧ St w w9 [] ∧ F = [(0, .pointer (some p0_)), (4, .int .i64 s19)]) _ hl27 ⟨(Ext.refl _), (hS16.taken 0), rfl⟩ ?_
        rintro s19 F w155 _ o153 ⟨hE23, hS154, rfl⟩ hb151 ho152
        unfold m_spec_l23Ok_b1 at hb151
        refine WP.seq ?_
        refine WP.seq ?_
        refine WP.region ?_
        refine RW.run ttok 4 rfl ?_
        refine RW.load1 ttok rfl rfl rfl rfl rfl (At.ext hS154.ext g0_) 2 rfl rfl rfl rfl ?_
        refine RW.run ttok 2 rfl ?_
        refine RW.nil ?_
        refine WP.cond (decide (s19 < (x0.Buffer.length : Int))) rfl (fun hc => ?_) (fun hc => ?_)
        · skip
          rw [if_pos hc] at hb151
          refine WP.skip ?_
          refine WP.seq ?_
          refine WP.block ?_
          refine WP.seq ?_
          refine WP.cut (fun (t156 : Bool) F w9 => m_spec_l23Ok_j7 fuel s19 t156 = some o153 ∧ Ext w155 w9 ∧ St w w9 [] ∧ F = [(0, .pointer (some p0_)), (4, .int .i64 s19), (84, .bool t156)]) ?_ ?_
          · skip
            rintro t156 F w159 ⟨hb151, hE157, hS158, rfl⟩
            unfold m_spec_l23Ok_j7 at hb151
            refine WP.cond t156 rfl (fun hc => ?_) (fun hc => ?_)
            · skip
              rw [if_pos hc] at hb151
              refine WP.seq ?_
              refine WP.region ?_
              refine RW.run ttok 1 rfl ?_
              refine RW.nil ?_
              refine WP.ret ?_
              cases hb151
              cases ho152
              have hm : some _ = some _ := hm
              cases hm
              exact ⟨_, .cons (.tmp rfl) .nil, rfl, (hS158.taken 0)⟩
            · skip
              rw [if_neg (not_t hc)] at hb151
              refine WP.skip ?_
              refine WP.region ?_
              refine RW.run ttok 3 rfl ?_
              refine RW.nil ?_
              cases hb151
              exact ⟨_, [(0, .pointer (some p0_)), (4, .int .i64 (w64 (s19 + 1)))], ⟨rfl, rfl, trivial⟩, rfl, (hE23.trans hE157), (hS158.taken 0), rfl⟩
          · skip
            refine WP.region ?_
            refine RW.run ttok 3 rfl ?_
            refine RW.load1 ttok rfl rfl rfl rfl rfl (At.ext hS154.ext g0_) 2 rfl rfl rfl rfl ?_
            refine RW.run ttok 1 rfl ?_
            obtain ⟨x161, hx162, hb151⟩ := bind_some hb151
            refine RW.idx ttok hS154.ext rfl rfl rfl rfl rfl rfl (by decide) rfl rfl h3 (idx_some hx162).1 (idx_some hx162).2 rfl rfl (fun p163 es164 ha165 hr166 => ?_)
            cases hr166
            refine RW.load1 ttok rfl rfl rfl rfl rfl (At.ext hS154.ext ha165) 0 rfl rfl rfl rfl ?_
            refine RW.run ttok 2 rfl ?_
            by_cases hg167 : (x161 != 0) = true
            · skip
              rw [if_pos hg167] at hb151
              refine RW.know 74 rfl (congrArg Value.bool hg167) ?_
              refine RW.run ttok 3 rfl ?_
              refine RW.load1 ttok rfl rfl rfl rfl rfl (At.ext hS154.ext g0_) 2 rfl rfl rfl rfl ?_
              refine RW.run ttok 1 rfl ?_
              obtain ⟨x168, hx169, hb151⟩ := bind_some hb151
              refine RW.idx ttok hS154.ext rfl rfl rfl rfl rfl rfl (by decide) rfl rfl h3 (idx_some hx169).1 (idx_some hx169).2 rfl rfl (fun p170 es171 ha172 hr173 => ?_)
              cases hr173
              refine RW.load1 ttok rfl rfl rfl rfl rfl (At.ext hS154.ext ha172) 0 rfl rfl rfl rfl ?_
              obtain ⟨r174, hx175, hb151⟩ := bind_some hb151
              refine RW.call rfl rfl rfl enters156 (spec_l23Task_ok  hx175) (fun v176 w177 hR178 => ?_)
              obtain ⟨rfl, hR179⟩ := hR178
              have hS180 := hS154.join hR179
              refine RW.run ttok 2 rfl ?_
              refine RW.nil ?_
              exact ⟨!r174, [(0, .pointer (some p0_)), (4, .int .i64 s19), (84, .bool (!r174))], ⟨rfl, rfl, rfl, trivial⟩, hb151, hR179.ext, (hS180.taken 0), rfl⟩
            · skip
              rw [if_neg hg167] at hb151
              refine RW.know 74 rfl (congrArg Value.bool (Bool.eq_false_iff.2 hg167)) ?_
              refine RW.run ttok 10 rfl ?_
              refine RW.nil ?_
              exact ⟨false, [(0, .pointer (some p0_)), (4, .int .i64 s19), (84, .bool false)], ⟨rfl, rfl, rfl, trivial⟩, hb151, (Ext.refl _), (hS154.taken 0), rfl⟩
        · skip
          rw [if_neg (not_t hc)] at hb151
          refine WP.exit ?_
          cases hb151
          exact ⟨_, [(0, .pointer (some p0_))], ⟨rfl, trivial⟩, ho152, hE23, (hS154.taken 0), rfl⟩
  · skip
    refine WP.region ?_
    refine RW.run ttok 1 rfl ?_
    obtain ⟨r181, hx182, hm⟩ := bind_some hm
    refine RW.call rfl rfl rfl enters155 (spec_l00In_ok  hx182) (fun v183 w184 hR185 => ?_)
    obtain ⟨rfl, hR186⟩ := hR185
    have hS187 := hS.join hR186
    refine RW.run ttok 2 rfl ?_
    by_cases hg188 : (!r181) = true
    · skip
      rw [if_pos hg188] at hm
      refine RW.know 16 rfl (congrArg Value.bool hg188) ?_
      refine RW.run ttok 40 rfl ?_
      refine RW.nil ?_
      exact ⟨true, [(0, .pointer (some p0_)), (56, .bool true)], ⟨rfl, rfl, trivial⟩, hm, hR186.ext, (hS187.taken 0), rfl⟩
    · skip
      rw [if_neg hg188] at hm
      refine RW.know 16 rfl (congrArg Value.bool (Bool.eq_false_iff.2 hg188)) ?_
      refine RW.run ttok 3 rfl ?_
      refine RW.load1 ttok rfl rfl rfl rfl rfl (At.ext hS187.ext g0_) 0 rfl rfl rfl rfl ?_
      obtain ⟨r189, hx190, hm⟩ := bind_some hm
      refine RW.call rfl rfl rfl enters155 (spec_l00In_ok  hx190) (fun v191 w192 hR193 => ?_)
      obtain ⟨rfl, hR194⟩ := hR193
      have hS195 := hS187.join hR194
      refine RW.run ttok 3 rfl ?_
      by_cases hg196 : (!r189) = true
      · skip
        rw [if_pos hg196] at hm
        refine RW.know 24 rfl (congrArg Value.bool hg196) ?_
        refine RW.run ttok 32 rfl ?_
        refine RW.nil ?_
        exact ⟨true, [(0, .pointer (some p0_)), (56, .bool true)], ⟨rfl, rfl, trivial⟩, hm, (hR186.ext.trans hR194.ext), (hS195.taken 0), rfl⟩
      · skip
        rw [if_neg hg196] at hm
        refine RW.know 24 rfl (congrArg Value.bool (Bool.eq_false_iff.2 hg196)) ?_
        refine RW.run ttok 3 rfl ?_
        refine RW.load1 ttok rfl rfl rfl rfl rfl (At.ext hS195.ext g0_) 1 rfl rfl rfl rfl ?_
        obtain ⟨r197, hx198, hm⟩ := bind_some hm
        refine RW.call rfl rfl rfl enters155 (spec_l00In_ok  hx198) (fun v199 w200 hR201 => ?_)
        obtain ⟨rfl, hR202⟩ := hR201
        have hS203 := hS195.join hR202
        refine RW.run ttok 3 rfl ?_
        by_cases hg204 : (!r197) = true
        · skip
          rw [if_pos hg204] at hm
          refine RW.know 32 rfl (congrArg Value.bool hg204) ?_
          refine RW.run ttok 24 rfl ?_
          refine RW.nil ?_
          exact ⟨true, [(0, .pointer (some p0_)), (56, .bool true)], ⟨rfl, rfl, trivial⟩, hm, ((hR186.ext.trans hR194.ext).trans hR202.ext), (hS203.taken 0), rfl⟩
        · skip
          rw [if_neg hg204] at hm
          refine RW.know 32 rfl (congrArg Value.bool (Bool.eq_false_iff.2 hg204)) ?_
          refine RW.run ttok 3 rfl ?_
          refine RW.load1 ttok rfl rfl rfl rfl rfl (At.ext hS203.ext g0_) 3 rfl rfl rfl rfl ?_
          refine RW.run ttok 1 rfl ?_
          obtain ⟨r205, hx206, hm⟩ := bind_some hm
          refine RW.call rfl rfl rfl enters155 (spec_l00In_ok  hx206) (fun v207 w208 hR209 => ?_)
          obtain ⟨rfl, hR210⟩ := hR209
          have hS211 := hS203.join hR210
          refine RW.run ttok 3 rfl ?_
          by_cases hg212 : (!r205) = true
          · skip
            rw [if_pos hg212] at hm
            refine RW.know 41 rfl (congrArg Value.bool hg212) ?_
            refine RW.run ttok 15 rfl ?_
            refine RW.nil ?_
            exact ⟨true, [(0, .pointer (some p0_)), (56, .bool true)], ⟨rfl, rfl, trivial⟩, hm, (((hR186.ext.trans hR194.ext).trans hR202.ext).trans hR210.ext), (hS211.taken 0), rfl⟩
          · skip
            rw [if_neg hg212] at hm
            refine RW.know 41 rfl (congrArg Value.bool (Bool.eq_false_iff.2 hg212)) ?_
            refine RW.run ttok 3 rfl ?_
            refine RW.load1 ttok rfl rfl rfl rfl rfl (At.ext hS211.ext g0_) 4 rfl rfl rfl rfl ?_
            refine RW.run ttok 4 rfl ?_
            by_cases hg213 : (decide ((x0.Taken.length : Int) > 1000)) = true
            · skip
              rw [if_pos hg213] at hm
              refine RW.know 49 rfl (congrArg Value.bool hg213) ?_
              refine RW.run ttok 7 rfl ?_
              refine RW.nil ?_
              exact ⟨true, [(0, .pointer (some p0_)), (56, .bool true)], ⟨rfl, rfl, trivial⟩, hm, (((hR186.ext.trans hR194.ext).trans hR202.ext).trans hR210.ext), (hS211.taken 0), rfl⟩
            · skip
              rw [if_neg hg213] at hm
              refine RW.know 49 rfl (congrArg Value.bool (Bool.eq_false_iff.2 hg213)) ?_
              refine RW.run ttok 3 rfl ?_
              refine RW.load1 ttok rfl rfl rfl rfl rfl (At.ext hS211.ext g0_) 5 rfl rfl rfl rfl ?_
              refine RW.run ttok 3 rfl ?_
              refine RW.nil ?_
              exact ⟨decide ((x0.Refused.length : Int) > 1000), [(0, .pointer (some p0_)), (56, .bool (decide ((x0.Refused.length : Int) > 1000)))], ⟨rfl, rfl, trivial⟩, hm, (((hR186.ext.trans hR194.ext).trans hR202.ext).trans hR210.ext), (hS211.taken 0), rfl⟩

theorem enters42 : Enters Try.prog 42 := ⟨_, _, Try.func42, rfl, by kernel_rfl⟩
def m_spec_ValidDeque (fuel : Nat) (x0 : D.Deque) : Option (Bool) := ((m_spec_l23Ok fuel x0).bind fun r18 => some r18)

set_option maxRecDepth 100000 in
theorem spec_ValidDeque_ok {w : World} {c0_ : List Value} {x0 : D.Deque} (h0_ : ty112.ro w c0_ x0) {fuel : Nat} {r : Bool} (hm : m_spec_ValidDeque fuel x0 = some r) :
    Calls Try.prog 42 ⟨[.agg ⟨c0_⟩]⟩ w (Ret fun v w8 => v = .bool r ∧ St w w8 []) := by
  obtain ⟨A1, k2, A4, k5, A7, k8, A10, k11, e13, h3, h6, h9, h12⟩ := ty112_open h0_; subst e13
  refine Calls.into Try.func42 rfl 4 rfl rfl _ rfl ?_
  unfold m_spec_ValidDeque at hm
  have hS := St.start w
  refine WP.seq ?_
  refine WP.region ?_
  refine RW.new ttok hS rfl rfl rfl rfl (fun g14 w15 e16 hS17 => ?_)
  refine RW.run ttok 1 rfl ?_
  refine RW.nil ?_
  refine WP.seq ?_
  refine WP.region ?_
  obtain ⟨r18, hx19, hm⟩ := bind_some hm
  refine RW.call rfl rfl rfl enters108 (spec_l23Ok_ok (ty112.ext hS17.ext h0_) ((hS17.bring 0 rfl).box) hx19) (fun v20 w21 hR22 => ?_)
  obtain ⟨rfl, hR23⟩ := hR22
  have hS24 := hS17.join hR23
  refine RW.run ttok 1 rfl ?_
  refine RW.nil ?_
  refine WP.ret ?_
  cases hm
  exact ⟨_, .cons (.tmp rfl) .nil, rfl, (hS24.taken 0)⟩

theorem enters161 : Enters Try.prog 161 := ⟨_, _, Try.func161, rfl, by kernel_rfl⟩
def m_slices_IndexFunc_int64_int64_j1 (fuel : Nat) (t2 : Unit) : Option Int := some (-1)
def m_slices_IndexFunc_int64_int64_b1 (fuel : Nat) (x0 : (List Int)) (x1 : Int → Option Bool) (s1 : Int) : Option (Rd (Int) (Unit) (Int)) := (if (decide (s1 < (x0.length : Int))) = true then ((idx x0 s1).bind fun x17 => ((x1 x17).bind fun r23 => (if r23 = true then some (.ret s1) else some (.next (w64 (s1 + 1)))))) else some (.brk ()))
def m_slices_IndexFunc_int64_int64 (fuel : Nat) (x0 : (List Int)) (x1 : Int → Option Bool) : Option (Int) := ((iter (m_slices_IndexFunc_int64_int64_b1 fuel x0 x1) fuel 0).bind fun o => aft o (m_slices_IndexFunc_int64_int64_j1 fuel))

set_option maxRecDepth 100000 in
theorem slices_IndexFunc_int64_int64_ok {w : World} {A0_ : Option Addr} {k0_ : Nat} {x0 : (List Int)} {f1_ : Nat} {u1_ : List Value} {x1 : Int → Option Bool} (h0_ : ty72.ro w [.slice A0_ x0.length k0_] x0) (h1_ : Enters Try.prog f1_ ∧ ∀ {w9 : World}, Ext w w9 → ∀ {z0 : Int} {y9 : Bool}, x1 z0 = some y9 → Calls Try.prog f1_ ⟨[.int .i64 z0] ++ u1_⟩ w9 (Ret fun v w8 => v = .bool y9 ∧ St w9 w8 [])) {fuel : Nat} {r : Int} (hm : m_slices_IndexFunc_int64_int64 fuel x0 x1 = some r) :
    Calls Try.prog 161 ⟨[.slice A0_ x0.length k0_, .func (.func f1_) #[] ⟨u1_⟩]⟩ w (Ret fun v w8 => v = .int .i64 r ∧ St w w8 []) := by
  refine Calls.into Try.func161 rfl 19 rfl rfl _ rfl ?_
  unfold m_slices_IndexFunc_int64_int64 at hm
  have hS := St.start w
  refine WP.seq ?_
  refine WP.region ?_
  refine RW.run ttok 1 rfl ?_
  refine RW.nil ?_
  refine WP.seq ?_
  refine WP.seq ?_
  refine WP.region ?_
  refine RW.run ttok 3 rfl ?_
  refine RW.nil ?_
  obtain ⟨o8, hl9, hm⟩ := bind_some hm
  refine WP.cut (fun (t2 : Unit) F w9 => o8 = .inl t2 ∧ Ext w w9 ∧ St w w9 [] ∧ F = []) ?_ ?_
  · skip
    rintro t2 F w7 ⟨ho11, hE6, hS10, rfl⟩
    subst ho11
    rw [aft_inl] at hm
    unfold m_slices_IndexFunc_int64_int64_j1 at hm
    refine WP.seq ?_
    refine WP.region ?_
    refine RW.run ttok 1 rfl ?_
    refine RW.nil ?_
    refine WP.ret ?_
    cases hm
    exact ⟨_, .cons (.tmp rfl) .nil, rfl, (hS10.taken 0)⟩
  · skip
    refine WP.block ?_
    refine WP.weak [(0, .slice A0_ x0.length k0_), (1, .func (.func f1_) #[] ⟨u1_⟩), (7, .int .i64 (x0.length : Int)), (8, .int .i64 0)] ⟨rfl, rfl, rfl, rfl, trivial⟩ ?_
    refine WP.iter (fun (s1 : Int) F w9 => Ext w w9 ∧ St w w9 [] ∧ F = [(0, .slice A0_ x0.length k0_), (1, .func (.func f1_) #[] ⟨u1_⟩), (7, .int .i64 (x0.length : Int)), (8, .int .i64 s1)]) _ hl9 ⟨(Ext.refl _), (hS.taken 0), rfl⟩ ?_
    rintro s1 F w16 _ o14 ⟨hE5, hS15, rfl⟩ hb12 ho13
    unfold m_slices_IndexFunc_int64_int64_b1 at hb12
    refine WP.seq ?_
    refine WP.region ?_
    refine RW.run ttok 1 rfl ?_
    refine RW.nil ?_
    refine WP.seq ?_
    refine WP.cond (decide (s1 < (x0.length : Int))) rfl (fun hc => ?_) (fun hc => ?_)
    · skip
      rw [if_pos hc] at hb12
      refine WP.skip ?_
      refine WP.seq ?_
      refine WP.block ?_
      refine WP.seq ?_
      refine WP.region ?_
      refine RW.run ttok 2 rfl ?_
      refine RW.nil ?_
      refine WP.seq ?_
      refine WP.region ?_
      refine RW.run ttok 3 rfl ?_
      obtain ⟨x17, hx18, hb12⟩ := bind_some hb12
      refine RW.idx ttok hS15.ext rfl rfl rfl rfl rfl rfl (by decide) rfl rfl h0_ (idx_some hx18).1 (idx_some hx18).2 rfl rfl (fun p19 es20 ha21 hr22 => ?_)
      cases hr22
      refine RW.load1 ttok rfl rfl rfl rfl rfl (At.ext hS15.ext ha21) 0 rfl rfl rfl rfl ?_
      obtain ⟨r23, hx24, hb12⟩ := bind_some hb12
      refine RW.call rfl rfl rfl h1_.1 (h1_.2 hS15.ext  hx24) (fun v25 w26 hR27 => ?_)
      obtain ⟨rfl, hR28⟩ := hR27
      have hS29 := hS15.join hR28
      refine RW.nil ?_
      refine WP.cond r23 rfl (fun hc => ?_) (fun hc => ?_)
      · skip
        rw [if_pos hc] at hb12
        refine WP.seq ?_
        refine WP.region ?_
        refine RW.run ttok 2 rfl ?_
        refine RW.nil ?_
        refine WP.ret ?_
        cases hb12
        cases ho13
        have hm : some _ = some _ := hm
        cases hm
        exact ⟨_, .cons (.tmp rfl) .nil, rfl, (hS29.taken 0)⟩
      · skip
        rw [if_neg (not_t hc)] at hb12
        refine WP.skip ?_
        refine WP.region ?_
        refine RW.run ttok 2 rfl ?_
        refine RW.nil ?_
        cases hb12
        exact ⟨_, [(0, .slice A0_ x0.length k0_), (1, .func (.func f1_) #[] ⟨u1_⟩), (7, .int .i64 (x0.length : Int)), (8, .int .i64 (w64 (s1 + 1)))], ⟨rfl, rfl, rfl, rfl, trivial⟩, rfl, (hE5.trans hR28.ext), (hS29.taken 0), rfl⟩
    · skip
      rw [if_neg (not_t hc)] at hb12
      refine WP.exit ?_
      cases hb12
      exact ⟨_, [], trivial, ho13, hE5, (hS15.taken 0), rfl⟩

theorem enters111 : Enters Try.prog 111 := ⟨_, _, Try.func111, rfl, by kernel_rfl⟩
def m_slices_ContainsFunc_int64_int64 (fuel : Nat) (x0 : (List Int)) (x1 : Int → Option Bool) : Option (Bool) := ((m_slices_IndexFunc_int64_int64 fuel x0 x1).bind fun r1 => some (decide (r1 ≥ 0)))

set_option maxRecDepth 100000 in
theorem slices_ContainsFunc_int64_int64_ok {w : World} {A0_ : Option Addr} {k0_ : Nat} {x0 : (List Int)} {f1_ : Nat} {u1_ : List Value} {x1 : Int → Option Bool} (h0_ : ty72.ro w [.slice A0_ x0.length k0_] x0) (h1_ : Enters Try.prog f1_ ∧ ∀ {w9 : World}, Ext w w9 → ∀ {z0 : Int} {y9 : Bool}, x1 z0 = some y9 → Calls Try.prog f1_ ⟨[.int .i64 z0] ++ u1_⟩ w9 (Ret fun v w8 => v = .bool y9 ∧ St w9 w8 [])) {fuel : Nat} {r : Bool} (hm : m_slices_ContainsFunc_int64_int64 fuel x0 x1 = some r) :
    Calls Try.prog 111 ⟨[.slice A0_ x0.length k0_, .func (.func f1_) #[] ⟨u1_⟩]⟩ w (Ret fun v w8 => v = .bool r ∧ St w w8 []) := by
  refine Calls.into Try.func111 rfl 9 rfl rfl _ rfl ?_
  unfold m_slices_ContainsFunc_int64_int64 at hm
  have hS := St.start w
  refine WP.seq ?_
  refine WP.region ?_
  refine RW.run ttok 1 rfl ?_
  refine RW.nil ?_
  refine WP.seq ?_
  refine WP.region ?_
  refine RW.run ttok 2 rfl ?_
  obtain ⟨r1, hx2, hm⟩ := bind_some hm
  refine RW.call rfl rfl rfl enters161 (slices_IndexFunc_int64_int64_ok (ty72.ext hS.ext h0_) ⟨h1_.1, fun e9 => h1_.2 (hS.ext.trans e9)⟩ hx2) (fun v3 w4 hR5 => ?_)
  obtain ⟨rfl, hR6⟩ := hR5
  have hS7 := hS.join hR6
  refine RW.run ttok 2 rfl ?_
  refine RW.nil ?_
  refine WP.ret ?_
  cases hm
  exact ⟨_, .cons (.tmp rfl) .nil, rfl, (hS7.taken 0)⟩

theorem enters113 : Enters Try.prog 113 := ⟨_, _, Try.func113, rfl, by kernel_rfl⟩
def m_impl_isTask (fuel : Nat) (x0 : Int) : Option (Bool) := (if (decide (x0 ≥ 1)) = true then some (decide (x0 ≤ 1000)) else some false)

set_option maxRecDepth 100000 in
theorem impl_isTask_ok {w : World} {x0 : Int}  {fuel : Nat} {r : Bool} (hm : m_impl_isTask fuel x0 = some r) :
    Calls Try.prog 113 ⟨[.int .i64 x0]⟩ w (Ret fun v w8 => v = .bool r ∧ St w w8 []) := by
  refine Calls.into Try.func113 rfl 9 rfl rfl _ rfl ?_
  unfold m_impl_isTask at hm
  have hS := St.start w
  refine WP.seq ?_
  refine WP.region ?_
  refine RW.run ttok 1 rfl ?_
  refine RW.nil ?_
  refine WP.seq ?_
  refine WP.region ?_
  refine RW.run ttok 3 rfl ?_
  by_cases hg1 : (decide (x0 ≥ 1)) = true
  · skip
    rw [if_pos hg1] at hm
    refine RW.know 5 rfl (congrArg Value.bool hg1) ?_
    refine RW.run ttok 4 rfl ?_
    refine RW.nil ?_
    refine WP.ret ?_
    cases hm
    exact ⟨_, .cons (.tmp rfl) .nil, rfl, (hS.taken 0)⟩
  · skip
    rw [if_neg hg1] at hm
    refine RW.know 5 rfl (congrArg Value.bool (Bool.eq_false_iff.2 hg1)) ?_
    refine RW.run ttok 4 rfl ?_
    refine RW.nil ?_
    refine WP.ret ?_
    cases hm
    exact ⟨_, .cons (.tmp rfl) .nil, rfl, (hS.taken 0)⟩

theorem enters112 : Enters Try.prog 112 := ⟨_, _, Try.func112, rfl, by kernel_rfl⟩
def m_impl_ValidDeque_c1 (fuel : Nat) (x0 : Int) : Option (Bool) := (if (x0 != 0) = true then ((m_impl_isTask fuel x0).bind fun r2 => some (!r2)) else some false)

set_option maxRecDepth 100000 in
theorem impl_ValidDeque_c1_ok {w : World} {x0 : Int}  {fuel : Nat} {r : Bool} (hm : m_impl_ValidDeque_c1 fuel x0 = some r) :
    Calls Try.prog 112 ⟨[.int .i64 x0]⟩ w (Ret fun v w8 => v = .bool r ∧ St w w8 []) := by
  refine Calls.into Try.func112 rfl 10 rfl rfl _ rfl ?_
  unfold m_impl_ValidDeque_c1 at hm
  have hS := St.start w
  refine WP.seq ?_
  refine WP.region ?_
  refine RW.run ttok 1 rfl ?_
  refine RW.nil ?_
  refine WP.seq ?_
  refine WP.region ?_
  refine RW.run ttok 3 rfl ?_
  by_cases hg1 : (x0 != 0) = true
  · skip
    rw [if_pos hg1] at hm
    refine RW.know 5 rfl (congrArg Value.bool hg1) ?_
    refine RW.run ttok 1 rfl ?_
    obtain ⟨r2, hx3, hm⟩ := bind_some hm
    refine RW.call rfl rfl rfl enters113 (impl_isTask_ok  hx3) (fun v4 w5 hR6 => ?_)
    obtain ⟨rfl, hR7⟩ := hR6
    have hS8 := hS.join hR7
    refine RW.run ttok 3 rfl ?_
    refine RW.nil ?_
    refine WP.ret ?_
    cases hm
    exact ⟨_, .cons (.tmp rfl) .nil, rfl, (hS8.taken 0)⟩
  · skip
    rw [if_neg hg1] at hm
    refine RW.know 5 rfl (congrArg Value.bool (Bool.eq_false_iff.2 hg1)) ?_
    refine RW.run ttok 5 rfl ?_
    refine RW.nil ?_
    refine WP.ret ?_
    cases hm
    exact ⟨_, .cons (.tmp rfl) .nil, rfl, (hS.taken 0)⟩

theorem enters114 : Enters Try.prog 114 := ⟨_, _, Try.func114, rfl, by kernel_rfl⟩
def m_impl_isEnd (fuel : Nat) (x0 : Int) : Option (Bool) := (if (decide (x0 ≥ 0)) = true then some (decide (x0 ≤ 1000)) else some false)

set_option maxRecDepth 100000 in
theorem impl_isEnd_ok {w : World} {x0 : Int}  {fuel : Nat} {r : Bool} (hm : m_impl_isEnd fuel x0 = some r) :
    Calls Try.prog 114 ⟨[.int .i64 x0]⟩ w (Ret fun v w8 => v = .bool r ∧ St w w8 []) := by
  refine Calls.into Try.func114 rfl 9 rfl rfl _ rfl ?_
  unfold m_impl_isEnd at hm
  have hS := St.start w
  refine WP.seq ?_
  refine WP.region ?_
  refine RW.run ttok 1 rfl ?_
  refine RW.nil ?_
  refine WP.seq ?_
  refine WP.region ?_
  refine RW.run ttok 3 rfl ?_
  by_cases hg1 : (decide (x0 ≥ 0)) = true
  · skip
    rw [if_pos hg1] at hm
    refine RW.know 5 rfl (congrArg Value.bool hg1) ?_
    refine RW.run ttok 4 rfl ?_
    refine RW.nil ?_
    refine WP.ret ?_
    cases hm
    exact ⟨_, .cons (.tmp rfl) .nil, rfl, (hS.taken 0)⟩
  · skip
    rw [if_neg hg1] at hm
    refine RW.know 5 rfl (congrArg Value.bool (Bool.eq_false_iff.2 hg1)) ?_
    refine RW.run ttok 4 rfl ?_
    refine RW.nil ?_
    refine WP.ret ?_
    cases hm
    exact ⟨_, .cons (.tmp rfl) .nil, rfl, (hS.taken 0)⟩

theorem enters162 : Enters Try.prog 162 := ⟨_, _, Try.func162, rfl, by kernel_rfl⟩
def m_impl_validActor_c1 (fuel : Nat) (x0 : Int) (x1 : Bool) : Option (Bool) := (if (x0 != 0) = true then (if (!x1) = true then some true else ((m_impl_isTask fuel x0).bind fun r3 => some (!r3))) else some false)

set_option maxRecDepth 100000 in
theorem impl_validActor_c1_ok {w : World} {x0 : Int} {p1_ : Addr} {x1 : Bool} (g1_ : At w p1_ [.bool x1]) {fuel : Nat} {r : Bool} (hm : m_impl_validActor_c1 fuel x0 x1 = some r) :
    Calls Try.prog 162 ⟨[.int .i64 x0, .pointer (some p1_)]⟩ w (Ret fun v w8 => v = .bool r ∧ St w w8 []) := by
  refine Calls.into Try.func162 rfl 15 rfl rfl _ rfl ?_
  unfold m_impl_validActor_c1 at hm
  have hS := St.start w
  refine WP.seq ?_
  refine WP.region ?_
  refine RW.run ttok 1 rfl ?_
  refine RW.nil ?_
  refine WP.seq ?_
  refine WP.region ?_
  refine RW.run ttok 3 rfl ?_
  by_cases hg1 : (x0 != 0) = true
  · skip
    rw [if_pos hg1] at hm
    refine RW.know 6 rfl (congrArg Value.bool hg1) ?_
    refine RW.load1 ttok rfl rfl rfl rfl rfl (At.ext hS.ext g1_) 0 rfl rfl rfl rfl ?_
    refine RW.run ttok 2 rfl ?_
    by_cases hg2 : (!x1) = true
    · skip
      rw [if_pos hg2] at hm
      refine RW.know 9 rfl (congrArg Value.bool hg2) ?_
      refine RW.run ttok 6 rfl ?_
      refine RW.nil ?_
      refine WP.ret ?_
      cases hm
      exact ⟨_, .cons (.tmp rfl) .nil, rfl, (hS.taken 0)⟩
    · skip
      rw [if_neg hg2] at hm
      refine RW.know 9 rfl (congrArg Value.bool (Bool.eq_false_iff.2 hg2)) ?_
      refine RW.run ttok 1 rfl ?_
      obtain ⟨r3, hx4, hm⟩ := bind_some hm
      refine RW.call rfl rfl rfl enters113 (impl_isTask_ok  hx4) (fun v5 w6 hR7 => ?_)
      obtain ⟨rfl, hR8⟩ := hR7
      have hS9 := hS.join hR8
      refine RW.run ttok 4 rfl ?_
      refine RW.nil ?_
      refine WP.ret ?_
      cases hm
      exact ⟨_, .cons (.tmp rfl) .nil, rfl, (hS9.taken 0)⟩
  · skip
    rw [if_neg hg1] at hm
    refine RW.know 6 rfl (congrArg Value.bool (Bool.eq_false_iff.2 hg1)) ?_
    refine RW.run ttok 9 rfl ?_
    refine RW.nil ?_
    refine WP.ret ?_
    cases hm
    exact ⟨_, .cons (.tmp rfl) .nil, rfl, (hS.taken 0)⟩

theorem enters116 : Enters Try.prog 116 := ⟨_, _, Try.func116, rfl, by kernel_rfl⟩
def m_impl_DequeActor_taking (fuel : Nat) (x0 : D.DequeActor) : Option (Bool) := (if (decide ((x0.Todo.length : Int) > 0)) = true then ((idx x0.Todo 0).bind fun x10 => (if (x10 == 0) = true then some (decide (x0.Pc ≥ 1)) else some false)) else some false)

set_option maxRecDepth 100000 in
theorem impl_DequeActor_taking_ok {w : World} {c0_ : List Value} {x0 : D.DequeActor} (h0_ : ty191.ro w c0_ x0) {fuel : Nat} {r : Bool} (hm : m_impl_DequeActor_taking fuel x0 = some r) :
    Calls Try.prog 116 ⟨[.agg ⟨c0_⟩]⟩ w (Ret fun v w8 => v = .bool r ∧ St w w8 []) := by
  obtain ⟨A1, k2, e4, h3⟩ := ty191_open h0_; subst e4
  refine Calls.into Try.func116 rfl 19 rfl rfl _ rfl ?_
  unfold m_impl_DequeActor_taking at hm
  have hS := St.start w
  refine WP.seq ?_
  refine WP.region ?_
  refine RW.new ttok hS rfl rfl rfl rfl (fun g5 w6 e7 hS8 => ?_)
  refine RW.run ttok 1 rfl ?_
  refine RW.nil ?_
  refine WP.seq ?_
  refine WP.region ?_
  refine RW.run ttok 1 rfl ?_
  refine RW.load1 ttok rfl rfl rfl rfl rfl ((hS8.bring 0 rfl).box) 0 rfl rfl rfl rfl ?_
  refine RW.run ttok 3 rfl ?_
  by_cases hg9 : (decide ((x0.Todo.length : Int) > 0)) = true
  · skip
    rw [if_pos hg9] at hm
    refine RW.know 7 rfl (congrArg Value.bool hg9) ?_
    refine RW.run ttok 1 rfl ?_
    refine RW.load1 ttok rfl rfl rfl rfl rfl ((hS8.bring 0 rfl).box) 0 rfl rfl rfl rfl ?_
    obtain ⟨x10, hx11, hm⟩ := bind_some hm
    refine RW.idx ttok hS8.ext rfl rfl rfl rfl rfl rfl (by decide) rfl rfl h3 (idx_some hx11).1 (idx_some hx11).2 rfl rfl (fun p12 es13 ha14 hr15 => ?_)
    cases hr15
    refine RW.load1 ttok rfl rfl rfl rfl rfl (At.ext hS8.ext ha14) 0 rfl rfl rfl rfl ?_
    refine RW.run ttok 3 rfl ?_
    by_cases hg16 : (x10 == 0) = true
    · skip
      rw [if_pos hg16] at hm
      refine RW.know 14 rfl (congrArg Value.bool hg16) ?_
      refine RW.run ttok 1 rfl ?_
      refine RW.load1 ttok rfl rfl rfl rfl rfl ((hS8.bring 0 rfl).box) 1 rfl rfl rfl rfl ?_
      refine RW.run ttok 3 rfl ?_
      refine RW.nil ?_
      refine WP.ret ?_
      cases hm
      exact ⟨_, .cons (.tmp rfl) .nil, rfl, (hS8.taken 0)⟩
    · skip
      rw [if_neg hg16] at hm
      refine RW.know 14 rfl (congrArg Value.bool (Bool.eq_false_iff.2 hg16)) ?_
      refine RW.run ttok 5 rfl ?_
      refine RW.nil ?_
      refine WP.ret ?_
      cases hm
      exact ⟨_, .cons (.tmp rfl) .nil, rfl, (hS8.taken 0)⟩
  · skip
    rw [if_neg hg9] at hm
    refine RW.know 7 rfl (congrArg Value.bool (Bool.eq_false_iff.2 hg9)) ?_
    refine RW.run ttok 12 rfl ?_
    refine RW.nil ?_
    refine WP.ret ?_
    cases hm
    exact ⟨_, .cons (.tmp rfl) .nil, rfl, (hS8.taken 0)⟩

theorem enters115 : Enters Try.prog 115 := ⟨_, _, Try.func115, rfl, by kernel_rfl⟩
def m_impl_validActor_j4 (fuel : Nat) (x0 : D.DequeActor) (t32 : Int) (t37 : Bool) : Option Bool := (if (decide (x0.Pc ≥ 1)) = true then (if (decide (x0.Pc ≤ t32)) = true then ((m_impl_isEnd fuel x0.T).bind fun r44 => (if r44 = true then ((m_impl_isEnd fuel x0.X).bind fun r52 => (if r52 = true then some t37 else some false)) else some false)) else some false) else some false)
def m_impl_validActor_j3 (fuel : Nat) (x0 : D.DequeActor) (x1 : Bool) (t32 : Int) : Option Bool := ((m_impl_isEnd fuel x0.B).bind fun r60 => (if r60 = true then m_impl_validActor_j4 fuel x0 t32 true else (if (x0.B == (-1)) = true then (if x1 = true then ((m_impl_DequeActor_taking fuel x0).bind fun r70 => m_impl_validActor_j4 fuel x0 t32 r70) else m_impl_validActor_j4 fuel x0 t32 false) else m_impl_validActor_j4 fuel x0 t32 false)))
def m_impl_validActor_j2 (fuel : Nat) (x0 : D.DequeActor) (x1 : Bool) (t18 : Bool) : Option Bool := (if t18 = true then (if (x0.Pc == 0) = true then (if (x0.T == 0) = true then (if (x0.B == 0) = true then some (x0.X == 0) else some false) else some false) else some false) else ((idx x0.Todo 0).bind fun x26 => (if (x26 != 0) = true then m_impl_validActor_j3 fuel x0 x1 2 else m_impl_validActor_j3 fuel x0 x1 3)))
def m_impl_validActor_j1 (fuel : Nat) (x0 : D.DequeActor) (x1 : Bool) (t13 : Bool) : Option Bool := (if t13 = true then some false else (if ((x0.Todo.length : Int) == 0) = true then m_impl_validActor_j2 fuel x0 x1 true else m_impl_validActor_j2 fuel x0 x1 (x0.Pc == 0)))
def m_impl_validActor (fuel : Nat) (x0 : D.DequeActor) (x1 : Bool) : Option (Bool) := (if (decide ((x0.Todo.length : Int) > 10)) = true then m_impl_validActor_j1 fuel x0 x1 true else ((m_slices_ContainsFunc_int64_int64 fuel x0.Todo (fun y0 => m_impl_validActor_c1 fuel y0 x1)).bind fun r79 => m_impl_validActor_j1 fuel x0 x1 r79))

set_option maxRecDepth 100000 in
theorem impl_validActor_ok {w : World} {c0_ : List Value} {x0 : D.DequeActor} {x1 : Bool} (h0_ : ty191.ro w c0_ x0) {fuel : Nat} {r : Bool} (hm : m_impl_validActor fuel x0 x1 = some r) :
    Calls Try.prog 115 ⟨[.agg ⟨c0_⟩, .bool x1]⟩ w (Ret fun v w8 => v = .bool r ∧ St w w8 []) := by
  obtain ⟨A1, k2, e4, h3⟩ := ty191_open h0_; subst e4
  refine Calls.into Try.func115 rfl 86 rfl rfl _ rfl ?_
  unfold m_impl_validActor at hm
  have hS := St.start w
  refine WP.seq ?_
  refine WP.region ?_
  refine RW.new ttok hS rfl rfl rfl rfl (fun g5 w6 e7 hS8 => ?_)
  refine RW.new ttok hS8 rfl rfl rfl rfl (fun g9 w10 e11 hS12 => ?_)
  refine RW.run ttok 1 rfl ?_
  refine RW.nil ?_
  refine WP.seq ?_
  refine WP.seq ?_
  refine WP.cut (fun (t13 : Bool) F w9 => m_impl_validActor_j1 fuel x0 x1 t13 = some r ∧ Ext w10 w9 ∧ St w w9 [Box g9 [.bool x1] 4, Box g5 [.slice A1 x0.Todo.length k2, .int .i64 x0.Pc, .int .i64 x0.T, .int .i64 x0.B, .int .i64 x0.X] 191] ∧ F = [(2, .pointer (some ⟨g5, 0, none⟩)), (3, .pointer (some ⟨g9, 0, none⟩)), (16, .bool t13)]) ?_ ?_
  · skip
    rintro t13 F w16 ⟨hm, hE14, hS15, rfl⟩
    unfold m_impl_validActor_j1 at hm
    refine WP.cond t13 rfl (fun hc => ?_) (fun hc => ?_)
    · skip
      rw [if_pos hc] at hm
      refine WP.seq ?_
      refine WP.region ?_
      refine RW.run ttok 1 rfl ?_
      refine RW.nil ?_
      refine WP.ret ?_
      cases hm
      exact ⟨_, .cons (.tmp rfl) .nil, rfl, (hS15.taken 0)⟩
    · skip
      rw [if_neg (not_t hc)] at hm
      refine WP.skip ?_
      refine WP.seq ?_
      refine WP.seq ?_
      refine WP.cut (fun (t18 : Bool) F w9 => m_impl_validActor_j2 fuel x0 x1 t18 = some r ∧ Ext w16 w9 ∧ St w w9 [Box g9 [.bool x1] 4, Box g5 [.slice A1 x0.Todo.length k2, .int .i64 x0.Pc, .int .i64 x0.T, .int .i64 x0.B, .int .i64 x0.X] 191] ∧ F = [(2, .pointer (some ⟨g5, 0, none⟩)), (3, .pointer (some ⟨g9, 0, none⟩)), (25, .bool t18)]) ?_ ?_
      · skip
        rintro t18 F w21 ⟨hm, hE19, hS20, rfl⟩
        unfold m_impl_validActor_j2 at hm
        refine WP.cond t18 rfl (fun hc => ?_) (fun hc => ?_)
        · skip
          rw [if_pos hc] at hm
          refine WP.seq ?_
          refine WP.region ?_
          refine RW.run ttok 1 rfl ?_
          refine RW.load1 ttok rfl rfl rfl rfl rfl ((hS20.bring 1 rfl).box) 1 rfl rfl rfl rfl ?_
          refine RW.run ttok 2 rfl ?_
          by_cases hg23 : (x0.Pc == 0) = true
          · skip
            rw [if_pos hg23] at hm
            refine RW.know 29 rfl (congrArg Value.bool hg23) ?_
            refine RW.run ttok 1 rfl ?_
            refine RW.load1 ttok rfl rfl rfl rfl rfl ((hS20.bring 1 rfl).box) 2 rfl rfl rfl rfl ?_
            refine RW.run ttok 3 rfl ?_
            by_cases hg24 : (x0.T == 0) = true
            · skip
              rw [if_pos hg24] at hm
              refine RW.know 34 rfl (congrArg Value.bool hg24) ?_
              refine RW.run ttok 1 rfl ?_
              refine RW.load1 ttok rfl rfl rfl rfl rfl ((hS20.bring 1 rfl).box) 3 rfl rfl rfl rfl ?_
              refine RW.run ttok 3 rfl ?_
              by_cases hg25 : (x0.B == 0) = true
              · skip
                rw [if_pos hg25] at hm
                refine RW.know 39 rfl (congrArg Value.bool hg25) ?_
                refine RW.run ttok 1 rfl ?_
                refine RW.load1 ttok rfl rfl rfl rfl rfl ((hS20.bring 1 rfl).box) 4 rfl rfl rfl rfl ?_
                refine RW.run ttok 3 rfl ?_
                refine RW.nil ?_
                refine WP.ret ?_
                cases hm
                exact ⟨_, .cons (.tmp rfl) .nil, rfl, (hS20.taken 0)⟩
              · skip
                rw [if_neg hg25] at hm
                refine RW.know 39 rfl (congrArg Value.bool (Bool.eq_false_iff.2 hg25)) ?_
                refine RW.run ttok 5 rfl ?_
                refine RW.nil ?_
                refine WP.ret ?_
                cases hm
                exact ⟨_, .cons (.tmp rfl) .nil, rfl, (hS20.taken 0)⟩
            · skip
              rw [if_neg hg24] at hm
              refine RW.know 34 rfl (congrArg Value.bool (Bool.eq_false_iff.2 hg24)) ?_
              refine RW.run ttok 10 rfl ?_
              refine RW.nil ?_
              refine WP.ret ?_
              cases hm
              exact ⟨_, .cons (.tmp rfl) .nil, rfl, (hS20.taken 0)⟩
          · skip
            rw [if_neg hg23] at hm
            refine RW.know 29 rfl (congrArg Value.bool (Bool.eq_false_iff.2 hg23)) ?_
            refine RW.run ttok 15 rfl ?_
            refine RW.nil ?_
            refine WP.ret ?_
            cases hm
            exact ⟨_, .cons (.tmp rfl) .nil, rfl, (hS20.taken 0)⟩
        · skip
          rw [if_neg (not_t hc)] at hm
          refine WP.skip ?_
          refine WP.seq ?_
          refine WP.region ?_
          refine RW.run ttok 1 rfl ?_
          refine RW.nil ?_
          refine WP.seq ?_
          refine WP.seq ?_
          refine WP.region ?_
          refine RW.run ttok 1 rfl ?_
          refine RW.load1 ttok rfl rfl rfl rfl rfl ((hS20.bring 1 rfl).box) 0 rfl rfl rfl rfl ?_
          obtain ⟨x26, hx27, hm⟩ := bind_some hm
          refine RW.idx ttok hS20.ext rfl rfl rfl rfl rfl rfl (by decide) rfl rfl h3 (idx_some hx27).1 (idx_some hx27).2 rfl rfl (fun p28 es29 ha30 hr31 => ?_)
          cases hr31
          refine RW.load1 ttok rfl rfl rfl rfl rfl (At.ext hS20.ext ha30) 0 rfl rfl rfl rfl ?_
          refine RW.run ttok 1 rfl ?_
          refine RW.nil ?_
          refine WP.cut (fun (t32 : Int) F w9 => m_impl_validActor_j3 fuel x0 x1 t32 = some r ∧ Ext w21 w9 ∧ St w w9 [Box g9 [.bool x1] 4, Box g5 [.slice A1 x0.Todo.length k2, .int .i64 x0.Pc, .int .i64 x0.T, .int .i64 x0.B, .int .i64 x0.X] 191] ∧ F = [(2, .pointer (some ⟨g5, 0, none⟩)), (3, .pointer (some ⟨g9, 0, none⟩)), (5, .int .i64 t32)]) ?_ ?_
          · skip
            rintro t32 F w35 ⟨hm, hE33, hS34, rfl⟩
            unfold m_impl_validActor_j3 at hm
            refine WP.seq ?_
            refine WP.cut (fun (t37 : Bool) F w9 => m_impl_validActor_j4 fuel x0 t32 t37 = some r ∧ Ext w35 w9 ∧ St w w9 [Box g9 [.bool x1] 4, Box g5 [.slice A1 x0.Todo.length k2, .int .i64 x0.Pc, .int .i64 x0.T, .int .i64 x0.B, .int .i64 x0.X] 191] ∧ F = [(2, .pointer (some ⟨g5, 0, none⟩)), (5, .int .i64 t32), (6, .bool t37)]) ?_ ?_
            · skip
              rintro t37 F w40 ⟨hm, hE38, hS39, rfl⟩
              unfold m_impl_validActor_j4 at hm
              refine WP.seq ?_
              refine WP.region ?_
              refine RW.run ttok 1 rfl ?_
              refine RW.load1 ttok rfl rfl rfl rfl rfl ((hS39.bring 1 rfl).box) 1 rfl rfl rfl rfl ?_
              refine RW.run ttok 2 rfl ?_
              by_cases hg42 : (decide (x0.Pc ≥ 1)) = true
              · skip
                rw [if_pos hg42] at hm
                refine RW.know 67 rfl (congrArg Value.bool hg42) ?_
                refine RW.run ttok 1 rfl ?_
                refine RW.load1 ttok rfl rfl rfl rfl rfl ((hS39.bring 1 rfl).box) 1 rfl rfl rfl rfl ?_
                refine RW.run ttok 4 rfl ?_
                by_cases hg43 : (decide (x0.Pc ≤ t32)) = true
                · skip
                  rw [if_pos hg43] at hm
                  refine RW.know 73 rfl (congrArg Value.bool hg43) ?_
                  refine RW.run ttok 1 rfl ?_
                  refine RW.load1 ttok rfl rfl rfl rfl rfl ((hS39.bring 1 rfl).box) 2 rfl rfl rfl rfl ?_
                  obtain ⟨r44, hx45, hm⟩ := bind_some hm
                  refine RW.call rfl rfl rfl enters114 (impl_isEnd_ok  hx45) (fun v46 w47 hR48 => ?_)
                  obtain ⟨rfl, hR49⟩ := hR48
                  have hS50 := hS39.join hR49
                  refine RW.run ttok 2 rfl ?_
                  by_cases hg51 : r44 = true
                  · skip
                    rw [if_pos hg51] at hm
                    refine RW.know 78 rfl (congrArg Value.bool hg51) ?_
                    refine RW.run ttok 1 rfl ?_
                    refine RW.load1 ttok rfl rfl rfl rfl rfl ((hS50.bring 1 rfl).box) 4 rfl rfl rfl rfl ?_
                    obtain ⟨r52, hx53, hm⟩ := bind_some hm
                    refine RW.call rfl rfl rfl enters114 (impl_isEnd_ok  hx53) (fun v54 w55 hR56 => ?_)
                    obtain ⟨rfl, hR57⟩ := hR56
                    have hS58 := hS50.join hR57
                    refine RW.run ttok 2 rfl ?_
                    by_cases hg59 : r52 = true
                    · skip
                      rw [if_pos hg59] at hm
                      refine RW.know 83 rfl (congrArg Value.bool hg59) ?_
                      refine RW.run ttok 3 rfl ?_
                      refine RW.nil ?_
                      refine WP.ret ?_
                      cases hm
                      exact ⟨_, .cons (.tmp rfl) .nil, rfl, (hS58.taken 0)⟩
                    · skip
                      rw [if_neg hg59] at hm
                      refine RW.know 83 rfl (congrArg Value.bool (Bool.eq_false_iff.2 hg59)) ?_
                      refine RW.run ttok 3 rfl ?_
                      refine RW.nil ?_
                      refine WP.ret ?_
                      cases hm
                      exact ⟨_, .cons (.tmp rfl) .nil, rfl, (hS58.taken 0)⟩
                  · skip
                    rw [if_neg hg51] at hm
                    refine RW.know 78 rfl (congrArg Value.bool (Bool.eq_false_iff.2 hg51)) ?_
                    refine RW.run ttok 8 rfl ?_
                    refine RW.nil ?_
                    refine WP.ret ?_
                    cases hm
                    exact ⟨_, .cons (.tmp rfl) .nil, rfl, (hS50.taken 0)⟩
                · skip
                  rw [if_neg hg43] at hm
                  refine RW.know 73 rfl (congrArg Value.bool (Bool.eq_false_iff.2 hg43)) ?_
                  refine RW.run ttok 13 rfl ?_
                  refine RW.nil ?_
                  refine WP.ret ?_
                  cases hm
                  exact ⟨_, .cons (.tmp rfl) .nil, rfl, (hS39.taken 0)⟩
              · skip
                rw [if_neg hg42] at hm
                refine RW.know 67 rfl (congrArg Value.bool (Bool.eq_false_iff.2 hg42)) ?_
                refine RW.run ttok 19 rfl ?_
                refine RW.nil ?_
                refine WP.ret ?_
                cases hm
                exact ⟨_, .cons (.tmp rfl) .nil, rfl, (hS39.taken 0)⟩
            · skip
              refine WP.region ?_
              refine RW.run ttok 1 rfl ?_
              refine RW.load1 ttok rfl rfl rfl rfl rfl ((hS34.bring 1 rfl).box) 3 rfl rfl rfl rfl ?_
              obtain ⟨r60, hx61, hm⟩ := bind_some hm
              refine RW.call rfl rfl rfl enters114 (impl_isEnd_ok  hx61) (fun v62 w63 hR64 => ?_)
              obtain ⟨rfl, hR65⟩ := hR64
              have hS66 := hS34.join hR65
              refine RW.run ttok 1 rfl ?_
              by_cases hg67 : r60 = true
              · skip
                rw [if_pos hg67] at hm
                refine RW.know 52 rfl (congrArg Value.bool hg67) ?_
                refine RW.run ttok 12 rfl ?_
                refine RW.nil ?_
                exact ⟨true, [(2, .pointer (some ⟨g5, 0, none⟩)), (5, .int .i64 t32), (6, .bool true)], ⟨rfl, rfl, rfl, trivial⟩, hm, hR65.ext, (((hS66.bring 1 rfl).bring 1 rfl).taken 2), rfl⟩
              · skip
                rw [if_neg hg67] at hm
                refine RW.know 52 rfl (congrArg Value.bool (Bool.eq_false_iff.2 hg67)) ?_
                refine RW.run ttok 1 rfl ?_
                refine RW.load1 ttok rfl rfl rfl rfl rfl ((hS66.bring 1 rfl).box) 3 rfl rfl rfl rfl ?_
                refine RW.run ttok 2 rfl ?_
                by_cases hg68 : (x0.B == (-1)) = true
                · skip
                  rw [if_pos hg68] at hm
                  refine RW.know 56 rfl (congrArg Value.bool hg68) ?_
                  refine RW.load1 ttok rfl rfl rfl rfl rfl ((hS66.bring 0 rfl).box) 0 rfl rfl rfl rfl ?_
                  refine RW.run ttok 2 rfl ?_
                  by_cases hg69 : x1 = true
                  · skip
                    rw [if_pos hg69] at hm
                    refine RW.know 59 rfl (congrArg Value.bool hg69) ?_
                    refine RW.loadN ttok rfl rfl rfl rfl rfl ((hS66.bring 1 rfl).box) rfl rfl rfl ?_
                    obtain ⟨r70, hx71, hm⟩ := bind_some hm
                    refine RW.call rfl rfl rfl enters116 (impl_DequeActor_taking_ok (ty191.ext hS66.ext h0_) hx71) (fun v72 w73 hR74 => ?_)
                    obtain ⟨rfl, hR75⟩ := hR74
                    have hS76 := hS66.join hR75
                    refine RW.run ttok 3 rfl ?_
                    refine RW.nil ?_
                    exact ⟨r70, [(2, .pointer (some ⟨g5, 0, none⟩)), (5, .int .i64 t32), (6, .bool r70)], ⟨rfl, rfl, rfl, trivial⟩, hm, (hR65.ext.trans hR75.ext), (((hS76.bring 1 rfl).bring 1 rfl).taken 2), rfl⟩
                  · skip
                    rw [if_neg hg69] at hm
                    refine RW.know 59 rfl (congrArg Value.bool (Bool.eq_false_iff.2 hg69)) ?_
                    refine RW.run ttok 5 rfl ?_
                    refine RW.nil ?_
                    exact ⟨false, [(2, .pointer (some ⟨g5, 0, none⟩)), (5, .int .i64 t32), (6, .bool false)], ⟨rfl, rfl, rfl, trivial⟩, hm, hR65.ext, (((hS66.bring 1 rfl).bring 1 rfl).taken 2), rfl⟩
                · skip
                  rw [if_neg hg68] at hm
                  refine RW.know 56 rfl (congrArg Value.bool (Bool.eq_false_iff.2 hg68)) ?_
                  refine RW.run ttok 8 rfl ?_
                  refine RW.nil ?_
                  exact ⟨false, [(2, .pointer (some ⟨g5, 0, none⟩)), (5, .int .i64 t32), (6, .bool false)], ⟨rfl, rfl, rfl, trivial⟩, hm, hR65.ext, (((hS66.bring 1 rfl).bring 1 rfl).taken 2), rfl⟩
          · skip
            refine WP.cond (x26 != 0) rfl (fun hc => ?_) (fun hc => ?_)
            · skip
              rw [if_pos hc] at hm
              refine WP.region ?_
              refine RW.run ttok 1 rfl ?_
              refine RW.nil ?_
              exact ⟨2, [(2, .pointer (some ⟨g5, 0, none⟩)), (3, .pointer (some ⟨g9, 0, none⟩)), (5, .int .i64 2)], ⟨rfl, rfl, rfl, trivial⟩, hm, (Ext.refl _), (((hS20.bring 1 rfl).bring 1 rfl).taken 2), rfl⟩
            · skip
              rw [if_neg (not_t hc)] at hm
              refine WP.skip ?_
              exact ⟨3, [(2, .pointer (some ⟨g5, 0, none⟩)), (3, .pointer (some ⟨g9, 0, none⟩)), (5, .int .i64 3)], ⟨rfl, rfl, rfl, trivial⟩, hm, (Ext.refl _), (((hS20.bring 1 rfl).bring 1 rfl).taken 2), rfl⟩
      · skip
        refine WP.region ?_
        refine RW.run ttok 1 rfl ?_
        refine RW.load1 ttok rfl rfl rfl rfl rfl ((hS15.bring 1 rfl).box) 0 rfl rfl rfl rfl ?_
        refine RW.run ttok 3 rfl ?_
        by_cases hg77 : ((x0.Todo.length : Int) == 0) = true
        · skip
          rw [if_pos hg77] at hm
          refine RW.know 21 rfl (congrArg Value.bool hg77) ?_
          refine RW.run ttok 4 rfl ?_
          refine RW.nil ?_
          exact ⟨true, [(2, .pointer (some ⟨g5, 0, none⟩)), (3, .pointer (some ⟨g9, 0, none⟩)), (25, .bool true)], ⟨rfl, rfl, rfl, trivial⟩, hm, (Ext.refl _), (((hS15.bring 1 rfl).bring 1 rfl).taken 2), rfl⟩
        · skip
          rw [if_neg hg77] at hm
          refine RW.know 21 rfl (congrArg Value.bool (Bool.eq_false_iff.2 hg77)) ?_
          refine RW.run ttok 1 rfl ?_
          refine RW.load1 ttok rfl rfl rfl rfl rfl ((hS15.bring 1 rfl).box) 1 rfl rfl rfl rfl ?_
          refine RW.run ttok 2 rfl ?_
          refine RW.nil ?_
          exact ⟨(x0.Pc == 0), [(2, .pointer (some ⟨g5, 0, none⟩)), (3, .pointer (some ⟨g9, 0, none⟩)), (25, .bool (x0.Pc == 0))], ⟨rfl, rfl, rfl, trivial⟩, hm, (Ext.refl _), (((hS15.bring 1 rfl).bring 1 rfl).taken 2), rfl⟩
  · skip
    refine WP.region ?_
    refine RW.run ttok 1 rfl ?_
    refine RW.load1 ttok rfl rfl rfl rfl rfl ((hS12.bring 1 rfl).box) 0 rfl rfl rfl rfl ?_
    refine RW.run ttok 3 rfl ?_
    by_cases hg78 : (decide ((x0.Todo.length : Int) > 10)) = true
    · skip
      rw [if_pos hg78] at hm
      refine RW.know 11 rfl (congrArg Value.bool hg78) ?_
      refine RW.run ttok 5 rfl ?_
      refine RW.nil ?_
      exact ⟨true, [(2, .pointer (some ⟨g5, 0, none⟩)), (3, .pointer (some ⟨g9, 0, none⟩)), (16, .bool true)], ⟨rfl, rfl, rfl, trivial⟩, hm, (Ext.refl _), (((hS12.bring 1 rfl).bring 1 rfl).taken 2), rfl⟩
    · skip
      rw [if_neg hg78] at hm
      refine RW.know 11 rfl (congrArg Value.bool (Bool.eq_false_iff.2 hg78)) ?_
      refine RW.run ttok 1 rfl ?_
      refine RW.load1 ttok rfl rfl rfl rfl rfl ((hS12.bring 1 rfl).box) 0 rfl rfl rfl rfl ?_
      refine RW.run ttok 1 rfl ?_
      obtain ⟨r79, hx80, hm⟩ := bind_some hm
      refine RW.call rfl rfl rfl enters111 (slices_ContainsFunc_int64_int64_ok (ty72.ext hS12.ext h3) ⟨enters162, fun e9 => (fun  hx9 => impl_validActor_c1_ok (At.ext e9 ((hS12.bring 0 rfl).box)) hx9)⟩ hx80) (fun v81 w82 hR83 => ?_)
      obtain ⟨rfl, hR84⟩ := hR83
      have hS85 := hS12.join hR84
      refine RW.run ttok 1 rfl ?_
      refine RW.nil ?_
      exact ⟨r79, [(2, .pointer (some ⟨g5, 0, none⟩)), (3, .pointer (some ⟨g9, 0, none⟩)), (16, .bool r79)], ⟨rfl, rfl, rfl, trivial⟩, hm, hR84.ext, (((hS85.bring 1 rfl).bring 1 rfl).taken 2), rfl⟩

theorem enters163 : Enters Try.prog 163 := ⟨_, _, Try.func163, rfl, by kernel_rfl⟩
def m_slices_IndexFunc_impl_Handed_impl_Handed_j1 (fuel : Nat) (t2 : Unit) : Option Int := some (-1)
def m_slices_IndexFunc_impl_Handed_impl_Handed_b1 (fuel : Nat) (x0 : (List D.Handed)) (x1 : D.Handed → Option Bool) (s1 : Int) : Option (Rd (Int) (Unit) (Int)) := (if (decide (s1 < (x0.length : Int))) = true then ((idx x0 s1).bind fun x17 => ((x1 x17).bind fun r24 => (if r24 = true then some (.ret s1) else some (.next (w64 (s1 + 1)))))) else some (.brk ()))
def m_slices_IndexFunc_impl_Handed_impl_Handed (fuel : Nat) (x0 : (List D.Handed)) (x1 : D.Handed → Option Bool) : Option (Int) := ((iter (m_slices_IndexFunc_impl_Handed_impl_Handed_b1 fuel x0 x1) fuel 0).bind fun o => aft o (m_slices_IndexFunc_impl_Handed_impl_Handed_j1 fuel))

set_option maxRecDepth 100000 in
theorem slices_IndexFunc_impl_Handed_impl_Handed_ok {w : World} {A0_ : Option Addr} {k0_ : Nat} {x0 : (List D.Handed)} {f1_ : Nat} {u1_ : List Value} {x1 : D.Handed → Option Bool} (h0_ : ty110.ro w [.slice A0_ x0.length k0_] x0) (h1_ : Enters Try.prog f1_ ∧ ∀ {w9 : World}, Ext w w9 → ∀ {cz0 : List Value} {z0 : D.Handed} {y9 : Bool}, ty196.ro w9 cz0 z0 → x1 z0 = some y9 → Calls Try.prog f1_ ⟨[.agg ⟨cz0⟩] ++ u1_⟩ w9 (Ret fun v w8 => v = .bool y9 ∧ St w9 w8 [])) {fuel : Nat} {r : Int} (hm : m_slices_IndexFunc_impl_Handed_impl_Handed fuel x0 x1 = some r) :
    Calls Try.prog 163 ⟨[.slice A0_ x0.length k0_, .func (.func f1_) #[] ⟨u1_⟩]⟩ w (Ret fun v w8 => v = .int .i64 r ∧ St w w8 []) := by
  refine Calls.into Try.func163 rfl 19 rfl rfl _ rfl ?_
  unfold m_slices_IndexFunc_impl_Handed_impl_Handed at hm
  have hS := St.start w
  refine WP.seq ?_
  refine WP.region ?_
  refine RW.run ttok 1 rfl ?_
  refine RW.nil ?_
  refine WP.seq ?_
  refine WP.seq ?_
  refine WP.region ?_
  refine RW.run ttok 3 rfl ?_
  refine RW.nil ?_
  obtain ⟨o8, hl9, hm⟩ := bind_some hm
  refine WP.cut (fun (t2 : Unit) F w9 => o8 = .inl t2 ∧ Ext w w9 ∧ St w w9 [] ∧ F = []) ?_ ?_
  · skip
    rintro t2 F w7 ⟨ho11, hE6, hS10, rfl⟩
    subst ho11
    rw [aft_inl] at hm
    unfold m_slices_IndexFunc_impl_Handed_impl_Handed_j1 at hm
    refine WP.seq ?_
    refine WP.region ?_
    refine RW.run ttok 1 rfl ?_
    refine RW.nil ?_
    refine WP.ret ?_
    cases hm
    exact ⟨_, .cons (.tmp rfl) .nil, rfl, (hS10.taken 0)⟩
  · skip
    refine WP.block ?_
    refine WP.weak [(0, .slice A0_ x0.length k0_), (1, .func (.func f1_) #[] ⟨u1_⟩), (7, .int .i64 (x0.length : Int)), (8, .int .i64 0)] ⟨rfl, rfl, rfl, rfl, trivial⟩ ?_
    refine WP.iter (fun (s1 : Int) F w9 => Ext w w9 ∧ St w w9 [] ∧ F = [(0, .slice A0_ x0.length k0_), (1, .func (.func f1_) #[] ⟨u1_⟩), (7, .int .i64 (x0.length : Int)), (8, .int .i64 s1)]) _ hl9 ⟨(Ext.refl _), (hS.taken 0), rfl⟩ ?_
    rintro s1 F w16 _ o14 ⟨hE5, hS15, rfl⟩ hb12 ho13
    unfold m_slices_IndexFunc_impl_Handed_impl_Handed_b1 at hb12
    refine WP.seq ?_
    refine WP.region ?_
    refine RW.run ttok 1 rfl ?_
    refine RW.nil ?_
    refine WP.seq ?_
    refine WP.cond (decide (s1 < (x0.length : Int))) rfl (fun hc => ?_) (fun hc => ?_)
    · skip
      rw [if_pos hc] at hb12
      refine WP.skip ?_
      refine WP.seq ?_
      refine WP.block ?_
      refine WP.seq ?_
      refine WP.region ?_
      refine RW.run ttok 2 rfl ?_
      refine RW.nil ?_
      refine WP.seq ?_
      refine WP.region ?_
      refine RW.run ttok 3 rfl ?_
      obtain ⟨x17, hx18, hb12⟩ := bind_some hb12
      refine RW.idx ttok hS15.ext rfl rfl rfl rfl rfl rfl (by decide) rfl rfl h0_ (idx_some hx18).1 (idx_some hx18).2 rfl rfl (fun p19 es20 ha21 hr22 => ?_)
      have e23 := ty196_open hr22; subst e23
      refine RW.loadN ttok rfl rfl rfl rfl rfl (At.ext hS15.ext ha21) rfl rfl rfl ?_
      obtain ⟨r24, hx25, hb12⟩ := bind_some hb12
      refine RW.call rfl rfl rfl h1_.1 (h1_.2 hS15.ext (ty196.ext hS15.ext hr22) hx25) (fun v26 w27 hR28 => ?_)
      obtain ⟨rfl, hR29⟩ := hR28
      have hS30 := hS15.join hR29
      refine RW.nil ?_
      refine WP.cond r24 rfl (fun hc => ?_) (fun hc => ?_)
      · skip
        rw [if_pos hc] at hb12
        refine WP.seq ?_
        refine WP.region ?_
        refine RW.run ttok 2 rfl ?_
        refine RW.nil ?_
        refine WP.ret ?_
        cases hb12
        cases ho13
        have hm : some _ = some _ := hm
        cases hm
        exact ⟨_, .cons (.tmp rfl) .nil, rfl, (hS30.taken 0)⟩
      · skip
        rw [if_neg (not_t hc)] at hb12
        refine WP.skip ?_
        refine WP.region ?_
        refine RW.run ttok 2 rfl ?_
        refine RW.nil ?_
        cases hb12
        exact ⟨_, [(0, .slice A0_ x0.length k0_), (1, .func (.func f1_) #[] ⟨u1_⟩), (7, .int .i64 (x0.length : Int)), (8, .int .i64 (w64 (s1 + 1)))], ⟨rfl, rfl, rfl, rfl, trivial⟩, rfl, (hE5.trans hR29.ext), (hS30.taken 0), rfl⟩
    · skip
      rw [if_neg (not_t hc)] at hb12
      refine WP.exit ?_
      cases hb12
      exact ⟨_, [], trivial, ho13, hE5, (hS15.taken 0), rfl⟩

theorem enters117 : Enters Try.prog 117 := ⟨_, _, Try.func117, rfl, by kernel_rfl⟩
def m_slices_ContainsFunc_impl_Handed_impl_Handed (fuel : Nat) (x0 : (List D.Handed)) (x1 : D.Handed → Option Bool) : Option (Bool) := ((m_slices_IndexFunc_impl_Handed_impl_Handed fuel x0 x1).bind fun r1 => some (decide (r1 ≥ 0)))

set_option maxRecDepth 100000 in
theorem slices_ContainsFunc_impl_Handed_impl_Handed_ok {w : World} {A0_ : Option Addr} {k0_ : Nat} {x0 : (List D.Handed)} {f1_ : Nat} {u1_ : List Value} {x1 : D.Handed → Option Bool} (h0_ : ty110.ro w [.slice A0_ x0.length k0_] x0) (h1_ : Enters Try.prog f1_ ∧ ∀ {w9 : World}, Ext w w9 → ∀ {cz0 : List Value} {z0 : D.Handed} {y9 : Bool}, ty196.ro w9 cz0 z0 → x1 z0 = some y9 → Calls Try.prog f1_ ⟨[.agg ⟨cz0⟩] ++ u1_⟩ w9 (Ret fun v w8 => v = .bool y9 ∧ St w9 w8 [])) {fuel : Nat} {r : Bool} (hm : m_slices_ContainsFunc_impl_Handed_impl_Handed fuel x0 x1 = some r) :
    Calls Try.prog 117 ⟨[.slice A0_ x0.length k0_, .func (.func f1_) #[] ⟨u1_⟩]⟩ w (Ret fun v w8 => v = .bool r ∧ St w w8 []) := by
  refine Calls.into Try.func117 rfl 9 rfl rfl _ rfl ?_
  unfold m_slices_ContainsFunc_impl_Handed_impl_Handed at hm
  have hS := St.start w
  refine WP.seq ?_
  refine WP.region ?_
  refine RW.run ttok 1 rfl ?_
  refine RW.nil ?_
  refine WP.seq ?_
  refine WP.region ?_
  refine RW.run ttok 2 rfl ?_
  obtain ⟨r1, hx2, hm⟩ := bind_some hm
  refine RW.call rfl rfl rfl enters163 (slices_IndexFunc_impl_Handed_impl_Handed_ok (ty110.ext hS.ext h0_) ⟨h1_.1, fun e9 => h1_.2 (hS.ext.trans e9)⟩ hx2) (fun v3 w4 hR5 => ?_)
  obtain ⟨rfl, hR6⟩ := hR5
  have hS7 := hS.join hR6
  refine RW.run ttok 2 rfl ?_
  refine RW.nil ?_
  refine WP.ret ?_
  cases hm
  exact ⟨_, .cons (.tmp rfl) .nil, rfl, (hS7.taken 0)⟩

theorem enters118 : Enters Try.prog 118 := ⟨_, _, Try.func118, rfl, by kernel_rfl⟩
def m_impl_ValidDeque_c2 (fuel : Nat) (x0 : D.Handed) (x1 : D.Deque) : Option (Bool) := (if (decide (x0.Actor < 0)) = true then some true else (if (decide (x0.Actor ≥ (x1.Actors.length : Int))) = true then some true else ((m_impl_isEnd fuel x0.Value).bind fun r21 => some (!r21))))

set_option maxRecDepth 100000 in
theorem impl_ValidDeque_c2_ok {w : World} {c0_ : List Value} {x0 : D.Handed} {p1_ : Addr} {c1_ : List Value} {x1 : D.Deque} (h0_ : ty196.ro w c0_ x0) (h1_ : ty112.ro w c1_ x1) (g1_ : At w p1_ c1_) {fuel : Nat} {r : Bool} (hm : m_impl_ValidDeque_c2 fuel x0 x1 = some r) :
    Calls Try.prog 118 ⟨[.agg ⟨c0_⟩, .pointer (some p1_)]⟩ w (Ret fun v w8 => v = .bool r ∧ St w w8 []) := by
  have e1 := ty196_open h0_; subst e1
  obtain ⟨A2, k3, A5, k6, A8, k9, A11, k12, e14, h4, h7, h10, h13⟩ := ty112_open h1_; subst e14
  refine Calls.into Try.func118 rfl 21 rfl rfl _ rfl ?_
  unfold m_impl_ValidDeque_c2 at hm
  have hS := St.start w
  refine WP.seq ?_
  refine WP.region ?_
  refine RW.new ttok hS rfl rfl rfl rfl (fun g15 w16 e17 hS18 => ?_)
  refine RW.run ttok 1 rfl ?_
  refine RW.nil ?_
  refine WP.seq ?_
  refine WP.region ?_
  refine RW.run ttok 1 rfl ?_
  refine RW.load1 ttok rfl rfl rfl rfl rfl ((hS18.bring 0 rfl).box) 0 rfl rfl rfl rfl ?_
  refine RW.run ttok 2 rfl ?_
  by_cases hg19 : (decide (x0.Actor < 0)) = true
  · skip
    rw [if_pos hg19] at hm
    refine RW.know 7 rfl (congrArg Value.bool hg19) ?_
    refine RW.run ttok 14 rfl ?_
    refine RW.nil ?_
    refine WP.ret ?_
    cases hm
    exact ⟨_, .cons (.tmp rfl) .nil, rfl, (hS18.taken 0)⟩
  · skip
    rw [if_neg hg19] at hm
    refine RW.know 7 rfl (congrArg Value.bool (Bool.eq_false_iff.2 hg19)) ?_
    refine RW.run ttok 1 rfl ?_
    refine RW.load1 ttok rfl rfl rfl rfl rfl ((hS18.bring 0 rfl).box) 0 rfl rfl rfl rfl ?_
    refine RW.run ttok 1 rfl ?_
    refine RW.load1 ttok rfl rfl rfl rfl rfl (At.ext hS18.ext g1_) 3 rfl rfl rfl rfl ?_
    refine RW.run ttok 4 rfl ?_
    by_cases hg20 : (decide (x0.Actor ≥ (x1.Actors.length : Int))) = true
    · skip
      rw [if_pos hg20] at hm
      refine RW.know 15 rfl (congrArg Value.bool hg20) ?_
      refine RW.run ttok 6 rfl ?_
      refine RW.nil ?_
      refine WP.ret ?_
      cases hm
      exact ⟨_, .cons (.tmp rfl) .nil, rfl, (hS18.taken 0)⟩
    · skip
      rw [if_neg hg20] at hm
      refine RW.know 15 rfl (congrArg Value.bool (Bool.eq_false_iff.2 hg20)) ?_
      refine RW.run ttok 1 rfl ?_
      refine RW.load1 ttok rfl rfl rfl rfl rfl ((hS18.bring 0 rfl).box) 1 rfl rfl rfl rfl ?_
      obtain ⟨r21, hx22, hm⟩ := bind_some hm
      refine RW.call rfl rfl rfl enters114 (impl_isEnd_ok  hx22) (fun v23 w24 hR25 => ?_)
      obtain ⟨rfl, hR26⟩ := hR25
      have hS27 := hS18.join hR26
      refine RW.run ttok 3 rfl ?_
      refine RW.nil ?_
      refine WP.ret ?_
      cases hm
      exact ⟨_, .cons (.tmp rfl) .nil, rfl, (hS27.taken 0)⟩

theorem enters119 : Enters Try.prog 119 := ⟨_, _, Try.func119, rfl, by kernel_rfl⟩
def m_impl_ValidDeque_c3 (fuel : Nat) (x0 : Int) : Option (Bool) := ((m_impl_isTask fuel x0).bind fun r1 => some (!r1))

set_option maxRecDepth 100000 in
theorem impl_ValidDeque_c3_ok {w : World} {x0 : Int}  {fuel : Nat} {r : Bool} (hm : m_impl_ValidDeque_c3 fuel x0 = some r) :
    Calls Try.prog 119 ⟨[.int .i64 x0]⟩ w (Ret fun v w8 => v = .bool r ∧ St w w8 []) := by
  refine Calls.into Try.func119 rfl 6 rfl rfl _ rfl ?_
  unfold m_impl_ValidDeque_c3 at hm
  have hS := St.start w
  refine WP.seq ?_
  refine WP.region ?_
  refine RW.run ttok 1 rfl ?_
  refine RW.nil ?_
  refine WP.seq ?_
  refine WP.region ?_
  refine RW.run ttok 1 rfl ?_
  obtain ⟨r1, hx2, hm⟩ := bind_some hm
  refine RW.call rfl rfl rfl enters113 (impl_isTask_ok  hx2) (fun v3 w4 hR5 => ?_)
  obtain ⟨rfl, hR6⟩ := hR5
  have hS7 := hS.join hR6
  refine RW.run ttok 2 rfl ?_
  refine RW.nil ?_
  refine WP.ret ?_
  cases hm
  exact ⟨_, .cons (.tmp rfl) .nil, rfl, (hS7.taken 0)⟩

theorem enters44 : Enters Try.prog 44 := ⟨_, _, Try.func44, rfl, by kernel_rfl⟩
def m_impl_ValidDeque_j5 (fuel : Nat) (x0 : D.Deque) (t41 : Bool) : Option Bool := (if t41 = true then some false else ((m_slices_ContainsFunc_impl_Handed_impl_Handed fuel x0.Taken (fun y0 => m_impl_ValidDeque_c2 fuel y0 x0)).bind fun r46 => (if (!r46) = true then ((m_slices_ContainsFunc_int64_int64 fuel x0.Refused (fun y0 => m_impl_ValidDeque_c3 fuel y0)).bind fun r54 => some (!r54)) else some false)))
def m_impl_ValidDeque_j4 (fuel : Nat) (x0 : D.Deque) (t36 : Bool) : Option Bool := (if t36 = true then some false else (if (decide ((x0.Taken.length : Int) > 1000)) = true then m_impl_ValidDeque_j5 fuel x0 true else m_impl_ValidDeque_j5 fuel x0 (decide ((x0.Refused.length : Int) > 1000))))
def m_impl_ValidDeque_j3 (fuel : Nat) (x0 : D.Deque) (t29 : Unit) : Option Bool := (if (decide ((w64 (x0.Bottom - x0.Top)) > (x0.Buffer.length : Int))) = true then m_impl_ValidDeque_j4 fuel x0 true else (if (decide ((w64 (x0.Bottom - x0.Top)) < (-1))) = true then m_impl_ValidDeque_j4 fuel x0 true else (if ((w64 (x0.Bottom - x0.Top)) == (-1)) = true then ((idx x0.Actors 0).bind fun x65 => ((m_impl_DequeActor_taking fuel x65).bind fun r75 => m_impl_ValidDeque_j4 fuel x0 (!r75))) else m_impl_ValidDeque_j4 fuel x0 false)))
def m_impl_ValidDeque_b1 (fuel : Nat) (x0 : D.Deque) (s28 : Int) : Option (Rd (Int) (Unit) (Bool)) := (if (decide (s28 < (x0.Actors.length : Int))) = true then ((idx x0.Actors s28).bind fun x87 => ((m_impl_validActor fuel x87 (s28 == 0)).bind fun r104 => (if (!r104) = true then some (.ret false) else some (.next (w64 (s28 + 1)))))) else some (.brk ()))
def m_impl_ValidDeque_j2 (fuel : Nat) (x0 : D.Deque) (t23 : Bool) : Option Bool := (if t23 = true then some false else ((iter (m_impl_ValidDeque_b1 fuel x0) fuel 0).bind fun o => aft o (m_impl_ValidDeque_j3 fuel x0)))
def m_impl_ValidDeque_j1 (fuel : Nat) (x0 : D.Deque) (t18 : Bool) : Option Bool := (if t18 = true then some false else (if (decide ((x0.Actors.length : Int) < 1)) = true then m_impl_ValidDeque_j2 fuel x0 true else (if (decide ((x0.Actors.length : Int) > 4)) = true then m_impl_ValidDeque_j2 fuel x0 true else ((m_impl_isEnd fuel x0.Top).bind fun r113 => (if (!r113) = true then m_impl_ValidDeque_j2 fuel x0 true else (if (x0.Bottom != (-1)) = true then ((m_impl_isEnd fuel x0.Bottom).bind fun r122 => m_impl_ValidDeque_j2 fuel x0 (!r122)) else m_impl_ValidDeque_j2 fuel x0 false))))))
def m_impl_ValidDeque (fuel : Nat) (x0 : D.Deque) : Option (Bool) := (if (decide ((x0.Buffer.length : Int) < 1)) = true then m_impl_ValidDeque_j1 fuel x0 true else (if (decide ((x0.Buffer.length : Int) > 8)) = true then m_impl_ValidDeque_j1 fuel x0 true else ((m_slices_ContainsFunc_int64_int64 fuel x0.Buffer (fun y0 => m_impl_ValidDeque_c1 fuel y0)).bind fun r131 => m_impl_ValidDeque_j1 fuel x0 r131)))

set_option maxRecDepth 100000 in
theorem impl_ValidDeque_ok {w : World} {c0_ : List Value} {x0 : D.Deque} (h0_ : ty112.ro w c0_ x0) {fuel : Nat} {r : Bool} (hm : m_impl_ValidDeque fuel x0 = some r) :
    Calls Try.prog 44 ⟨[.agg ⟨c0_⟩]⟩ w (Ret fun v w8 => v = .bool r ∧ St w w8 []) := by
  obtain ⟨A1, k2, A4, k5, A7, k8, A10, k11, e13, h3, h6, h9, h12⟩ := ty112_open h0_; subst e13
  refine Calls.into Try.func44 rfl 109 rfl rfl _ rfl ?_
  unfold m_impl_ValidDeque at hm
  have hS := St.start w
  refine WP.seq ?_
  refine WP.region ?_
  refine RW.new ttok hS rfl rfl rfl rfl (fun g14 w15 e16 hS17 => ?_)
  refine RW.run ttok 1 rfl ?_
  refine RW.nil ?_
  refine WP.seq ?_
  refine WP.seq ?_
  refine WP.cut (fun (t18 : Bool) F w9 => m_impl_ValidDeque_j1 fuel x0 t18 = some r ∧ Ext w15 w9 ∧ St w w9 [Box g14 [.int .i64 x0.Top, .int .i64 x0.Bottom, .slice A1 x0.Buffer.length k2, .slice A4 x0.Actors.length k5, .slice A7 x0.Taken.length k8, .slice A10 x0.Refused.length k11] 112] ∧ F = [(1, .pointer (some ⟨g14, 0, none⟩)), (20, .bool t18)]) ?_ ?_
  · skip
    rintro t18 F w21 ⟨hm, hE19, hS20, rfl⟩
    unfold m_impl_ValidDeque_j1 at hm
    refine WP.cond t18 rfl (fun hc => ?_) (fun hc => ?_)
    · skip
      rw [if_pos hc] at hm
      refine WP.seq ?_
      refine WP.region ?_
      refine RW.run ttok 1 rfl ?_
      refine RW.nil ?_
      refine WP.ret ?_
      cases hm
      exact ⟨_, .cons (.tmp rfl) .nil, rfl, (hS20.taken 0)⟩
    · skip
      rw [if_neg (not_t hc)] at hm
      refine WP.skip ?_
      refine WP.seq ?_
      refine WP.seq ?_
      refine WP.cut (fun (t23 : Bool) F w9 => m_impl_ValidDeque_j2 fuel x0 t23 = some r ∧ Ext w21 w9 ∧ St w w9 [Box g14 [.int .i64 x0.Top, .int .i64 x0.Bottom, .slice A1 x0.Buffer.length k2, .slice A4 x0.Actors.length k5, .slice A7 x0.Taken.length k8, .slice A10 x0.Refused.length k11] 112] ∧ F = [(1, .pointer (some ⟨g14, 0, none⟩)), (47, .bool t23)]) ?_ ?_
      · skip
        rintro t23 F w26 ⟨hm, hE24, hS25, rfl⟩
        unfold m_impl_ValidDeque_j2 at hm
        refine WP.cond t23 rfl (fun hc => ?_) (fun hc => ?_)
        · skip
          rw [if_pos hc] at hm
          refine WP.seq ?_
          refine WP.region ?_
          refine RW.run ttok 1 rfl ?_
          refine RW.nil ?_
          refine WP.ret ?_
          cases hm
          exact ⟨_, .cons (.tmp rfl) .nil, rfl, (hS25.taken 0)⟩
        · skip
          rw [if_neg (not_t hc)] at hm
          refine WP.skip ?_
          refine WP.seq ?_
          refine WP.seq ?_
          refine WP.region ?_
          refine RW.run ttok 1 rfl ?_
          refine RW.load1 ttok rfl rfl rfl rfl rfl ((hS25.bring 0 rfl).box) 3 rfl rfl rfl rfl ?_
          refine RW.run ttok 2 rfl ?_
          refine RW.nil ?_
          obtain ⟨o32, hl33, hm⟩ := bind_some hm
          refine WP.cut (fun (t29 : Unit) F w9 => o32 = .inl t29 ∧ St w w9 [Box g14 [.int .i64 x0.Top, .int .i64 x0.Bottom, .slice A1 x0.Buffer.length k2, .slice A4 x0.Actors.length k5, .slice A7 x0.Taken.length k8, .slice A10 x0.Refused.length k11] 112] ∧ F = [(1, .pointer (some ⟨g14, 0, none⟩))]) ?_ ?_
          · skip
            rintro t29 F w31 ⟨ho35, hS34, rfl⟩
            subst ho35
            rw [aft_inl] at hm
            unfold m_impl_ValidDeque_j3 at hm
            refine WP.seq ?_
            refine WP.region ?_
            refine RW.run ttok 1 rfl ?_
            refine RW.load1 ttok rfl rfl rfl rfl rfl ((hS34.bring 0 rfl).box) 1 rfl rfl rfl rfl ?_
            refine RW.run ttok 1 rfl ?_
            refine RW.load1 ttok rfl rfl rfl rfl rfl ((hS34.bring 0 rfl).box) 0 rfl rfl rfl rfl ?_
            refine RW.run ttok 2 rfl ?_
            refine RW.nil ?_
            refine WP.seq ?_
            refine WP.seq ?_
            refine WP.cut (fun (t36 : Bool) F w9 => m_impl_ValidDeque_j4 fuel x0 t36 = some r ∧ Ext w31 w9 ∧ St w w9 [Box g14 [.int .i64 x0.Top, .int .i64 x0.Bottom, .slice A1 x0.Buffer.length k2, .slice A4 x0.Actors.length k5, .slice A7 x0.Taken.length k8, .slice A10 x0.Refused.length k11] 112] ∧ F = [(1, .pointer (some ⟨g14, 0, none⟩)), (87, .bool t36)]) ?_ ?_
            · skip
              rintro t36 F w39 ⟨hm, hE37, hS38, rfl⟩
              unfold m_impl_ValidDeque_j4 at hm
              refine WP.cond t36 rfl (fun hc => ?_) (fun hc => ?_)
              · skip
                rw [if_pos hc] at hm
                refine WP.seq ?_
                refine WP.region ?_
                refine RW.run ttok 1 rfl ?_
                refine RW.nil ?_
                refine WP.ret ?_
                cases hm
                exact ⟨_, .cons (.tmp rfl) .nil, rfl, (hS38.taken 0)⟩
              · skip
                rw [if_neg (not_t hc)] at hm
                refine WP.skip ?_
                refine WP.seq ?_
                refine WP.seq ?_
                refine WP.cut (fun (t41 : Bool) F w9 => m_impl_ValidDeque_j5 fuel x0 t41 = some r ∧ Ext w39 w9 ∧ St w w9 [Box g14 [.int .i64 x0.Top, .int .i64 x0.Bottom, .slice A1 x0.Buffer.length k2, .slice A4 x0.Actors.length k5, .slice A7 x0.Taken.length k8, .slice A10 x0.Refused.length k11] 112] ∧ F = [(1, .pointer (some ⟨g14, 0, none⟩)), (97, .bool t41)]) ?_ ?_
                · skip
                  rintro t41 F w44 ⟨hm, hE42, hS43, rfl⟩
                  unfold m_impl_ValidDeque_j5 at hm
                  refine WP.cond t41 rfl (fun hc => ?_) (fun hc => ?_)
                  · skip
                    rw [if_pos hc] at hm
                    refine WP.seq ?_
                    refine WP.region ?_
                    refine RW.run ttok 1 rfl ?_
                    refine RW.nil ?_
                    refine WP.ret ?_
                    cases hm
                    exact ⟨_, .cons (.tmp rfl) .nil, rfl, (hS43.taken 0)⟩
                  · skip
                    rw [if_neg (not_t hc)] at hm
                    refine WP.skip ?_
                    refine WP.seq ?_
                    refine WP.region ?_
                    refine RW.run ttok 1 rfl ?_
                    refine RW.load1 ttok rfl rfl rfl rfl rfl ((hS43.bring 0 rfl).box) 4 rfl rfl rfl rfl ?_
                    refine RW.run ttok 1 rfl ?_
                    obtain ⟨r46, hx47, hm⟩ := bind_some hm
                    refine RW.call rfl rfl rfl enters117 (slices_ContainsFunc_impl_Handed_impl_Handed_ok (ty110.ext hS43.ext h9) ⟨enters118, fun e9 => (fun a0_0 hx9 => impl_ValidDeque_c2_ok a0_0 (ty112.ext e9 (ty112.ext hS43.ext h0_)) (At.ext e9 ((hS43.bring 0 rfl).box)) hx9)⟩ hx47) (fun v48 w49 hR50 => ?_)
                    obtain ⟨rfl, hR51⟩ := hR50
                    have hS52 := hS43.join hR51
                    refine RW.run ttok 2 rfl ?_
                    by_cases hg53 : (!r46) = true
                    · skip
                      rw [if_pos hg53] at hm
                      refine RW.know 103 rfl (congrArg Value.bool hg53) ?_
                      refine RW.run ttok 1 rfl ?_
                      refine RW.load1 ttok rfl rfl rfl rfl rfl ((hS52.bring 0 rfl).box) 5 rfl rfl rfl rfl ?_
                      obtain ⟨r54, hx55, hm⟩ := bind_some hm
                      refine RW.call rfl rfl rfl enters111 (slices_ContainsFunc_int64_int64_ok (ty72.ext hS52.ext h12) ⟨enters119, fun e9 => (fun  hx9 => impl_ValidDeque_c3_ok  hx9)⟩ hx55) (fun v56 w57 hR58 => ?_)
                      obtain ⟨rfl, hR59⟩ := hR58
                      have hS60 := hS52.join hR59
                      refine RW.run ttok 3 rfl ?_
                      refine RW.nil ?_
                      refine WP.ret ?_
                      cases hm
                      exact ⟨_, .cons (.tmp rfl) .nil, rfl, (hS60.taken 0)⟩
                    · skip
                      rw [if_neg hg53] at hm
                      refine RW.know 103 rfl (congrArg Value.bool (Bool.eq_false_iff.2 hg53)) ?_
                      refine RW.run ttok 6 rfl ?_
                      refine RW.nil ?_
                      refine WP.ret ?_
                      cases hm
                      exact ⟨_, .cons (.tmp rfl) .nil, rfl, (hS52.taken 0)⟩
                · skip
                  refine WP.region ?_
                  refine RW.run ttok 1 rfl ?_
                  refine RW.load1 ttok rfl rfl rfl rfl rfl ((hS38.bring 0 rfl).box) 4 rfl rfl rfl rfl ?_
                  refine RW.run ttok 3 rfl ?_
                  by_cases hg61 : (decide ((x0.Taken.length : Int) > 1000)) = true
                  · skip
                    rw [if_pos hg61] at hm
                    refine RW.know 92 rfl (congrArg Value.bool hg61) ?_
                    refine RW.run ttok 5 rfl ?_
                    refine RW.nil ?_
                    exact ⟨true, [(1, .pointer (some ⟨g14, 0, none⟩)), (97, .bool true)], ⟨rfl, rfl, trivial⟩, hm, (Ext.refl _), ((hS38.bring 0 rfl).taken 1), rfl⟩
                  · skip
                    rw [if_neg hg61] at hm
                    refine RW.know 92 rfl (congrArg Value.bool (Bool.eq_false_iff.2 hg61)) ?_
                    refine RW.run ttok 1 rfl ?_
                    refine RW.load1 ttok rfl rfl rfl rfl rfl ((hS38.bring 0 rfl).box) 5 rfl rfl rfl rfl ?_
                    refine RW.run ttok 3 rfl ?_
                    refine RW.nil ?_
                    exact ⟨decide ((x0.Refused.length : Int) > 1000), [(1, .pointer (some ⟨g14, 0, none⟩)), (97, .bool (decide ((x0.Refused.length : Int) > 1000)))], ⟨rfl, rfl, trivial⟩, hm, (Ext.refl _), ((hS38.bring 0 rfl).taken 1), rfl⟩
            · skip
              refine WP.region ?_
              refine RW.run ttok 2 rfl ?_
              refine RW.load1 ttok rfl rfl rfl rfl rfl ((hS34.bring 0 rfl).box) 2 rfl rfl rfl rfl ?_
              refine RW.run ttok 3 rfl ?_
              by_cases hg62 : (decide ((w64 (x0.Bottom - x0.Top)) > (x0.Buffer.length : Int))) = true
              · skip
                rw [if_pos hg62] at hm
                refine RW.know 72 rfl (congrArg Value.bool hg62) ?_
                refine RW.run ttok 15 rfl ?_
                refine RW.nil ?_
                exact ⟨true, [(1, .pointer (some ⟨g14, 0, none⟩)), (87, .bool true)], ⟨rfl, rfl, trivial⟩, hm, (Ext.refl _), ((hS34.bring 0 rfl).taken 1), rfl⟩
              · skip
                rw [if_neg hg62] at hm
                refine RW.know 72 rfl (congrArg Value.bool (Bool.eq_false_iff.2 hg62)) ?_
                refine RW.run ttok 4 rfl ?_
                by_cases hg63 : (decide ((w64 (x0.Bottom - x0.Top)) < (-1))) = true
                · skip
                  rw [if_pos hg63] at hm
                  refine RW.know 76 rfl (congrArg Value.bool hg63) ?_
                  refine RW.run ttok 11 rfl ?_
                  refine RW.nil ?_
                  exact ⟨true, [(1, .pointer (some ⟨g14, 0, none⟩)), (87, .bool true)], ⟨rfl, rfl, trivial⟩, hm, (Ext.refl _), ((hS34.bring 0 rfl).taken 1), rfl⟩
                · skip
                  rw [if_neg hg63] at hm
                  refine RW.know 76 rfl (congrArg Value.bool (Bool.eq_false_iff.2 hg63)) ?_
                  refine RW.run ttok 3 rfl ?_
                  by_cases hg64 : ((w64 (x0.Bottom - x0.Top)) == (-1)) = true
                  · skip
                    rw [if_pos hg64] at hm
                    refine RW.know 79 rfl (congrArg Value.bool hg64) ?_
                    refine RW.run ttok 1 rfl ?_
                    refine RW.load1 ttok rfl rfl rfl rfl rfl ((hS34.bring 0 rfl).box) 3 rfl rfl rfl rfl ?_
                    obtain ⟨x65, hx66, hm⟩ := bind_some hm
                    refine RW.idx ttok hS34.ext rfl rfl rfl rfl rfl rfl (by decide) rfl rfl h6 (idx_some hx66).1 (idx_some hx66).2 rfl rfl (fun p67 es68 ha69 hr70 => ?_)
                    obtain ⟨A71, k72, e74, h73⟩ := ty191_open hr70; subst e74
                    refine RW.loadN ttok rfl rfl rfl rfl rfl (At.ext hS34.ext ha69) rfl rfl rfl ?_
                    obtain ⟨r75, hx76, hm⟩ := bind_some hm
                    refine RW.call rfl rfl rfl enters116 (impl_DequeActor_taking_ok (ty191.ext hS34.ext hr70) hx76) (fun v77 w78 hR79 => ?_)
                    obtain ⟨rfl, hR80⟩ := hR79
                    have hS81 := hS34.join hR80
                    refine RW.run ttok 3 rfl ?_
                    refine RW.nil ?_
                    exact ⟨!r75, [(1, .pointer (some ⟨g14, 0, none⟩)), (87, .bool (!r75))], ⟨rfl, rfl, trivial⟩, hm, hR80.ext, ((hS81.bring 0 rfl).taken 1), rfl⟩
                  · skip
                    rw [if_neg hg64] at hm
                    refine RW.know 79 rfl (congrArg Value.bool (Bool.eq_false_iff.2 hg64)) ?_
                    refine RW.run ttok 8 rfl ?_
                    refine RW.nil ?_
                    exact ⟨false, [(1, .pointer (some ⟨g14, 0, none⟩)), (87, .bool false)], ⟨rfl, rfl, trivial⟩, hm, (Ext.refl _), ((hS34.bring 0 rfl).taken 1), rfl⟩
          · skip
            refine WP.block ?_
            refine WP.weak [(1, .pointer (some ⟨g14, 0, none⟩)), (49, .slice A4 x0.Actors.length k5), (50, .int .i64 (x0.Actors.length : Int)), (51, .int .i64 0)] ⟨rfl, rfl, rfl, rfl, trivial⟩ ?_
            refine WP.iter (fun (s28 : Int) F w9 => St w w9 [Box g14 [.int .i64 x0.Top, .int .i64 x0.Bottom, .slice A1 x0.Buffer.length k2, .slice A4 x0.Actors.length k5, .slice A7 x0.Taken.length k8, .slice A10 x0.Refused.length k11] 112] ∧ F = [(1, .pointer (some ⟨g14, 0, none⟩)), (49, .slice A4 x0.Actors.length k5), (50, .int .i64 (x0.Actors.length : Int)), (51, .int .i64 s28)]) _ hl33 ⟨((hS25.bring 0 rfl).taken 1), rfl⟩ ?_
            rintro s28 F w86 _ o84 ⟨hS85, rfl⟩ hb82 ho83
            unfold m_impl_ValidDeque_b1 at hb82
            refine WP.seq ?_
            refine WP.region ?_
            refine RW.run ttok 1 rfl ?_
            refine RW.nil ?_
            refine WP.seq ?_
            refine WP.cond (decide (s28 < (x0.Actors.length : Int))) rfl (fun hc => ?_) (fun hc => ?_)
            · skip
              rw [if_pos hc] at hb82
              refine WP.skip ?_
              refine WP.seq ?_
              refine WP.block ?_
              refine WP.seq ?_
              refine WP.region ?_
              refine RW.run ttok 1 rfl ?_
              obtain ⟨x87, hx88, hb82⟩ := bind_some hb82
              refine RW.idx ttok hS85.ext rfl rfl rfl rfl rfl rfl (by decide) rfl rfl h6 (idx_some hx88).1 (idx_some hx88).2 rfl rfl (fun p89 es90 ha91 hr92 => ?_)
              obtain ⟨A93, k94, e96, h95⟩ := ty191_open hr92; subst e96
              refine RW.loadN ttok rfl rfl rfl rfl rfl (At.ext hS85.ext ha91) rfl rfl rfl ?_
              refine RW.new ttok hS85 rfl rfl rfl rfl (fun g97 w98 e99 hS100 => ?_)
              refine RW.run ttok 1 rfl ?_
              have hS101 := hS100.bring 0 rfl
              refine RW.store ttok (A := []) hS101 rfl rfl rfl rfl rfl 0 rfl rfl rfl rfl rfl (fun w102 hS103 => ?_)
              refine RW.nil ?_
              refine WP.seq ?_
              refine WP.region ?_
              refine RW.loadN ttok rfl rfl rfl rfl rfl ((hS103.bring 0 rfl).box) rfl rfl rfl ?_
              refine RW.run ttok 2 rfl ?_
              obtain ⟨r104, hx105, hb82⟩ := bind_some hb82
              refine RW.call rfl rfl rfl enters115 (impl_validActor_ok (ty191_shut x87 (ty72.ext hS103.ext h95)) hx105) (fun v106 w107 hR108 => ?_)
              obtain ⟨rfl, hR109⟩ := hR108
              have hS110 := hS103.join hR109
              refine RW.run ttok 1 rfl ?_
              refine RW.nil ?_
              refine WP.cond (!r104) rfl (fun hc => ?_) (fun hc => ?_)
              · skip
                rw [if_pos hc] at hb82
                refine WP.seq ?_
                refine WP.region ?_
                refine RW.run ttok 1 rfl ?_
                refine RW.nil ?_
                refine WP.ret ?_
                cases hb82
                cases ho83
                have hm : some _ = some _ := hm
                cases hm
                exact ⟨_, .cons (.tmp rfl) .nil, rfl, (hS110.taken 0)⟩
              · skip
                rw [if_neg (not_t hc)] at hb82
                refine WP.skip ?_
                refine WP.region ?_
                refine RW.run ttok 2 rfl ?_
                refine RW.nil ?_
                cases hb82
                exact ⟨_, [(1, .pointer (some ⟨g14, 0, none⟩)), (49, .slice A4 x0.Actors.length k5), (50, .int .i64 (x0.Actors.length : Int)), (51, .int .i64 (w64 (s28 + 1)))], ⟨rfl, rfl, rfl, rfl, trivial⟩, rfl, ((hS110.bring 1 rfl).taken 1), rfl⟩
            · skip
              rw [if_neg (not_t hc)] at hb82
              refine WP.exit ?_
              cases hb82
              exact ⟨_, [(1, .pointer (some ⟨g14, 0, none⟩))], ⟨rfl, trivial⟩, ho83, ((hS85.bring 0 rfl).taken 1), rfl⟩
      · skip
        refine WP.region ?_
        refine RW.run ttok 1 rfl ?_
        refine RW.load1 ttok rfl rfl rfl rfl rfl ((hS20.bring 0 rfl).box) 3 rfl rfl rfl rfl ?_
        refine RW.run ttok 3 rfl ?_
        by_cases hg111 : (decide ((x0.Actors.length : Int) < 1)) = true
        · skip
          rw [if_pos hg111] at hm
          refine RW.know 25 rfl (congrArg Value.bool hg111) ?_
          refine RW.run ttok 22 rfl ?_
          refine RW.nil ?_
          exact ⟨true, [(1, .pointer (some ⟨g14, 0, none⟩)), (47, .bool true)], ⟨rfl, rfl, trivial⟩, hm, (Ext.refl _), ((hS20.bring 0 rfl).taken 1), rfl⟩
        · skip
          rw [if_neg hg111] at hm
          refine RW.know 25 rfl (congrArg Value.bool (Bool.eq_false_iff.2 hg111)) ?_
          refine RW.run ttok 1 rfl ?_
          refine RW.load1 ttok rfl rfl rfl rfl rfl ((hS20.bring 0 rfl).box) 3 rfl rfl rfl rfl ?_
          refine RW.run ttok 4 rfl ?_
          by_cases hg112 : (decide ((x0.Actors.length : Int) > 4)) = true
          · skip
            rw [if_pos hg112] at hm
            refine RW.know 31 rfl (congrArg Value.bool hg112) ?_
            refine RW.run ttok 16 rfl ?_
            refine RW.nil ?_
            exact ⟨true, [(1, .pointer (some ⟨g14, 0, none⟩)), (47, .bool true)], ⟨rfl, rfl, trivial⟩, hm, (Ext.refl _), ((hS20.bring 0 rfl).taken 1), rfl⟩
          · skip
            rw [if_neg hg112] at hm
            refine RW.know 31 rfl (congrArg Value.bool (Bool.eq_false_iff.2 hg112)) ?_
            refine RW.run ttok 1 rfl ?_
            refine RW.load1 ttok rfl rfl rfl rfl rfl ((hS20.bring 0 rfl).box) 0 rfl rfl rfl rfl ?_
            obtain ⟨r113, hx114, hm⟩ := bind_some hm
            refine RW.call rfl rfl rfl enters114 (impl_isEnd_ok  hx114) (fun v115 w116 hR117 => ?_)
            obtain ⟨rfl, hR118⟩ := hR117
            have hS119 := hS20.join hR118
            refine RW.run ttok 3 rfl ?_
            by_cases hg120 : (!r113) = true
            · skip
              rw [if_pos hg120] at hm
              refine RW.know 37 rfl (congrArg Value.bool hg120) ?_
              refine RW.run ttok 10 rfl ?_
              refine RW.nil ?_
              exact ⟨true, [(1, .pointer (some ⟨g14, 0, none⟩)), (47, .bool true)], ⟨rfl, rfl, trivial⟩, hm, hR118.ext, ((hS119.bring 0 rfl).taken 1), rfl⟩
            · skip
              rw [if_neg hg120] at hm
              refine RW.know 37 rfl (congrArg Value.bool (Bool.eq_false_iff.2 hg120)) ?_
              refine RW.run ttok 1 rfl ?_
              refine RW.load1 ttok rfl rfl rfl rfl rfl ((hS119.bring 0 rfl).box) 1 rfl rfl rfl rfl ?_
              refine RW.run ttok 2 rfl ?_
              by_cases hg121 : (x0.Bottom != (-1)) = true
              · skip
                rw [if_pos hg121] at hm
                refine RW.know 41 rfl (congrArg Value.bool hg121) ?_
                refine RW.run ttok 1 rfl ?_
                refine RW.load1 ttok rfl rfl rfl rfl rfl ((hS119.bring 0 rfl).box) 1 rfl rfl rfl rfl ?_
                obtain ⟨r122, hx123, hm⟩ := bind_some hm
                refine RW.call rfl rfl rfl enters114 (impl_isEnd_ok  hx123) (fun v124 w125 hR126 => ?_)
                obtain ⟨rfl, hR127⟩ := hR126
                have hS128 := hS119.join hR127
                refine RW.run ttok 3 rfl ?_
                refine RW.nil ?_
                exact ⟨!r122, [(1, .pointer (some ⟨g14, 0, none⟩)), (47, .bool (!r122))], ⟨rfl, rfl, trivial⟩, hm, (hR118.ext.trans hR127.ext), ((hS128.bring 0 rfl).taken 1), rfl⟩
              · skip
                rw [if_neg hg121] at hm
                refine RW.know 41 rfl (congrArg Value.bool (Bool.eq_false_iff.2 hg121)) ?_
                refine RW.run ttok 6 rfl ?_
                refine RW.nil ?_
                exact ⟨false, [(1, .pointer (some ⟨g14, 0, none⟩)), (47, .bool false)], ⟨rfl, rfl, trivial⟩, hm, hR118.ext, ((hS119.bring 0 rfl).taken 1), rfl⟩
  · skip
    refine WP.region ?_
    refine RW.run ttok 1 rfl ?_
    refine RW.load1 ttok rfl rfl rfl rfl rfl ((hS17.bring 0 rfl).box) 2 rfl rfl rfl rfl ?_
    refine RW.run ttok 3 rfl ?_
    by_cases hg129 : (decide ((x0.Buffer.length : Int) < 1)) = true
    · skip
      rw [if_pos hg129] at hm
      refine RW.know 10 rfl (congrArg Value.bool hg129) ?_
      refine RW.run ttok 10 rfl ?_
      refine RW.nil ?_
      exact ⟨true, [(1, .pointer (some ⟨g14, 0, none⟩)), (20, .bool true)], ⟨rfl, rfl, trivial⟩, hm, (Ext.refl _), ((hS17.bring 0 rfl).taken 1), rfl⟩
    · skip
      rw [if_neg hg129] at hm
      refine RW.know 10 rfl (congrArg Value.bool (Bool.eq_false_iff.2 hg129)) ?_
      refine RW.run ttok 1 rfl ?_
      refine RW.load1 ttok rfl rfl rfl rfl rfl ((hS17.bring 0 rfl).box) 2 rfl rfl rfl rfl ?_
      refine RW.run ttok 4 rfl ?_
      by_cases hg130 : (decide ((x0.Buffer.length : Int) > 8)) = true
      · skip
        rw [if_pos hg130] at hm
        refine RW.know 16 rfl (congrArg Value.bool hg130) ?_
        refine RW.run ttok 4 rfl ?_
        refine RW.nil ?_
        exact ⟨true, [(1, .pointer (some ⟨g14, 0, none⟩)), (20, .bool true)], ⟨rfl, rfl, trivial⟩, hm, (Ext.refl _), ((hS17.bring 0 rfl).taken 1), rfl⟩
      · skip
        rw [if_neg hg130] at hm
        refine RW.know 16 rfl (congrArg Value.bool (Bool.eq_false_iff.2 hg130)) ?_
        refine RW.run ttok 1 rfl ?_
        refine RW.load1 ttok rfl rfl rfl rfl rfl ((hS17.bring 0 rfl).box) 2 rfl rfl rfl rfl ?_
        obtain ⟨r131, hx132, hm⟩ := bind_some hm
        refine RW.call rfl rfl rfl enters111 (slices_ContainsFunc_int64_int64_ok (ty72.ext hS17.ext h3) ⟨enters112, fun e9 => (fun  hx9 => impl_ValidDeque_c1_ok  hx9)⟩ hx132) (fun v133 w134 hR135 => ?_)
        obtain ⟨rfl, hR136⟩ := hR135
        have hS137 := hS17.join hR136
        refine RW.run ttok 1 rfl ?_
        refine RW.nil ?_
        exact ⟨r131, [(1, .pointer (some ⟨g14, 0, none⟩)), (20, .bool r131)], ⟨rfl, rfl, trivial⟩, hm, hR136.ext, ((hS137.bring 0 rfl).taken 1), rfl⟩

theorem enters95 : Enters Try.prog 95 := ⟨_, _, Try.func95, rfl, by kernel_rfl⟩
def m_laws_eqInt64S_j1 (fuel : Nat) (t2 : Unit) : Option Bool := some true
def m_laws_eqInt64S_b1 (fuel : Nat) (x0 : (List Int)) (x1 : (List Int)) (s1 : Int) : Option (Rd (Int) (Unit) (Bool)) := (if (decide (s1 < (x0.length : Int))) = true then ((idx x0 s1).bind fun x19 => ((idx x1 s1).bind fun x25 => (if (x19 != x25) = true then some (.ret false) else some (.next (w64 (s1 + 1)))))) else some (.brk ()))
def m_laws_eqInt64S (fuel : Nat) (x0 : (List Int)) (x1 : (List Int)) : Option (Bool) := (if ((x0.length : Int) != (x1.length : Int)) = true then some false else ((iter (m_laws_eqInt64S_b1 fuel x0 x1) fuel 0).bind fun o => aft o (m_laws_eqInt64S_j1 fuel)))

set_option maxRecDepth 100000 in
theorem laws_eqInt64S_ok {w : World} {A0_ : Option Addr} {k0_ : Nat} {x0 : (List Int)} {A1_ : Option Addr} {k1_ : Nat} {x1 : (List Int)} (h0_ : ty72.ro w [.slice A0_ x0.length k0_] x0) (h1_ : ty72.ro w [.slice A1_ x1.length k1_] x1) {fuel : Nat} {r : Bool} (hm : m_laws_eqInt64S fuel x0 x1 = some r) :
    Calls Try.prog 95 ⟨[.slice A0_ x0.length k0_, .slice A1_ x1.length k1_]⟩ w (Ret fun v w8 => v = .bool r ∧ St w w8 []) := by
  refine Calls.into Try.func95 rfl 26 rfl rfl _ rfl ?_
  unfold m_laws_eqInt64S at hm
  have hS := St.start w
  refine WP.seq ?_
  refine WP.region ?_
  refine RW.run ttok 1 rfl ?_
  refine RW.nil ?_
  refine WP.seq ?_
  refine WP.seq ?_
  refine WP.region ?_
  refine RW.run ttok 5 rfl ?_
  refine RW.nil ?_
  refine WP.cond ((x0.length : Int) != (x1.length : Int)) rfl (fun hc => ?_) (fun hc => ?_)
  · skip
    rw [if_pos hc] at hm
    refine WP.seq ?_
    refine WP.region ?_
    refine RW.run ttok 1 rfl ?_
    refine RW.nil ?_
    refine WP.ret ?_
    cases hm
    exact ⟨_, .cons (.tmp rfl) .nil, rfl, (hS.taken 0)⟩
  · skip
    rw [if_neg (not_t hc)] at hm
    refine WP.skip ?_
    refine WP.seq ?_
    refine WP.seq ?_
    refine WP.region ?_
    refine RW.run ttok 1 rfl ?_
    refine RW.nil ?_
    obtain ⟨o8, hl9, hm⟩ := bind_some hm
    refine WP.cut (fun (t2 : Unit) F w9 => o8 = .inl t2 ∧ Ext w w9 ∧ St w w9 [] ∧ F = []) ?_ ?_
    · skip
      rintro t2 F w7 ⟨ho11, hE6, hS10, rfl⟩
      subst ho11
      rw [aft_inl] at hm
      unfold m_laws_eqInt64S_j1 at hm
      refine WP.seq ?_
      refine WP.region ?_
      refine RW.run ttok 1 rfl ?_
      refine RW.nil ?_
      refine WP.ret ?_
      cases hm
      exact ⟨_, .cons (.tmp rfl) .nil, rfl, (hS10.taken 0)⟩
    · skip
      refine WP.block ?_
      refine WP.weak [(0, .slice A0_ x0.length k0_), (1, .slice A1_ x1.length k1_), (5, .int .i64 0)] ⟨rfl, rfl, rfl, trivial⟩ ?_
      refine WP.iter (fun (s1 : Int) F w9 => Ext w w9 ∧ St w w9 [] ∧ F = [(0, .slice A0_ x0.length k0_), (1, .slice A1_ x1.length k1_), (5, .int .i64 s1)]) _ hl9 ⟨(Ext.refl _), (hS.taken 0), rfl⟩ ?_
      rintro s1 F w16 _ o14 ⟨hE5, hS15, rfl⟩ hb12 ho13
      unfold m_laws_eqInt64S_b1 at hb12
      refine WP.seq ?_
      refine WP.seq ?_
      refine WP.region ?_
      refine RW.run ttok 4 rfl ?_
      refine RW.nil ?_
      refine WP.cond (decide (s1 < (x0.length : Int))) rfl (fun hc => ?_) (fun hc => ?_)
      · skip
        rw [if_pos hc] at hb12
        refine WP.skip ?_
        refine WP.seq ?_
        refine WP.block ?_
        refine WP.seq ?_
        refine WP.drawnM 0 mixed 9 (by kernel_rfl) (by kernel_rfl) [([], 511), ([], 511), ([0, 1], 508), ([2], 507), ([], 511), ([], 511), ([4, 5], 463), ([6], 447), ([3, 7], 375)] (by kernel_rfl) (fun hsk17 => ?_)
        have hS18 := hS15.step (Ext.draw _)
        refine DM.run (fuel := 5) ttok hsk17 [0, 1, 4, 5] 51 (by kernel_rfl) (by kernel_rfl) rfl ?_
        obtain ⟨x19, hx20, hb12⟩ := bind_some hb12
        refine DM.idx ttok hS15.ext hsk17 2 55 (by kernel_rfl) (by kernel_rfl) (by kernel_rfl) (by kernel_rfl) rfl (by kernel_rfl) rfl rfl rfl rfl rfl rfl (by decide) rfl rfl h0_ (idx_some hx20).1 (idx_some hx20).2 rfl rfl (fun p21 es22 ha23 hr24 => ?_)
        cases hr24
        refine DM.load1 ttok hsk17 3 63 (by kernel_rfl) (by kernel_rfl) (by kernel_rfl) (by kernel_rfl) rfl (by kernel_rfl) rfl rfl rfl rfl rfl (At.ext hS15.ext ha23) 0 rfl rfl rfl rfl ?_
        obtain ⟨x25, hx26, hb12⟩ := bind_some hb12
        refine DM.idx ttok hS15.ext hsk17 6 127 (by kernel_rfl) (by kernel_rfl) (by kernel_rfl) (by kernel_rfl) rfl (by kernel_rfl) rfl rfl rfl rfl rfl rfl (by decide) rfl rfl h1_ (idx_some hx26).1 (idx_some hx26).2 rfl rfl (fun p27 es28 ha29 hr30 => ?_)
        cases hr30
        refine DM.load1 ttok hsk17 7 255 (by kernel_rfl) (by kernel_rfl) (by kernel_rfl) (by kernel_rfl) rfl (by kernel_rfl) rfl rfl rfl rfl rfl (At.ext hS15.ext ha29) 0 rfl rfl rfl rfl ?_
        refine DM.run (fuel := 0) ttok hsk17 [8] 511 (by kernel_rfl) (by kernel_rfl) rfl ?_
        refine DM.weak [(0, .slice A0_ x0.length k0_), (1, .slice A1_ x1.length k1_), (5, .int .i64 s1), (25, .bool (x19 != x25))] ⟨rfl, rfl, rfl, rfl, trivial⟩ ?_
        refine DM.done hsk17 (by kernel_rfl) ?_
        refine WP.cond (x19 != x25) rfl (fun hc => ?_) (fun hc => ?_)
        · skip
          rw [if_pos hc] at hb12
          refine WP.seq ?_
          refine WP.region ?_
          refine RW.run ttok 1 rfl ?_
          refine RW.nil ?_
          refine WP.ret ?_
          cases hb12
          cases ho13
          have hm : some _ = some _ := hm
          cases hm
          exact ⟨_, .cons (.tmp rfl) .nil, rfl, (hS18.taken 0)⟩
        · skip
          rw [if_neg (not_t hc)] at hb12
          refine WP.skip ?_
          refine WP.region ?_
          refine RW.run ttok 3 rfl ?_
          refine RW.nil ?_
          cases hb12
          exact ⟨_, [(0, .slice A0_ x0.length k0_), (1, .slice A1_ x1.length k1_), (5, .int .i64 (w64 (s1 + 1)))], ⟨rfl, rfl, rfl, trivial⟩, rfl, (hE5.trans (Ext.draw _)), (hS18.taken 0), rfl⟩
      · skip
        rw [if_neg (not_t hc)] at hb12
        refine WP.exit ?_
        cases hb12
        exact ⟨_, [], trivial, ho13, hE5, (hS15.taken 0), rfl⟩

theorem enters164 : Enters Try.prog 164 := ⟨_, _, Try.func164, rfl, by kernel_rfl⟩
def m_laws_eqDequeActor (fuel : Nat) (x0 : D.DequeActor) (x1 : D.DequeActor) : Option (Bool) := ((m_laws_eqInt64S fuel x0.Todo x1.Todo).bind fun r17 => (if (!r17) = true then some false else (if (x0.Pc != x1.Pc) = true then some false else (if (x0.T != x1.T) = true then some false else (if (x0.B != x1.B) = true then some false else (if (x0.X != x1.X) = true then some false else some true))))))

set_option maxRecDepth 100000 in
theorem laws_eqDequeActor_ok {w : World} {c0_ : List Value} {x0 : D.DequeActor} {c1_ : List Value} {x1 : D.DequeActor} (h0_ : ty191.ro w c0_ x0) (h1_ : ty191.ro w c1_ x1) {fuel : Nat} {r : Bool} (hm : m_laws_eqDequeActor fuel x0 x1 = some r) :
    Calls Try.prog 164 ⟨[.agg ⟨c0_⟩, .agg ⟨c1_⟩]⟩ w (Ret fun v w8 => v = .bool r ∧ St w w8 []) := by
  obtain ⟨A1, k2, e4, h3⟩ := ty191_open h0_; subst e4
  obtain ⟨A5, k6, e8, h7⟩ := ty191_open h1_; subst e8
  refine Calls.into Try.func164 rfl 31 rfl rfl _ rfl ?_
  unfold m_laws_eqDequeActor at hm
  have hS := St.start w
  refine WP.seq ?_
  refine WP.region ?_
  refine RW.new ttok hS rfl rfl rfl rfl (fun g9 w10 e11 hS12 => ?_)
  refine RW.new ttok hS12 rfl rfl rfl rfl (fun g13 w14 e15 hS16 => ?_)
  refine RW.run ttok 1 rfl ?_
  refine RW.nil ?_
  refine WP.seq ?_
  refine WP.seq ?_
  refine WP.region ?_
  refine RW.run ttok 1 rfl ?_
  refine RW.load1 ttok rfl rfl rfl rfl rfl ((hS16.bring 1 rfl).box) 0 rfl rfl rfl rfl ?_
  refine RW.run ttok 1 rfl ?_
  refine RW.load1 ttok rfl rfl rfl rfl rfl ((hS16.bring 0 rfl).box) 0 rfl rfl rfl rfl ?_
  obtain ⟨r17, hx18, hm⟩ := bind_some hm
  refine RW.call rfl rfl rfl enters95 (laws_eqInt64S_ok (ty72.ext hS16.ext h3) (ty72.ext hS16.ext h7) hx18) (fun v19 w20 hR21 => ?_)
  obtain ⟨rfl, hR22⟩ := hR21
  have hS23 := hS16.join hR22
  refine RW.run ttok 1 rfl ?_
  refine RW.nil ?_
  refine WP.cond (!r17) rfl (fun hc => ?_) (fun hc => ?_)
  · skip
    rw [if_pos hc] at hm
    refine WP.seq ?_
    refine WP.region ?_
    refine RW.run ttok 1 rfl ?_
    refine RW.nil ?_
    refine WP.ret ?_
    cases hm
    exact ⟨_, .cons (.tmp rfl) .nil, rfl, (hS23.taken 0)⟩
  · skip
    rw [if_neg (not_t hc)] at hm
    refine WP.skip ?_
    refine WP.seq ?_
    refine WP.seq ?_
    refine WP.region ?_
    refine RW.run ttok 1 rfl ?_
    refine RW.load1 ttok rfl rfl rfl rfl rfl ((hS23.bring 1 rfl).box) 1 rfl rfl rfl rfl ?_
    refine RW.run ttok 1 rfl ?_
    refine RW.load1 ttok rfl rfl rfl rfl rfl ((hS23.bring 0 rfl).box) 1 rfl rfl rfl rfl ?_
    refine RW.run ttok 1 rfl ?_
    refine RW.nil ?_
    refine WP.cond (x0.Pc != x1.Pc) rfl (fun hc => ?_) (fun hc => ?_)
    · skip
      rw [if_pos hc] at hm
      refine WP.seq ?_
      refine WP.region ?_
      refine RW.run ttok 1 rfl ?_
      refine RW.nil ?_
      refine WP.ret ?_
      cases hm
      exact ⟨_, .cons (.tmp rfl) .nil, rfl, (hS23.taken 0)⟩
    · skip
      rw [if_neg (not_t hc)] at hm
      refine WP.skip ?_
      refine WP.seq ?_
      refine WP.seq ?_
      refine WP.region ?_
      refine RW.run ttok 1 rfl ?_
      refine RW.load1 ttok rfl rfl rfl rfl rfl ((hS23.bring 1 rfl).box) 2 rfl rfl rfl rfl ?_
      refine RW.run ttok 1 rfl ?_
      refine RW.load1 ttok rfl rfl rfl rfl rfl ((hS23.bring 0 rfl).box) 2 rfl rfl rfl rfl ?_
      refine RW.run ttok 1 rfl ?_
      refine RW.nil ?_
      refine WP.cond (x0.T != x1.T) rfl (fun hc => ?_) (fun hc => ?_)
      · skip
        rw [if_pos hc] at hm
        refine WP.seq ?_
        refine WP.region ?_
        refine RW.run ttok 1 rfl ?_
        refine RW.nil ?_
        refine WP.ret ?_
        cases hm
        exact ⟨_, .cons (.tmp rfl) .nil, rfl, (hS23.taken 0)⟩
      · skip
        rw [if_neg (not_t hc)] at hm
        refine WP.skip ?_
        refine WP.seq ?_
        refine WP.seq ?_
        refine WP.region ?_
        refine RW.run ttok 1 rfl ?_
        refine RW.load1 ttok rfl rfl rfl rfl rfl ((hS23.bring 1 rfl).box) 3 rfl rfl rfl rfl ?_
        refine RW.run ttok 1 rfl ?_
        refine RW.load1 ttok rfl rfl rfl rfl rfl ((hS23.bring 0 rfl).box) 3 rfl rfl rfl rfl ?_
        refine RW.run ttok 1 rfl ?_
        refine RW.nil ?_
        refine WP.cond (x0.B != x1.B) rfl (fun hc => ?_) (fun hc => ?_)
        · skip
          rw [if_pos hc] at hm
          refine WP.seq ?_
          refine WP.region ?_
          refine RW.run ttok 1 rfl ?_
          refine RW.nil ?_
          refine WP.ret ?_
          cases hm
          exact ⟨_, .cons (.tmp rfl) .nil, rfl, (hS23.taken 0)⟩
        · skip
          rw [if_neg (not_t hc)] at hm
          refine WP.skip ?_
          refine WP.seq ?_
          refine WP.seq ?_
          refine WP.region ?_
          refine RW.run ttok 1 rfl ?_
          refine RW.load1 ttok rfl rfl rfl rfl rfl ((hS23.bring 1 rfl).box) 4 rfl rfl rfl rfl ?_
          refine RW.run ttok 1 rfl ?_
          refine RW.load1 ttok rfl rfl rfl rfl rfl ((hS23.bring 0 rfl).box) 4 rfl rfl rfl rfl ?_
          refine RW.run ttok 1 rfl ?_
          refine RW.nil ?_
          refine WP.cond (x0.X != x1.X) rfl (fun hc => ?_) (fun hc => ?_)
          · skip
            rw [if_pos hc] at hm
            refine WP.seq ?_
            refine WP.region ?_
            refine RW.run ttok 1 rfl ?_
            refine RW.nil ?_
            refine WP.ret ?_
            cases hm
            exact ⟨_, .cons (.tmp rfl) .nil, rfl, (hS23.taken 0)⟩
          · skip
            rw [if_neg (not_t hc)] at hm
            refine WP.skip ?_
            refine WP.seq ?_
            refine WP.region ?_
            refine RW.run ttok 1 rfl ?_
            refine RW.nil ?_
            refine WP.ret ?_
            cases hm
            exact ⟨_, .cons (.tmp rfl) .nil, rfl, (hS23.taken 0)⟩

theorem enters120 : Enters Try.prog 120 := ⟨_, _, Try.func120, rfl, by kernel_rfl⟩
def m_laws_eqDequeActorS_j1 (fuel : Nat) (t2 : Unit) : Option Bool := some true
def m_laws_eqDequeActorS_b1 (fuel : Nat) (x0 : (List D.DequeActor)) (x1 : (List D.DequeActor)) (s1 : Int) : Option (Rd (Int) (Unit) (Bool)) := (if (decide (s1 < (x0.length : Int))) = true then ((idx x0 s1).bind fun x19 => ((idx x1 s1).bind fun x29 => ((m_laws_eqDequeActor fuel x19 x29).bind fun r39 => (if (!r39) = true then some (.ret false) else some (.next (w64 (s1 + 1))))))) else some (.brk ()))
def m_laws_eqDequeActorS (fuel : Nat) (x0 : (List D.DequeActor)) (x1 : (List D.DequeActor)) : Option (Bool) := (if ((x0.length : Int) != (x1.length : Int)) = true then some false else ((iter (m_laws_eqDequeActorS_b1 fuel x0 x1) fuel 0).bind fun o => aft o (m_laws_eqDequeActorS_j1 fuel)))

set_option maxRecDepth 100000 in
theorem laws_eqDequeActorS_ok {w : World} {A0_ : Option Addr} {k0_ : Nat} {x0 : (List D.DequeActor)} {A1_ : Option Addr} {k1_ : Nat} {x1 : (List D.DequeActor)} (h0_ : ty109.ro w [.slice A0_ x0.length k0_] x0) (h1_ : ty109.ro w [.slice A1_ x1.length k1_] x1) {fuel : Nat} {r : Bool} (hm : m_laws_eqDequeActorS fuel x0 x1 = some r) :
    Calls Try.prog 120 ⟨[.slice A0_ x0.length k0_, .slice A1_ x1.length k1_]⟩ w (Ret fun v w8 => v = .bool r ∧ St w w8 []) := by
  refine Calls.into Try.func120 rfl 27 rfl rfl _ rfl ?_
  unfold m_laws_eqDequeActorS at hm
  have hS := St.start w
  refine WP.seq ?_
  refine WP.region ?_
  refine RW.run ttok 1 rfl ?_
  refine RW.nil ?_
  refine WP.seq ?_
  refine WP.seq ?_
  refine WP.region ?_
  refine RW.run ttok 5 rfl ?_
  refine RW.nil ?_
  refine WP.cond ((x0.length : Int) != (x1.length : Int)) rfl (fun hc => ?_) (fun hc => ?_)
  · skip
    rw [if_pos hc] at hm
    refine WP.seq ?_
    refine WP.region ?_
    refine RW.run ttok 1 rfl ?_
    refine RW.nil ?_
    refine WP.ret ?_
    cases hm
    exact ⟨_, .cons (.tmp rfl) .nil, rfl, (hS.taken 0)⟩
  · skip
    rw [if_neg (not_t hc)] at hm
    refine WP.skip ?_
    refine WP.seq ?_
    refine WP.seq ?_
    refine WP.region ?_
    refine RW.run ttok 1 rfl ?_
    refine RW.nil ?_
    obtain ⟨o8, hl9, hm⟩ := bind_some hm
    refine WP.cut (fun (t2 : Unit) F w9 => o8 = .inl t2 ∧ Ext w w9 ∧ St w w9 [] ∧ F = []) ?_ ?_
    · skip
      rintro t2 F w7 ⟨ho11, hE6, hS10, rfl⟩
      subst ho11
      rw [aft_inl] at hm
      unfold m_laws_eqDequeActorS_j1 at hm
      refine WP.seq ?_
      refine WP.region ?_
      refine RW.run ttok 1 rfl ?_
      refine RW.nil ?_
      refine WP.ret ?_
      cases hm
      exact ⟨_, .cons (.tmp rfl) .nil, rfl, (hS10.taken 0)⟩
    · skip
      refine WP.block ?_
      refine WP.weak [(0, .slice A0_ x0.length k0_), (1, .slice A1_ x1.length k1_), (5, .int .i64 0)] ⟨rfl, rfl, rfl, trivial⟩ ?_
      refine WP.iter (fun (s1 : Int) F w9 => Ext w w9 ∧ St w w9 [] ∧ F = [(0, .slice A0_ x0.length k0_), (1, .slice A1_ x1.length k1_), (5, .int .i64 s1)]) _ hl9 ⟨(Ext.refl _), (hS.taken 0), rfl⟩ ?_
      rintro s1 F w16 _ o14 ⟨hE5, hS15, rfl⟩ hb12 ho13
      unfold m_laws_eqDequeActorS_b1 at hb12
      refine WP.seq ?_
      refine WP.seq ?_
      refine WP.region ?_
      refine RW.run ttok 4 rfl ?_
      refine RW.nil ?_
      refine WP.cond (decide (s1 < (x0.length : Int))) rfl (fun hc => ?_) (fun hc => ?_)
      · skip
        rw [if_pos hc] at hb12
        refine WP.skip ?_
        refine WP.seq ?_
        refine WP.block ?_
        refine WP.seq ?_
        refine WP.drawnM 0 mixed 10 (by kernel_rfl) (by kernel_rfl) [([], 1023), ([], 1023), ([0, 1], 1020), ([2], 1019), ([], 1023), ([], 1023), ([4, 5], 975), ([6], 959), ([3, 7], 887), ([8], 767)] (by kernel_rfl) (fun hsk17 => ?_)
        have hS18 := hS15.step (Ext.draw _)
        refine DM.run (fuel := 6) ttok hsk17 [0, 1, 4, 5] 51 (by kernel_rfl) (by kernel_rfl) rfl ?_
        obtain ⟨x19, hx20, hb12⟩ := bind_some hb12
        refine DM.idx ttok hS15.ext hsk17 2 55 (by kernel_rfl) (by kernel_rfl) (by kernel_rfl) (by kernel_rfl) rfl (by kernel_rfl) rfl rfl rfl rfl rfl rfl (by decide) rfl rfl h0_ (idx_some hx20).1 (idx_some hx20).2 rfl rfl (fun p21 es22 ha23 hr24 => ?_)
        obtain ⟨A25, k26, e28, h27⟩ := ty191_open hr24; subst e28
        refine DM.loadN ttok hsk17 3 63 (by kernel_rfl) (by kernel_rfl) (by kernel_rfl) (by kernel_rfl) rfl (by kernel_rfl) rfl rfl rfl rfl rfl (At.ext hS15.ext ha23) rfl rfl rfl ?_
        obtain ⟨x29, hx30, hb12⟩ := bind_some hb12
        refine DM.idx ttok hS15.ext hsk17 6 127 (by kernel_rfl) (by kernel_rfl) (by kernel_rfl) (by kernel_rfl) rfl (by kernel_rfl) rfl rfl rfl rfl rfl rfl (by decide) rfl rfl h1_ (idx_some hx30).1 (idx_some hx30).2 rfl rfl (fun p31 es32 ha33 hr34 => ?_)
        obtain ⟨A35, k36, e38, h37⟩ := ty191_open hr34; subst e38
        refine DM.loadN ttok hsk17 7 255 (by kernel_rfl) (by kernel_rfl) (by kernel_rfl) (by kernel_rfl) rfl (by kernel_rfl) rfl rfl rfl rfl rfl (At.ext hS15.ext ha33) rfl rfl rfl ?_
        obtain ⟨r39, hx40, hb12⟩ := bind_some hb12
        refine DM.one hsk17 8 (by kernel_rfl) (LM.call hsk17 511 (by kernel_rfl) (by kernel_rfl) rfl rfl rfl rfl enters164 (laws_eqDequeActor_ok (ty191.ext hS18.ext hr24) (ty191.ext hS18.ext hr34) hx40) (fun v41 w42 hR43 => ?_))
        obtain ⟨rfl, hR44⟩ := hR43
        refine ⟨hR44.ext, ?_⟩
        have hS45 := hS18.join hR44
        refine DM.run (fuel := 0) ttok hsk17 [9] 1023 (by kernel_rfl) (by kernel_rfl) rfl ?_
        refine DM.weak [(0, .slice A0_ x0.length k0_), (1, .slice A1_ x1.length k1_), (5, .int .i64 s1), (26, .bool (!r39))] ⟨rfl, rfl, rfl, rfl, trivial⟩ ?_
        refine DM.done hsk17 (by kernel_rfl) ?_
        refine WP.cond (!r39) rfl (fun hc => ?_) (fun hc => ?_)
        · skip
          rw [if_pos hc] at hb12
          refine WP.seq ?_
          refine WP.region ?_
          refine RW.run ttok 1 rfl ?_
          refine RW.nil ?_
          refine WP.ret ?_
          cases hb12
          cases ho13
          have hm : some _ = some _ := hm
          cases hm
          exact ⟨_, .cons (.tmp rfl) .nil, rfl, (hS45.taken 0)⟩
        · skip
          rw [if_neg (not_t hc)] at hb12
          refine WP.skip ?_
          refine WP.region ?_
          refine RW.run ttok 3 rfl ?_
          refine RW.nil ?_
          cases hb12
          exact ⟨_, [(0, .slice A0_ x0.length k0_), (1, .slice A1_ x1.length k1_), (5, .int .i64 (w64 (s1 + 1)))], ⟨rfl, rfl, rfl, trivial⟩, rfl, ((hE5.trans (Ext.draw _)).trans hR44.ext), (hS45.taken 0), rfl⟩
      · skip
        rw [if_neg (not_t hc)] at hb12
        refine WP.exit ?_
        cases hb12
        exact ⟨_, [], trivial, ho13, hE5, (hS15.taken 0), rfl⟩

theorem enters165 : Enters Try.prog 165 := ⟨_, _, Try.func165, rfl, by kernel_rfl⟩
def m_laws_eqHanded (fuel : Nat) (x0 : D.Handed) (x1 : D.Handed) : Option (Bool) := (if (x0.Actor != x1.Actor) = true then some false else (if (x0.Value != x1.Value) = true then some false else some true))

set_option maxRecDepth 100000 in
theorem laws_eqHanded_ok {w : World} {c0_ : List Value} {x0 : D.Handed} {c1_ : List Value} {x1 : D.Handed} (h0_ : ty196.ro w c0_ x0) (h1_ : ty196.ro w c1_ x1) {fuel : Nat} {r : Bool} (hm : m_laws_eqHanded fuel x0 x1 = some r) :
    Calls Try.prog 165 ⟨[.agg ⟨c0_⟩, .agg ⟨c1_⟩]⟩ w (Ret fun v w8 => v = .bool r ∧ St w w8 []) := by
  have e1 := ty196_open h0_; subst e1
  have e2 := ty196_open h1_; subst e2
  refine Calls.into Try.func165 rfl 15 rfl rfl _ rfl ?_
  unfold m_laws_eqHanded at hm
  have hS := St.start w
  refine WP.seq ?_
  refine WP.region ?_
  refine RW.new ttok hS rfl rfl rfl rfl (fun g3 w4 e5 hS6 => ?_)
  refine RW.new ttok hS6 rfl rfl rfl rfl (fun g7 w8 e9 hS10 => ?_)
  refine RW.run ttok 1 rfl ?_
  refine RW.nil ?_
  refine WP.seq ?_
  refine WP.seq ?_
  refine WP.region ?_
  refine RW.run ttok 1 rfl ?_
  refine RW.load1 ttok rfl rfl rfl rfl rfl ((hS10.bring 1 rfl).box) 0 rfl rfl rfl rfl ?_
  refine RW.run ttok 1 rfl ?_
  refine RW.load1 ttok rfl rfl rfl rfl rfl ((hS10.bring 0 rfl).box) 0 rfl rfl rfl rfl ?_
  refine RW.run ttok 1 rfl ?_
  refine RW.nil ?_
  refine WP.cond (x0.Actor != x1.Actor) rfl (fun hc => ?_) (fun hc => ?_)
  · skip
    rw [if_pos hc] at hm
    refine WP.seq ?_
    refine WP.region ?_
    refine RW.run ttok 1 rfl ?_
    refine RW.nil ?_
    refine WP.ret ?_
    cases hm
    exact ⟨_, .cons (.tmp rfl) .nil, rfl, (hS10.taken 0)⟩
  · skip
    rw [if_neg (not_t hc)] at hm
    refine WP.skip ?_
    refine WP.seq ?_
    refine WP.seq ?_
    refine WP.region ?_
    refine RW.run ttok 1 rfl ?_
    refine RW.load1 ttok rfl rfl rfl rfl rfl ((hS10.bring 1 rfl).box) 1 rfl rfl rfl rfl ?_
    refine RW.run ttok 1 rfl ?_
    refine RW.load1 ttok rfl rfl rfl rfl rfl ((hS10.bring 0 rfl).box) 1 rfl rfl rfl rfl ?_
    refine RW.run ttok 1 rfl ?_
    refine RW.nil ?_
    refine WP.cond (x0.Value != x1.Value) rfl (fun hc => ?_) (fun hc => ?_)
    · skip
      rw [if_pos hc] at hm
      refine WP.seq ?_
      refine WP.region ?_
      refine RW.run ttok 1 rfl ?_
      refine RW.nil ?_
      refine WP.ret ?_
      cases hm
      exact ⟨_, .cons (.tmp rfl) .nil, rfl, (hS10.taken 0)⟩
    · skip
      rw [if_neg (not_t hc)] at hm
      refine WP.skip ?_
      refine WP.seq ?_
      refine WP.region ?_
      refine RW.run ttok 1 rfl ?_
      refine RW.nil ?_
      refine WP.ret ?_
      cases hm
      exact ⟨_, .cons (.tmp rfl) .nil, rfl, (hS10.taken 0)⟩

theorem enters121 : Enters Try.prog 121 := ⟨_, _, Try.func121, rfl, by kernel_rfl⟩
def m_laws_eqHandedS_j1 (fuel : Nat) (t2 : Unit) : Option Bool := some true
def m_laws_eqHandedS_b1 (fuel : Nat) (x0 : (List D.Handed)) (x1 : (List D.Handed)) (s1 : Int) : Option (Rd (Int) (Unit) (Bool)) := (if (decide (s1 < (x0.length : Int))) = true then ((idx x0 s1).bind fun x19 => ((idx x1 s1).bind fun x26 => ((m_laws_eqHanded fuel x19 x26).bind fun r33 => (if (!r33) = true then some (.ret false) else some (.next (w64 (s1 + 1))))))) else some (.brk ()))
def m_laws_eqHandedS (fuel : Nat) (x0 : (List D.Handed)) (x1 : (List D.Handed)) : Option (Bool) := (if ((x0.length : Int) != (x1.length : Int)) = true then some false else ((iter (m_laws_eqHandedS_b1 fuel x0 x1) fuel 0).bind fun o => aft o (m_laws_eqHandedS_j1 fuel)))

set_option maxRecDepth 100000 in
theorem laws_eqHandedS_ok {w : World} {A0_ : Option Addr} {k0_ : Nat} {x0 : (List D.Handed)} {A1_ : Option Addr} {k1_ : Nat} {x1 : (List D.Handed)} (h0_ : ty110.ro w [.slice A0_ x0.length k0_] x0) (h1_ : ty110.ro w [.slice A1_ x1.length k1_] x1) {fuel : Nat} {r : Bool} (hm : m_laws_eqHandedS fuel x0 x1 = some r) :
    Calls Try.prog 121 ⟨[.slice A0_ x0.length k0_, .slice A1_ x1.length k1_]⟩ w (Ret fun v w8 => v = .bool r ∧ St w w8 []) := by
  refine Calls.into Try.func121 rfl 27 rfl rfl _ rfl ?_
  unfold m_laws_eqHandedS at hm
  have hS := St.start w
  refine WP.seq ?_
  refine WP.region ?_
  refine RW.run ttok 1 rfl ?_
  refine RW.nil ?_
  refine WP.seq ?_
  refine WP.seq ?_
  refine WP.region ?_
  refine RW.run ttok 5 rfl ?_
  refine RW.nil ?_
  refine WP.cond ((x0.length : Int) != (x1.length : Int)) rfl (fun hc => ?_) (fun hc => ?_)
  · skip
    rw [if_pos hc] at hm
    refine WP.seq ?_
    refine WP.region ?_
    refine RW.run ttok 1 rfl ?_
    refine RW.nil ?_
    refine WP.ret ?_
    cases hm
    exact ⟨_, .cons (.tmp rfl) .nil, rfl, (hS.taken 0)⟩
  · skip
    rw [if_neg (not_t hc)] at hm
    refine WP.skip ?_
    refine WP.seq ?_
    refine WP.seq ?_
    refine WP.region ?_
    refine RW.run ttok 1 rfl ?_
    refine RW.nil ?_
    obtain ⟨o8, hl9, hm⟩ := bind_some hm
    refine WP.cut (fun (t2 : Unit) F w9 => o8 = .inl t2 ∧ Ext w w9 ∧ St w w9 [] ∧ F = []) ?_ ?_
    · skip
      rintro t2 F w7 ⟨ho11, hE6, hS10, rfl⟩
      subst ho11
      rw [aft_inl] at hm
      unfold m_laws_eqHandedS_j1 at hm
      refine WP.seq ?_
      refine WP.region ?_
      refine RW.run ttok 1 rfl ?_
      refine RW.nil ?_
      refine WP.ret ?_
      cases hm
      exact ⟨_, .cons (.tmp rfl) .nil, rfl, (hS10.taken 0)⟩
    · skip
      refine WP.block ?_
      refine WP.weak [(0, .slice A0_ x0.length k0_), (1, .slice A1_ x1.length k1_), (5, .int .i64 0)] ⟨rfl, rfl, rfl, trivial⟩ ?_
      refine WP.iter (fun (s1 : Int) F w9 => Ext w w9 ∧ St w w9 [] ∧ F = [(0, .slice A0_ x0.length k0_), (1, .slice A1_ x1.length k1_), (5, .int .i64 s1)]) _ hl9 ⟨(Ext.refl _), (hS.taken 0), rfl⟩ ?_
      rintro s1 F w16 _ o14 ⟨hE5, hS15, rfl⟩ hb12 ho13
      unfold m_laws_eqHandedS_b1 at hb12
      refine WP.seq ?_
      refine WP.seq ?_
      refine WP.region ?_
      refine RW.run ttok 4 rfl ?_
      refine RW.nil ?_
      refine WP.cond (decide (s1 < (x0.length : Int))) rfl (fun hc => ?_) (fun hc => ?_)
      · skip
        rw [if_pos hc] at hb12
        refine WP.skip ?_
        refine WP.seq ?_
        refine WP.block ?_
        refine WP.seq ?_
        refine WP.drawnM 0 mixed 10 (by kernel_rfl) (by kernel_rfl) [([], 1023), ([], 1023), ([0, 1], 1020), ([2], 1019), ([], 1023), ([], 1023), ([4, 5], 975), ([6], 959), ([3, 7], 887), ([8], 767)] (by kernel_rfl) (fun hsk17 => ?_)
        have hS18 := hS15.step (Ext.draw _)
        refine DM.run (fuel := 6) ttok hsk17 [0, 1, 4, 5] 51 (by kernel_rfl) (by kernel_rfl) rfl ?_
        obtain ⟨x19, hx20, hb12⟩ := bind_some hb12
        refine DM.idx ttok hS15.ext hsk17 2 55 (by kernel_rfl) (by kernel_rfl) (by kernel_rfl) (by kernel_rfl) rfl (by kernel_rfl) rfl rfl rfl rfl rfl rfl (by decide) rfl rfl h0_ (idx_some hx20).1 (idx_some hx20).2 rfl rfl (fun p21 es22 ha23 hr24 => ?_)
        have e25 := ty196_open hr24; subst e25
        refine DM.loadN ttok hsk17 3 63 (by kernel_rfl) (by kernel_rfl) (by kernel_rfl) (by kernel_rfl) rfl (by kernel_rfl) rfl rfl rfl rfl rfl (At.ext hS15.ext ha23) rfl rfl rfl ?_
        obtain ⟨x26, hx27, hb12⟩ := bind_some hb12
        refine DM.idx ttok hS15.ext hsk17 6 127 (by kernel_rfl) (by kernel_rfl) (by kernel_rfl) (by kernel_rfl) rfl (by kernel_rfl) rfl rfl rfl rfl rfl rfl (by decide) rfl rfl h1_ (idx_some hx27).1 (idx_some hx27).2 rfl rfl (fun p28 es29 ha30 hr31 => ?_)
        have e32 := ty196_open hr31; subst e32
        refine DM.loadN ttok hsk17 7 255 (by kernel_rfl) (by kernel_rfl) (by kernel_rfl) (by kernel_rfl) rfl (by kernel_rfl) rfl rfl rfl rfl rfl (At.ext hS15.ext ha30) rfl rfl rfl ?_
        obtain ⟨r33, hx34, hb12⟩ := bind_some hb12
        refine DM.one hsk17 8 (by kernel_rfl) (LM.call hsk17 511 (by kernel_rfl) (by kernel_rfl) rfl rfl rfl rfl enters165 (laws_eqHanded_ok (ty196.ext hS18.ext hr24) (ty196.ext hS18.ext hr31) hx34) (fun v35 w36 hR37 => ?_))
        obtain ⟨rfl, hR38⟩ := hR37
        refine ⟨hR38.ext, ?_⟩
        have hS39 := hS18.join hR38
        refine DM.run (fuel := 0) ttok hsk17 [9] 1023 (by kernel_rfl) (by kernel_rfl) rfl ?_
        refine DM.weak [(0, .slice A0_ x0.length k0_), (1, .slice A1_ x1.length k1_), (5, .int .i64 s1), (26, .bool (!r33))] ⟨rfl, rfl, rfl, rfl, trivial⟩ ?_
        refine DM.done hsk17 (by kernel_rfl) ?_
        refine WP.cond (!r33) rfl (fun hc => ?_) (fun hc => ?_)
        · skip
          rw [if_pos hc] at hb12
          refine WP.seq ?_
          refine WP.region ?_
          refine RW.run ttok 1 rfl ?_
          refine RW.nil ?_
          refine WP.ret ?_
          cases hb12
          cases ho13
          have hm : some _ = some _ := hm
          cases hm
          exact ⟨_, .cons (.tmp rfl) .nil, rfl, (hS39.taken 0)⟩
        · skip
          rw [if_neg (not_t hc)] at hb12
          refine WP.skip ?_
          refine WP.region ?_
          refine RW.run ttok 3 rfl ?_
          refine RW.nil ?_
          cases hb12
          exact ⟨_, [(0, .slice A0_ x0.length k0_), (1, .slice A1_ x1.length k1_), (5, .int .i64 (w64 (s1 + 1)))], ⟨rfl, rfl, rfl, trivial⟩, rfl, ((hE5.trans (Ext.draw _)).trans hR38.ext), (hS39.taken 0), rfl⟩
      · skip
        rw [if_neg (not_t hc)] at hb12
        refine WP.exit ?_
        cases hb12
        exact ⟨_, [], trivial, ho13, hE5, (hS15.taken 0), rfl⟩

theorem enters45 : Enters Try.prog 45 := ⟨_, _, Try.func45, rfl, by kernel_rfl⟩
def m_laws_eqDeque (fuel : Nat) (x0 : D.Deque) (x1 : D.Deque) : Option (Bool) := (if (x0.Top != x1.Top) = true then some false else (if (x0.Bottom != x1.Bottom) = true then some false else ((m_laws_eqInt64S fuel x0.Buffer x1.Buffer).bind fun r35 => (if (!r35) = true then some false else ((m_laws_eqDequeActorS fuel x0.Actors x1.Actors).bind fun r42 => (if (!r42) = true then some false else ((m_laws_eqHandedS fuel x0.Taken x1.Taken).bind fun r49 => (if (!r49) = true then some false else ((m_laws_eqInt64S fuel x0.Refused x1.Refused).bind fun r56 => (if (!r56) = true then some false else some true))))))))))

set_option maxRecDepth 100000 in
theorem laws_eqDeque_ok {w : World} {c0_ : List Value} {x0 : D.Deque} {c1_ : List Value} {x1 : D.Deque} (h0_ : ty112.ro w c0_ x0) (h1_ : ty112.ro w c1_ x1) {fuel : Nat} {r : Bool} (hm : m_laws_eqDeque fuel x0 x1 = some r) :
    Calls Try.prog 45 ⟨[.agg ⟨c0_⟩, .agg ⟨c1_⟩]⟩ w (Ret fun v w8 => v = .bool r ∧ St w w8 []) := by
  obtain ⟨A1, k2, A4, k5, A7, k8, A10, k11, e13, h3, h6, h9, h12⟩ := ty112_open h0_; subst e13
  obtain ⟨A14, k15, A17, k18, A20, k21, A23, k24, e26, h16, h19, h22, h25⟩ := ty112_open h1_; subst e26
  refine Calls.into Try.func45 rfl 39 rfl rfl _ rfl ?_
  unfold m_laws_eqDeque at hm
  have hS := St.start w
  refine WP.seq ?_
  refine WP.region ?_
  refine RW.new ttok hS rfl rfl rfl rfl (fun g27 w28 e29 hS30 => ?_)
  refine RW.new ttok hS30 rfl rfl rfl rfl (fun g31 w32 e33 hS34 => ?_)
  refine RW.run ttok 1 rfl ?_
  refine RW.nil ?_
  refine WP.seq ?_
  refine WP.seq ?_
  refine WP.region ?_
  refine RW.run ttok 1 rfl ?_
  refine RW.load1 ttok rfl rfl rfl rfl rfl ((hS34.bring 1 rfl).box) 0 rfl rfl rfl rfl ?_
  refine RW.run ttok 1 rfl ?_
  refine RW.load1 ttok rfl rfl rfl rfl rfl ((hS34.bring 0 rfl).box) 0 rfl rfl rfl rfl ?_
  refine RW.run ttok 1 rfl ?_
  refine RW.nil ?_
  refine WP.cond (x0.Top != x1.Top) rfl (fun hc => ?_) (fun hc => ?_)
  · skip
    rw [if_pos hc] at hm
    refine WP.seq ?_
    refine WP.region ?_
    refine RW.run ttok 1 rfl ?_
    refine RW.nil ?_
    refine WP.ret ?_
    cases hm
    exact ⟨_, .cons (.tmp rfl) .nil, rfl, (hS34.taken 0)⟩
  · skip
    rw [if_neg (not_t hc)] at hm
    refine WP.skip ?_
    refine WP.seq ?_
    refine WP.seq ?_
    refine WP.region ?_
    refine RW.run ttok 1 rfl ?_
    refine RW.load1 ttok rfl rfl rfl rfl rfl ((hS34.bring 1 rfl).box) 1 rfl rfl rfl rfl ?_
    refine RW.run ttok 1 rfl ?_
    refine RW.load1 ttok rfl rfl rfl rfl rfl ((hS34.bring 0 rfl).box) 1 rfl rfl rfl rfl ?_
    refine RW.run ttok 1 rfl ?_
    refine RW.nil ?_
    refine WP.cond (x0.Bottom != x1.Bottom) rfl (fun hc => ?_) (fun hc => ?_)
    · skip
      rw [if_pos hc] at hm
      refine WP.seq ?_
      refine WP.region ?_
      refine RW.run ttok 1 rfl ?_
      refine RW.nil ?_
      refine WP.ret ?_
      cases hm
      exact ⟨_, .cons (.tmp rfl) .nil, rfl, (hS34.taken 0)⟩
    · skip
      rw [if_neg (not_t hc)] at hm
      refine WP.skip ?_
      refine WP.seq ?_
      refine WP.seq ?_
      refine WP.region ?_
      refine RW.run ttok 1 rfl ?_
      refine RW.load1 ttok rfl rfl rfl rfl rfl ((hS34.bring 1 rfl).box) 2 rfl rfl rfl rfl ?_
      refine RW.run ttok 1 rfl ?_
      refine RW.load1 ttok rfl rfl rfl rfl rfl ((hS34.bring 0 rfl).box) 2 rfl rfl rfl rfl ?_
      obtain ⟨r35, hx36, hm⟩ := bind_some hm
      refine RW.call rfl rfl rfl enters95 (laws_eqInt64S_ok (ty72.ext hS34.ext h3) (ty72.ext hS34.ext h16) hx36) (fun v37 w38 hR39 => ?_)
      obtain ⟨rfl, hR40⟩ := hR39
      have hS41 := hS34.join hR40
      refine RW.run ttok 1 rfl ?_
      refine RW.nil ?_
      refine WP.cond (!r35) rfl (fun hc => ?_) (fun hc => ?_)
      · skip
        rw [if_pos hc] at hm
        refine WP.seq ?_
        refine WP.region ?_
        refine RW.run ttok 1 rfl ?_
        refine RW.nil ?_
        refine WP.ret ?_
        cases hm
        exact ⟨_, .cons (.tmp rfl) .nil, rfl, (hS41.taken 0)⟩
      · skip
        rw [if_neg (not_t hc)] at hm
        refine WP.skip ?_
        refine WP.seq ?_
        refine WP.seq ?_
        refine WP.region ?_
        refine RW.run ttok 1 rfl ?_
        refine RW.load1 ttok rfl rfl rfl rfl rfl ((hS41.bring 1 rfl).box) 3 rfl rfl rfl rfl ?_
        refine RW.run ttok 1 rfl ?_
        refine RW.load1 ttok rfl rfl rfl rfl rfl ((hS41.bring 0 rfl).box) 3 rfl rfl rfl rfl ?_
        obtain ⟨r42, hx43, hm⟩ := bind_some hm
        refine RW.call rfl rfl rfl enters120 (laws_eqDequeActorS_ok (ty109.ext hS41.ext h6) (ty109.ext hS41.ext h19) hx43) (fun v44 w45 hR46 => ?_)
        obtain ⟨rfl, hR47⟩ := hR46
        have hS48 := hS41.join hR47
        refine RW.run ttok 1 rfl ?_
        refine RW.nil ?_
        refine WP.cond (!r42) rfl (fun hc => ?_) (fun hc => ?_)
        · skip
          rw [if_pos hc] at hm
          refine WP.seq ?_
          refine WP.region ?_
          refine RW.run ttok 1 rfl ?_
          refine RW.nil ?_
          refine WP.ret ?_
          cases hm
          exact ⟨_, .cons (.tmp rfl) .nil, rfl, (hS48.taken 0)⟩
        · skip
          rw [if_neg (not_t hc)] at hm
          refine WP.skip ?_
          refine WP.seq ?_
          refine WP.seq ?_
          refine WP.region ?_
          refine RW.run ttok 1 rfl ?_
          refine RW.load1 ttok rfl rfl rfl rfl rfl ((hS48.bring 1 rfl).box) 4 rfl rfl rfl rfl ?_
          refine RW.run ttok 1 rfl ?_
          refine RW.load1 ttok rfl rfl rfl rfl rfl ((hS48.bring 0 rfl).box) 4 rfl rfl rfl rfl ?_
          obtain ⟨r49, hx50, hm⟩ := bind_some hm
          refine RW.call rfl rfl rfl enters121 (laws_eqHandedS_ok (ty110.ext hS48.ext h9) (ty110.ext hS48.ext h22) hx50) (fun v51 w52 hR53 => ?_)
          obtain ⟨rfl, hR54⟩ := hR53
          have hS55 := hS48.join hR54
          refine RW.run ttok 1 rfl ?_
          refine RW.nil ?_
          refine WP.cond (!r49) rfl (fun hc => ?_) (fun hc => ?_)
          · skip
            rw [if_pos hc] at hm
            refine WP.seq ?_
            refine WP.region ?_
            refine RW.run ttok 1 rfl ?_
            refine RW.nil ?_
            refine WP.ret ?_
            cases hm
            exact ⟨_, .cons (.tmp rfl) .nil, rfl, (hS55.taken 0)⟩
          · skip
            rw [if_neg (not_t hc)] at hm
            refine WP.skip ?_
            refine WP.seq ?_
            refine WP.seq ?_
            refine WP.region ?_
            refine RW.run ttok 1 rfl ?_
            refine RW.load1 ttok rfl rfl rfl rfl rfl ((hS55.bring 1 rfl).box) 5 rfl rfl rfl rfl ?_
            refine RW.run ttok 1 rfl ?_
            refine RW.load1 ttok rfl rfl rfl rfl rfl ((hS55.bring 0 rfl).box) 5 rfl rfl rfl rfl ?_
            obtain ⟨r56, hx57, hm⟩ := bind_some hm
            refine RW.call rfl rfl rfl enters95 (laws_eqInt64S_ok (ty72.ext hS55.ext h12) (ty72.ext hS55.ext h25) hx57) (fun v58 w59 hR60 => ?_)
            obtain ⟨rfl, hR61⟩ := hR60
            have hS62 := hS55.join hR61
            refine RW.run ttok 1 rfl ?_
            refine RW.nil ?_
            refine WP.cond (!r56) rfl (fun hc => ?_) (fun hc => ?_)
            · skip
              rw [if_pos hc] at hm
              refine WP.seq ?_
              refine WP.region ?_
              refine RW.run ttok 1 rfl ?_
              refine RW.nil ?_
              refine WP.ret ?_
              cases hm
              exact ⟨_, .cons (.tmp rfl) .nil, rfl, (hS62.taken 0)⟩
            · skip
              rw [if_neg (not_t hc)] at hm
              refine WP.skip ?_
              refine WP.seq ?_
              refine WP.region ?_
              refine RW.run ttok 1 rfl ?_
              refine RW.nil ?_
              refine WP.ret ?_
              cases hm
              exact ⟨_, .cons (.tmp rfl) .nil, rfl, (hS62.taken 0)⟩

theorem enters9 : Enters Try.prog 9 := ⟨_, _, Try.func9, rfl, by kernel_rfl⟩
def m_laws_FnExactValidDeque (fuel : Nat) (x0 : D.Deque) : Option (Bool) := ((m_laws_szDeque fuel x0 1048576).bind fun r18 => (if (decide (r18 < 0)) = true then some true else ((m_laws_toDeque fuel x0).bind fun r25 => ((m_spec_ValidDeque fuel r25).bind fun r40 => ((m_laws_toDeque fuel x0).bind fun r47 => ((m_impl_ValidDeque fuel r47).bind fun r69 => (if (!(r69 == r40)) = true then some false else ((m_laws_toDeque fuel x0).bind fun r78 => ((m_laws_eqDeque fuel r47 r78).bind fun r93 => (if (!r93) = true then some false else some true))))))))))

set_option maxRecDepth 100000 in
theorem laws_FnExactValidDeque_ok {w : World} {c0_ : List Value} {x0 : D.Deque} (h0_ : ty106.ro w c0_ x0) {fuel : Nat} {r : Bool} (hm : m_laws_FnExactValidDeque fuel x0 = some r) :
    Calls Try.prog 9 ⟨[.agg ⟨c0_⟩]⟩ w (Ret fun v w8 => v = .bool r ∧ St w w8 []) := by
  obtain ⟨A1, k2, A4, k5, A7, k8, A10, k11, e13, h3, h6, h9, h12⟩ := ty106_open h0_; subst e13
  refine Calls.into Try.func9 rfl 27 rfl rfl _ rfl ?_
  unfold m_laws_FnExactValidDeque at hm
  have hS := St.start w
  refine WP.seq ?_
  refine WP.region ?_
  refine RW.new ttok hS rfl rfl rfl rfl (fun g14 w15 e16 hS17 => ?_)
  refine RW.run ttok 1 rfl ?_
  refine RW.nil ?_
  refine WP.seq ?_
  refine WP.region ?_
  refine RW.run ttok 1 rfl ?_
  refine RW.nil ?_
  refine WP.seq ?_
  refine WP.region ?_
  refine RW.loadN ttok rfl rfl rfl rfl rfl ((hS17.bring 0 rfl).box) rfl rfl rfl ?_
  refine RW.run ttok 1 rfl ?_
  obtain ⟨r18, hx19, hm⟩ := bind_some hm
  refine RW.call rfl rfl rfl enters41 (laws_szDeque_ok (ty106.ext hS17.ext h0_) hx19) (fun v20 w21 hR22 => ?_)
  obtain ⟨rfl, hR23⟩ := hR22
  have hS24 := hS17.join hR23
  refine RW.run ttok 1 rfl ?_
  refine RW.nil ?_
  refine WP.seq ?_
  refine WP.seq ?_
  refine WP.region ?_
  refine RW.run ttok 2 rfl ?_
  refine RW.nil ?_
  refine WP.cond (decide (r18 < 0)) rfl (fun hc => ?_) (fun hc => ?_)
  · skip
    rw [if_pos hc] at hm
    refine WP.seq ?_
    refine WP.region ?_
    refine RW.run ttok 1 rfl ?_
    refine RW.nil ?_
    refine WP.ret ?_
    cases hm
    exact ⟨_, .cons (.tmp rfl) .nil, rfl, (hS24.taken 0)⟩
  · skip
    rw [if_neg (not_t hc)] at hm
    refine WP.skip ?_
    refine WP.seq ?_
    refine WP.region ?_
    refine RW.loadN ttok rfl rfl rfl rfl rfl ((hS24.bring 0 rfl).box) rfl rfl rfl ?_
    obtain ⟨r25, hx26, hm⟩ := bind_some hm
    refine RW.call rfl rfl rfl enters43 (laws_toDeque_ok (ty106.ext hS24.ext h0_) hx26) (fun v27 w28 hR29 => ?_)
    obtain ⟨A30, k31, A32, k33, A34, k35, A36, k37, rfl, hR38⟩ := hR29
    have hS39 := hS24.join hR38
    obtain ⟨r40, hx41, hm⟩ := bind_some hm
    refine RW.call rfl rfl rfl enters42 (spec_ValidDeque_ok (ty112_shut r25 ((hS39.bring 0 rfl).own) ((hS39.bring 1 rfl).own) ((hS39.bring 2 rfl).own) ((hS39.bring 3 rfl).own)) hx41) (fun v42 w43 hR44 => ?_)
    obtain ⟨rfl, hR45⟩ := hR44
    have hS46 := hS39.join hR45
    refine RW.run ttok 1 rfl ?_
    refine RW.nil ?_
    refine WP.seq ?_
    refine WP.region ?_
    refine RW.loadN ttok rfl rfl rfl rfl rfl ((hS46.bring 4 rfl).box) rfl rfl rfl ?_
    obtain ⟨r47, hx48, hm⟩ := bind_some hm
    refine RW.call rfl rfl rfl enters43 (laws_toDeque_ok (ty106.ext hS46.ext h0_) hx48) (fun v49 w50 hR51 => ?_)
    obtain ⟨A52, k53, A54, k55, A56, k57, A58, k59, rfl, hR60⟩ := hR51
    have hS61 := hS46.join hR60
    refine RW.new ttok hS61 rfl rfl rfl rfl (fun g62 w63 e64 hS65 => ?_)
    have hS66 := hS65.bring 0 rfl
    refine RW.store ttok (A := []) hS66 rfl rfl rfl rfl rfl 0 rfl rfl rfl rfl rfl (fun w67 hS68 => ?_)
    refine RW.nil ?_
    refine WP.seq ?_
    refine WP.region ?_
    refine RW.loadN ttok rfl rfl rfl rfl rfl ((hS68.bring 0 rfl).box) rfl rfl rfl ?_
    obtain ⟨r69, hx70, hm⟩ := bind_some hm
    refine RW.call rfl rfl rfl enters44 (impl_ValidDeque_ok (ty112_shut r47 ((hS68.bring 1 rfl).own) ((hS68.bring 2 rfl).own) ((hS68.bring 3 rfl).own) ((hS68.bring 4 rfl).own)) hx70) (fun v71 w72 hR73 => ?_)
    obtain ⟨rfl, hR74⟩ := hR73
    have hS75 := hS68.join hR74
    refine RW.run ttok 1 rfl ?_
    refine RW.nil ?_
    refine WP.seq ?_
    refine WP.seq ?_
    refine WP.region ?_
    refine RW.run ttok 3 rfl ?_
    refine RW.nil ?_
    refine WP.cond (!(r69 == r40)) rfl (fun hc => ?_) (fun hc => ?_)
    · skip
      rw [if_pos hc] at hm
      refine WP.seq ?_
      refine WP.region ?_
      refine RW.run ttok 1 rfl ?_
      refine RW.nil ?_
      refine WP.ret ?_
      cases hm
      exact ⟨_, .cons (.tmp rfl) .nil, rfl, (hS75.taken 0)⟩
    · skip
      rw [if_neg (not_t hc)] at hm
      refine WP.skip ?_
      refine WP.seq ?_
      refine WP.seq ?_
      refine WP.drawnM 0 mixed 5 (by kernel_rfl) (by kernel_rfl) [([], 31), ([], 31), ([1], 29), ([0, 2, 2], 26), ([3], 23)] (by kernel_rfl) (fun hsk76 => ?_)
      have hS77 := hS75.step (Ext.draw _)
      refine DM.loadN ttok hsk76 0 1 (by kernel_rfl) (by kernel_rfl) (by kernel_rfl) (by kernel_rfl) rfl (by kernel_rfl) rfl rfl rfl rfl rfl ((hS75.bring 0 rfl).box) rfl rfl rfl ?_
      refine DM.loadN ttok hsk76 1 3 (by kernel_rfl) (by kernel_rfl) (by kernel_rfl) (by kernel_rfl) rfl (by kernel_rfl) rfl rfl rfl rfl rfl ((hS75.bring 9 rfl).box) rfl rfl rfl ?_
      obtain ⟨r78, hx79, hm⟩ := bind_some hm
      refine DM.one hsk76 2 (by kernel_rfl) (LM.call hsk76 7 (by kernel_rfl) (by kernel_rfl) rfl rfl rfl rfl enters43 (laws_toDeque_ok (ty106.ext hS77.ext h0_) hx79) (fun v80 w81 hR82 => ?_))
      obtain ⟨A83, k84, A85, k86, A87, k88, A89, k90, rfl, hR91⟩ := hR82
      refine ⟨hR91.ext, ?_⟩
      have hS92 := hS77.join hR91
      obtain ⟨r93, hx94, hm⟩ := bind_some hm
      refine DM.one hsk76 3 (by kernel_rfl) (LM.call hsk76 15 (by kernel_rfl) (by kernel_rfl) rfl rfl rfl rfl enters45 (laws_eqDeque_ok (ty112_shut r47 ((hS92.bring 5 rfl).own) ((hS92.bring 6 rfl).own) ((hS92.bring 7 rfl).own) ((hS92.bring 8 rfl).own)) (ty112_shut r78 ((hS92.bring 0 rfl).own) ((hS92.bring 1 rfl).own) ((hS92.bring 2 rfl).own) ((hS92.bring 3 rfl).own)) hx94) (fun v95 w96 hR97 => ?_))
      obtain ⟨rfl, hR98⟩ := hR97
      refine ⟨hR98.ext, ?_⟩
      have hS99 := hS92.join hR98
      refine DM.run (fuel := 0) ttok hsk76 [4] 31 (by kernel_rfl) (by kernel_rfl) rfl ?_
      refine DM.weak [(26, .bool (!r93))] ⟨rfl, trivial⟩ ?_
      refine DM.done hsk76 (by kernel_rfl) ?_
      refine WP.cond (!r93) rfl (fun hc => ?_) (fun hc => ?_)
      · skip
        rw [if_pos hc] at hm
        refine WP.seq ?_
        refine WP.region ?_
        refine RW.run ttok 1 rfl ?_
        refine RW.nil ?_
        refine WP.ret ?_
        cases hm
        exact ⟨_, .cons (.tmp rfl) .nil, rfl, (hS99.taken 0)⟩
      · skip
        rw [if_neg (not_t hc)] at hm
        refine WP.skip ?_
        refine WP.seq ?_
        refine WP.region ?_
        refine RW.run ttok 1 rfl ?_
        refine RW.nil ?_
        refine WP.ret ?_
        cases hm
        exact ⟨_, .cons (.tmp rfl) .nil, rfl, (hS99.taken 0)⟩

theorem enters122 : Enters Try.prog 122 := ⟨_, _, Try.func122, rfl, by kernel_rfl⟩
def m_spec_l23Busy_j1 (fuel : Nat) (t20 : (List Int)) : Option (List Int) := some t20
def m_spec_l23Busy_j2 (fuel : Nat) (s19 : Int × (List Int)) (t48 : (List Int)) : Option (Rd (Int × (List Int)) ((List Int)) ((List Int))) := some (.next (w64 (s19.1 + 1), t48))
def m_spec_l23Busy_b1 (fuel : Nat) (x0 : D.Deque) (s19 : Int × (List Int)) : Option (Rd (Int × (List Int)) ((List Int)) ((List Int))) := (if (decide (s19.1 < (x0.Actors.length : Int))) = true then ((idx x0.Actors s19.1).bind fun x38 => (if (decide ((x38.Todo.length : Int) > 0)) = true then (if decide ((s19.2.length : Int) + (([s19.1] : (List Int)).length : Int) ≤ 4294967296) = true then m_spec_l23Busy_j2 fuel s19 (s19.2 ++ ([s19.1] : (List Int))) else none) else m_spec_l23Busy_j2 fuel s19 s19.2)) else some (.brk s19.2))
def m_spec_l23Busy (fuel : Nat) (x0 : D.Deque) : Option ((List Int)) := ((iter (m_spec_l23Busy_b1 fuel x0) fuel (0, ([] : (List Int)))).bind fun o => aft o (m_spec_l23Busy_j1 fuel))

set_option maxRecDepth 100000 in
theorem spec_l23Busy_ok {w : World} {p0_ : Addr} {c0_ : List Value} {x0 : D.Deque} (h0_ : ty112.ro w c0_ x0) (g0_ : At w p0_ c0_) {fuel : Nat} {r : (List Int)} (hm : m_spec_l23Busy fuel x0 = some r) :
    Calls Try.prog 122 ⟨[.pointer (some p0_)]⟩ w (Ret fun v w8 => ∃ A0 k0, v = .slice A0 r.length k0 ∧ St w w8 [Own ty72 [.slice A0 r.length k0] r]) := by
  obtain ⟨A1, k2, A4, k5, A7, k8, A10, k11, e13, h3, h6, h9, h12⟩ := ty112_open h0_; subst e13
  refine Calls.into Try.func122 rfl 30 rfl rfl _ rfl ?_
  unfold m_spec_l23Busy at hm
  have hS := St.start w
  refine WP.seq ?_
  refine WP.region ?_
  refine RW.run ttok 1 rfl ?_
  refine RW.nil ?_
  refine WP.seq ?_
  refine WP.region ?_
  refine RW.newSlice0 (U := tInt) ttok hS rfl rfl rfl rfl rfl rfl rfl (fun A14 k15 w16 e17 hS18 => ?_)
  refine RW.run ttok 1 rfl ?_
  refine RW.nil ?_
  refine WP.seq ?_
  refine WP.seq ?_
  refine WP.region ?_
  refine RW.run ttok 1 rfl ?_
  refine RW.nil ?_
  obtain ⟨o29, hl30, hm⟩ := bind_some hm
  refine WP.cut (fun (t20 : (List Int)) F w9 => ∃ A26 k27, o29 = .inl t20 ∧ St w w9 [Own ty72 [.slice A26 t20.length k27] t20] ∧ F = [(3, .slice A26 t20.length k27)]) ?_ ?_
  · skip
    rintro t20 F w28 ⟨A26, k27, ho32, hS31, rfl⟩
    subst ho32
    rw [aft_inl] at hm
    unfold m_spec_l23Busy_j1 at hm
    refine WP.seq ?_
    refine WP.region ?_
    refine RW.run ttok 2 rfl ?_
    refine RW.nil ?_
    refine WP.ret ?_
    cases hm
    exact ⟨_, .cons (.tmp rfl) .nil, A26, k27, rfl, ((hS31.bring 0 rfl).taken 1)⟩
  · skip
    refine WP.block ?_
    refine WP.weak [(0, .pointer (some p0_)), (3, .slice A14 ([] : (List Int)).length k15), (4, .int .i64 0)] ⟨rfl, rfl, rfl, trivial⟩ ?_
    refine WP.iter (fun (s19 : Int × (List Int)) F w9 => ∃ A24 k25, St w w9 [Own ty72 [.slice A24 s19.2.length k25] s19.2] ∧ F = [(0, .pointer (some p0_)), (3, .slice A24 s19.2.length k25), (4, .int .i64 s19.1)]) _ hl30 ⟨A14, k15, ((hS18.bring 0 rfl).taken 1), rfl⟩ ?_
    rintro s19 F w37 _ o35 ⟨A24, k25, hS36, rfl⟩ hb33 ho34
    unfold m_spec_l23Busy_b1 at hb33
    refine WP.seq ?_
    refine WP.seq ?_
    refine WP.region ?_
    refine RW.run ttok 4 rfl ?_
    refine RW.load1 ttok rfl rfl rfl rfl rfl (At.ext hS36.ext g0_) 3 rfl rfl rfl rfl ?_
    refine RW.run ttok 2 rfl ?_
    refine RW.nil ?_
    refine WP.cond (decide (s19.1 < (x0.Actors.length : Int))) rfl (fun hc => ?_) (fun hc => ?_)
    · skip
      rw [if_pos hc] at hb33
      refine WP.skip ?_
      refine WP.seq ?_
      refine WP.block ?_
      refine WP.seq ?_
      refine WP.region ?_
      refine RW.run ttok 3 rfl ?_
      refine RW.load1 ttok rfl rfl rfl rfl rfl (At.ext hS36.ext g0_) 3 rfl rfl rfl rfl ?_
      refine RW.run ttok 1 rfl ?_
      obtain ⟨x38, hx39, hb33⟩ := bind_some hb33
      refine RW.idx ttok hS36.ext rfl rfl rfl rfl rfl rfl (by decide) rfl rfl h6 (idx_some hx39).1 (idx_some hx39).2 rfl rfl (fun p40 es41 ha42 hr43 => ?_)
      obtain ⟨A44, k45, e47, h46⟩ := ty191_open hr43; subst e47
      refine RW.run ttok 1 rfl ?_
      refine RW.load1 ttok rfl rfl rfl rfl rfl (At.ext hS36.ext ha42) 0 rfl rfl rfl rfl ?_
      refine RW.run ttok 2 rfl ?_
      refine RW.nil ?_
      refine WP.cut (fun (t48 : (List Int)) F w9 => ∃ A49 k50, m_spec_l23Busy_j2 fuel s19 t48 = some o35 ∧ St w w9 [Own ty72 [.slice A49 t48.length k50] t48] ∧ F = [(0, .pointer (some p0_)), (3, .slice A49 t48.length k50), (4, .int .i64 s19.1)]) ?_ ?_
      · skip
        rintro t48 F w52 ⟨A49, k50, hb33, hS51, rfl⟩
        unfold m_spec_l23Busy_j2 at hb33
        refine WP.region ?_
        refine RW.run ttok 3 rfl ?_
        refine RW.nil ?_
        cases hb33
        exact ⟨_, [(0, .pointer (some p0_)), (3, .slice A49 t48.length k50), (4, .int .i64 (w64 (s19.1 + 1)))], ⟨rfl, rfl, rfl, trivial⟩, rfl, A49, k50, ((hS51.bring 0 rfl).taken 1), rfl⟩
      · skip
        refine WP.cond (decide ((x38.Todo.length : Int) > 0)) rfl (fun hc => ?_) (fun hc => ?_)
        · skip
          rw [if_pos hc] at hb33
          refine WP.region ?_
          refine RW.run ttok 2 rfl ?_
          refine RW.newSlice (U := tInt) (els := [.int .i64 s19.1]) (ys := [s19.1]) ttok (hS36.flatEls (U := tInt) (els := [.int .i64 s19.1]) (ys := [s19.1]) ⟨[.int .i64 s19.1], _, [], [], rfl, rfl, ⟨rfl, rfl⟩, ⟨rfl, rfl⟩⟩) rfl rfl rfl rfl rfl rfl rfl rfl rfl rfl rfl rfl (fun A54 k55 w56 e57 hS58 => ?_)
          have hS59 := hS58.bring 1 rfl
          by_cases hk60 : decide ((s19.2.length : Int) + (([s19.1] : (List Int)).length : Int) ≤ 4294967296) = true
          case neg => rw [if_neg hk60] at hb33; cases hb33
          rw [if_pos hk60] at hb33
          refine RW.appendRo ttok Flat.int hS59 rfl rfl rfl rfl rfl rfl (by decide) rfl rfl ((hS59.bring 1 rfl).own) (of_decide_eq_true hk60) (by decide) rfl rfl (fun A61 k62 w63 hS64 => ?_)
          refine RW.run ttok 1 rfl ?_
          refine RW.nil ?_
          exact ⟨(s19.2 ++ ([s19.1] : (List Int))), [(0, .pointer (some p0_)), (3, .slice A61 (s19.2 ++ ([s19.1] : (List Int))).length k62), (4, .int .i64 s19.1)], ⟨rfl, rfl, rfl, trivial⟩, A61, k62, hb33, ((hS64.bring 0 rfl).taken 1), rfl⟩
        · skip
          rw [if_neg (not_t hc)] at hb33
          refine WP.skip ?_
          exact ⟨s19.2, [(0, .pointer (some p0_)), (3, .slice A24 s19.2.length k25), (4, .int .i64 s19.1)], ⟨rfl, rfl, rfl, trivial⟩, A24, k25, hb33, ((hS36.bring 0 rfl).taken 1), rfl⟩
    · skip
      rw [if_neg (not_t hc)] at hb33
      refine WP.exit ?_
      cases hb33
      exact ⟨_, [(3, .slice A24 s19.2.length k25)], ⟨rfl, trivial⟩, A24, k25, ho34, ((hS36.bring 0 rfl).taken 1), rfl⟩

theorem enters46 : Enters Try.prog 46 := ⟨_, _, Try.func46, rfl, by kernel_rfl⟩
def m_spec_IsDequeDone (fuel : Nat) (x0 : D.Deque) : Option (Bool) := ((m_spec_l23Ok fuel x0).bind fun r18 => (if r18 = true then ((m_spec_l23Busy fuel x0).bind fun r26 => some ((r26.length : Int) == 0)) else some false))

set_option maxRecDepth 100000 in
theorem spec_IsDequeDone_ok {w : World} {c0_ : List Value} {x0 : D.Deque} (h0_ : ty112.ro w c0_ x0) {fuel : Nat} {r : Bool} (hm : m_spec_IsDequeDone fuel x0 = some r) :
    Calls Try.prog 46 ⟨[.agg ⟨c0_⟩]⟩ w (Ret fun v w8 => v = .bool r ∧ St w w8 []) := by
  obtain ⟨A1, k2, A4, k5, A7, k8, A10, k11, e13, h3, h6, h9, h12⟩ := ty112_open h0_; subst e13
  refine Calls.into Try.func46 rfl 9 rfl rfl _ rfl ?_
  unfold m_spec_IsDequeDone at hm
  have hS := St.start w
  refine WP.seq ?_
  refine WP.region ?_
  refine RW.new ttok hS rfl rfl rfl rfl (fun g14 w15 e16 hS17 => ?_)
  refine RW.run ttok 1 rfl ?_
  refine RW.nil ?_
  refine WP.seq ?_
  refine WP.region ?_
  obtain ⟨r18, hx19, hm⟩ := bind_some hm
  refine RW.call rfl rfl rfl enters108 (spec_l23Ok_ok (ty112.ext hS17.ext h0_) ((hS17.bring 0 rfl).box) hx19) (fun v20 w21 hR22 => ?_)
  obtain ⟨rfl, hR23⟩ := hR22
  have hS24 := hS17.join hR23
  refine RW.run ttok 1 rfl ?_
  by_cases hg25 : r18 = true
  · skip
    rw [if_pos hg25] at hm
    refine RW.know 4 rfl (congrArg Value.bool hg25) ?_
    obtain ⟨r26, hx27, hm⟩ := bind_some hm
    refine RW.call rfl rfl rfl enters122 (spec_l23Busy_ok (ty112.ext hS24.ext h0_) ((hS24.bring 0 rfl).box) hx27) (fun v28 w29 hR30 => ?_)
    obtain ⟨A31, k32, rfl, hR33⟩ := hR30
    have hS34 := hS24.join hR33
    refine RW.run ttok 4 rfl ?_
    refine RW.nil ?_
    refine WP.ret ?_
    cases hm
    exact ⟨_, .cons (.tmp rfl) .nil, rfl, (hS34.taken 0)⟩
  · skip
    rw [if_neg hg25] at hm
    refine RW.know 4 rfl (congrArg Value.bool (Bool.eq_false_iff.2 hg25)) ?_
    refine RW.run ttok 5 rfl ?_
    refine RW.nil ?_
    refine WP.ret ?_
    cases hm
    exact ⟨_, .cons (.tmp rfl) .nil, rfl, (hS24.taken 0)⟩

theorem enters184 : Enters Try.prog 184 := ⟨_, _, Try.func184, rfl, by kernel_rfl⟩
def m_slices_IndexFunc_impl_DequeActor_impl_DequeActor_j1 (fuel : Nat) (t2 : Unit) : Option Int := some (-1)
def m_slices_IndexFunc_impl_DequeActor_impl_DequeActor_b1 (fuel : Nat) (x0 : (List D.DequeActor)) (x1 : D.DequeActor → Option Bool) (s1 : Int) : Option (Rd (Int) (Unit) (Int)) := (if (decide (s1 < (x0.length : Int))) = true then ((idx x0 s1).bind fun x17 => ((x1 x17).bind fun r27 => (if r27 = true then some (.ret s1) else some (.next (w64 (s1 + 1)))))) else some (.brk ()))
def m_slices_IndexFunc_impl_DequeActor_impl_DequeActor (fuel : Nat) (x0 : (List D.DequeActor)) (x1 : D.DequeActor → Option Bool) : Option (Int) := ((iter (m_slices_IndexFunc_impl_DequeActor_impl_DequeActor_b1 fuel x0 x1) fuel 0).bind fun o => aft o (m_slices_IndexFunc_impl_DequeActor_impl_DequeActor_j1 fuel))

set_option maxRecDepth 100000 in
theorem slices_IndexFunc_impl_DequeActor_impl_DequeActor_ok {w : World} {A0_ : Option Addr} {k0_ : Nat} {x0 : (List D.DequeActor)} {f1_ : Nat} {u1_ : List Value} {x1 : D.DequeActor → Option Bool} (h0_ : ty109.ro w [.slice A0_ x0.length k0_] x0) (h1_ : Enters Try.prog f1_ ∧ ∀ {w9 : World}, Ext w w9 → ∀ {cz0 : List Value} {z0 : D.DequeActor} {y9 : Bool}, ty191.ro w9 cz0 z0 → x1 z0 = some y9 → Calls Try.prog f1_ ⟨[.agg ⟨cz0⟩] ++ u1_⟩ w9 (Ret fun v w8 => v = .bool y9 ∧ St w9 w8 [])) {fuel : Nat} {r : Int} (hm : m_slices_IndexFunc_impl_DequeActor_impl_DequeActor fuel x0 x1 = some r) :
    Calls Try.prog 184 ⟨[.slice A0_ x0.length k0_, .func (.func f1_) #[] ⟨u1_⟩]⟩ w (Ret fun v w8 => v = .int .i64 r ∧ St w w8 []) := by
  refine Calls.into Try.func184 rfl 19 rfl rfl _ rfl ?_
  unfold m_slices_IndexFunc_impl_DequeActor_impl_DequeActor at hm
  have hS := St.start w
  refine WP.seq ?_
  refine WP.region ?_
  refine RW.run ttok 1 rfl ?_
  refine RW.nil ?_
  refine WP.seq ?_
  refine WP.seq ?_
  refine WP.region ?_
  refine RW.run ttok 3 rfl ?_
  refine RW.nil ?_
  obtain ⟨o8, hl9, hm⟩ := bind_some hm
  refine WP.cut (fun (t2 : Unit) F w9 => o8 = .inl t2 ∧ Ext w w9 ∧ St w w9 [] ∧ F = []) ?_ ?_
  · skip
    rintro t2 F w7 ⟨ho11, hE6, hS10, rfl⟩
    subst ho11
    rw [aft_inl] at hm
    unfold m_slices_IndexFunc_impl_DequeActor_impl_DequeActor_j1 at hm
    refine WP.seq ?_
    refine WP.region ?_
    refine RW.run ttok 1 rfl ?_
    refine RW.nil ?_
    refine WP.ret ?_
    cases hm
    exact ⟨_, .cons (.tmp rfl) .nil, rfl, (hS10.taken 0)⟩
  · skip
    refine WP.block ?_
    refine WP.weak [(0, .slice A0_ x0.length k0_), (1, .func (.func f1_) #[] ⟨u1_⟩), (7, .int .i64 (x0.length : Int)), (8, .int .i64 0)] ⟨rfl, rfl, rfl, rfl, trivial⟩ ?_
    refine WP.iter (fun (s1 : Int) F w9 => Ext w w9 ∧ St w w9 [] ∧ F = [(0, .slice A0_ x0.length k0_), (1, .func (.func f1_) #[] ⟨u1_⟩), (7, .int .i64 (x0.length : Int)), (8, .int .i64 s1)]) _ hl9 ⟨(Ext.refl _), (hS.taken 0), rfl⟩ ?_
    rintro s1 F w16 _ o14 ⟨hE5, hS15, rfl⟩ hb12 ho13
    unfold m_slices_IndexFunc_impl_DequeActor_impl_DequeActor_b1 at hb12
    refine WP.seq ?_
    refine WP.region ?_
    refine RW.run ttok 1 rfl ?_
    refine RW.nil ?_
    refine WP.seq ?_
    refine WP.cond (decide (s1 < (x0.length : Int))) rfl (fun hc => ?_) (fun hc => ?_)
    · skip
      rw [if_pos hc] at hb12
      refine WP.skip ?_
      refine WP.seq ?_
      refine WP.block ?_
      refine WP.seq ?_
      refine WP.region ?_
      refine RW.run ttok 2 rfl ?_
      refine RW.nil ?_
      refine WP.seq ?_
      refine WP.region ?_
      refine RW.run ttok 3 rfl ?_
      obtain ⟨x17, hx18, hb12⟩ := bind_some hb12
      refine RW.idx ttok hS15.ext rfl rfl rfl rfl rfl rfl (by decide) rfl rfl h0_ (idx_some hx18).1 (idx_some hx18).2 rfl rfl (fun p19 es20 ha21 hr22 => ?_)
      obtain ⟨A23, k24, e26, h25⟩ := ty191_open hr22; subst e26
      refine RW.loadN ttok rfl rfl rfl rfl rfl (At.ext hS15.ext ha21) rfl rfl rfl ?_
      obtain ⟨r27, hx28, hb12⟩ := bind_some hb12
      refine RW.call rfl rfl rfl h1_.1 (h1_.2 hS15.ext (ty191.ext hS15.ext hr22) hx28) (fun v29 w30 hR31 => ?_)
      obtain ⟨rfl, hR32⟩ := hR31
      have hS33 := hS15.join hR32
      refine RW.nil ?_
      refine WP.cond r27 rfl (fun hc => ?_) (fun hc => ?_)
      · skip
        rw [if_pos hc] at hb12
        refine WP.seq ?_
        refine WP.region ?_
        refine RW.run ttok 2 rfl ?_
        refine RW.nil ?_
        refine WP.ret ?_
        cases hb12
        cases ho13
        have hm : some _ = some _ := hm
        cases hm
        exact ⟨_, .cons (.tmp rfl) .nil, rfl, (hS33.taken 0)⟩
      · skip
        rw [if_neg (not_t hc)] at hb12
        refine WP.skip ?_
        refine WP.region ?_
        refine RW.run ttok 2 rfl ?_
        refine RW.nil ?_
        cases hb12
        exact ⟨_, [(0, .slice A0_ x0.length k0_), (1, .func (.func f1_) #[] ⟨u1_⟩), (7, .int .i64 (x0.length : Int)), (8, .int .i64 (w64 (s1 + 1)))], ⟨rfl, rfl, rfl, rfl, trivial⟩, rfl, (hE5.trans hR32.ext), (hS33.taken 0), rfl⟩
    · skip
      rw [if_neg (not_t hc)] at hb12
      refine WP.exit ?_
      cases hb12
      exact ⟨_, [], trivial, ho13, hE5, (hS15.taken 0), rfl⟩

theorem enters166 : Enters Try.prog 166 := ⟨_, _, Try.func166, rfl, by kernel_rfl⟩
def m_slices_ContainsFunc_impl_DequeActor_impl_DequeActor (fuel : Nat) (x0 : (List D.DequeActor)) (x1 : D.DequeActor → Option Bool) : Option (Bool) := ((m_slices_IndexFunc_impl_DequeActor_impl_DequeActor fuel x0 x1).bind fun r1 => some (decide (r1 ≥ 0)))

set_option maxRecDepth 100000 in
theorem slices_ContainsFunc_impl_DequeActor_impl_DequeActor_ok {w : World} {A0_ : Option Addr} {k0_ : Nat} {x0 : (List D.DequeActor)} {f1_ : Nat} {u1_ : List Value} {x1 : D.DequeActor → Option Bool} (h0_ : ty109.ro w [.slice A0_ x0.length k0_] x0) (h1_ : Enters Try.prog f1_ ∧ ∀ {w9 : World}, Ext w w9 → ∀ {cz0 : List Value} {z0 : D.DequeActor} {y9 : Bool}, ty191.ro w9 cz0 z0 → x1 z0 = some y9 → Calls Try.prog f1_ ⟨[.agg ⟨cz0⟩] ++ u1_⟩ w9 (Ret fun v w8 => v = .bool y9 ∧ St w9 w8 [])) {fuel : Nat} {r : Bool} (hm : m_slices_ContainsFunc_impl_DequeActor_impl_DequeActor fuel x0 x1 = some r) :
    Calls Try.prog 166 ⟨[.slice A0_ x0.length k0_, .func (.func f1_) #[] ⟨u1_⟩]⟩ w (Ret fun v w8 => v = .bool r ∧ St w w8 []) := by
  refine Calls.into Try.func166 rfl 9 rfl rfl _ rfl ?_
  unfold m_slices_ContainsFunc_impl_DequeActor_impl_DequeActor at hm
  have hS := St.start w
  refine WP.seq ?_
  refine WP.region ?_
  refine RW.run ttok 1 rfl ?_
  refine RW.nil ?_
  refine WP.seq ?_
  refine WP.region ?_
  refine RW.run ttok 2 rfl ?_
  obtain ⟨r1, hx2, hm⟩ := bind_some hm
  refine RW.call rfl rfl rfl enters184 (slices_IndexFunc_impl_DequeActor_impl_DequeActor_ok (ty109.ext hS.ext h0_) ⟨h1_.1, fun e9 => h1_.2 (hS.ext.trans e9)⟩ hx2) (fun v3 w4 hR5 => ?_)
  obtain ⟨rfl, hR6⟩ := hR5
  have hS7 := hS.join hR6
  refine RW.run ttok 2 rfl ?_
  refine RW.nil ?_
  refine WP.ret ?_
  cases hm
  exact ⟨_, .cons (.tmp rfl) .nil, rfl, (hS7.taken 0)⟩

end Go.E
